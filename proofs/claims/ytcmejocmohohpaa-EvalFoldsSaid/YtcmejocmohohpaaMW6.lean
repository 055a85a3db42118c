/- The program's functions answer what the models answer: 6. -/
import Derived.Test.YtcmejocmohohpaaMW0
import Derived.Test.YtcmejocmohohpaaMW4
import Derived.Test.YtcmejocmohohpaaMW5
set_option maxRecDepth 100000
set_option linter.unusedVariables false
set_option linter.unusedSimpArgs false
noncomputable section
namespace Go.Proofs.Ytcmejocmohohpaa.R
open Go Nat
/-! funicular/funicularref10.product -/
noncomputable abbrev qf_68 (r : (TBig × Bool)) : Ex → St → Prop := FinQ 0 [.cell 4 true 4, .tmp 5] (.tup [.agg [.bool r.1.Minus, .int .u64 r.1.D.a0, .int .u64 r.1.D.a1, .int .u64 r.1.D.a2], .bool r.2]) [] 0
theorem w_m_ref10_product_k2 {a : TBig} {b : TBig} {mid : Int} {r : (TBig × Bool)}   (h : m_ref10_product_k2 a b mid = some r) : Wp Pg 63 0 (.seq (.reg none i68_R7) (.seq (.reg none i68_R8) .ret)) ⟨[(0, .bad), (1, .bad), (2, .ptr 0 0), (3, .ptr 1 0), (4, .ptr 2 0), (5, .bad), (6, .int .u64 (IntKind.u64.wrap (a.D.a0 * b.D.a0))), (7, .int .u64 mid), (8, .bad), (18, .bad), (37, .bad)], [], [(0, .box [.bool a.Minus, .int .u64 a.D.a0, .int .u64 a.D.a1, .int .u64 a.D.a2]), (1, .box [.bool b.Minus, .int .u64 b.D.a0, .int .u64 b.D.a1, .int .u64 b.D.a2]), (2, .box [.bool false, .int .u64 (0 : Int), .int .u64 (0 : Int), .int .u64 (0 : Int)])], 3⟩ (qf_68 r) := by
  unfold m_ref10_product_k2 at h
  refine Wp.seq (regP (seqN (Wp.seq (Wp.reg ?_))))
  replace h := bndS h; obtain ⟨r0, g4, h⟩ := h
  replace h := retS h; subst h
  refine chunkT 2 (tab_cons (w_m_ref10_carry g4) (tab_nil _)) ?_
  refine lastT (tab_nil _) (seqN (Wp.ret ?_))
  exact finP
theorem w_m_ref10_product_k1 {a : TBig} {b : TBig} {v18 : Bool} {r : (TBig × Bool)}   (h : m_ref10_product_k1 a b v18 = some r) : Wp Pg 63 0 (.cond (.t 18) (.seq (.reg none i68_R2) .ret) .skip) ⟨[(0, .bad), (1, .bad), (2, .ptr 0 0), (3, .ptr 1 0), (4, .ptr 2 0), (5, .bad), (6, .bad), (7, .bad), (8, .bad), (18, .bool v18), (37, .bad)], [], [(0, .box [.bool a.Minus, .int .u64 a.D.a0, .int .u64 a.D.a1, .int .u64 a.D.a2]), (1, .box [.bool b.Minus, .int .u64 b.D.a0, .int .u64 b.D.a1, .int .u64 b.D.a2]), (2, .box [.bool false, .int .u64 (0 : Int), .int .u64 (0 : Int), .int .u64 (0 : Int)])], 3⟩ (seqQ Pg 63 0 (.seq (.reg none i68_R3) (.seq (.reg none i68_R4) (.seq (.seq (.reg none i68_R5) (.cond (.t 37) (.reg none i68_R6) .skip)) (.seq (.reg none i68_R7) (.seq (.reg none i68_R8) .ret))))) (qf_68 r)) := by
  unfold m_ref10_product_k1 at h
  replace h := ifS h; rcases h with ⟨g2, h⟩ | ⟨g2, h⟩
  · replace h := retS h; subst h
    refine condTP (Wp.seq ?_)
    refine regP (seqN (Wp.ret (seqR ?_)))
    exact finP
  · refine condFP (Wp.skip (seqN (Wp.seq ?_)))
    refine regP (seqN (Wp.seq ?_))
    refine regP (seqN (Wp.seq (Wp.seq ?_)))
    refine regP (seqN ?_)
    replace h := ifS h; rcases h with ⟨g3, h⟩ | ⟨g3, h⟩
    · refine condTP ?_
      refine regP (seqN ?_)
      exact jumpK [.kill [18, 37]] (w_m_ref10_product_k2 h)
    · refine condFP (Wp.skip (seqN ?_))
      exact jumpK [.kill [18, 37]] (w_m_ref10_product_k2 h)
theorem w_m_ref10_product {a : TBig} {b : TBig} {r : (TBig × Bool)}   (h : m_ref10_product a b = some r) : Spec Pg 68 [.agg [.bool a.Minus, .int .u64 a.D.a0, .int .u64 a.D.a1, .int .u64 a.D.a2], .agg [.bool b.Minus, .int .u64 b.D.a0, .int .u64 b.D.a1, .int .u64 b.D.a2]] [] 0 (.tup [.agg [.bool r.1.Minus, .int .u64 r.1.D.a0, .int .u64 r.1.D.a1, .int .u64 r.1.D.a2], .bool r.2]) [] 0 := by
  refine Spec.intro Go.Proofs.Try.func68 i68_ok (le_of_ble rfl) ?_
  show Wp Pg 63 0 i68_B ⟨argEnv [.agg [.bool a.Minus, .int .u64 a.D.a0, .int .u64 a.D.a1, .int .u64 a.D.a2], .agg [.bool b.Minus, .int .u64 b.D.a0, .int .u64 b.D.a1, .int .u64 b.D.a2]] i68_V, [], [], 0⟩ (qf_68 r)
  unfold m_ref10_product at h
  unfold i68_B
  refine weakP [] ?_
  refine Wp.seq (regP (seqN (Wp.seq (Wp.seq ?_))))
  replace h := ifS h; rcases h with ⟨g1, h⟩ | ⟨g1, h⟩
  · refine regP (seqN ?_)
    exact jumpK [.kill [0, 1, 5, 6, 7, 8, 37], .tidy] (w_m_ref10_product_k1 h)
  · refine regP (seqN ?_)
    exact jumpK [.kill [0, 1, 5, 6, 7, 8, 37], .tidy] (w_m_ref10_product_k1 h)
/-! funicular/funicularref10.small -/
noncomputable abbrev qf_69 (r : (Int × Bool)) : Ex → St → Prop := FinQ 0 [.tmp 2, .tmp 3] (.tup [.int .i64 r.1, .bool r.2]) [] 0
theorem w_m_ref10_small_k1 {b : TBig} {v14 : Bool} {r : (Int × Bool)}   (h : m_ref10_small_k1 b v14 = some r) : Wp Pg 34 0 (.cond (.t 14) (.seq (.reg none i69_R2) .ret) .skip) ⟨[(0, .bad), (1, .ptr 0 0), (2, .bad), (3, .bad), (4, .bad), (14, .bool v14), (24, .bad)], [], [(0, .box [.bool b.Minus, .int .u64 b.D.a0, .int .u64 b.D.a1, .int .u64 b.D.a2])], 1⟩ (seqQ Pg 34 0 (.seq (.reg none i69_R3) (.seq (.seq (.reg none i69_R4) (.cond (.t 24) (.seq (.reg none i69_R5) .ret) .skip)) (.seq (.reg none i69_R6) .ret))) (qf_69 r)) := by
  unfold m_ref10_small_k1 at h
  replace h := ifS h; rcases h with ⟨g2, h⟩ | ⟨g2, h⟩
  · replace h := retS h; subst h
    refine condTP (Wp.seq ?_)
    refine regP (seqN (Wp.ret (seqR ?_)))
    exact finP
  · refine condFP (Wp.skip (seqN (Wp.seq ?_)))
    refine regP (seqN (Wp.seq (Wp.seq ?_)))
    refine regP (seqN ?_)
    replace h := ifS h; rcases h with ⟨g3, h⟩ | ⟨g3, h⟩
    · replace h := retS h; subst h
      refine condTP (Wp.seq ?_)
      refine regP (seqN (Wp.ret (seqR ?_)))
      exact finP
    · replace h := retS h; subst h
      refine condFP (Wp.skip (seqN (Wp.seq ?_)))
      refine regP (seqN (Wp.ret ?_))
      exact finP
theorem w_m_ref10_small {b : TBig} {r : (Int × Bool)}   (h : m_ref10_small b = some r) : Spec Pg 69 [.agg [.bool b.Minus, .int .u64 b.D.a0, .int .u64 b.D.a1, .int .u64 b.D.a2]] [] 0 (.tup [.int .i64 r.1, .bool r.2]) [] 0 := by
  refine Spec.intro Go.Proofs.Try.func69 i69_ok (le_of_ble rfl) ?_
  show Wp Pg 34 0 i69_B ⟨argEnv [.agg [.bool b.Minus, .int .u64 b.D.a0, .int .u64 b.D.a1, .int .u64 b.D.a2]] i69_V, [], [], 0⟩ (qf_69 r)
  unfold m_ref10_small at h
  unfold i69_B
  refine weakP [] ?_
  refine Wp.seq (regP (seqN (Wp.seq (Wp.seq ?_))))
  replace h := ifS h; rcases h with ⟨g1, h⟩ | ⟨g1, h⟩
  · refine regP (seqN ?_)
    exact jumpK [.kill [0, 2, 3, 4, 24]] (w_m_ref10_small_k1 h)
  · refine regP (seqN ?_)
    exact jumpK [.kill [0, 2, 3, 4, 24]] (w_m_ref10_small_k1 h)
/-! funicular/funicularref10.two -/
noncomputable abbrev qf_51 (r : (Int × Int)) : Ex → St → Prop := FinQ 0 [.tmp 6, .tmp 7] (.tup [.int .i64 r.1, .int .i64 r.2]) [] 0
theorem w_m_ref10_two_k4 {r0_5 : (Int × Bool)} {v89 : Bool} {r : (Int × Int)}   (h : m_ref10_two_k4 r0_5 v89 = some r) : Wp Pg 91 0 (.cond (.t 89) (.seq (.reg none i51_R27) .ret) .skip) ⟨[(0, .bad), (1, .bad), (2, .bad), (6, .bad), (7, .bad), (8, .bad), (9, .bad), (10, .bad), (11, .bad), (12, .bad), (13, .bad), (14, .bad), (15, .bad), (16, .bad), (17, .int .i64 r0_5.1), (18, .bad), (24, .bad), (26, .bad), (28, .bad), (37, .bad), (54, .bad), (59, .bad), (69, .bad), (89, .bool v89)], [], [], 0⟩ (seqQ Pg 91 0 (.seq (.reg none i51_R28) .ret) (qf_51 r)) := by
  unfold m_ref10_two_k4 at h
  replace h := ifS h; rcases h with ⟨g15, h⟩ | ⟨g15, h⟩
  · replace h := retS h; subst h
    refine condTP (Wp.seq ?_)
    refine regP (seqN (Wp.ret (seqR ?_)))
    exact finP
  · replace h := retS h; subst h
    refine condFP (Wp.skip (seqN (Wp.seq ?_)))
    refine regP (seqN (Wp.ret ?_))
    exact finP
theorem w_m_ref10_two_k3 {ok : Bool} {r_0 : Bool} {r_1 : Int} {r_2 : Int} {r_3 : Int} {r : (Int × Int)}   (h : m_ref10_two_k3 ok r_0 r_1 r_2 r_3 = some r) : Wp Pg 91 0 (.seq (.reg none i51_R25) (.seq (.seq (.reg none i51_R26) (.cond (.t 89) (.seq (.reg none i51_R27) .ret) .skip)) (.seq (.reg none i51_R28) .ret))) ⟨[(0, .bad), (1, .bad), (2, .bad), (6, .bad), (7, .bad), (8, .ptr 0 0), (9, .bool ok), (10, .bad), (11, .bad), (12, .bad), (13, .bad), (14, .bad), (15, .bad), (16, .bad), (17, .bad), (18, .bad), (24, .bad), (26, .bad), (28, .bad), (37, .bad), (54, .bad), (59, .bad), (69, .bad), (89, .bad)], [], [(0, .box [.bool r_0, .int .u64 r_1, .int .u64 r_2, .int .u64 r_3])], 1⟩ (qf_51 r) := by
  unfold m_ref10_two_k3 at h
  refine Wp.seq (Wp.reg ?_)
  replace h := bndS h; obtain ⟨r0_5, g13, h⟩ := h
  refine chunkT 2 (tab_cons (w_m_ref10_small g13) (tab_nil _)) ?_
  refine lastT (tab_nil _) (seqN (Wp.seq (Wp.seq ?_)))
  replace h := ifS h; rcases h with ⟨g14, h⟩ | ⟨g14, h⟩
  · refine regP (seqN ?_)
    exact jumpK [.kill [8, 9, 18], .tidy] (w_m_ref10_two_k4 h)
  · refine regP (seqN ?_)
    exact jumpK [.kill [8, 9, 18], .tidy] (w_m_ref10_two_k4 h)
theorem w_m_ref10_two_k2 {a : Int} {b : Int} {m : Int} {d : Int} {r : (Int × Int)}   (h : m_ref10_two_k2 a b m d = some r) : Wp Pg 91 0 (.seq (.reg none i51_R23) (.reg none i51_R24)) ⟨[(0, .bad), (1, .int .i64 a), (2, .int .i64 b), (6, .bad), (7, .bad), (8, .ptr 0 0), (9, .bool true), (10, .bad), (11, .bad), (12, .bad), (13, .bad), (14, .int .u64 m), (15, .int .u64 d), (16, .bad), (17, .bad), (18, .bad), (24, .bad), (26, .bad), (28, .bad), (37, .bad), (54, .bad), (59, .bad), (69, .bad), (89, .bad)], [], [(0, .box [.bool false, .int .u64 (0 : Int), .int .u64 (0 : Int), .int .u64 (0 : Int)])], 1⟩ (blockQ 0 (seqQ Pg 91 0 (.seq (.reg none i51_R25) (.seq (.seq (.reg none i51_R26) (.cond (.t 89) (.seq (.reg none i51_R27) .ret) .skip)) (.seq (.reg none i51_R28) .ret))) (qf_51 r))) := by
  unfold m_ref10_two_k2 at h
  refine Wp.seq ?_
  replace h := reqF h; obtain ⟨g12, h⟩ := h
  refine regP (seqN ?_)
  refine regP (blockN (seqN ?_))
  exact jumpK [.kill [1, 2, 14, 15, 16]] (w_m_ref10_two_k3 h)
theorem w_m_ref10_two_k1 {a : Int} {b : Int} {m : Int} {r : (Int × Int)}   (h : m_ref10_two_k1 a b m = some r) : Wp Pg 91 0 (.seq (.reg none i51_R20) (.seq (.seq (.reg none i51_R21) (.cond (.t 37) (.reg none i51_R22) .skip)) (.seq (.reg none i51_R23) (.reg none i51_R24)))) ⟨[(0, .bad), (1, .int .i64 a), (2, .int .i64 b), (6, .bad), (7, .bad), (8, .ptr 0 0), (9, .bool true), (10, .bad), (11, .bad), (12, .bad), (13, .bad), (14, .int .u64 m), (15, .bad), (16, .bad), (17, .bad), (18, .bad), (24, .bad), (26, .bad), (28, .bad), (37, .bad), (54, .bad), (59, .bad), (69, .bad), (89, .bad)], [], [(0, .box [.bool false, .int .u64 (0 : Int), .int .u64 (0 : Int), .int .u64 (0 : Int)])], 1⟩ (blockQ 0 (seqQ Pg 91 0 (.seq (.reg none i51_R25) (.seq (.seq (.reg none i51_R26) (.cond (.t 89) (.seq (.reg none i51_R27) .ret) .skip)) (.seq (.reg none i51_R28) .ret))) (qf_51 r))) := by
  unfold m_ref10_two_k1 at h
  refine Wp.seq (regP (seqN (Wp.seq (Wp.seq ?_))))
  refine regP (seqN ?_)
  replace h := ifS h; rcases h with ⟨g11, h⟩ | ⟨g11, h⟩
  · refine condTP ?_
    refine regP (seqN ?_)
    exact jumpK [.kill [37]] (w_m_ref10_two_k2 h)
  · refine condFP (Wp.skip (seqN ?_))
    exact jumpK [.kill [37]] (w_m_ref10_two_k2 h)
theorem w_m_ref10_two {kind : Int} {a : Int} {b : Int} {r : (Int × Int)}   (h : m_ref10_two kind a b = some r) : Spec Pg 51 [.int .i64 kind, .int .i64 a, .int .i64 b] [] 0 (.tup [.int .i64 r.1, .int .i64 r.2]) [] 0 := by
  refine Spec.intro Go.Proofs.Try.func51 i51_ok (le_of_ble rfl) ?_
  show Wp Pg 91 0 i51_B ⟨argEnv [.int .i64 kind, .int .i64 a, .int .i64 b] i51_V, [], [], 0⟩ (qf_51 r)
  unfold m_ref10_two at h
  unfold i51_B
  refine weakP [] ?_
  refine Wp.seq (regP (seqN (Wp.seq ?_)))
  refine regP (seqN (Wp.seq ?_))
  refine regP (seqN (Wp.seq (Wp.reg ?_)))
  replace h := bndS h; obtain ⟨r0, g1, h⟩ := h
  refine chunkT 2 (tab_cons (w_m_ref10_big g1) (tab_nil _)) ?_
  refine lastT (tab_nil _) (seqN (Wp.seq (Wp.reg ?_)))
  replace h := bndS h; obtain ⟨r0_1, g2, h⟩ := h
  refine chunkT 2 (tab_cons (w_m_ref10_big g2) (tab_nil _)) ?_
  refine lastT (tab_nil _) (seqN (Wp.seq (Wp.seq ?_)))
  refine regP (seqN (Wp.block (Wp.seq ?_)))
  refine regP (seqN ?_)
  replace h := ifS h; rcases h with ⟨g3, h⟩ | ⟨g3, h⟩
  · refine condTP (Wp.reg ?_)
    replace h := bndS h; obtain ⟨r0_2, g4, h⟩ := h
    refine chunkT 3 (tab_cons (w_m_ref10_sum _ g4) (tab_nil _)) ?_
    refine lastT (tab_nil _) (blockN (seqN ?_))
    exact jumpK [.kill [0, 1, 2, 6, 7, 10, 11, 12, 13, 14, 15, 16, 17, 18, 24, 26, 28, 37, 54, 59, 69, 89], .tidy] (w_m_ref10_two_k3 h)
  · refine condFP (Wp.seq ?_)
    refine regP (seqN ?_)
    replace h := ifS h; rcases h with ⟨g5, h⟩ | ⟨g5, h⟩
    · refine condTP (Wp.reg ?_)
      replace h := bndS h; obtain ⟨r0_3, g6, h⟩ := h
      refine chunkT 8 (tab_cons (w_m_ref10_sum _ g6) (tab_nil _)) ?_
      refine lastT (tab_nil _) (blockN (seqN ?_))
      exact jumpK [.kill [0, 1, 2, 6, 7, 10, 11, 12, 13, 14, 15, 16, 17, 18, 24, 26, 28, 37, 54, 59, 69, 89], .tidy] (w_m_ref10_two_k3 h)
    · refine condFP (Wp.seq ?_)
      refine regP (seqN ?_)
      replace h := ifS h; rcases h with ⟨g7, h⟩ | ⟨g7, h⟩
      · refine condTP (Wp.seq (Wp.reg ?_))
        replace h := bndS h; obtain ⟨r0_4, g8, h⟩ := h
        refine chunkT 3 (tab_cons (w_m_ref10_product g8) (tab_nil _)) ?_
        refine lastT (tab_nil _) (seqN (Wp.seq ?_))
        refine regP (seqN ?_)
        refine regP (blockN (seqN ?_))
        exact jumpK [.kill [0, 1, 2, 6, 7, 10, 11, 12, 13, 14, 15, 16, 17, 18, 24, 26, 28, 37, 54, 59, 69, 89], .tidy] (w_m_ref10_two_k3 h)
      · refine condFP (Wp.seq (Wp.seq ?_))
        refine regP (seqN ?_)
        replace h := ifS h; rcases h with ⟨g9, h⟩ | ⟨g9, h⟩
        · replace h := retS h; subst h
          refine condTP (Wp.seq ?_)
          refine regP (seqN (Wp.ret (seqR (blockR (seqR ?_)))))
          exact finP
        · refine condFP (Wp.skip (seqN (Wp.seq ?_)))
          refine regP (seqN (Wp.seq (Wp.seq ?_)))
          refine regP (seqN ?_)
          replace h := ifS h; rcases h with ⟨g10, h⟩ | ⟨g10, h⟩
          · refine condTP ?_
            refine regP (seqN ?_)
            exact jumpK [.kill [0, 6, 7, 10, 11, 12, 13, 15, 16, 17, 18, 24, 26, 28, 37, 54, 59, 69, 89], .tidy] (w_m_ref10_two_k1 h)
          · refine condFP ?_
            refine regP (seqN ?_)
            exact jumpK [.kill [0, 6, 7, 10, 11, 12, 13, 15, 16, 17, 18, 24, 26, 28, 37, 54, 59, 69, 89], .tidy] (w_m_ref10_two_k1 h)
/-! funicular/funicularref10.of -/
noncomputable abbrev qf_29 (r : (TValue × Int)) : Ex → St → Prop := FinQ 0 [.cell 4 true 2, .tmp 5] (.tup [.agg [.bool r.1.Bool, .int .i64 r.1.N], .int .i64 r.2]) [] 0
theorem w_m_ref10_of_k2 {x0 : TExpr} {r0_2 : (TValue × Int)} {r0_5 : (TValue × Int)} {v114 : Bool} {r : (TValue × Int)}   (h : m_ref10_of_k2 x0 r0_2 r0_5 v114 = some r) : Wp Pg 150 0 (.cond (.t 114) (.seq (.reg none i29_R28) .ret) (.seq (.reg none i29_R29) (.cond (.t 118) (.seq (.reg none i29_R30) .ret) (.seq (.reg none i29_R31) (.cond (.t 126) (.seq (.reg none i29_R32) .ret) .skip))))) ⟨[(0, .bad), (1, .bad), (2, .ptr 0 0), (3, .bad), (4, .ptr 1 0), (5, .bad), (6, .bad), (7, .bad), (8, .ptr 2 0), (9, .bad), (10, .bad), (11, .bad), (12, .ptr 3 0), (13, .bad), (14, .bad), (15, .bad), (19, .bad), (22, .bad), (28, .bad), (41, .bad), (55, .bad), (60, .bad), (67, .bad), (75, .bad), (97, .bad), (109, .bad), (113, .int .i64 x0.Kind), (114, .bool v114), (118, .bad), (126, .bad), (145, .bad)], [], [(0, .box [.int .i64 x0.Kind, .int .i64 x0.N, .str x0.Name, sl TExpr.c x0.Kids]), (1, .box [.bool false, .int .i64 (0 : Int)]), (2, .box [.bool r0_2.1.Bool, .int .i64 r0_2.1.N]), (3, .box [.bool r0_5.1.Bool, .int .i64 r0_5.1.N])], 4⟩ (blockQ 0 (seqQ Pg 150 0 (.seq (.reg none i29_R33) (.seq (.seq (.reg none i29_R34) (.cond (.t 145) (.seq (.reg none i29_R35) .ret) .skip)) (.seq (.reg none i29_R36) .ret))) (qf_29 r))) := by
  unfold m_ref10_of_k2 at h
  replace h := ifS h; rcases h with ⟨g24, h⟩ | ⟨g24, h⟩
  · replace h := retS h; subst h
    refine condTP (Wp.seq ?_)
    refine regP (seqN (Wp.ret (blockR (seqR ?_))))
    exact finP
  · refine condFP (Wp.seq ?_)
    refine regP (seqN ?_)
    replace h := ifS h; rcases h with ⟨g25, h⟩ | ⟨g25, h⟩
    · refine condTP (Wp.seq (Wp.reg ?_))
      replace h := bndS h; obtain ⟨r0_6, g26, h⟩ := h
      replace h := retS h; subst h
      refine chunkT 6 (tab_cons (w_m_ref10_truth g26) (tab_nil _)) ?_
      refine lastT (tab_nil _) (seqN (Wp.ret (blockR (seqR ?_))))
      exact finP
    · refine condFP (Wp.seq ?_)
      refine regP (seqN ?_)
      replace h := ifS h; rcases h with ⟨g27, h⟩ | ⟨g27, h⟩
      · refine condTP (Wp.seq (Wp.reg ?_))
        replace h := bndS h; obtain ⟨r0_7, g28, h⟩ := h
        replace h := retS h; subst h
        refine chunkT 6 (tab_cons (w_m_ref10_truth g28) (tab_nil _)) ?_
        refine lastT (tab_nil _) (seqN (Wp.ret (blockR (seqR ?_))))
        exact finP
      · refine condFP (Wp.skip (blockN (seqN (Wp.seq (Wp.reg ?_)))))
        replace h := bndS h; obtain ⟨r0_8, g29, h⟩ := h
        refine chunkT 7 (tab_cons (w_m_ref10_two g29) (tab_nil _)) ?_
        refine lastT (tab_nil _) (seqN (Wp.seq (Wp.seq ?_)))
        refine regP (seqN ?_)
        replace h := ifS h; rcases h with ⟨g30, h⟩ | ⟨g30, h⟩
        · replace h := retS h; subst h
          refine condTP (Wp.seq ?_)
          refine regP (seqN (Wp.ret (seqR ?_)))
          exact finP
        · replace h := retS h; subst h
          refine condFP (Wp.skip (seqN (Wp.seq ?_)))
          refine regP (seqN (Wp.ret ?_))
          exact finP
theorem w_m_ref10_of_k1 {x0 : TExpr} {v : TVars} {r0_2 : (TValue × Int)} {v97 : Bool} {r : (TValue × Int)} {rec_m_ref10_of : TExpr → TVars → Option (TValue × Int)} (hrec_m_ref10_of : ∀ {x0 : TExpr} {v : TVars} {r : (TValue × Int)}, rec_m_ref10_of x0 v = some r → Spec Pg 29 [.agg [.int .i64 x0.Kind, .int .i64 x0.N, .str x0.Name, sl TExpr.c x0.Kids], .agg [sl cs v.Names, sl (ci .i64) v.Vals]] [] 0 (.tup [.agg [.bool r.1.Bool, .int .i64 r.1.N], .int .i64 r.2]) [] 0) (h : m_ref10_of_k1 rec_m_ref10_of x0 v r0_2 v97 = some r) : Wp Pg 150 0 (.cond (.t 97) (.seq (.reg none i29_R21) .ret) .skip) ⟨[(0, .bad), (1, .bad), (2, .ptr 0 0), (3, .ptr 1 0), (4, .ptr 2 0), (5, .bad), (6, .bad), (7, .bad), (8, .ptr 3 0), (9, .bad), (10, .bad), (11, .bad), (12, .bad), (13, .bad), (14, .bad), (15, .bad), (19, .bad), (22, .bad), (28, .bad), (41, .bad), (55, .bad), (60, .bad), (67, .bad), (75, .bad), (97, .bool v97), (109, .bad), (113, .bad), (114, .bad), (118, .bad), (126, .bad), (145, .bad)], [], [(0, .box [.int .i64 x0.Kind, .int .i64 x0.N, .str x0.Name, sl TExpr.c x0.Kids]), (1, .box [sl cs v.Names, sl (ci .i64) v.Vals]), (2, .box [.bool false, .int .i64 (0 : Int)]), (3, .box [.bool r0_2.1.Bool, .int .i64 r0_2.1.N])], 4⟩ (seqQ Pg 150 0 (.seq (.reg (some []) i29_R22) (.seq (.seq (.reg none i29_R23) (.cond (.t 109) (.seq (.reg none i29_R24) .ret) .skip)) (.seq (.seq (.reg none i29_R25) (.block 0 (.seq (.seq (.reg none i29_R26) (.cond (.t 114) .skip (.reg none i29_R27))) (.cond (.t 114) (.seq (.reg none i29_R28) .ret) (.seq (.reg none i29_R29) (.cond (.t 118) (.seq (.reg none i29_R30) .ret) (.seq (.reg none i29_R31) (.cond (.t 126) (.seq (.reg none i29_R32) .ret) .skip)))))))) (.seq (.reg none i29_R33) (.seq (.seq (.reg none i29_R34) (.cond (.t 145) (.seq (.reg none i29_R35) .ret) .skip)) (.seq (.reg none i29_R36) .ret)))))) (qf_29 r)) := by
  unfold m_ref10_of_k1 at h
  replace h := ifS h; rcases h with ⟨g19, h⟩ | ⟨g19, h⟩
  · replace h := retS h; subst h
    refine condTP (Wp.seq ?_)
    refine regP (seqN (Wp.ret (seqR ?_)))
    exact finP
  · refine condFP (Wp.skip (seqN (Wp.seq ?_)))
    replace h := bndS h; obtain ⟨e_1, g20, h⟩ := h
    replace h := bndS h; obtain ⟨r0_5, g21, h⟩ := h
    refine drawP mixed (tab_cons (hrec_m_ref10_of g21) (tab_nil _)) (seqN (Wp.seq (Wp.seq ?_)))
    refine regP (seqN ?_)
    replace h := ifS h; rcases h with ⟨g22, h⟩ | ⟨g22, h⟩
    · replace h := retS h; subst h
      refine condTP (Wp.seq ?_)
      refine regP (seqN (Wp.ret (seqR ?_)))
      exact finP
    · refine condFP (Wp.skip (seqN (Wp.seq (Wp.seq ?_))))
      refine regP (seqN (Wp.block (Wp.seq (Wp.seq ?_))))
      refine regP (seqN ?_)
      replace h := ifS h; rcases h with ⟨g23, h⟩ | ⟨g23, h⟩
      · refine condTP (Wp.skip (seqN ?_))
        exact jumpK [.kill [3, 13, 97, 109], .tidy] (w_m_ref10_of_k2 h)
      · refine condFP ?_
        refine regP (seqN ?_)
        exact jumpK [.kill [3, 13, 97, 109], .tidy] (w_m_ref10_of_k2 h)
theorem w_m_ref10_of_B {x0 : TExpr} {v : TVars} {r : (TValue × Int)} {rec_m_ref10_of : TExpr → TVars → Option (TValue × Int)} (hrec_m_ref10_of : ∀ {x0 : TExpr} {v : TVars} {r : (TValue × Int)}, rec_m_ref10_of x0 v = some r → Spec Pg 29 [.agg [.int .i64 x0.Kind, .int .i64 x0.N, .str x0.Name, sl TExpr.c x0.Kids], .agg [sl cs v.Names, sl (ci .i64) v.Vals]] [] 0 (.tup [.agg [.bool r.1.Bool, .int .i64 r.1.N], .int .i64 r.2]) [] 0) (h : m_ref10_of_B rec_m_ref10_of x0 v = some r) : Spec Pg 29 [.agg [.int .i64 x0.Kind, .int .i64 x0.N, .str x0.Name, sl TExpr.c x0.Kids], .agg [sl cs v.Names, sl (ci .i64) v.Vals]] [] 0 (.tup [.agg [.bool r.1.Bool, .int .i64 r.1.N], .int .i64 r.2]) [] 0 := by
  refine Spec.intro Go.Proofs.Try.func29 i29_ok (le_of_ble rfl) ?_
  show Wp Pg 150 0 i29_B ⟨argEnv [.agg [.int .i64 x0.Kind, .int .i64 x0.N, .str x0.Name, sl TExpr.c x0.Kids], .agg [sl cs v.Names, sl (ci .i64) v.Vals]] i29_V, [], [], 0⟩ (qf_29 r)
  unfold m_ref10_of_B at h
  unfold i29_B
  refine weakP [] ?_
  refine Wp.seq (regP (seqN (Wp.seq (Wp.seq ?_))))
  refine regP (seqN ?_)
  replace h := ifS h; rcases h with ⟨g1, h⟩ | ⟨g1, h⟩
  · refine condTP (Wp.seq (Wp.seq ?_))
    refine regP (seqN ?_)
    replace h := ifS h; rcases h with ⟨g2, h⟩ | ⟨g2, h⟩
    · replace h := retS h; subst h
      refine condTP (Wp.seq ?_)
      refine regP (seqN (Wp.ret (seqR (seqR ?_))))
      exact finP
    · refine condFP (Wp.skip (seqN (Wp.seq (Wp.seq ?_))))
      refine regP (seqN ?_)
      replace h := ifS h; rcases h with ⟨g3, h⟩ | ⟨g3, h⟩
      · refine condTP (Wp.seq (Wp.reg ?_))
        replace h := bndS h; obtain ⟨r0, g4, h⟩ := h
        replace h := retS h; subst h
        refine chunkT 4 (tab_cons (w_m_ref10_truth g4) (tab_nil _)) ?_
        refine lastT (tab_nil _) (seqN (Wp.ret (seqR (seqR ?_))))
        exact finP
      · refine condFP (Wp.skip (seqN (Wp.seq (Wp.reg ?_))))
        replace h := bndS h; obtain ⟨r0_1, g5, h⟩ := h
        refine chunkT 4 (tab_cons (w_m_ref09_Get g5) (tab_nil _)) ?_
        refine lastT (tab_nil _) (seqN (Wp.seq (Wp.seq ?_)))
        refine regP (seqN ?_)
        replace h := ifS h; rcases h with ⟨g6, h⟩ | ⟨g6, h⟩
        · replace h := retS h; subst h
          refine condFP (Wp.skip (seqN (Wp.seq ?_)))
          refine regP (seqN (Wp.ret (seqR ?_)))
          exact finP
        · replace h := retS h; subst h
          refine condTP (Wp.seq ?_)
          refine regP (seqN (Wp.ret (seqR (seqR ?_))))
          exact finP
  · refine condFP (Wp.skip (seqN (Wp.seq ?_)))
    replace h := bndS h; obtain ⟨e, g7, h⟩ := h
    replace h := bndS h; obtain ⟨r0_2, g8, h⟩ := h
    refine drawP mixed (tab_cons (hrec_m_ref10_of g8) (tab_nil _)) (seqN (Wp.seq (Wp.seq ?_)))
    refine regP (seqN ?_)
    replace h := ifS h; rcases h with ⟨g9, h⟩ | ⟨g9, h⟩
    · replace h := retS h; subst h
      refine condTP (Wp.seq ?_)
      refine regP (seqN (Wp.ret (seqR ?_)))
      exact finP
    · refine condFP (Wp.skip (seqN (Wp.seq (Wp.seq ?_))))
      refine regP (seqN ?_)
      replace h := ifS h; rcases h with ⟨g10, h⟩ | ⟨g10, h⟩
      · refine condTP (Wp.seq (Wp.reg ?_))
        replace h := bndS h; obtain ⟨r0_3, g11, h⟩ := h
        replace h := retS h; subst h
        refine chunkT 4 (tab_cons (w_m_ref10_truth g11) (tab_nil _)) ?_
        refine lastT (tab_nil _) (seqN (Wp.ret (seqR ?_)))
        exact finP
      · refine condFP (Wp.skip (seqN (Wp.seq (Wp.seq ?_))))
        refine regP (seqN ?_)
        replace h := ifS h; rcases h with ⟨g12, h⟩ | ⟨g12, h⟩
        · refine condTP (Wp.seq (Wp.reg ?_))
          replace h := bndS h; obtain ⟨r0_4, g13, h⟩ := h
          refine chunkT 3 (tab_cons (w_m_ref10_two g13) (tab_nil _)) ?_
          refine lastT (tab_nil _) (seqN (Wp.seq (Wp.seq ?_)))
          refine regP (seqN ?_)
          replace h := ifS h; rcases h with ⟨g14, h⟩ | ⟨g14, h⟩
          · replace h := retS h; subst h
            refine condTP (Wp.seq ?_)
            refine regP (seqN (Wp.ret (seqR (seqR ?_))))
            exact finP
          · replace h := retS h; subst h
            refine condFP (Wp.skip (seqN (Wp.seq ?_)))
            refine regP (seqN (Wp.ret (seqR ?_)))
            exact finP
        · refine condFP (Wp.skip (seqN (Wp.seq (Wp.seq ?_))))
          replace h := ifS h; rcases h with ⟨g15, h⟩ | ⟨g15, h⟩
          · replace h := ifS h; rcases h with ⟨g16, h⟩ | ⟨g16, h⟩
            · refine regP (seqN ?_)
              exact jumpK [.kill [0, 1, 5, 6, 7, 9, 10, 11, 12, 13, 14, 15, 19, 22, 28, 41, 55, 60, 67, 75, 109, 113, 114, 118, 126, 145], .tidy] (w_m_ref10_of_k1 hrec_m_ref10_of h)
            · replace h := ifS h; rcases h with ⟨g17, h⟩ | ⟨g17, h⟩
              · refine regP (seqN ?_)
                exact jumpK [.kill [0, 1, 5, 6, 7, 9, 10, 11, 12, 13, 14, 15, 19, 22, 28, 41, 55, 60, 67, 75, 109, 113, 114, 118, 126, 145], .tidy] (w_m_ref10_of_k1 hrec_m_ref10_of h)
              · refine regP (seqN ?_)
                exact jumpK [.kill [0, 1, 5, 6, 7, 9, 10, 11, 12, 13, 14, 15, 19, 22, 28, 41, 55, 60, 67, 75, 109, 113, 114, 118, 126, 145], .tidy] (w_m_ref10_of_k1 hrec_m_ref10_of h)
          · replace h := ifS h; rcases h with ⟨g18, h⟩ | ⟨g18, h⟩
            · refine regP (seqN ?_)
              exact jumpK [.kill [0, 1, 5, 6, 7, 9, 10, 11, 12, 13, 14, 15, 19, 22, 28, 41, 55, 60, 67, 75, 109, 113, 114, 118, 126, 145], .tidy] (w_m_ref10_of_k1 hrec_m_ref10_of h)
            · refine regP (seqN ?_)
              exact jumpK [.kill [0, 1, 5, 6, 7, 9, 10, 11, 12, 13, 14, 15, 19, 22, 28, 41, 55, 60, 67, 75, 109, 113, 114, 118, 126, 145], .tidy] (w_m_ref10_of_k1 hrec_m_ref10_of h)
theorem w_m_ref10_of : ∀ (n : Nat) {x0 : TExpr} {v : TVars} {r : (TValue × Int)}, m_ref10_of n x0 v = some r → Spec Pg 29 [.agg [.int .i64 x0.Kind, .int .i64 x0.N, .str x0.Name, sl TExpr.c x0.Kids], .agg [sl cs v.Names, sl (ci .i64) v.Vals]] [] 0 (.tup [.agg [.bool r.1.Bool, .int .i64 r.1.N], .int .i64 r.2]) [] 0 := by
  intro n
  induction n with
  | zero => intro x0 v r h; unfold m_ref10_of at h; cases h
  | succ n ih => intro x0 v r h; unfold m_ref10_of at h; exact w_m_ref10_of_B ih h
/-! funicular/funicularref10.Of -/
noncomputable abbrev qf_12 (r : (TValue × Int)) : Ex → St → Prop := FinQ 0 [.cell 4 true 2, .tmp 5] (.tup [.agg [.bool r.1.Bool, .int .i64 r.1.N], .int .i64 r.2]) [] 0
theorem w_m_ref10_Of {x0 : TExpr} {v : TVars} {r : (TValue × Int)}   (h : m_ref10_Of x0 v = some r) : Spec Pg 12 [.agg [.int .i64 x0.Kind, .int .i64 x0.N, .str x0.Name, sl TExpr.c x0.Kids], .agg [sl cs v.Names, sl (ci .i64) v.Vals]] [] 0 (.tup [.agg [.bool r.1.Bool, .int .i64 r.1.N], .int .i64 r.2]) [] 0 := by
  refine Spec.intro Go.Proofs.Try.func12 i12_ok (le_of_ble rfl) ?_
  show Wp Pg 29 0 i12_B ⟨argEnv [.agg [.int .i64 x0.Kind, .int .i64 x0.N, .str x0.Name, sl TExpr.c x0.Kids], .agg [sl cs v.Names, sl (ci .i64) v.Vals]] i12_V, [], [], 0⟩ (qf_12 r)
  unfold m_ref10_Of at h
  unfold i12_B
  refine weakP [] ?_
  refine Wp.seq (regP (seqN (Wp.seq (Wp.seq (Wp.reg ?_)))))
  replace h := bndS h; obtain ⟨r0, g1, h⟩ := h
  refine chunkT 2 (tab_cons (w_m_ref08_Truth g1) (tab_nil _)) ?_
  refine lastT (tab_nil _) (seqN (Wp.seq ?_))
  refine regP (seqN ?_)
  replace h := ifS h; rcases h with ⟨g2, h⟩ | ⟨g2, h⟩
  · replace h := retS h; subst h
    refine condTP (Wp.seq ?_)
    refine regP (seqN (Wp.ret (seqR ?_)))
    exact finP
  · refine condFP (Wp.skip (seqN (Wp.seq (Wp.seq (Wp.reg ?_)))))
    replace h := bndS h; obtain ⟨r0_1, g3, h⟩ := h
    refine chunkT 2 (tab_cons (w_m_ref09_Check g3) (tab_nil _)) ?_
    refine lastT (tab_nil _) (seqN (Wp.seq ?_))
    refine regP (seqN ?_)
    replace h := ifS h; rcases h with ⟨g4, h⟩ | ⟨g4, h⟩
    · replace h := retS h; subst h
      refine condTP (Wp.seq ?_)
      refine regP (seqN (Wp.ret (seqR ?_)))
      exact finP
    · refine condFP (Wp.skip (seqN (Wp.seq (Wp.reg ?_))))
      replace h := bndS h; obtain ⟨r0_2, g5, h⟩ := h
      replace h := retS h; subst h
      refine chunkT 3 (tab_cons (w_m_ref10_of _ g5) (tab_nil _)) ?_
      refine lastT (tab_nil _) (seqN (Wp.ret ?_))
      exact finP
/-! funicular/eval.Number -/
noncomputable abbrev qf_13 (r : (Int × Int)) : Ex → St → Prop := FinQ 0 [.tmp 4, .tmp 5] (.tup [.int .i64 r.1, .int .i64 r.2]) [] 0
theorem w_m_eval_Number_k1 {r0 : (TValue × Int)} {v19 : Bool} {r : (Int × Int)}   (h : m_eval_Number_k1 r0 v19 = some r) : Wp Pg 23 0 (.cond (.t 19) (.seq (.reg none i13_R3) .ret) .skip) ⟨[(0, .bad), (1, .bad), (2, .bad), (3, .bad), (4, .bad), (5, .bad), (6, .ptr 0 0), (7, .int .i64 r0.2), (19, .bool v19)], [], [(0, .box [.bool r0.1.Bool, .int .i64 r0.1.N])], 1⟩ (seqQ Pg 23 0 (.seq (.reg none i13_R4) .ret) (qf_13 r)) := by
  unfold m_eval_Number_k1 at h
  replace h := ifS h; rcases h with ⟨g3, h⟩ | ⟨g3, h⟩
  · replace h := retS h; subst h
    refine condTP (Wp.seq ?_)
    refine regP (seqN (Wp.ret (seqR ?_)))
    exact finP
  · replace h := retS h; subst h
    refine condFP (Wp.skip (seqN (Wp.seq ?_)))
    refine regP (seqN (Wp.ret ?_))
    exact finP
theorem w_m_eval_Number {x0 : TExpr} {v : TVars} {r : (Int × Int)}   (h : m_eval_Number x0 v = some r) : Spec Pg 13 [.agg [.int .i64 x0.Kind, .int .i64 x0.N, .str x0.Name, sl TExpr.c x0.Kids], .agg [sl cs v.Names, sl (ci .i64) v.Vals]] [] 0 (.tup [.int .i64 r.1, .int .i64 r.2]) [] 0 := by
  refine Spec.intro Go.Proofs.Try.func13 i13_ok (le_of_ble rfl) ?_
  show Wp Pg 23 0 i13_B ⟨argEnv [.agg [.int .i64 x0.Kind, .int .i64 x0.N, .str x0.Name, sl TExpr.c x0.Kids], .agg [sl cs v.Names, sl (ci .i64) v.Vals]] i13_V, [], [], 0⟩ (qf_13 r)
  unfold m_eval_Number at h
  unfold i13_B
  refine weakP [] ?_
  refine Wp.seq (regP (seqN (Wp.seq (Wp.reg ?_))))
  replace h := bndS h; obtain ⟨r0, g1, h⟩ := h
  refine chunkT 3 (tab_cons (w_m_eval_Of g1) (tab_nil _)) ?_
  refine lastT (tab_nil _) (seqN (Wp.seq (Wp.seq ?_)))
  replace h := ifS h; rcases h with ⟨g2, h⟩ | ⟨g2, h⟩
  · refine regP (seqN ?_)
    exact jumpK [.kill [0, 1, 2, 3, 4, 5], .tidy] (w_m_eval_Number_k1 h)
  · refine regP (seqN ?_)
    exact jumpK [.kill [0, 1, 2, 3, 4, 5], .tidy] (w_m_eval_Number_k1 h)
/-! funicular/eval.Truth -/
noncomputable abbrev qf_14 (r : (Bool × Int)) : Ex → St → Prop := FinQ 0 [.tmp 4, .tmp 5] (.tup [.bool r.1, .int .i64 r.2]) [] 0
theorem w_m_eval_Truth_k1 {r0 : (TValue × Int)} {v20 : Bool} {r : (Bool × Int)}   (h : m_eval_Truth_k1 r0 v20 = some r) : Wp Pg 25 0 (.cond (.t 20) (.seq (.reg none i14_R3) .ret) .skip) ⟨[(0, .bad), (1, .bad), (2, .bad), (3, .bad), (4, .bad), (5, .bad), (6, .ptr 0 0), (7, .int .i64 r0.2), (20, .bool v20)], [], [(0, .box [.bool r0.1.Bool, .int .i64 r0.1.N])], 1⟩ (seqQ Pg 25 0 (.seq (.reg none i14_R4) .ret) (qf_14 r)) := by
  unfold m_eval_Truth_k1 at h
  replace h := ifS h; rcases h with ⟨g3, h⟩ | ⟨g3, h⟩
  · replace h := retS h; subst h
    refine condTP (Wp.seq ?_)
    refine regP (seqN (Wp.ret (seqR ?_)))
    exact finP
  · replace h := retS h; subst h
    refine condFP (Wp.skip (seqN (Wp.seq ?_)))
    refine regP (seqN (Wp.ret ?_))
    exact finP
theorem w_m_eval_Truth {x0 : TExpr} {v : TVars} {r : (Bool × Int)}   (h : m_eval_Truth x0 v = some r) : Spec Pg 14 [.agg [.int .i64 x0.Kind, .int .i64 x0.N, .str x0.Name, sl TExpr.c x0.Kids], .agg [sl cs v.Names, sl (ci .i64) v.Vals]] [] 0 (.tup [.bool r.1, .int .i64 r.2]) [] 0 := by
  refine Spec.intro Go.Proofs.Try.func14 i14_ok (le_of_ble rfl) ?_
  show Wp Pg 25 0 i14_B ⟨argEnv [.agg [.int .i64 x0.Kind, .int .i64 x0.N, .str x0.Name, sl TExpr.c x0.Kids], .agg [sl cs v.Names, sl (ci .i64) v.Vals]] i14_V, [], [], 0⟩ (qf_14 r)
  unfold m_eval_Truth at h
  unfold i14_B
  refine weakP [] ?_
  refine Wp.seq (regP (seqN (Wp.seq (Wp.reg ?_))))
  replace h := bndS h; obtain ⟨r0, g1, h⟩ := h
  refine chunkT 3 (tab_cons (w_m_eval_Of g1) (tab_nil _)) ?_
  refine lastT (tab_nil _) (seqN (Wp.seq (Wp.seq ?_)))
  replace h := ifS h; rcases h with ⟨g2, h⟩ | ⟨g2, h⟩
  · refine regP (seqN ?_)
    exact jumpK [.kill [0, 1, 2, 3, 4, 5], .tidy] (w_m_eval_Truth_k1 h)
  · refine regP (seqN ?_)
    exact jumpK [.kill [0, 1, 2, 3, 4, 5], .tidy] (w_m_eval_Truth_k1 h)
/-! funicular/funicularref08.plain -/
noncomputable abbrev qf_54 (r : Bool) : Ex → St → Prop := FinQ 0 [.tmp 2] (.bool r) [] 0
theorem w_m_ref08_plain {x0 : TExpr} {r : Bool}   (h : m_ref08_plain x0 = some r) : Spec Pg 54 [.agg [.int .i64 x0.Kind, .int .i64 x0.N, .str x0.Name, sl TExpr.c x0.Kids]] [] 0 (.bool r) [] 0 := by
  refine Spec.intro Go.Proofs.Try.func54 i54_ok (le_of_ble rfl) ?_
  show Wp Pg 16 0 i54_B ⟨argEnv [.agg [.int .i64 x0.Kind, .int .i64 x0.N, .str x0.Name, sl TExpr.c x0.Kids]] i54_V, [], [], 0⟩ (qf_54 r)
  unfold m_ref08_plain at h
  unfold i54_B
  refine weakP [] ?_
  refine Wp.seq (regP (seqN (Wp.seq ?_)))
  replace h := ifS h; rcases h with ⟨g1, h⟩ | ⟨g1, h⟩
  · replace h := retS h; subst h
    refine regP (seqN (Wp.ret ?_))
    exact finP
  · replace h := ifS h; rcases h with ⟨g2, h⟩ | ⟨g2, h⟩
    · replace h := retS h; subst h
      refine regP (seqN (Wp.ret ?_))
      exact finP
    · replace h := retS h; subst h
      refine regP (seqN (Wp.ret ?_))
      exact finP
/-! funicular/funicularref08.yes -/
noncomputable abbrev qf_55 (r : TExpr) : Ex → St → Prop := FinQ 0 [.cell 2 true 4] (.agg [.int .i64 r.Kind, .int .i64 r.N, .str r.Name, sl TExpr.c r.Kids]) [] 0
theorem w_m_ref08_yes {b : Bool} {r : TExpr}   (h : m_ref08_yes b = some r) : Spec Pg 55 [.bool b] [] 0 (.agg [.int .i64 r.Kind, .int .i64 r.N, .str r.Name, sl TExpr.c r.Kids]) [] 0 := by
  refine Spec.intro Go.Proofs.Try.func55 i55_ok (le_of_ble rfl) ?_
  show Wp Pg 6 0 i55_B ⟨argEnv [.bool b] i55_V, [], [], 0⟩ (qf_55 r)
  unfold m_ref08_yes at h
  unfold i55_B
  refine weakP [] ?_
  refine Wp.seq (regP (seqN (Wp.seq (Wp.seq ?_))))
  refine regP (seqN ?_)
  replace h := ifS h; rcases h with ⟨g1, h⟩ | ⟨g1, h⟩
  · replace h := retS h; subst h
    refine condTP (Wp.seq ?_)
    refine regP (seqN ?_)
    refine weakP [.cell 2 3 .frz] (Wp.ret (seqR ?_))
    exact finP
  · replace h := retS h; subst h
    refine condFP (Wp.skip (seqN (Wp.seq ?_)))
    refine regP (seqN ?_)
    refine weakP [.cell 2 3 .frz] (Wp.ret ?_)
    exact finP
/-! funicular/funicularref08.same -/
noncomputable abbrev qf_71 (r : Bool) : Ex → St → Prop := FinQ 0 [.tmp 4] (.bool r) [] 0
theorem w_m_ref08_same {x0 : TExpr} {y : TExpr} {r : Bool}   (h : m_ref08_same x0 y = some r) : Spec Pg 71 [.agg [.int .i64 x0.Kind, .int .i64 x0.N, .str x0.Name, sl TExpr.c x0.Kids], .agg [.int .i64 y.Kind, .int .i64 y.N, .str y.Name, sl TExpr.c y.Kids]] [] 0 (.bool r) [] 0 := by
  refine Spec.intro Go.Proofs.Try.func71 i71_ok (le_of_ble rfl) ?_
  show Wp Pg 17 0 i71_B ⟨argEnv [.agg [.int .i64 x0.Kind, .int .i64 x0.N, .str x0.Name, sl TExpr.c x0.Kids], .agg [.int .i64 y.Kind, .int .i64 y.N, .str y.Name, sl TExpr.c y.Kids]] i71_V, [], [], 0⟩ (qf_71 r)
  unfold m_ref08_same at h
  unfold i71_B
  refine weakP [] ?_
  refine Wp.seq (regP (seqN (Wp.seq ?_)))
  replace h := ifS h; rcases h with ⟨g1, h⟩ | ⟨g1, h⟩
  · replace h := retS h; subst h
    refine regP (seqN (Wp.ret ?_))
    exact finP
  · replace h := retS h; subst h
    refine regP (seqN (Wp.ret ?_))
    exact finP
/-! funicular/funicularref08.num -/
noncomputable abbrev qf_81 (r : TExpr) : Ex → St → Prop := FinQ 0 [.cell 2 true 4] (.agg [.int .i64 r.Kind, .int .i64 r.N, .str r.Name, sl TExpr.c r.Kids]) [] 0
theorem w_m_ref08_num {n0 : Int} {r : TExpr}   (h : m_ref08_num n0 = some r) : Spec Pg 81 [.int .i64 n0] [] 0 (.agg [.int .i64 r.Kind, .int .i64 r.N, .str r.Name, sl TExpr.c r.Kids]) [] 0 := by
  refine Spec.intro Go.Proofs.Try.func81 i81_ok (le_of_ble rfl) ?_
  show Wp Pg 5 0 i81_B ⟨argEnv [.int .i64 n0] i81_V, [], [], 0⟩ (qf_81 r)
  unfold m_ref08_num at h
  unfold i81_B
  refine weakP [] ?_
  replace h := retS h; subst h
  refine Wp.seq (regP (seqN (Wp.seq ?_)))
  refine regP (seqN ?_)
  refine weakP [.cell 2 3 .frz] (Wp.ret ?_)
  exact finP
end Go.Proofs.Ytcmejocmohohpaa.R
