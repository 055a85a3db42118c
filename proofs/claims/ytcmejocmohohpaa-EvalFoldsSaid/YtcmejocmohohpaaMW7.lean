/- The program's functions answer what the models answer: 7. -/
import Derived.Test.YtcmejocmohohpaaMW0
import Derived.Test.YtcmejocmohohpaaMW5
import Derived.Test.YtcmejocmohohpaaMW6
set_option maxRecDepth 100000
set_option linter.unusedVariables false
set_option linter.unusedSimpArgs false
noncomputable section
namespace Go.Proofs.Ytcmejocmohohpaa.R
open Go Nat
/-! funicular/funicularref08.sums -/
noncomputable abbrev qf_72 (r : (TExpr × Bool)) : Ex → St → Prop := FinQ 0 [.cell 6 true 4, .tmp 7] (.tup [.agg [.int .i64 r.1.Kind, .int .i64 r.1.N, .str r.1.Name, sl TExpr.c r.1.Kids], .bool r.2]) [] 0
theorem w_m_ref08_sums_k4 {kind : Int} {a : Int} {b : Int} {v55 : Bool} {r : (TExpr × Bool)}   (h : m_ref08_sums_k4 kind a b v55 = some r) : Wp Pg 67 0 (.cond (.t 55) (.seq (.reg none i72_R9) .ret) .skip) ⟨[(0, .int .i64 kind), (1, .int .i64 a), (2, .int .i64 b), (6, .ptr 0 0), (7, .bad), (8, .bad), (17, .bad), (28, .bad), (45, .bad), (55, .bool v55), (61, .bad)], [], [(0, .box [.int .i64 (0 : Int), .int .i64 (0 : Int), .str (⟨#[]⟩), .nil])], 1⟩ (seqQ Pg 67 0 (.seq (.seq (.reg none i72_R10) (.cond (.t 61) (.seq (.reg none i72_R11) .ret) .skip)) (.seq (.reg none i72_R12) .ret)) (qf_72 r)) := by
  unfold m_ref08_sums_k4 at h
  replace h := ifS h; rcases h with ⟨g13, h⟩ | ⟨g13, h⟩
  · refine condTP (Wp.seq (Wp.reg ?_))
    replace h := reqF h; obtain ⟨g14, h⟩ := h
    replace h := bndS h; obtain ⟨r0_3, g15, h⟩ := h
    replace h := retS h; subst h
    refine chunkT 4 (tab_cons (w_m_ref08_num g15) (tab_nil _)) ?_
    refine lastT (tab_nil _) (seqN (Wp.ret (seqR ?_)))
    exact finP
  · refine condFP (Wp.skip (seqN (Wp.seq (Wp.seq ?_))))
    refine regP (seqN ?_)
    replace h := ifS h; rcases h with ⟨g16, h⟩ | ⟨g16, h⟩
    · refine condTP (Wp.seq (Wp.reg ?_))
      replace h := bndS h; obtain ⟨r0_4, g17, h⟩ := h
      replace h := retS h; subst h
      refine chunkT 4 (tab_cons (w_m_ref08_yes g17) (tab_nil _)) ?_
      refine lastT (tab_nil _) (seqN (Wp.ret (seqR ?_)))
      exact finP
    · replace h := retS h; subst h
      refine condFP (Wp.skip (seqN (Wp.seq ?_)))
      refine regP (seqN ?_)
      refine weakP [.cell 6 3 .frz] (Wp.ret ?_)
      exact finP
theorem w_m_ref08_sums_k3 {kind : Int} {a : Int} {b : Int} {v45 : Bool} {r : (TExpr × Bool)}   (h : m_ref08_sums_k3 kind a b v45 = some r) : Wp Pg 67 0 (.cond (.t 45) (.seq (.reg none i72_R7) .ret) .skip) ⟨[(0, .int .i64 kind), (1, .int .i64 a), (2, .int .i64 b), (6, .ptr 0 0), (7, .bad), (8, .bad), (17, .bad), (28, .bad), (45, .bool v45), (55, .bad), (61, .bad)], [], [(0, .box [.int .i64 (0 : Int), .int .i64 (0 : Int), .str (⟨#[]⟩), .nil])], 1⟩ (seqQ Pg 67 0 (.seq (.seq (.reg none i72_R8) (.cond (.t 55) (.seq (.reg none i72_R9) .ret) .skip)) (.seq (.seq (.reg none i72_R10) (.cond (.t 61) (.seq (.reg none i72_R11) .ret) .skip)) (.seq (.reg none i72_R12) .ret))) (qf_72 r)) := by
  unfold m_ref08_sums_k3 at h
  replace h := ifS h; rcases h with ⟨g10, h⟩ | ⟨g10, h⟩
  · refine condTP (Wp.seq (Wp.reg ?_))
    replace h := bndS h; obtain ⟨r0_2, g11, h⟩ := h
    replace h := retS h; subst h
    refine chunkT 4 (tab_cons (w_m_ref08_num g11) (tab_nil _)) ?_
    refine lastT (tab_nil _) (seqN (Wp.ret (seqR ?_)))
    exact finP
  · refine condFP (Wp.skip (seqN (Wp.seq (Wp.seq ?_))))
    replace h := ifS h; rcases h with ⟨g12, h⟩ | ⟨g12, h⟩
    · refine regP (seqN ?_)
      exact jumpK [.kill [45]] (w_m_ref08_sums_k4 h)
    · refine regP (seqN ?_)
      exact jumpK [.kill [45]] (w_m_ref08_sums_k4 h)
theorem w_m_ref08_sums_k2 {kind : Int} {a : Int} {b : Int} {v28 : Bool} {r : (TExpr × Bool)}   (h : m_ref08_sums_k2 kind a b v28 = some r) : Wp Pg 67 0 (.cond (.t 28) (.seq (.reg none i72_R5) .ret) .skip) ⟨[(0, .int .i64 kind), (1, .int .i64 a), (2, .int .i64 b), (6, .ptr 0 0), (7, .bad), (8, .int .i64 (9223372036854775807 : Int)), (17, .bad), (28, .bool v28), (45, .bad), (55, .bad), (61, .bad)], [], [(0, .box [.int .i64 (0 : Int), .int .i64 (0 : Int), .str (⟨#[]⟩), .nil])], 1⟩ (seqQ Pg 67 0 (.seq (.seq (.reg none i72_R6) (.cond (.t 45) (.seq (.reg none i72_R7) .ret) .skip)) (.seq (.seq (.reg none i72_R8) (.cond (.t 55) (.seq (.reg none i72_R9) .ret) .skip)) (.seq (.seq (.reg none i72_R10) (.cond (.t 61) (.seq (.reg none i72_R11) .ret) .skip)) (.seq (.reg none i72_R12) .ret)))) (qf_72 r)) := by
  unfold m_ref08_sums_k2 at h
  replace h := ifS h; rcases h with ⟨g5, h⟩ | ⟨g5, h⟩
  · refine condTP (Wp.seq (Wp.reg ?_))
    replace h := bndS h; obtain ⟨r0_1, g6, h⟩ := h
    replace h := retS h; subst h
    refine chunkT 4 (tab_cons (w_m_ref08_num g6) (tab_nil _)) ?_
    refine lastT (tab_nil _) (seqN (Wp.ret (seqR ?_)))
    exact finP
  · refine condFP (Wp.skip (seqN (Wp.seq (Wp.seq ?_))))
    replace h := ifS h; rcases h with ⟨g7, h⟩ | ⟨g7, h⟩
    · replace h := ifS h; rcases h with ⟨g8, h⟩ | ⟨g8, h⟩
      · refine regP (seqN ?_)
        exact jumpK [.kill [8, 28]] (w_m_ref08_sums_k3 h)
      · replace h := reqF h; obtain ⟨g9, h⟩ := h
        refine regP (seqN ?_)
        exact jumpK [.kill [8, 28]] (w_m_ref08_sums_k3 h)
    · refine regP (seqN ?_)
      exact jumpK [.kill [8, 28]] (w_m_ref08_sums_k3 h)
theorem w_m_ref08_sums_k1 {kind : Int} {a : Int} {b : Int} {v17 : Bool} {r : (TExpr × Bool)}   (h : m_ref08_sums_k1 kind a b v17 = some r) : Wp Pg 67 0 (.cond (.t 17) (.seq (.reg none i72_R3) .ret) .skip) ⟨[(0, .int .i64 kind), (1, .int .i64 a), (2, .int .i64 b), (6, .ptr 0 0), (7, .bad), (8, .int .i64 (9223372036854775807 : Int)), (17, .bool v17), (28, .bad), (45, .bad), (55, .bad), (61, .bad)], [], [(0, .box [.int .i64 (0 : Int), .int .i64 (0 : Int), .str (⟨#[]⟩), .nil])], 1⟩ (seqQ Pg 67 0 (.seq (.seq (.reg none i72_R4) (.cond (.t 28) (.seq (.reg none i72_R5) .ret) .skip)) (.seq (.seq (.reg none i72_R6) (.cond (.t 45) (.seq (.reg none i72_R7) .ret) .skip)) (.seq (.seq (.reg none i72_R8) (.cond (.t 55) (.seq (.reg none i72_R9) .ret) .skip)) (.seq (.seq (.reg none i72_R10) (.cond (.t 61) (.seq (.reg none i72_R11) .ret) .skip)) (.seq (.reg none i72_R12) .ret))))) (qf_72 r)) := by
  unfold m_ref08_sums_k1 at h
  replace h := ifS h; rcases h with ⟨g2, h⟩ | ⟨g2, h⟩
  · refine condTP (Wp.seq (Wp.reg ?_))
    replace h := bndS h; obtain ⟨r0, g3, h⟩ := h
    replace h := retS h; subst h
    refine chunkT 4 (tab_cons (w_m_ref08_num g3) (tab_nil _)) ?_
    refine lastT (tab_nil _) (seqN (Wp.ret (seqR ?_)))
    exact finP
  · refine condFP (Wp.skip (seqN (Wp.seq (Wp.seq ?_))))
    replace h := ifS h; rcases h with ⟨g4, h⟩ | ⟨g4, h⟩
    · refine regP (seqN ?_)
      exact jumpK [.kill [17]] (w_m_ref08_sums_k2 h)
    · refine regP (seqN ?_)
      exact jumpK [.kill [17]] (w_m_ref08_sums_k2 h)
theorem w_m_ref08_sums {kind : Int} {a : Int} {b : Int} {r : (TExpr × Bool)}   (h : m_ref08_sums kind a b = some r) : Spec Pg 72 [.int .i64 kind, .int .i64 a, .int .i64 b] [] 0 (.tup [.agg [.int .i64 r.1.Kind, .int .i64 r.1.N, .str r.1.Name, sl TExpr.c r.1.Kids], .bool r.2]) [] 0 := by
  refine Spec.intro Go.Proofs.Try.func72 i72_ok (le_of_ble rfl) ?_
  show Wp Pg 67 0 i72_B ⟨argEnv [.int .i64 kind, .int .i64 a, .int .i64 b] i72_V, [], [], 0⟩ (qf_72 r)
  unfold m_ref08_sums at h
  unfold i72_B
  refine weakP [] ?_
  refine Wp.seq (regP (seqN (Wp.seq ?_)))
  refine regP (seqN (Wp.seq (Wp.seq ?_)))
  replace h := ifS h; rcases h with ⟨g1, h⟩ | ⟨g1, h⟩
  · refine regP (seqN ?_)
    exact jumpK [.kill [7, 28, 45, 55, 61]] (w_m_ref08_sums_k1 h)
  · refine regP (seqN ?_)
    exact jumpK [.kill [7, 28, 45, 55, 61]] (w_m_ref08_sums_k1 h)
/-! funicular/funicularref08.two -/
noncomputable abbrev qf_53 (r : TExpr) : Ex → St → Prop := FinQ 0 [.cell 6 true 4] (.agg [.int .i64 r.Kind, .int .i64 r.N, .str r.Name, sl TExpr.c r.Kids]) [] 0
theorem w_m_ref08_two_k1 {kind : Int} {a : TExpr} {b : TExpr} {v44 : Bool} {r : TExpr}   (h : m_ref08_two_k1 kind a b v44 = some r) : Wp Pg 64 0 (.cond (.t 44) (.seq (.reg none i53_R15) .ret) .skip) ⟨[(0, .int .i64 kind), (1, .bad), (2, .bad), (4, .ptr 0 0), (5, .ptr 1 0), (6, .ptr 2 0), (7, .ptr 3 0), (8, .bad), (9, .bad), (16, .bad), (19, .bad), (23, .bad), (27, .bad), (30, .bad), (34, .bad), (44, .bool v44), (47, .bad), (61, .bad)], [], [(0, .box [.int .i64 a.Kind, .int .i64 a.N, .str a.Name, sl TExpr.c a.Kids]), (1, .box [.int .i64 b.Kind, .int .i64 b.N, .str b.Name, sl TExpr.c b.Kids]), (2, .box [.int .i64 (0 : Int), .int .i64 (0 : Int), .str (⟨#[]⟩), .nil]), (3, .box [.int .i64 kind, .int .i64 (0 : Int), .str (⟨#[]⟩), .own 4 4 0 (([a, b]).length) true]), (4, .arr 4 (List.map TExpr.c ([a, b])) 0)], 5⟩ (seqQ Pg 64 0 (.seq (.seq (.reg none i53_R16) (.cond (.t 47) (.seq (.reg none i53_R17) .ret) .skip)) (.seq (.reg none i53_R18) (.seq (.seq (.reg none i53_R19) (.cond (.t 61) (.seq (.reg none i53_R20) .ret) .skip)) (.seq (.reg none i53_R21) .ret)))) (qf_53 r)) := by
  unfold m_ref08_two_k1 at h
  replace h := ifS h; rcases h with ⟨g10, h⟩ | ⟨g10, h⟩
  · replace h := retS h; subst h
    refine condTP (Wp.seq ?_)
    refine regP (seqN ?_)
    refine weakP [.cell 6 3 .frz] (Wp.ret (seqR ?_))
    exact finP
  · refine condFP (Wp.skip (seqN (Wp.seq (Wp.seq ?_))))
    refine regP (seqN ?_)
    replace h := ifS h; rcases h with ⟨g11, h⟩ | ⟨g11, h⟩
    · refine condTP (Wp.seq (Wp.reg ?_))
      replace h := bndS h; obtain ⟨r0_2, g12, h⟩ := h
      refine chunkT 3 (tab_cons (w_m_ref08_same g12) (tab_nil _)) ?_
      replace h := bndS h; obtain ⟨r0_3, g13, h⟩ := h
      replace h := retS h; subst h
      refine chunkT 1 (tab_cons (w_m_ref08_yes g13) (tab_nil _)) ?_
      refine lastT (tab_nil _) (seqN (Wp.ret (seqR ?_)))
      exact finP
    · refine condFP (Wp.skip (seqN (Wp.seq (Wp.reg ?_))))
      replace h := bndS h; obtain ⟨r0_4, g14, h⟩ := h
      refine chunkT 6 (tab_cons (w_m_ref08_sums g14) (tab_nil _)) ?_
      refine lastT (tab_nil _) (seqN (Wp.seq (Wp.seq ?_)))
      refine regP (seqN ?_)
      replace h := ifS h; rcases h with ⟨g15, h⟩ | ⟨g15, h⟩
      · replace h := retS h; subst h
        refine condTP (Wp.seq ?_)
        refine regP (seqN (Wp.ret (seqR ?_)))
        exact finP
      · replace h := retS h; subst h
        refine condFP (Wp.skip (seqN (Wp.seq ?_)))
        refine regP (seqN ?_)
        refine weakP [.cell 6 3 .frz] (Wp.ret ?_)
        exact finP
theorem w_m_ref08_two {kind : Int} {a : TExpr} {b : TExpr} {r : TExpr}   (h : m_ref08_two kind a b = some r) : Spec Pg 53 [.int .i64 kind, .agg [.int .i64 a.Kind, .int .i64 a.N, .str a.Name, sl TExpr.c a.Kids], .agg [.int .i64 b.Kind, .int .i64 b.N, .str b.Name, sl TExpr.c b.Kids]] [] 0 (.agg [.int .i64 r.Kind, .int .i64 r.N, .str r.Name, sl TExpr.c r.Kids]) [] 0 := by
  refine Spec.intro Go.Proofs.Try.func53 i53_ok (le_of_ble rfl) ?_
  show Wp Pg 64 0 i53_B ⟨argEnv [.int .i64 kind, .agg [.int .i64 a.Kind, .int .i64 a.N, .str a.Name, sl TExpr.c a.Kids], .agg [.int .i64 b.Kind, .int .i64 b.N, .str b.Name, sl TExpr.c b.Kids]] i53_V, [], [], 0⟩ (qf_53 r)
  unfold m_ref08_two at h
  unfold i53_B
  refine weakP [] ?_
  refine Wp.seq (regP (seqN (Wp.seq ?_)))
  refine regP (seqN (Wp.seq (Wp.seq ?_)))
  refine regP (seqN ?_)
  replace h := ifS h; rcases h with ⟨g1, h⟩ | ⟨g1, h⟩
  · refine condTP (Wp.seq (Wp.seq ?_))
    refine regP (seqN ?_)
    replace h := ifS h; rcases h with ⟨g2, h⟩ | ⟨g2, h⟩
    · replace h := retS h; subst h
      refine condTP (Wp.seq ?_)
      refine regP (seqN (Wp.ret (seqR (seqR ?_))))
      exact finP
    · refine condFP (Wp.skip (seqN (Wp.seq (Wp.seq ?_))))
      refine regP (seqN ?_)
      replace h := ifS h; rcases h with ⟨g3, h⟩ | ⟨g3, h⟩
      · replace h := retS h; subst h
        refine condTP (Wp.seq ?_)
        refine regP (seqN (Wp.ret (seqR (seqR ?_))))
        exact finP
      · replace h := retS h; subst h
        refine condFP (Wp.skip (seqN (Wp.seq ?_)))
        refine regP (seqN ?_)
        refine weakP [.cell 6 3 .frz] (Wp.ret (seqR ?_))
        exact finP
  · refine condFP (Wp.skip (seqN (Wp.seq (Wp.seq ?_))))
    refine regP (seqN ?_)
    replace h := ifS h; rcases h with ⟨g4, h⟩ | ⟨g4, h⟩
    · refine condTP (Wp.seq (Wp.seq ?_))
      refine regP (seqN ?_)
      replace h := ifS h; rcases h with ⟨g5, h⟩ | ⟨g5, h⟩
      · replace h := retS h; subst h
        refine condTP (Wp.seq ?_)
        refine regP (seqN (Wp.ret (seqR (seqR ?_))))
        exact finP
      · refine condFP (Wp.skip (seqN (Wp.seq (Wp.seq ?_))))
        refine regP (seqN ?_)
        replace h := ifS h; rcases h with ⟨g6, h⟩ | ⟨g6, h⟩
        · replace h := retS h; subst h
          refine condTP (Wp.seq ?_)
          refine regP (seqN (Wp.ret (seqR (seqR ?_))))
          exact finP
        · replace h := retS h; subst h
          refine condFP (Wp.skip (seqN (Wp.seq ?_)))
          refine regP (seqN ?_)
          refine weakP [.cell 6 3 .frz] (Wp.ret (seqR ?_))
          exact finP
    · refine condFP (Wp.skip (seqN (Wp.seq (Wp.seq (Wp.reg ?_)))))
      replace h := bndS h; obtain ⟨r0, g7, h⟩ := h
      refine chunkT 2 (tab_cons (w_m_ref08_plain g7) (tab_nil _)) ?_
      replace h := ifS h; rcases h with ⟨g8, h⟩ | ⟨g8, h⟩
      · replace h := bndS h; obtain ⟨r0_1, g9, h⟩ := h
        refine chunkT 4 (tab_cons (w_m_ref08_plain g9) (tab_nil _)) ?_
        refine lastT (tab_nil _) (seqN ?_)
        exact jumpK [.kill [1, 2, 8, 9, 16, 19, 23, 27, 30, 34, 47, 61], .tidy] (w_m_ref08_two_k1 h)
      · refine lastT (tab_nil _) (seqN ?_)
        exact jumpK [.kill [1, 2, 8, 9, 16, 19, 23, 27, 30, 34, 47, 61], .tidy] (w_m_ref08_two_k1 h)
/-! funicular/funicularref08.fold -/
noncomputable abbrev qf_34 (r : TExpr) : Ex → St → Prop := FinQ 0 [.cell 2 true 4] (.agg [.int .i64 r.Kind, .int .i64 r.N, .str r.Name, sl TExpr.c r.Kids]) [] 0
theorem w_m_ref08_fold_k2 {x0 : TExpr} {r0 : TExpr} {v52 : Bool} {r : TExpr}   (h : m_ref08_fold_k2 x0 r0 v52 = some r) : Wp Pg 59 0 (.cond (.t 52) (.seq (.reg none i34_R10) .ret) .skip) ⟨[(0, .bad), (1, .ptr 0 0), (2, .ptr 1 0), (3, .ptr 2 0), (4, .bad), (8, .bad), (18, .bad), (35, .bad), (52, .bool v52)], [], [(0, .box [.int .i64 x0.Kind, .int .i64 x0.N, .str x0.Name, sl TExpr.c x0.Kids]), (1, .box [.int .i64 (0 : Int), .int .i64 (0 : Int), .str (⟨#[]⟩), .nil]), (2, .box [.int .i64 r0.Kind, .int .i64 r0.N, .str r0.Name, sl TExpr.c r0.Kids])], 3⟩ (seqQ Pg 59 0 (.seq (.reg none i34_R11) .ret) (qf_34 r)) := by
  unfold m_ref08_fold_k2 at h
  replace h := ifS h; rcases h with ⟨g14, h⟩ | ⟨g14, h⟩
  · replace h := retS h; subst h
    refine condTP (Wp.seq ?_)
    refine regP (seqN (Wp.ret (seqR ?_)))
    exact finP
  · replace h := retS h; subst h
    refine condFP (Wp.skip (seqN (Wp.seq ?_)))
    refine regP (seqN ?_)
    refine weakP [.cell 2 3 .frz] (Wp.ret ?_)
    exact finP
theorem w_m_ref08_fold_k1 {x0 : TExpr} {r0 : TExpr} {v35 : Bool} {r : TExpr}   (h : m_ref08_fold_k1 x0 r0 v35 = some r) : Wp Pg 59 0 (.cond (.t 35) (.seq (.reg none i34_R8) .ret) .skip) ⟨[(0, .bad), (1, .ptr 0 0), (2, .ptr 1 0), (3, .ptr 2 0), (4, .bad), (8, .bad), (18, .bad), (35, .bool v35), (52, .bad)], [], [(0, .box [.int .i64 x0.Kind, .int .i64 x0.N, .str x0.Name, sl TExpr.c x0.Kids]), (1, .box [.int .i64 (0 : Int), .int .i64 (0 : Int), .str (⟨#[]⟩), .nil]), (2, .box [.int .i64 r0.Kind, .int .i64 r0.N, .str r0.Name, sl TExpr.c r0.Kids])], 3⟩ (seqQ Pg 59 0 (.seq (.seq (.reg none i34_R9) (.cond (.t 52) (.seq (.reg none i34_R10) .ret) .skip)) (.seq (.reg none i34_R11) .ret)) (qf_34 r)) := by
  unfold m_ref08_fold_k1 at h
  replace h := ifS h; rcases h with ⟨g10, h⟩ | ⟨g10, h⟩
  · refine condTP (Wp.seq (Wp.reg ?_))
    replace h := bndS h; obtain ⟨r0_4, g11, h⟩ := h
    replace h := retS h; subst h
    refine chunkT 4 (tab_cons (w_m_ref08_yes g11) (tab_nil _)) ?_
    refine lastT (tab_nil _) (seqN (Wp.ret (seqR ?_)))
    exact finP
  · refine condFP (Wp.skip (seqN (Wp.seq (Wp.seq ?_))))
    replace h := ifS h; rcases h with ⟨g12, h⟩ | ⟨g12, h⟩
    · replace h := ifS h; rcases h with ⟨g13, h⟩ | ⟨g13, h⟩
      · refine regP (seqN ?_)
        exact jumpK [.kill [35]] (w_m_ref08_fold_k2 h)
      · refine regP (seqN ?_)
        exact jumpK [.kill [35]] (w_m_ref08_fold_k2 h)
    · refine regP (seqN ?_)
      exact jumpK [.kill [35]] (w_m_ref08_fold_k2 h)
theorem w_m_ref08_fold_B {x0 : TExpr} {r : TExpr} {rec_m_ref08_fold : TExpr → Option TExpr} (hrec_m_ref08_fold : ∀ {x0 : TExpr} {r : TExpr}, rec_m_ref08_fold x0 = some r → Spec Pg 34 [.agg [.int .i64 x0.Kind, .int .i64 x0.N, .str x0.Name, sl TExpr.c x0.Kids]] [] 0 (.agg [.int .i64 r.Kind, .int .i64 r.N, .str r.Name, sl TExpr.c r.Kids]) [] 0) (h : m_ref08_fold_B rec_m_ref08_fold x0 = some r) : Spec Pg 34 [.agg [.int .i64 x0.Kind, .int .i64 x0.N, .str x0.Name, sl TExpr.c x0.Kids]] [] 0 (.agg [.int .i64 r.Kind, .int .i64 r.N, .str r.Name, sl TExpr.c r.Kids]) [] 0 := by
  refine Spec.intro Go.Proofs.Try.func34 i34_ok (le_of_ble rfl) ?_
  show Wp Pg 59 0 i34_B ⟨argEnv [.agg [.int .i64 x0.Kind, .int .i64 x0.N, .str x0.Name, sl TExpr.c x0.Kids]] i34_V, [], [], 0⟩ (qf_34 r)
  unfold m_ref08_fold_B at h
  unfold i34_B
  refine weakP [] ?_
  refine Wp.seq (regP (seqN (Wp.seq (Wp.seq ?_))))
  refine regP (seqN ?_)
  replace h := ifS h; rcases h with ⟨g1, h⟩ | ⟨g1, h⟩
  · replace h := retS h; subst h
    refine condTP (Wp.seq ?_)
    refine regP (seqN (Wp.ret (seqR ?_)))
    exact finP
  · refine condFP (Wp.skip (seqN (Wp.seq (Wp.reg ?_))))
    replace h := bndS h; obtain ⟨e, g2, h⟩ := h
    replace h := bndS h; obtain ⟨r0, g3, h⟩ := h
    refine chunkT 5 (tab_cons (hrec_m_ref08_fold g3) (tab_nil _)) ?_
    refine lastT (tab_nil _) (seqN (Wp.seq (Wp.seq ?_)))
    refine regP (seqN ?_)
    replace h := ifS h; rcases h with ⟨g4, h⟩ | ⟨g4, h⟩
    · refine condTP (Wp.seq (Wp.reg ?_))
      replace h := bndS h; obtain ⟨e_1, g5, h⟩ := h
      replace h := bndS h; obtain ⟨r0_1, g6, h⟩ := h
      refine chunkT 5 (tab_cons (hrec_m_ref08_fold g6) (tab_nil _)) ?_
      refine lastT (tab_nil _) (seqN (Wp.seq (Wp.reg ?_)))
      replace h := bndS h; obtain ⟨r0_2, g7, h⟩ := h
      replace h := retS h; subst h
      refine chunkT 5 (tab_cons (w_m_ref08_two g7) (tab_nil _)) ?_
      refine lastT (tab_nil _) (seqN (Wp.ret (seqR ?_)))
      exact finP
    · refine condFP (Wp.skip (seqN (Wp.seq (Wp.seq (Wp.reg ?_)))))
      replace h := ifS h; rcases h with ⟨g8, h⟩ | ⟨g8, h⟩
      · replace h := bndS h; obtain ⟨r0_3, g9, h⟩ := h
        refine chunkT 6 (tab_cons (w_m_ref08_plain g9) (tab_nil _)) ?_
        refine lastT (tab_nil _) (seqN ?_)
        exact jumpK [.kill [0, 4, 8, 18, 52], .tidy] (w_m_ref08_fold_k1 h)
      · refine lastT (tab_nil _) (seqN ?_)
        exact jumpK [.kill [0, 4, 8, 18, 52], .tidy] (w_m_ref08_fold_k1 h)
theorem w_m_ref08_fold : ∀ (n : Nat) {x0 : TExpr} {r : TExpr}, m_ref08_fold n x0 = some r → Spec Pg 34 [.agg [.int .i64 x0.Kind, .int .i64 x0.N, .str x0.Name, sl TExpr.c x0.Kids]] [] 0 (.agg [.int .i64 r.Kind, .int .i64 r.N, .str r.Name, sl TExpr.c r.Kids]) [] 0 := by
  intro n
  induction n with
  | zero => intro x0 r h; unfold m_ref08_fold at h; cases h
  | succ n ih => intro x0 r h; unfold m_ref08_fold at h; exact w_m_ref08_fold_B ih h
/-! funicular/funicularref08.Fold -/
noncomputable abbrev qf_17 (r : (TExpr × Int)) : Ex → St → Prop := FinQ 0 [.cell 2 true 4, .tmp 3] (.tup [.agg [.int .i64 r.1.Kind, .int .i64 r.1.N, .str r.1.Name, sl TExpr.c r.1.Kids], .int .i64 r.2]) [] 0
theorem w_m_ref08_Fold {x0 : TExpr} {r : (TExpr × Int)}   (h : m_ref08_Fold x0 = some r) : Spec Pg 17 [.agg [.int .i64 x0.Kind, .int .i64 x0.N, .str x0.Name, sl TExpr.c x0.Kids]] [] 0 (.tup [.agg [.int .i64 r.1.Kind, .int .i64 r.1.N, .str r.1.Name, sl TExpr.c r.1.Kids], .int .i64 r.2]) [] 0 := by
  refine Spec.intro Go.Proofs.Try.func17 i17_ok (le_of_ble rfl) ?_
  show Wp Pg 17 0 i17_B ⟨argEnv [.agg [.int .i64 x0.Kind, .int .i64 x0.N, .str x0.Name, sl TExpr.c x0.Kids]] i17_V, [], [], 0⟩ (qf_17 r)
  unfold m_ref08_Fold at h
  unfold i17_B
  refine weakP [] ?_
  refine Wp.seq (regP (seqN (Wp.seq (Wp.seq (Wp.reg ?_)))))
  replace h := bndS h; obtain ⟨r0, g1, h⟩ := h
  refine chunkT 2 (tab_cons (w_m_ref08_Truth g1) (tab_nil _)) ?_
  refine lastT (tab_nil _) (seqN (Wp.seq ?_))
  refine regP (seqN ?_)
  replace h := ifS h; rcases h with ⟨g2, h⟩ | ⟨g2, h⟩
  · replace h := retS h; subst h
    refine condTP (Wp.seq ?_)
    refine regP (seqN ?_)
    refine weakP [.cell 2 3 .frz] (Wp.ret (seqR ?_))
    exact finP
  · refine condFP (Wp.skip (seqN (Wp.seq (Wp.reg ?_))))
    replace h := bndS h; obtain ⟨r0_1, g3, h⟩ := h
    replace h := retS h; subst h
    refine chunkT 2 (tab_cons (w_m_ref08_fold _ g3) (tab_nil _)) ?_
    refine lastT (tab_nil _) (seqN (Wp.ret ?_))
    exact finP
/-! funicular/funicularref08.asks -/
noncomputable abbrev qf_35 (r : Bool) : Ex → St → Prop := FinQ 0 [.tmp 4] (.bool r) [] 0
theorem w_m_ref08_asks_l1_B {x0 : TExpr} {name : ByteArray} {r : Bool} {rec_m_ref08_asks : TExpr → ByteArray → Option Bool} (hrec_m_ref08_asks : ∀ {x0 : TExpr} {name : ByteArray} {r : Bool}, rec_m_ref08_asks x0 name = some r → Spec Pg 35 [.agg [.int .i64 x0.Kind, .int .i64 x0.N, .str x0.Name, sl TExpr.c x0.Kids], .str name] [] 0 (.bool r) [] 0) {rec_m_ref08_asks_l1 : Int → Option Bool} (hrec_m_ref08_asks_l1 : ∀ {i : Int}, rec_m_ref08_asks_l1 i = some r → LWp Pg 29 0 i35_L0 ⟨[(0, .bad), (1, .str name), (2, .ptr 0 0), (4, .bad), (5, .int .i64 i), (14, .bad), (19, .bad), (28, .bad)], [], [(0, .box [.int .i64 x0.Kind, .int .i64 x0.N, .str x0.Name, sl TExpr.c x0.Kids])], 1⟩ (blockQ 0 (seqQ Pg 29 0 (.seq (.reg none i35_R8) .ret) (qf_35 r)))) {i : Int} (h : m_ref08_asks_l1_B rec_m_ref08_asks x0 name rec_m_ref08_asks_l1 i = some r) : LWp Pg 29 0 i35_L0 ⟨[(0, .bad), (1, .str name), (2, .ptr 0 0), (4, .bad), (5, .int .i64 i), (14, .bad), (19, .bad), (28, .bad)], [], [(0, .box [.int .i64 x0.Kind, .int .i64 x0.N, .str x0.Name, sl TExpr.c x0.Kids])], 1⟩ (blockQ 0 (seqQ Pg 29 0 (.seq (.reg none i35_R8) .ret) (qf_35 r))) := by
  unfold m_ref08_asks_l1_B at h
  refine LWp.stepC i35_L0.eq_1 ?_
  refine Wp.seq (Wp.seq (regP (seqN ?_)))
  replace h := ifS h; rcases h with ⟨g3, h⟩ | ⟨g3, h⟩
  · refine condTP (Wp.skip (seqN (Wp.seq (Wp.block (Wp.seq (Wp.reg ?_))))))
    replace h := bndS h; obtain ⟨e, g4, h⟩ := h
    replace h := bndS h; obtain ⟨r0, g5, h⟩ := h
    refine lastT (tab_cons (hrec_m_ref08_asks g5) (tab_nil _)) (seqN ?_)
    replace h := ifS h; rcases h with ⟨g6, h⟩ | ⟨g6, h⟩
    · replace h := retS h; subst h
      refine condTP (Wp.seq ?_)
      refine regP (seqN (Wp.ret (blockR (seqR (loopR (blockR (seqR ?_)))))))
      exact finP
    · refine condFP (Wp.skip (blockN (seqN ?_)))
      refine regP (loopN ?_)
      exact jumpL [.kill [19, 28]] (hrec_m_ref08_asks_l1 h)
  · replace h := retS h; subst h
    refine condFP (Wp.out (seqO (loopO (blockO (seqN (Wp.seq ?_))))))
    refine regP (seqN (Wp.ret ?_))
    exact finP
theorem w_m_ref08_asks_l1 {x0 : TExpr} {name : ByteArray} {r : Bool} {rec_m_ref08_asks : TExpr → ByteArray → Option Bool} (hrec_m_ref08_asks : ∀ {x0 : TExpr} {name : ByteArray} {r : Bool}, rec_m_ref08_asks x0 name = some r → Spec Pg 35 [.agg [.int .i64 x0.Kind, .int .i64 x0.N, .str x0.Name, sl TExpr.c x0.Kids], .str name] [] 0 (.bool r) [] 0) : ∀ (n : Nat) {i : Int}, m_ref08_asks_l1 rec_m_ref08_asks x0 name n i = some r → LWp Pg 29 0 i35_L0 ⟨[(0, .bad), (1, .str name), (2, .ptr 0 0), (4, .bad), (5, .int .i64 i), (14, .bad), (19, .bad), (28, .bad)], [], [(0, .box [.int .i64 x0.Kind, .int .i64 x0.N, .str x0.Name, sl TExpr.c x0.Kids])], 1⟩ (blockQ 0 (seqQ Pg 29 0 (.seq (.reg none i35_R8) .ret) (qf_35 r))) := by
  intro n
  induction n with
  | zero => intro i h; unfold m_ref08_asks_l1 at h; cases h
  | succ n ih => intro i h; unfold m_ref08_asks_l1 at h; exact w_m_ref08_asks_l1_B hrec_m_ref08_asks ih h
theorem w_m_ref08_asks_k1 {x0 : TExpr} {name : ByteArray} {v14 : Bool} {r : Bool} {rec_m_ref08_asks : TExpr → ByteArray → Option Bool} (hrec_m_ref08_asks : ∀ {x0 : TExpr} {name : ByteArray} {r : Bool}, rec_m_ref08_asks x0 name = some r → Spec Pg 35 [.agg [.int .i64 x0.Kind, .int .i64 x0.N, .str x0.Name, sl TExpr.c x0.Kids], .str name] [] 0 (.bool r) [] 0) (h : m_ref08_asks_k1 rec_m_ref08_asks x0 name v14 = some r) : Wp Pg 29 0 (.cond (.t 14) (.seq (.reg none i35_R2) .ret) .skip) ⟨[(0, .bad), (1, .str name), (2, .ptr 0 0), (4, .bad), (5, .bad), (14, .bool v14), (19, .bad), (28, .bad)], [], [(0, .box [.int .i64 x0.Kind, .int .i64 x0.N, .str x0.Name, sl TExpr.c x0.Kids])], 1⟩ (seqQ Pg 29 0 (.seq (.seq (.reg none i35_R3) (.block 0 (.loop i35_L0))) (.seq (.reg none i35_R8) .ret)) (qf_35 r)) := by
  unfold m_ref08_asks_k1 at h
  replace h := ifS h; rcases h with ⟨g2, h⟩ | ⟨g2, h⟩
  · replace h := retS h; subst h
    refine condTP (Wp.seq ?_)
    refine regP (seqN (Wp.ret (seqR ?_)))
    exact finP
  · refine condFP (Wp.skip (seqN (Wp.seq (Wp.seq ?_))))
    refine regP (seqN (Wp.block (Wp.loop ?_)))
    exact jumpL [.kill [14]] (w_m_ref08_asks_l1 hrec_m_ref08_asks _ h)
theorem w_m_ref08_asks_B {x0 : TExpr} {name : ByteArray} {r : Bool} {rec_m_ref08_asks : TExpr → ByteArray → Option Bool} (hrec_m_ref08_asks : ∀ {x0 : TExpr} {name : ByteArray} {r : Bool}, rec_m_ref08_asks x0 name = some r → Spec Pg 35 [.agg [.int .i64 x0.Kind, .int .i64 x0.N, .str x0.Name, sl TExpr.c x0.Kids], .str name] [] 0 (.bool r) [] 0) (h : m_ref08_asks_B rec_m_ref08_asks x0 name = some r) : Spec Pg 35 [.agg [.int .i64 x0.Kind, .int .i64 x0.N, .str x0.Name, sl TExpr.c x0.Kids], .str name] [] 0 (.bool r) [] 0 := by
  refine Spec.intro Go.Proofs.Try.func35 i35_ok (le_of_ble rfl) ?_
  show Wp Pg 29 0 i35_B ⟨argEnv [.agg [.int .i64 x0.Kind, .int .i64 x0.N, .str x0.Name, sl TExpr.c x0.Kids], .str name] i35_V, [], [], 0⟩ (qf_35 r)
  unfold m_ref08_asks_B at h
  unfold i35_B
  refine weakP [] ?_
  refine Wp.seq (regP (seqN (Wp.seq (Wp.seq ?_))))
  replace h := ifS h; rcases h with ⟨g1, h⟩ | ⟨g1, h⟩
  · refine regP (seqN ?_)
    exact jumpK [.kill [0, 4, 5, 19, 28]] (w_m_ref08_asks_k1 hrec_m_ref08_asks h)
  · refine regP (seqN ?_)
    exact jumpK [.kill [0, 4, 5, 19, 28]] (w_m_ref08_asks_k1 hrec_m_ref08_asks h)
theorem w_m_ref08_asks : ∀ (n : Nat) {x0 : TExpr} {name : ByteArray} {r : Bool}, m_ref08_asks n x0 name = some r → Spec Pg 35 [.agg [.int .i64 x0.Kind, .int .i64 x0.N, .str x0.Name, sl TExpr.c x0.Kids], .str name] [] 0 (.bool r) [] 0 := by
  intro n
  induction n with
  | zero => intro x0 name r h; unfold m_ref08_asks at h; cases h
  | succ n ih => intro x0 name r h; unfold m_ref08_asks at h; exact w_m_ref08_asks_B ih h
/-! funicular/funicularref08.Asks -/
noncomputable abbrev qf_18 (r : Bool) : Ex → St → Prop := FinQ 0 [.tmp 4] (.bool r) [] 0
theorem w_m_ref08_Asks {x0 : TExpr} {name : ByteArray} {r : Bool}   (h : m_ref08_Asks x0 name = some r) : Spec Pg 18 [.agg [.int .i64 x0.Kind, .int .i64 x0.N, .str x0.Name, sl TExpr.c x0.Kids], .str name] [] 0 (.bool r) [] 0 := by
  refine Spec.intro Go.Proofs.Try.func18 i18_ok (le_of_ble rfl) ?_
  show Wp Pg 8 0 i18_B ⟨argEnv [.agg [.int .i64 x0.Kind, .int .i64 x0.N, .str x0.Name, sl TExpr.c x0.Kids], .str name] i18_V, [], [], 0⟩ (qf_18 r)
  unfold m_ref08_Asks at h
  unfold i18_B
  refine weakP [] ?_
  refine Wp.seq (regP (seqN (Wp.seq (Wp.reg ?_))))
  replace h := bndS h; obtain ⟨r0, g1, h⟩ := h
  replace h := retS h; subst h
  refine chunkT 3 (tab_cons (w_m_ref08_asks _ g1) (tab_nil _)) ?_
  refine lastT (tab_nil _) (seqN (Wp.ret ?_))
  exact finP
end Go.Proofs.Ytcmejocmohohpaa.R
