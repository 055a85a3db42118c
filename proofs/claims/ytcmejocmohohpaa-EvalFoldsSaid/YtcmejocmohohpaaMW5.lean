/- The program's functions answer what the models answer: 5. -/
import Derived.Test.YtcmejocmohohpaaMW0
import Derived.Test.YtcmejocmohohpaaMW4
set_option maxRecDepth 100000
set_option linter.unusedVariables false
set_option linter.unusedSimpArgs false
noncomputable section
namespace Go.Proofs.Ytcmejocmohohpaa.R
open Go Nat
/-! funicular/funicularref08.typed -/
noncomputable abbrev qf_32 (r : Bool) : Ex → St → Prop := FinQ 0 [.tmp 2] (.bool r) [] 0
theorem w_m_ref08_typed_k2 {x0 : TExpr} {i : Int} {r : Bool} {rec_m_ref08_typed_l1 : Int → Option Bool} (hrec_m_ref08_typed_l1 : ∀ {i : Int}, rec_m_ref08_typed_l1 i = some r → LWp Pg 54 0 i32_L0 ⟨[(0, .bad), (1, .ptr 0 0), (2, .bad), (3, .int .i64 i), (4, .bad), (5, .bad), (10, .bad), (19, .bad), (29, .bad), (37, .bad), (53, .bad)], [], [(0, .box [.int .i64 x0.Kind, .int .i64 x0.N, .str x0.Name, sl TExpr.c x0.Kids])], 1⟩ (blockQ 0 (seqQ Pg 54 0 (.seq (.reg none i32_R13) .ret) (qf_32 r)))) (h : m_ref08_typed_k2 rec_m_ref08_typed_l1 i = some r) : Wp Pg 54 0 (.reg none i32_R12) ⟨[(0, .bad), (1, .ptr 0 0), (2, .bad), (3, .int .i64 i), (4, .bad), (5, .bad), (10, .bad), (19, .bad), (29, .bad), (37, .bad), (53, .bad)], [], [(0, .box [.int .i64 x0.Kind, .int .i64 x0.N, .str x0.Name, sl TExpr.c x0.Kids])], 1⟩ (loopQ Pg 54 0 i32_L0 (blockQ 0 (seqQ Pg 54 0 (.seq (.reg none i32_R13) .ret) (qf_32 r)))) := by
  unfold m_ref08_typed_k2 at h
  refine regP (loopN ?_)
  exact jumpL [] (hrec_m_ref08_typed_l1 h)
theorem w_m_ref08_typed_k1 {x0 : TExpr} {i : Int} {r0_1 : Bool} {want : Bool} {r : Bool} {rec_m_ref08_typed_l1 : Int → Option Bool} (hrec_m_ref08_typed_l1 : ∀ {i : Int}, rec_m_ref08_typed_l1 i = some r → LWp Pg 54 0 i32_L0 ⟨[(0, .bad), (1, .ptr 0 0), (2, .bad), (3, .int .i64 i), (4, .bad), (5, .bad), (10, .bad), (19, .bad), (29, .bad), (37, .bad), (53, .bad)], [], [(0, .box [.int .i64 x0.Kind, .int .i64 x0.N, .str x0.Name, sl TExpr.c x0.Kids])], 1⟩ (blockQ 0 (seqQ Pg 54 0 (.seq (.reg none i32_R13) .ret) (qf_32 r)))) (h : m_ref08_typed_k1 rec_m_ref08_typed_l1 i r0_1 want = some r) : Wp Pg 54 0 (.seq (.reg none i32_R10) (.cond (.t 53) (.seq (.reg none i32_R11) .ret) .skip)) ⟨[(0, .bad), (1, .ptr 0 0), (2, .bad), (3, .int .i64 i), (4, .bool r0_1), (5, .bool want), (10, .bad), (19, .bad), (29, .bad), (37, .bad), (53, .bad)], [], [(0, .box [.int .i64 x0.Kind, .int .i64 x0.N, .str x0.Name, sl TExpr.c x0.Kids])], 1⟩ (blockQ 1 (seqQ Pg 54 0 (.reg none i32_R12) (loopQ Pg 54 0 i32_L0 (blockQ 0 (seqQ Pg 54 0 (.seq (.reg none i32_R13) .ret) (qf_32 r)))))) := by
  unfold m_ref08_typed_k1 at h
  refine Wp.seq (regP (seqN ?_))
  replace h := ifS h; rcases h with ⟨g12, h⟩ | ⟨g12, h⟩
  · refine condFP (Wp.skip (blockN (seqN ?_)))
    exact jumpK [.kill [4, 5, 53]] (w_m_ref08_typed_k2 (x0 := x0) hrec_m_ref08_typed_l1 h)
  · replace h := retS h; subst h
    refine condTP (Wp.seq ?_)
    refine regP (seqN (Wp.ret (blockR (seqR (loopR (blockR (seqR ?_)))))))
    exact finP
theorem w_m_ref08_typed_l1_B {x0 : TExpr} {r : Bool} {rec_m_ref08_typed : TExpr → Option Bool} (hrec_m_ref08_typed : ∀ {x0 : TExpr} {r : Bool}, rec_m_ref08_typed x0 = some r → Spec Pg 32 [.agg [.int .i64 x0.Kind, .int .i64 x0.N, .str x0.Name, sl TExpr.c x0.Kids]] [] 0 (.bool r) [] 0) {rec_m_ref08_typed_l1 : Int → Option Bool} (hrec_m_ref08_typed_l1 : ∀ {i : Int}, rec_m_ref08_typed_l1 i = some r → LWp Pg 54 0 i32_L0 ⟨[(0, .bad), (1, .ptr 0 0), (2, .bad), (3, .int .i64 i), (4, .bad), (5, .bad), (10, .bad), (19, .bad), (29, .bad), (37, .bad), (53, .bad)], [], [(0, .box [.int .i64 x0.Kind, .int .i64 x0.N, .str x0.Name, sl TExpr.c x0.Kids])], 1⟩ (blockQ 0 (seqQ Pg 54 0 (.seq (.reg none i32_R13) .ret) (qf_32 r)))) {i : Int} (h : m_ref08_typed_l1_B rec_m_ref08_typed x0 rec_m_ref08_typed_l1 i = some r) : LWp Pg 54 0 i32_L0 ⟨[(0, .bad), (1, .ptr 0 0), (2, .bad), (3, .int .i64 i), (4, .bad), (5, .bad), (10, .bad), (19, .bad), (29, .bad), (37, .bad), (53, .bad)], [], [(0, .box [.int .i64 x0.Kind, .int .i64 x0.N, .str x0.Name, sl TExpr.c x0.Kids])], 1⟩ (blockQ 0 (seqQ Pg 54 0 (.seq (.reg none i32_R13) .ret) (qf_32 r))) := by
  unfold m_ref08_typed_l1_B at h
  refine LWp.stepC i32_L0.eq_1 ?_
  refine Wp.seq (Wp.seq (regP (seqN ?_)))
  replace h := ifS h; rcases h with ⟨g1, h⟩ | ⟨g1, h⟩
  · refine condTP (Wp.skip (seqN (Wp.seq (Wp.block (Wp.seq (Wp.seq (Wp.reg ?_)))))))
    replace h := bndS h; obtain ⟨e, g2, h⟩ := h
    replace h := bndS h; obtain ⟨r0, g3, h⟩ := h
    refine chunkT 6 (tab_cons (hrec_m_ref08_typed g3) (tab_nil _)) ?_
    refine lastT (tab_nil _) (seqN ?_)
    replace h := ifS h; rcases h with ⟨g4, h⟩ | ⟨g4, h⟩
    · refine condFP (Wp.skip (seqN (Wp.seq (Wp.reg ?_))))
      replace h := bndS h; obtain ⟨r0_1, g5, h⟩ := h
      refine chunkT 7 (tab_cons (w_m_ref08_truth g5) (tab_nil _)) ?_
      refine lastT (tab_nil _) (seqN (Wp.seq (Wp.seq ?_)))
      refine regP (seqN ?_)
      replace h := ifS h; rcases h with ⟨g6, h⟩ | ⟨g6, h⟩
      · refine condTP (Wp.seq (Wp.seq (Wp.reg ?_)))
        replace h := bndS h; obtain ⟨e_1, g7, h⟩ := h
        replace h := bndS h; obtain ⟨r0_2, g8, h⟩ := h
        refine chunkT 7 (tab_cons (w_m_ref08_truth g8) (tab_nil _)) ?_
        refine lastT (tab_nil _) (seqN ?_)
        replace h := ifS h; rcases h with ⟨g9, h⟩ | ⟨g9, h⟩
        · refine condFP (Wp.skip (seqN (Wp.out (seqO (blockO (seqN ?_))))))
          exact jumpK [.kill [4, 10, 19, 29, 37]] (w_m_ref08_typed_k2 (x0 := x0) hrec_m_ref08_typed_l1 h)
        · replace h := retS h; subst h
          refine condTP (Wp.seq ?_)
          refine regP (seqN (Wp.ret (seqR (seqR (blockR (seqR (loopR (blockR (seqR ?_)))))))))
          exact finP
      · refine condFP (Wp.skip (seqN (Wp.seq ?_)))
        replace h := ifS h; rcases h with ⟨g10, h⟩ | ⟨g10, h⟩
        · refine regP (seqN ?_)
          exact jumpK [.kill [10, 19, 29]] (w_m_ref08_typed_k1 (x0 := x0) hrec_m_ref08_typed_l1 h)
        · replace h := ifS h; rcases h with ⟨g11, h⟩ | ⟨g11, h⟩
          · refine regP (seqN ?_)
            exact jumpK [.kill [10, 19, 29]] (w_m_ref08_typed_k1 (x0 := x0) hrec_m_ref08_typed_l1 h)
          · refine regP (seqN ?_)
            exact jumpK [.kill [10, 19, 29]] (w_m_ref08_typed_k1 (x0 := x0) hrec_m_ref08_typed_l1 h)
    · replace h := retS h; subst h
      refine condTP (Wp.seq ?_)
      refine regP (seqN (Wp.ret (seqR (blockR (seqR (loopR (blockR (seqR ?_))))))))
      exact finP
  · replace h := retS h; subst h
    refine condFP (Wp.out (seqO (loopO (blockO (seqN (Wp.seq ?_))))))
    refine regP (seqN (Wp.ret ?_))
    exact finP
theorem w_m_ref08_typed_l1 {x0 : TExpr} {r : Bool} {rec_m_ref08_typed : TExpr → Option Bool} (hrec_m_ref08_typed : ∀ {x0 : TExpr} {r : Bool}, rec_m_ref08_typed x0 = some r → Spec Pg 32 [.agg [.int .i64 x0.Kind, .int .i64 x0.N, .str x0.Name, sl TExpr.c x0.Kids]] [] 0 (.bool r) [] 0) : ∀ (n : Nat) {i : Int}, m_ref08_typed_l1 rec_m_ref08_typed x0 n i = some r → LWp Pg 54 0 i32_L0 ⟨[(0, .bad), (1, .ptr 0 0), (2, .bad), (3, .int .i64 i), (4, .bad), (5, .bad), (10, .bad), (19, .bad), (29, .bad), (37, .bad), (53, .bad)], [], [(0, .box [.int .i64 x0.Kind, .int .i64 x0.N, .str x0.Name, sl TExpr.c x0.Kids])], 1⟩ (blockQ 0 (seqQ Pg 54 0 (.seq (.reg none i32_R13) .ret) (qf_32 r))) := by
  intro n
  induction n with
  | zero => intro i h; unfold m_ref08_typed_l1 at h; cases h
  | succ n ih => intro i h; unfold m_ref08_typed_l1 at h; exact w_m_ref08_typed_l1_B hrec_m_ref08_typed ih h
theorem w_m_ref08_typed_B {x0 : TExpr} {r : Bool} {rec_m_ref08_typed : TExpr → Option Bool} (hrec_m_ref08_typed : ∀ {x0 : TExpr} {r : Bool}, rec_m_ref08_typed x0 = some r → Spec Pg 32 [.agg [.int .i64 x0.Kind, .int .i64 x0.N, .str x0.Name, sl TExpr.c x0.Kids]] [] 0 (.bool r) [] 0) (h : m_ref08_typed_B rec_m_ref08_typed x0 = some r) : Spec Pg 32 [.agg [.int .i64 x0.Kind, .int .i64 x0.N, .str x0.Name, sl TExpr.c x0.Kids]] [] 0 (.bool r) [] 0 := by
  refine Spec.intro Go.Proofs.Try.func32 i32_ok (le_of_ble rfl) ?_
  show Wp Pg 54 0 i32_B ⟨argEnv [.agg [.int .i64 x0.Kind, .int .i64 x0.N, .str x0.Name, sl TExpr.c x0.Kids]] i32_V, [], [], 0⟩ (qf_32 r)
  unfold m_ref08_typed_B at h
  unfold i32_B
  refine weakP [] ?_
  refine Wp.seq (regP (seqN (Wp.seq (Wp.seq ?_))))
  refine regP (seqN (Wp.block (Wp.loop ?_)))
  exact jumpL [.kill [0, 2, 4, 5, 10, 19, 29, 37, 53]] (w_m_ref08_typed_l1 hrec_m_ref08_typed _ h)
theorem w_m_ref08_typed : ∀ (n : Nat) {x0 : TExpr} {r : Bool}, m_ref08_typed n x0 = some r → Spec Pg 32 [.agg [.int .i64 x0.Kind, .int .i64 x0.N, .str x0.Name, sl TExpr.c x0.Kids]] [] 0 (.bool r) [] 0 := by
  intro n
  induction n with
  | zero => intro x0 r h; unfold m_ref08_typed at h; cases h
  | succ n ih => intro x0 r h; unfold m_ref08_typed at h; exact w_m_ref08_typed_B ih h
/-! funicular/funicularref08.Truth -/
noncomputable abbrev qf_16 (r : (Bool × Int)) : Ex → St → Prop := FinQ 0 [.tmp 2, .tmp 3] (.tup [.bool r.1, .int .i64 r.2]) [] 0
theorem w_m_ref08_Truth {x0 : TExpr} {r : (Bool × Int)}   (h : m_ref08_Truth x0 = some r) : Spec Pg 16 [.agg [.int .i64 x0.Kind, .int .i64 x0.N, .str x0.Name, sl TExpr.c x0.Kids]] [] 0 (.tup [.bool r.1, .int .i64 r.2]) [] 0 := by
  refine Spec.intro Go.Proofs.Try.func16 i16_ok (le_of_ble rfl) ?_
  show Wp Pg 16 0 i16_B ⟨argEnv [.agg [.int .i64 x0.Kind, .int .i64 x0.N, .str x0.Name, sl TExpr.c x0.Kids]] i16_V, [], [], 0⟩ (qf_16 r)
  unfold m_ref08_Truth at h
  unfold i16_B
  refine weakP [] ?_
  refine Wp.seq (regP (seqN (Wp.seq (Wp.seq (Wp.reg ?_)))))
  replace h := bndS h; obtain ⟨r0, g1, h⟩ := h
  refine chunkT 2 (tab_cons (w_m_ref07_Check g1) (tab_nil _)) ?_
  refine lastT (tab_nil _) (seqN (Wp.seq ?_))
  refine regP (seqN ?_)
  replace h := ifS h; rcases h with ⟨g2, h⟩ | ⟨g2, h⟩
  · replace h := retS h; subst h
    refine condTP (Wp.seq ?_)
    refine regP (seqN (Wp.ret (seqR ?_)))
    exact finP
  · refine condFP (Wp.skip (seqN (Wp.seq (Wp.seq (Wp.reg ?_)))))
    replace h := bndS h; obtain ⟨r0_1, g3, h⟩ := h
    refine chunkT 2 (tab_cons (w_m_ref08_typed _ g3) (tab_nil _)) ?_
    refine lastT (tab_nil _) (seqN ?_)
    replace h := ifS h; rcases h with ⟨g4, h⟩ | ⟨g4, h⟩
    · refine condFP (Wp.skip (seqN (Wp.seq (Wp.reg ?_))))
      replace h := bndS h; obtain ⟨r0_2, g5, h⟩ := h
      replace h := retS h; subst h
      refine chunkT 3 (tab_cons (w_m_ref08_truth g5) (tab_nil _)) ?_
      refine lastT (tab_nil _) (seqN (Wp.ret ?_))
      exact finP
    · replace h := retS h; subst h
      refine condTP (Wp.seq ?_)
      refine regP (seqN (Wp.ret (seqR ?_)))
      exact finP
/-! funicular/funicularref09.Get -/
noncomputable abbrev qf_22 (r : (Int × Bool)) : Ex → St → Prop := FinQ 0 [.tmp 4, .tmp 5] (.tup [.int .i64 r.1, .bool r.2]) [] 0
theorem w_m_ref09_Get_l1_B {v : TVars} {name : ByteArray} {r : (Int × Bool)}   {rec_m_ref09_Get_l1 : Int → Option (Int × Bool)} (hrec_m_ref09_Get_l1 : ∀ {i : Int}, rec_m_ref09_Get_l1 i = some r → LWp Pg 26 0 i22_L0 ⟨[(0, .bad), (1, .str name), (2, .ptr 0 0), (4, .bad), (5, .bad), (6, .int .i64 i), (11, .bad), (20, .bad)], [], [(0, .box [sl cs v.Names, sl (ci .i64) v.Vals])], 1⟩ (blockQ 0 (seqQ Pg 26 0 (.seq (.reg none i22_R6) .ret) (qf_22 r)))) {i : Int} (h : m_ref09_Get_l1_B  v name rec_m_ref09_Get_l1 i = some r) : LWp Pg 26 0 i22_L0 ⟨[(0, .bad), (1, .str name), (2, .ptr 0 0), (4, .bad), (5, .bad), (6, .int .i64 i), (11, .bad), (20, .bad)], [], [(0, .box [sl cs v.Names, sl (ci .i64) v.Vals])], 1⟩ (blockQ 0 (seqQ Pg 26 0 (.seq (.reg none i22_R6) .ret) (qf_22 r))) := by
  unfold m_ref09_Get_l1_B at h
  refine LWp.stepC i22_L0.eq_1 ?_
  refine Wp.seq (Wp.seq (regP (seqN ?_)))
  replace h := ifS h; rcases h with ⟨g1, h⟩ | ⟨g1, h⟩
  · refine condTP (Wp.skip (seqN (Wp.seq (Wp.block (Wp.seq ?_)))))
    replace h := bndS h; obtain ⟨e, g2, h⟩ := h
    refine regP (seqN ?_)
    replace h := ifS h; rcases h with ⟨g3, h⟩ | ⟨g3, h⟩
    · refine condTP (Wp.seq ?_)
      replace h := bndS h; obtain ⟨e_1, g4, h⟩ := h
      replace h := retS h; subst h
      refine regP (seqN (Wp.ret (blockR (seqR (loopR (blockR (seqR ?_)))))))
      exact finP
    · refine condFP (Wp.skip (blockN (seqN ?_)))
      refine regP (loopN ?_)
      exact jumpL [.kill [11, 20]] (hrec_m_ref09_Get_l1 h)
  · replace h := retS h; subst h
    refine condFP (Wp.out (seqO (loopO (blockO (seqN (Wp.seq ?_))))))
    refine regP (seqN (Wp.ret ?_))
    exact finP
theorem w_m_ref09_Get_l1 {v : TVars} {name : ByteArray} {r : (Int × Bool)}   : ∀ (n : Nat) {i : Int}, m_ref09_Get_l1  v name n i = some r → LWp Pg 26 0 i22_L0 ⟨[(0, .bad), (1, .str name), (2, .ptr 0 0), (4, .bad), (5, .bad), (6, .int .i64 i), (11, .bad), (20, .bad)], [], [(0, .box [sl cs v.Names, sl (ci .i64) v.Vals])], 1⟩ (blockQ 0 (seqQ Pg 26 0 (.seq (.reg none i22_R6) .ret) (qf_22 r))) := by
  intro n
  induction n with
  | zero => intro i h; unfold m_ref09_Get_l1 at h; cases h
  | succ n ih => intro i h; unfold m_ref09_Get_l1 at h; exact w_m_ref09_Get_l1_B  ih h
theorem w_m_ref09_Get {v : TVars} {name : ByteArray} {r : (Int × Bool)}   (h : m_ref09_Get v name = some r) : Spec Pg 22 [.agg [sl cs v.Names, sl (ci .i64) v.Vals], .str name] [] 0 (.tup [.int .i64 r.1, .bool r.2]) [] 0 := by
  refine Spec.intro Go.Proofs.Try.func22 i22_ok (le_of_ble rfl) ?_
  show Wp Pg 26 0 i22_B ⟨argEnv [.agg [sl cs v.Names, sl (ci .i64) v.Vals], .str name] i22_V, [], [], 0⟩ (qf_22 r)
  unfold m_ref09_Get at h
  unfold i22_B
  refine weakP [] ?_
  refine Wp.seq (regP (seqN (Wp.seq (Wp.seq ?_))))
  refine regP (seqN (Wp.block (Wp.loop ?_)))
  exact jumpL [.kill [0, 4, 5, 11, 20]] (w_m_ref09_Get_l1 _ h)
/-! funicular/funicularref10.truth -/
noncomputable abbrev qf_50 (r : TValue) : Ex → St → Prop := FinQ 0 [.cell 2 true 2] (.agg [.bool r.Bool, .int .i64 r.N]) [] 0
theorem w_m_ref10_truth {b : Bool} {r : TValue}   (h : m_ref10_truth b = some r) : Spec Pg 50 [.bool b] [] 0 (.agg [.bool r.Bool, .int .i64 r.N]) [] 0 := by
  refine Spec.intro Go.Proofs.Try.func50 i50_ok (le_of_ble rfl) ?_
  show Wp Pg 6 0 i50_B ⟨argEnv [.bool b] i50_V, [], [], 0⟩ (qf_50 r)
  unfold m_ref10_truth at h
  unfold i50_B
  refine weakP [] ?_
  refine Wp.seq (regP (seqN (Wp.seq (Wp.seq ?_))))
  refine regP (seqN ?_)
  replace h := ifS h; rcases h with ⟨g1, h⟩ | ⟨g1, h⟩
  · replace h := retS h; subst h
    refine condTP (Wp.seq ?_)
    refine regP (seqN (Wp.ret (seqR ?_)))
    exact finP
  · replace h := retS h; subst h
    refine condFP (Wp.skip (seqN (Wp.seq ?_)))
    refine regP (seqN (Wp.ret ?_))
    exact finP
/-! funicular/funicularref10.big -/
noncomputable abbrev qf_66 (r : TBig) : Ex → St → Prop := FinQ 0 [.cell 2 true 4] (.agg [.bool r.Minus, .int .u64 r.D.a0, .int .u64 r.D.a1, .int .u64 r.D.a2]) [] 0
theorem w_m_ref10_big_k1 {n0 : Int} {m : Int} {r : TBig}   (h : m_ref10_big_k1 n0 m = some r) : Wp Pg 18 0 (.seq (.reg none i66_R4) .ret) ⟨[(0, .int .i64 n0), (2, .ptr 0 0), (3, .int .u64 m), (7, .bad)], [], [(0, .box [.bool false, .int .u64 (0 : Int), .int .u64 (0 : Int), .int .u64 (0 : Int)])], 1⟩ (qf_66 r) := by
  unfold m_ref10_big_k1 at h
  replace h := retS h; subst h
  refine Wp.seq (regP (seqN (Wp.ret ?_)))
  exact finP
theorem w_m_ref10_big {n0 : Int} {r : TBig}   (h : m_ref10_big n0 = some r) : Spec Pg 66 [.int .i64 n0] [] 0 (.agg [.bool r.Minus, .int .u64 r.D.a0, .int .u64 r.D.a1, .int .u64 r.D.a2]) [] 0 := by
  refine Spec.intro Go.Proofs.Try.func66 i66_ok (le_of_ble rfl) ?_
  show Wp Pg 18 0 i66_B ⟨argEnv [.int .i64 n0] i66_V, [], [], 0⟩ (qf_66 r)
  unfold m_ref10_big at h
  unfold i66_B
  refine weakP [] ?_
  refine Wp.seq (regP (seqN (Wp.seq ?_)))
  refine regP (seqN (Wp.seq (Wp.seq ?_)))
  refine regP (seqN ?_)
  replace h := ifS h; rcases h with ⟨g1, h⟩ | ⟨g1, h⟩
  · refine condTP ?_
    refine regP (seqN ?_)
    exact jumpK [.kill [7]] (w_m_ref10_big_k1 h)
  · refine condFP (Wp.skip (seqN ?_))
    exact jumpK [.kill [7]] (w_m_ref10_big_k1 h)
/-! funicular/funicularref10.carry -/
noncomputable abbrev qf_79 (r : TBig) : Ex → St → Prop := FinQ 0 [.cell 2 true 4] (.agg [.bool r.Minus, .int .u64 r.D.a0, .int .u64 r.D.a1, .int .u64 r.D.a2]) [] 0
theorem w_m_ref10_carry {b : TBig} {r : TBig}   (h : m_ref10_carry b = some r) : Spec Pg 79 [.agg [.bool b.Minus, .int .u64 b.D.a0, .int .u64 b.D.a1, .int .u64 b.D.a2]] [] 0 (.agg [.bool r.Minus, .int .u64 r.D.a0, .int .u64 r.D.a1, .int .u64 r.D.a2]) [] 0 := by
  refine Spec.intro Go.Proofs.Try.func79 i79_ok (le_of_ble rfl) ?_
  show Wp Pg 36 0 i79_B ⟨argEnv [.agg [.bool b.Minus, .int .u64 b.D.a0, .int .u64 b.D.a1, .int .u64 b.D.a2]] i79_V, [], [], 0⟩ (qf_79 r)
  unfold m_ref10_carry at h
  unfold i79_B
  refine weakP [] ?_
  replace h := retS h; subst h
  refine Wp.seq (regP (seqN (Wp.seq ?_)))
  refine regP (seqN (Wp.seq ?_))
  refine regP (seqN (Wp.seq ?_))
  refine regP (seqN (Wp.seq ?_))
  refine regP (seqN (Wp.seq ?_))
  refine regP (seqN (Wp.ret ?_))
  exact finP
/-! funicular/funicularref10.less -/
noncomputable abbrev qf_80 (r : Bool) : Ex → St → Prop := FinQ 0 [.tmp 4] (.bool r) [] 0
theorem w_m_ref10_less_k1 {a : TBig} {b : TBig} {i : Int} {v18 : Bool} {r : Bool} {rec_m_ref10_less_l1 : Int → Option Bool} (hrec_m_ref10_less_l1 : ∀ {i : Int}, rec_m_ref10_less_l1 i = some r → LWp Pg 28 0 i80_L0 ⟨[(0, .bad), (1, .bad), (2, .ptr 0 0), (3, .ptr 1 0), (4, .bad), (5, .int .i64 i), (7, .bad), (18, .bad)], [], [(0, .box [.bool a.Minus, .int .u64 a.D.a0, .int .u64 a.D.a1, .int .u64 a.D.a2]), (1, .box [.bool b.Minus, .int .u64 b.D.a0, .int .u64 b.D.a1, .int .u64 b.D.a2])], 2⟩ (blockQ 0 (seqQ Pg 28 0 (.seq (.reg none i80_R6) .ret) (qf_80 r)))) (h : m_ref10_less_k1 rec_m_ref10_less_l1 a b i v18 = some r) : Wp Pg 28 0 (.cond (.t 18) (.seq (.reg (some []) i80_R4) .ret) .skip) ⟨[(0, .bad), (1, .bad), (2, .ptr 0 0), (3, .ptr 1 0), (4, .bad), (5, .int .i64 i), (7, .bad), (18, .bool v18)], [], [(0, .box [.bool a.Minus, .int .u64 a.D.a0, .int .u64 a.D.a1, .int .u64 a.D.a2]), (1, .box [.bool b.Minus, .int .u64 b.D.a0, .int .u64 b.D.a1, .int .u64 b.D.a2])], 2⟩ (blockQ 1 (seqQ Pg 28 0 (.reg none i80_R5) (loopQ Pg 28 0 i80_L0 (blockQ 0 (seqQ Pg 28 0 (.seq (.reg none i80_R6) .ret) (qf_80 r)))))) := by
  unfold m_ref10_less_k1 at h
  replace h := ifS h; rcases h with ⟨g5, h⟩ | ⟨g5, h⟩
  · refine condTP (Wp.seq ?_)
    replace h := ifS h; rcases h with ⟨g6, h⟩ | ⟨g6, h⟩
    · replace h := retS h; subst h
      refine drawP mixed (tab_nil _) (seqN (Wp.ret (blockR (seqR (loopR (blockR (seqR ?_)))))))
      exact finP
    · replace h := ifS h; rcases h with ⟨g7, h⟩ | ⟨g7, h⟩
      · replace h := retS h; subst h
        refine drawP mixed (tab_nil _) (seqN (Wp.ret (blockR (seqR (loopR (blockR (seqR ?_)))))))
        exact finP
      · replace h := reqS h; obtain ⟨g8, h⟩ := h
        replace h := retS h; subst h
        refine drawP mixed (tab_nil _) (seqN (Wp.ret (blockR (seqR (loopR (blockR (seqR ?_)))))))
        exact finP
  · refine condFP (Wp.skip (blockN (seqN ?_)))
    refine regP (loopN ?_)
    exact jumpL [.kill [18]] (hrec_m_ref10_less_l1 h)
theorem w_m_ref10_less_l1_B {a : TBig} {b : TBig} {r : Bool}   {rec_m_ref10_less_l1 : Int → Option Bool} (hrec_m_ref10_less_l1 : ∀ {i : Int}, rec_m_ref10_less_l1 i = some r → LWp Pg 28 0 i80_L0 ⟨[(0, .bad), (1, .bad), (2, .ptr 0 0), (3, .ptr 1 0), (4, .bad), (5, .int .i64 i), (7, .bad), (18, .bad)], [], [(0, .box [.bool a.Minus, .int .u64 a.D.a0, .int .u64 a.D.a1, .int .u64 a.D.a2]), (1, .box [.bool b.Minus, .int .u64 b.D.a0, .int .u64 b.D.a1, .int .u64 b.D.a2])], 2⟩ (blockQ 0 (seqQ Pg 28 0 (.seq (.reg none i80_R6) .ret) (qf_80 r)))) {i : Int} (h : m_ref10_less_l1_B  a b rec_m_ref10_less_l1 i = some r) : LWp Pg 28 0 i80_L0 ⟨[(0, .bad), (1, .bad), (2, .ptr 0 0), (3, .ptr 1 0), (4, .bad), (5, .int .i64 i), (7, .bad), (18, .bad)], [], [(0, .box [.bool a.Minus, .int .u64 a.D.a0, .int .u64 a.D.a1, .int .u64 a.D.a2]), (1, .box [.bool b.Minus, .int .u64 b.D.a0, .int .u64 b.D.a1, .int .u64 b.D.a2])], 2⟩ (blockQ 0 (seqQ Pg 28 0 (.seq (.reg none i80_R6) .ret) (qf_80 r))) := by
  unfold m_ref10_less_l1_B at h
  refine LWp.stepC i80_L0.eq_1 ?_
  refine Wp.seq (Wp.seq (regP (seqN ?_)))
  replace h := ifS h; rcases h with ⟨g1, h⟩ | ⟨g1, h⟩
  · refine condTP (Wp.skip (seqN (Wp.seq (Wp.block (Wp.seq ?_)))))
    replace h := ifS h; rcases h with ⟨g2, h⟩ | ⟨g2, h⟩
    · refine drawP mixed (tab_nil _) (seqN ?_)
      exact jumpK [.kill [7], .tidy] (w_m_ref10_less_k1 hrec_m_ref10_less_l1 h)
    · replace h := ifS h; rcases h with ⟨g3, h⟩ | ⟨g3, h⟩
      · refine drawP mixed (tab_nil _) (seqN ?_)
        exact jumpK [.kill [7], .tidy] (w_m_ref10_less_k1 hrec_m_ref10_less_l1 h)
      · replace h := reqS h; obtain ⟨g4, h⟩ := h
        refine drawP mixed (tab_nil _) (seqN ?_)
        exact jumpK [.kill [7], .tidy] (w_m_ref10_less_k1 hrec_m_ref10_less_l1 h)
  · replace h := retS h; subst h
    refine condFP (Wp.out (seqO (loopO (blockO (seqN (Wp.seq ?_))))))
    refine regP (seqN (Wp.ret ?_))
    exact finP
theorem w_m_ref10_less_l1 {a : TBig} {b : TBig} {r : Bool}   : ∀ (n : Nat) {i : Int}, m_ref10_less_l1  a b n i = some r → LWp Pg 28 0 i80_L0 ⟨[(0, .bad), (1, .bad), (2, .ptr 0 0), (3, .ptr 1 0), (4, .bad), (5, .int .i64 i), (7, .bad), (18, .bad)], [], [(0, .box [.bool a.Minus, .int .u64 a.D.a0, .int .u64 a.D.a1, .int .u64 a.D.a2]), (1, .box [.bool b.Minus, .int .u64 b.D.a0, .int .u64 b.D.a1, .int .u64 b.D.a2])], 2⟩ (blockQ 0 (seqQ Pg 28 0 (.seq (.reg none i80_R6) .ret) (qf_80 r))) := by
  intro n
  induction n with
  | zero => intro i h; unfold m_ref10_less_l1 at h; cases h
  | succ n ih => intro i h; unfold m_ref10_less_l1 at h; exact w_m_ref10_less_l1_B  ih h
theorem w_m_ref10_less {a : TBig} {b : TBig} {r : Bool}   (h : m_ref10_less a b = some r) : Spec Pg 80 [.agg [.bool a.Minus, .int .u64 a.D.a0, .int .u64 a.D.a1, .int .u64 a.D.a2], .agg [.bool b.Minus, .int .u64 b.D.a0, .int .u64 b.D.a1, .int .u64 b.D.a2]] [] 0 (.bool r) [] 0 := by
  refine Spec.intro Go.Proofs.Try.func80 i80_ok (le_of_ble rfl) ?_
  show Wp Pg 28 0 i80_B ⟨argEnv [.agg [.bool a.Minus, .int .u64 a.D.a0, .int .u64 a.D.a1, .int .u64 a.D.a2], .agg [.bool b.Minus, .int .u64 b.D.a0, .int .u64 b.D.a1, .int .u64 b.D.a2]] i80_V, [], [], 0⟩ (qf_80 r)
  unfold m_ref10_less at h
  unfold i80_B
  refine weakP [] ?_
  refine Wp.seq (regP (seqN (Wp.seq (Wp.seq ?_))))
  refine regP (seqN (Wp.block (Wp.loop ?_)))
  exact jumpL [.kill [0, 1, 4, 7, 18], .tidy] (w_m_ref10_less_l1 _ h)
/-! funicular/funicularref10.sum -/
noncomputable abbrev qf_67 (r : TBig) : Ex → St → Prop := FinQ 0 [.cell 4 true 4] (.agg [.bool r.Minus, .int .u64 r.D.a0, .int .u64 r.D.a1, .int .u64 r.D.a2]) [] 0
theorem w_m_ref10_sum_k4 {a : TBig} {b : TBig} {i : Int} {borrow_1 : Int} {out_1_1 : Int} {out_2_1 : Int} {out_3_1 : Int} {r : TBig} {rec_m_ref10_sum_l1 : Int → Int → Int → Int → Int → Option TBig} (hrec_m_ref10_sum_l1 : ∀ {borrow : Int} {i : Int} {out_1 : Int} {out_2 : Int} {out_3 : Int}, rec_m_ref10_sum_l1 borrow i out_1 out_2 out_3 = some r → LWp Pg 76 0 i67_L0 ⟨[(0, .bad), (1, .bad), (2, .ptr 0 0), (3, .ptr 1 0), (4, .ptr 2 0), (5, .ptr 3 0), (6, .int .u64 borrow), (7, .int .i64 i), (8, .bad), (9, .bad), (14, .bad), (43, .bad), (51, .bad), (66, .bad)], [], [(0, .box [.bool a.Minus, .int .u64 a.D.a0, .int .u64 a.D.a1, .int .u64 a.D.a2]), (1, .box [.bool b.Minus, .int .u64 b.D.a0, .int .u64 b.D.a1, .int .u64 b.D.a2]), (2, .box [.bool false, .int .u64 (0 : Int), .int .u64 (0 : Int), .int .u64 (0 : Int)]), (3, .box [.bool a.Minus, .int .u64 out_1, .int .u64 out_2, .int .u64 out_3])], 4⟩ (blockQ 0 (seqQ Pg 76 0 (.seq (.reg none i67_R17) .ret) (qf_67 r)))) (h : m_ref10_sum_k4 rec_m_ref10_sum_l1 i borrow_1 out_1_1 out_2_1 out_3_1 = some r) : Wp Pg 76 0 (.reg none i67_R16) ⟨[(0, .bad), (1, .bad), (2, .ptr 0 0), (3, .ptr 1 0), (4, .ptr 2 0), (5, .ptr 3 0), (6, .int .u64 borrow_1), (7, .int .i64 i), (8, .bad), (9, .bad), (14, .bad), (43, .bad), (51, .bad), (66, .bad)], [], [(0, .box [.bool a.Minus, .int .u64 a.D.a0, .int .u64 a.D.a1, .int .u64 a.D.a2]), (1, .box [.bool b.Minus, .int .u64 b.D.a0, .int .u64 b.D.a1, .int .u64 b.D.a2]), (2, .box [.bool false, .int .u64 (0 : Int), .int .u64 (0 : Int), .int .u64 (0 : Int)]), (3, .box [.bool a.Minus, .int .u64 out_1_1, .int .u64 out_2_1, .int .u64 out_3_1])], 4⟩ (loopQ Pg 76 0 i67_L0 (blockQ 0 (seqQ Pg 76 0 (.seq (.reg none i67_R17) .ret) (qf_67 r)))) := by
  unfold m_ref10_sum_k4 at h
  refine regP (loopN ?_)
  exact jumpL [] (hrec_m_ref10_sum_l1 h)
theorem w_m_ref10_sum_k3 {a : TBig} {b : TBig} {i : Int} {out_1 : Int} {out_2 : Int} {out_3 : Int} {take : Int} {borrow_1 : Int} {from0_1 : Int} {r : TBig} {rec_m_ref10_sum_l1 : Int → Int → Int → Int → Int → Option TBig} (hrec_m_ref10_sum_l1 : ∀ {borrow : Int} {i : Int} {out_1 : Int} {out_2 : Int} {out_3 : Int}, rec_m_ref10_sum_l1 borrow i out_1 out_2 out_3 = some r → LWp Pg 76 0 i67_L0 ⟨[(0, .bad), (1, .bad), (2, .ptr 0 0), (3, .ptr 1 0), (4, .ptr 2 0), (5, .ptr 3 0), (6, .int .u64 borrow), (7, .int .i64 i), (8, .bad), (9, .bad), (14, .bad), (43, .bad), (51, .bad), (66, .bad)], [], [(0, .box [.bool a.Minus, .int .u64 a.D.a0, .int .u64 a.D.a1, .int .u64 a.D.a2]), (1, .box [.bool b.Minus, .int .u64 b.D.a0, .int .u64 b.D.a1, .int .u64 b.D.a2]), (2, .box [.bool false, .int .u64 (0 : Int), .int .u64 (0 : Int), .int .u64 (0 : Int)]), (3, .box [.bool a.Minus, .int .u64 out_1, .int .u64 out_2, .int .u64 out_3])], 4⟩ (blockQ 0 (seqQ Pg 76 0 (.seq (.reg none i67_R17) .ret) (qf_67 r)))) (h : m_ref10_sum_k3 rec_m_ref10_sum_l1 i out_1 out_2 out_3 take borrow_1 from0_1 = some r) : Wp Pg 76 0 (.reg none i67_R15) ⟨[(0, .bad), (1, .bad), (2, .ptr 0 0), (3, .ptr 1 0), (4, .ptr 2 0), (5, .ptr 3 0), (6, .int .u64 borrow_1), (7, .int .i64 i), (8, .int .u64 take), (9, .int .u64 from0_1), (14, .bad), (43, .bad), (51, .bad), (66, .bad)], [], [(0, .box [.bool a.Minus, .int .u64 a.D.a0, .int .u64 a.D.a1, .int .u64 a.D.a2]), (1, .box [.bool b.Minus, .int .u64 b.D.a0, .int .u64 b.D.a1, .int .u64 b.D.a2]), (2, .box [.bool false, .int .u64 (0 : Int), .int .u64 (0 : Int), .int .u64 (0 : Int)]), (3, .box [.bool a.Minus, .int .u64 out_1, .int .u64 out_2, .int .u64 out_3])], 4⟩ (blockQ 1 (seqQ Pg 76 0 (.reg none i67_R16) (loopQ Pg 76 0 i67_L0 (blockQ 0 (seqQ Pg 76 0 (.seq (.reg none i67_R17) .ret) (qf_67 r)))))) := by
  unfold m_ref10_sum_k3 at h
  replace h := ifS h; rcases h with ⟨g14, h⟩ | ⟨g14, h⟩
  · refine regP (blockN (seqN ?_))
    exact jumpK [.kill [8, 9]] (w_m_ref10_sum_k4 (a := a) (b := b) hrec_m_ref10_sum_l1 h)
  · replace h := ifS h; rcases h with ⟨g15, h⟩ | ⟨g15, h⟩
    · refine regP (blockN (seqN ?_))
      exact jumpK [.kill [8, 9]] (w_m_ref10_sum_k4 (a := a) (b := b) hrec_m_ref10_sum_l1 h)
    · replace h := reqS h; obtain ⟨g16, h⟩ := h
      refine regP (blockN (seqN ?_))
      exact jumpK [.kill [8, 9]] (w_m_ref10_sum_k4 (a := a) (b := b) hrec_m_ref10_sum_l1 h)
theorem w_m_ref10_sum_k2 {a : TBig} {b : TBig} {i : Int} {out_1 : Int} {out_2 : Int} {out_3 : Int} {take : Int} {from0 : Int} {r : TBig} {rec_m_ref10_sum_l1 : Int → Int → Int → Int → Int → Option TBig} (hrec_m_ref10_sum_l1 : ∀ {borrow : Int} {i : Int} {out_1 : Int} {out_2 : Int} {out_3 : Int}, rec_m_ref10_sum_l1 borrow i out_1 out_2 out_3 = some r → LWp Pg 76 0 i67_L0 ⟨[(0, .bad), (1, .bad), (2, .ptr 0 0), (3, .ptr 1 0), (4, .ptr 2 0), (5, .ptr 3 0), (6, .int .u64 borrow), (7, .int .i64 i), (8, .bad), (9, .bad), (14, .bad), (43, .bad), (51, .bad), (66, .bad)], [], [(0, .box [.bool a.Minus, .int .u64 a.D.a0, .int .u64 a.D.a1, .int .u64 a.D.a2]), (1, .box [.bool b.Minus, .int .u64 b.D.a0, .int .u64 b.D.a1, .int .u64 b.D.a2]), (2, .box [.bool false, .int .u64 (0 : Int), .int .u64 (0 : Int), .int .u64 (0 : Int)]), (3, .box [.bool a.Minus, .int .u64 out_1, .int .u64 out_2, .int .u64 out_3])], 4⟩ (blockQ 0 (seqQ Pg 76 0 (.seq (.reg none i67_R17) .ret) (qf_67 r)))) (h : m_ref10_sum_k2 rec_m_ref10_sum_l1 i out_1 out_2 out_3 take from0 = some r) : Wp Pg 76 0 (.seq (.seq (.reg none i67_R12) (.cond (.t 66) (.seq (.reg none i67_R13) (.reg none i67_R14)) .skip)) (.reg none i67_R15)) ⟨[(0, .bad), (1, .bad), (2, .ptr 0 0), (3, .ptr 1 0), (4, .ptr 2 0), (5, .ptr 3 0), (6, .int .u64 (0 : Int)), (7, .int .i64 i), (8, .int .u64 take), (9, .int .u64 from0), (14, .bad), (43, .bad), (51, .bad), (66, .bad)], [], [(0, .box [.bool a.Minus, .int .u64 a.D.a0, .int .u64 a.D.a1, .int .u64 a.D.a2]), (1, .box [.bool b.Minus, .int .u64 b.D.a0, .int .u64 b.D.a1, .int .u64 b.D.a2]), (2, .box [.bool false, .int .u64 (0 : Int), .int .u64 (0 : Int), .int .u64 (0 : Int)]), (3, .box [.bool a.Minus, .int .u64 out_1, .int .u64 out_2, .int .u64 out_3])], 4⟩ (blockQ 1 (seqQ Pg 76 0 (.reg none i67_R16) (loopQ Pg 76 0 i67_L0 (blockQ 0 (seqQ Pg 76 0 (.seq (.reg none i67_R17) .ret) (qf_67 r)))))) := by
  unfold m_ref10_sum_k2 at h
  refine Wp.seq (Wp.seq (regP (seqN ?_)))
  replace h := ifS h; rcases h with ⟨g13, h⟩ | ⟨g13, h⟩
  · refine condTP (Wp.seq ?_)
    refine regP (seqN ?_)
    refine regP (seqN ?_)
    exact jumpK [.kill [66]] (w_m_ref10_sum_k3 (a := a) (b := b) hrec_m_ref10_sum_l1 h)
  · refine condFP (Wp.skip (seqN ?_))
    exact jumpK [.kill [66]] (w_m_ref10_sum_k3 (a := a) (b := b) hrec_m_ref10_sum_l1 h)
theorem w_m_ref10_sum_k1 {b : TBig} {a : TBig} {i : Int} {out_1 : Int} {out_2 : Int} {out_3 : Int} {take : Int} {r : TBig} {rec_m_ref10_sum_l1 : Int → Int → Int → Int → Int → Option TBig} (hrec_m_ref10_sum_l1 : ∀ {borrow : Int} {i : Int} {out_1 : Int} {out_2 : Int} {out_3 : Int}, rec_m_ref10_sum_l1 borrow i out_1 out_2 out_3 = some r → LWp Pg 76 0 i67_L0 ⟨[(0, .bad), (1, .bad), (2, .ptr 0 0), (3, .ptr 1 0), (4, .ptr 2 0), (5, .ptr 3 0), (6, .int .u64 borrow), (7, .int .i64 i), (8, .bad), (9, .bad), (14, .bad), (43, .bad), (51, .bad), (66, .bad)], [], [(0, .box [.bool a.Minus, .int .u64 a.D.a0, .int .u64 a.D.a1, .int .u64 a.D.a2]), (1, .box [.bool b.Minus, .int .u64 b.D.a0, .int .u64 b.D.a1, .int .u64 b.D.a2]), (2, .box [.bool false, .int .u64 (0 : Int), .int .u64 (0 : Int), .int .u64 (0 : Int)]), (3, .box [.bool a.Minus, .int .u64 out_1, .int .u64 out_2, .int .u64 out_3])], 4⟩ (blockQ 0 (seqQ Pg 76 0 (.seq (.reg none i67_R17) .ret) (qf_67 r)))) (h : m_ref10_sum_k1 rec_m_ref10_sum_l1 a i out_1 out_2 out_3 take = some r) : Wp Pg 76 0 (.seq (.reg none i67_R10) (.seq (.reg none i67_R11) (.seq (.seq (.reg none i67_R12) (.cond (.t 66) (.seq (.reg none i67_R13) (.reg none i67_R14)) .skip)) (.reg none i67_R15)))) ⟨[(0, .bad), (1, .bad), (2, .ptr 0 0), (3, .ptr 1 0), (4, .ptr 2 0), (5, .ptr 3 0), (6, .bad), (7, .int .i64 i), (8, .int .u64 take), (9, .bad), (14, .bad), (43, .bad), (51, .bad), (66, .bad)], [], [(0, .box [.bool a.Minus, .int .u64 a.D.a0, .int .u64 a.D.a1, .int .u64 a.D.a2]), (1, .box [.bool b.Minus, .int .u64 b.D.a0, .int .u64 b.D.a1, .int .u64 b.D.a2]), (2, .box [.bool false, .int .u64 (0 : Int), .int .u64 (0 : Int), .int .u64 (0 : Int)]), (3, .box [.bool a.Minus, .int .u64 out_1, .int .u64 out_2, .int .u64 out_3])], 4⟩ (blockQ 1 (seqQ Pg 76 0 (.reg none i67_R16) (loopQ Pg 76 0 i67_L0 (blockQ 0 (seqQ Pg 76 0 (.seq (.reg none i67_R17) .ret) (qf_67 r)))))) := by
  unfold m_ref10_sum_k1 at h
  refine Wp.seq (regP (seqN (Wp.seq ?_)))
  replace h := ifS h; rcases h with ⟨g10, h⟩ | ⟨g10, h⟩
  · refine regP (seqN ?_)
    exact jumpK [] (w_m_ref10_sum_k2 (a := a) (b := b) hrec_m_ref10_sum_l1 h)
  · replace h := ifS h; rcases h with ⟨g11, h⟩ | ⟨g11, h⟩
    · refine regP (seqN ?_)
      exact jumpK [] (w_m_ref10_sum_k2 (a := a) (b := b) hrec_m_ref10_sum_l1 h)
    · replace h := reqS h; obtain ⟨g12, h⟩ := h
      refine regP (seqN ?_)
      exact jumpK [] (w_m_ref10_sum_k2 (a := a) (b := b) hrec_m_ref10_sum_l1 h)
theorem w_m_ref10_sum_l1_B {a : TBig} {b : TBig} {r : TBig}   {rec_m_ref10_sum_l1 : Int → Int → Int → Int → Int → Option TBig} (hrec_m_ref10_sum_l1 : ∀ {borrow : Int} {i : Int} {out_1 : Int} {out_2 : Int} {out_3 : Int}, rec_m_ref10_sum_l1 borrow i out_1 out_2 out_3 = some r → LWp Pg 76 0 i67_L0 ⟨[(0, .bad), (1, .bad), (2, .ptr 0 0), (3, .ptr 1 0), (4, .ptr 2 0), (5, .ptr 3 0), (6, .int .u64 borrow), (7, .int .i64 i), (8, .bad), (9, .bad), (14, .bad), (43, .bad), (51, .bad), (66, .bad)], [], [(0, .box [.bool a.Minus, .int .u64 a.D.a0, .int .u64 a.D.a1, .int .u64 a.D.a2]), (1, .box [.bool b.Minus, .int .u64 b.D.a0, .int .u64 b.D.a1, .int .u64 b.D.a2]), (2, .box [.bool false, .int .u64 (0 : Int), .int .u64 (0 : Int), .int .u64 (0 : Int)]), (3, .box [.bool a.Minus, .int .u64 out_1, .int .u64 out_2, .int .u64 out_3])], 4⟩ (blockQ 0 (seqQ Pg 76 0 (.seq (.reg none i67_R17) .ret) (qf_67 r)))) {borrow : Int} {i : Int} {out_1 : Int} {out_2 : Int} {out_3 : Int} (h : m_ref10_sum_l1_B  a b rec_m_ref10_sum_l1 borrow i out_1 out_2 out_3 = some r) : LWp Pg 76 0 i67_L0 ⟨[(0, .bad), (1, .bad), (2, .ptr 0 0), (3, .ptr 1 0), (4, .ptr 2 0), (5, .ptr 3 0), (6, .int .u64 borrow), (7, .int .i64 i), (8, .bad), (9, .bad), (14, .bad), (43, .bad), (51, .bad), (66, .bad)], [], [(0, .box [.bool a.Minus, .int .u64 a.D.a0, .int .u64 a.D.a1, .int .u64 a.D.a2]), (1, .box [.bool b.Minus, .int .u64 b.D.a0, .int .u64 b.D.a1, .int .u64 b.D.a2]), (2, .box [.bool false, .int .u64 (0 : Int), .int .u64 (0 : Int), .int .u64 (0 : Int)]), (3, .box [.bool a.Minus, .int .u64 out_1, .int .u64 out_2, .int .u64 out_3])], 4⟩ (blockQ 0 (seqQ Pg 76 0 (.seq (.reg none i67_R17) .ret) (qf_67 r))) := by
  unfold m_ref10_sum_l1_B at h
  refine LWp.stepC i67_L0.eq_1 ?_
  refine Wp.seq (Wp.seq (regP (seqN ?_)))
  replace h := ifS h; rcases h with ⟨g6, h⟩ | ⟨g6, h⟩
  · refine condTP (Wp.skip (seqN (Wp.seq (Wp.block (Wp.seq ?_)))))
    replace h := ifS h; rcases h with ⟨g7, h⟩ | ⟨g7, h⟩
    · refine regP (seqN ?_)
      exact jumpK [.kill [6, 51]] (w_m_ref10_sum_k1 (b := b) hrec_m_ref10_sum_l1 h)
    · replace h := ifS h; rcases h with ⟨g8, h⟩ | ⟨g8, h⟩
      · refine regP (seqN ?_)
        exact jumpK [.kill [6, 51]] (w_m_ref10_sum_k1 (b := b) hrec_m_ref10_sum_l1 h)
      · replace h := reqS h; obtain ⟨g9, h⟩ := h
        refine regP (seqN ?_)
        exact jumpK [.kill [6, 51]] (w_m_ref10_sum_k1 (b := b) hrec_m_ref10_sum_l1 h)
  · replace h := retS h; subst h
    refine condFP (Wp.out (seqO (loopO (blockO (seqN (Wp.seq ?_))))))
    refine regP (seqN (Wp.ret ?_))
    exact finP
theorem w_m_ref10_sum_l1 {a : TBig} {b : TBig} {r : TBig}   : ∀ (n : Nat) {borrow : Int} {i : Int} {out_1 : Int} {out_2 : Int} {out_3 : Int}, m_ref10_sum_l1  a b n borrow i out_1 out_2 out_3 = some r → LWp Pg 76 0 i67_L0 ⟨[(0, .bad), (1, .bad), (2, .ptr 0 0), (3, .ptr 1 0), (4, .ptr 2 0), (5, .ptr 3 0), (6, .int .u64 borrow), (7, .int .i64 i), (8, .bad), (9, .bad), (14, .bad), (43, .bad), (51, .bad), (66, .bad)], [], [(0, .box [.bool a.Minus, .int .u64 a.D.a0, .int .u64 a.D.a1, .int .u64 a.D.a2]), (1, .box [.bool b.Minus, .int .u64 b.D.a0, .int .u64 b.D.a1, .int .u64 b.D.a2]), (2, .box [.bool false, .int .u64 (0 : Int), .int .u64 (0 : Int), .int .u64 (0 : Int)]), (3, .box [.bool a.Minus, .int .u64 out_1, .int .u64 out_2, .int .u64 out_3])], 4⟩ (blockQ 0 (seqQ Pg 76 0 (.seq (.reg none i67_R17) .ret) (qf_67 r))) := by
  intro n
  induction n with
  | zero => intro borrow i out_1 out_2 out_3 h; unfold m_ref10_sum_l1 at h; cases h
  | succ n ih => intro borrow i out_1 out_2 out_3 h; unfold m_ref10_sum_l1 at h; exact w_m_ref10_sum_l1_B  ih h
theorem w_m_ref10_sum_B {a : TBig} {b : TBig} {r : TBig} {rec_m_ref10_sum : TBig → TBig → Option TBig} (hrec_m_ref10_sum : ∀ {a : TBig} {b : TBig} {r : TBig}, rec_m_ref10_sum a b = some r → Spec Pg 67 [.agg [.bool a.Minus, .int .u64 a.D.a0, .int .u64 a.D.a1, .int .u64 a.D.a2], .agg [.bool b.Minus, .int .u64 b.D.a0, .int .u64 b.D.a1, .int .u64 b.D.a2]] [] 0 (.agg [.bool r.Minus, .int .u64 r.D.a0, .int .u64 r.D.a1, .int .u64 r.D.a2]) [] 0) (h : m_ref10_sum_B rec_m_ref10_sum a b = some r) : Spec Pg 67 [.agg [.bool a.Minus, .int .u64 a.D.a0, .int .u64 a.D.a1, .int .u64 a.D.a2], .agg [.bool b.Minus, .int .u64 b.D.a0, .int .u64 b.D.a1, .int .u64 b.D.a2]] [] 0 (.agg [.bool r.Minus, .int .u64 r.D.a0, .int .u64 r.D.a1, .int .u64 r.D.a2]) [] 0 := by
  refine Spec.intro Go.Proofs.Try.func67 i67_ok (le_of_ble rfl) ?_
  show Wp Pg 76 0 i67_B ⟨argEnv [.agg [.bool a.Minus, .int .u64 a.D.a0, .int .u64 a.D.a1, .int .u64 a.D.a2], .agg [.bool b.Minus, .int .u64 b.D.a0, .int .u64 b.D.a1, .int .u64 b.D.a2]] i67_V, [], [], 0⟩ (qf_67 r)
  unfold m_ref10_sum_B at h
  unfold i67_B
  refine weakP [] ?_
  refine Wp.seq (regP (seqN (Wp.seq (Wp.seq ?_))))
  refine regP (seqN ?_)
  replace h := ifS h; rcases h with ⟨g1, h⟩ | ⟨g1, h⟩
  · refine condTP (Wp.seq (Wp.reg ?_))
    replace h := bndS h; obtain ⟨r0, g2, h⟩ := h
    replace h := retS h; subst h
    refine chunkT 26 (tab_cons (w_m_ref10_carry g2) (tab_nil _)) ?_
    refine lastT (tab_nil _) (seqN (Wp.ret (seqR ?_)))
    exact finP
  · refine condFP (Wp.skip (seqN (Wp.seq (Wp.seq (Wp.reg ?_)))))
    replace h := bndS h; obtain ⟨r0_1, g3, h⟩ := h
    refine lastT (tab_cons (w_m_ref10_less g3) (tab_nil _)) (seqN ?_)
    replace h := ifS h; rcases h with ⟨g4, h⟩ | ⟨g4, h⟩
    · refine condTP (Wp.seq (Wp.reg ?_))
      replace h := bndS h; obtain ⟨r0_2, g5, h⟩ := h
      replace h := retS h; subst h
      refine chunkT 3 (tab_cons (hrec_m_ref10_sum g5) (tab_nil _)) ?_
      refine lastT (tab_nil _) (seqN (Wp.ret (seqR ?_)))
      exact finP
    · refine condFP (Wp.skip (seqN (Wp.seq ?_)))
      refine regP (seqN (Wp.seq ?_))
      refine regP (seqN (Wp.seq (Wp.seq ?_)))
      refine regP (seqN (Wp.block (Wp.loop ?_)))
      exact jumpL [.kill [0, 1, 8, 9, 14, 43, 51, 66], .tidy] (w_m_ref10_sum_l1 _ h)
theorem w_m_ref10_sum : ∀ (n : Nat) {a : TBig} {b : TBig} {r : TBig}, m_ref10_sum n a b = some r → Spec Pg 67 [.agg [.bool a.Minus, .int .u64 a.D.a0, .int .u64 a.D.a1, .int .u64 a.D.a2], .agg [.bool b.Minus, .int .u64 b.D.a0, .int .u64 b.D.a1, .int .u64 b.D.a2]] [] 0 (.agg [.bool r.Minus, .int .u64 r.D.a0, .int .u64 r.D.a1, .int .u64 r.D.a2]) [] 0 := by
  intro n
  induction n with
  | zero => intro a b r h; unfold m_ref10_sum at h; cases h
  | succ n ih => intro a b r h; unfold m_ref10_sum at h; exact w_m_ref10_sum_B ih h
end Go.Proofs.Ytcmejocmohohpaa.R
