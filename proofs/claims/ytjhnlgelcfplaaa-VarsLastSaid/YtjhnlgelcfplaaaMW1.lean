/- The program's functions answer what the models answer: 1. -/
import Derived.Test.YtjhnlgelcfplaaaMW0
set_option maxRecDepth 100000
set_option linter.unusedVariables false
set_option linter.unusedSimpArgs false
set_option linter.defProp false
noncomputable section
namespace Go.Proofs.Ytjhnlgelcfplaaa.R
open Go Nat
/-! cmp.isNaN[string] -/
noncomputable abbrev qf_120 (r : Bool) : Ex → St → Prop := FinQ 0 [.tmp 2] (.bool r) [] 0
theorem w_m_cmp_isNaN_string {x0 : ByteArray} {r : Bool}   (h : m_cmp_isNaN_string x0 = some r) : Spec Pg 120 [.str x0] [] 0 (.bool r) [] 0 := by
  refine Spec.intro Go.Proofs.Try.func120 i120_ok (le_of_ble rfl) ?_
  show Wp Pg 6 0 i120_B ⟨argEnv [.str x0] i120_V, [], [], 0⟩ (qf_120 r)
  unfold m_cmp_isNaN_string at h
  unfold i120_B
  refine weakP [] ?_
  replace h := retS h; subst h
  refine Wp.seq (regP (seqN (Wp.seq ?_)))
  refine regP (seqN (Wp.ret ?_))
  exact finP
/-! cmp.Less[string] -/
noncomputable abbrev qf_105 (r : Bool) : Ex → St → Prop := FinQ 0 [.tmp 4] (.bool r) [] 0
theorem w_m_cmp_Less_string {x0 : ByteArray} {y : ByteArray} {r : Bool}   (h : m_cmp_Less_string x0 y = some r) : Spec Pg 105 [.str x0, .str y] [] 0 (.bool r) [] 0 := by
  refine Spec.intro Go.Proofs.Try.func105 i105_ok (le_of_ble rfl) ?_
  show Wp Pg 17 0 i105_B ⟨argEnv [.str x0, .str y] i105_V, [], [], 0⟩ (qf_105 r)
  unfold m_cmp_Less_string at h
  unfold i105_B
  refine weakP [] ?_
  refine Wp.seq (regP (seqN (Wp.seq (Wp.reg ?_))))
  replace h := bndS h; obtain ⟨r0, g1, h⟩ := h
  refine chunkT 2 (tab_cons (w_m_cmp_isNaN_string g1) (tab_nil _)) ?_
  replace h := ifS h; rcases h with ⟨g2, h⟩ | ⟨g2, h⟩
  · replace h := bndS h; obtain ⟨r0_1, g3, h⟩ := h
    refine chunkT 3 (tab_cons (w_m_cmp_isNaN_string g3) (tab_nil _)) ?_
    replace h := ifS h; rcases h with ⟨g4, h⟩ | ⟨g4, h⟩
    · replace h := retS h; subst h
      refine lastT (tab_nil _) (seqN (Wp.ret ?_))
      exact finP
    · replace h := retS h; subst h
      refine lastT (tab_nil _) (seqN (Wp.ret ?_))
      exact finP
  · replace h := retS h; subst h
    refine lastT (tab_nil _) (seqN (Wp.ret ?_))
    exact finP
/-! slices.isNaN[string] -/
noncomputable abbrev qf_106 (r : Bool) : Ex → St → Prop := FinQ 0 [.tmp 2] (.bool r) [] 0
theorem w_m_slices_isNaN_string {x0 : ByteArray} {r : Bool}   (h : m_slices_isNaN_string x0 = some r) : Spec Pg 106 [.str x0] [] 0 (.bool r) [] 0 := by
  refine Spec.intro Go.Proofs.Try.func106 i106_ok (le_of_ble rfl) ?_
  show Wp Pg 6 0 i106_B ⟨argEnv [.str x0] i106_V, [], [], 0⟩ (qf_106 r)
  unfold m_slices_isNaN_string at h
  unfold i106_B
  refine weakP [] ?_
  replace h := retS h; subst h
  refine Wp.seq (regP (seqN (Wp.seq ?_)))
  refine regP (seqN (Wp.ret ?_))
  exact finP
/-! funicular/funicularlaw09.light -/
noncomputable abbrev qf_12 (r : Bool) : Ex → St → Prop := FinQ 0 [.tmp 2] (.bool r) [] 0
theorem w_m_law09_light_l1_B {v : TVars} {r : Bool}   {rec_m_law09_light_l1 : Int → Option Bool} (hrec_m_law09_light_l1 : ∀ {i : Int}, rec_m_law09_light_l1 i = some r → LWp Pg 28 0 i12_L0 ⟨[(0, .bad), (1, .ptr 0 0), (2, .bad), (3, .int .i64 i), (13, .bad), (18, .bad), (27, .bad)], [], [(0, .box [sl cs v.Names, sl (ci .i64) v.Vals])], 1⟩ (blockQ 0 (seqQ Pg 28 0 (.seq (.reg none i12_R8) .ret) (qf_12 r)))) {i : Int} (h : m_law09_light_l1_B  v rec_m_law09_light_l1 i = some r) : LWp Pg 28 0 i12_L0 ⟨[(0, .bad), (1, .ptr 0 0), (2, .bad), (3, .int .i64 i), (13, .bad), (18, .bad), (27, .bad)], [], [(0, .box [sl cs v.Names, sl (ci .i64) v.Vals])], 1⟩ (blockQ 0 (seqQ Pg 28 0 (.seq (.reg none i12_R8) .ret) (qf_12 r))) := by
  unfold m_law09_light_l1_B at h
  refine LWp.stepC i12_L0.eq_1 ?_
  refine Wp.seq (Wp.seq (regP (seqN ?_)))
  replace h := ifS h; rcases h with ⟨g3, h⟩ | ⟨g3, h⟩
  · refine condTP (Wp.skip (seqN (Wp.seq (Wp.block (Wp.seq ?_)))))
    replace h := bndS h; obtain ⟨e, g4, h⟩ := h
    refine regP (seqN ?_)
    replace h := ifS h; rcases h with ⟨g5, h⟩ | ⟨g5, h⟩
    · replace h := retS h; subst h
      refine condTP (Wp.seq ?_)
      refine regP (seqN (Wp.ret (blockR (seqR (loopR (blockR (seqR ?_)))))))
      exact finP
    · refine condFP (Wp.skip (blockN (seqN ?_)))
      refine regP (loopN ?_)
      exact jumpL [.kill [18, 27]] (hrec_m_law09_light_l1 h)
  · replace h := retS h; subst h
    refine condFP (Wp.out (seqO (loopO (blockO (seqN (Wp.seq ?_))))))
    refine regP (seqN (Wp.ret ?_))
    exact finP
theorem w_m_law09_light_l1 {v : TVars} {r : Bool}   : ∀ (n : Nat) {i : Int}, m_law09_light_l1  v n i = some r → LWp Pg 28 0 i12_L0 ⟨[(0, .bad), (1, .ptr 0 0), (2, .bad), (3, .int .i64 i), (13, .bad), (18, .bad), (27, .bad)], [], [(0, .box [sl cs v.Names, sl (ci .i64) v.Vals])], 1⟩ (blockQ 0 (seqQ Pg 28 0 (.seq (.reg none i12_R8) .ret) (qf_12 r))) := by
  intro n
  induction n with
  | zero => intro i h; unfold m_law09_light_l1 at h; cases h
  | succ n ih => intro i h; unfold m_law09_light_l1 at h; exact w_m_law09_light_l1_B  ih h
theorem w_m_law09_light_k1 {v : TVars} {v13 : Bool} {r : Bool}   (h : m_law09_light_k1 v v13 = some r) : Wp Pg 28 0 (.cond (.t 13) (.seq (.reg none i12_R2) .ret) .skip) ⟨[(0, .bad), (1, .ptr 0 0), (2, .bad), (3, .bad), (13, .bool v13), (18, .bad), (27, .bad)], [], [(0, .box [sl cs v.Names, sl (ci .i64) v.Vals])], 1⟩ (seqQ Pg 28 0 (.seq (.seq (.reg none i12_R3) (.block 0 (.loop i12_L0))) (.seq (.reg none i12_R8) .ret)) (qf_12 r)) := by
  unfold m_law09_light_k1 at h
  replace h := ifS h; rcases h with ⟨g2, h⟩ | ⟨g2, h⟩
  · replace h := retS h; subst h
    refine condTP (Wp.seq ?_)
    refine regP (seqN (Wp.ret (seqR ?_)))
    exact finP
  · refine condFP (Wp.skip (seqN (Wp.seq (Wp.seq ?_))))
    refine regP (seqN (Wp.block (Wp.loop ?_)))
    exact jumpL [.kill [13]] (w_m_law09_light_l1 _ h)
theorem w_m_law09_light {v : TVars} {r : Bool}   (h : m_law09_light v = some r) : Spec Pg 12 [.agg [sl cs v.Names, sl (ci .i64) v.Vals]] [] 0 (.bool r) [] 0 := by
  refine Spec.intro Go.Proofs.Try.func12 i12_ok (le_of_ble rfl) ?_
  show Wp Pg 28 0 i12_B ⟨argEnv [.agg [sl cs v.Names, sl (ci .i64) v.Vals]] i12_V, [], [], 0⟩ (qf_12 r)
  unfold m_law09_light at h
  unfold i12_B
  refine weakP [] ?_
  refine Wp.seq (regP (seqN (Wp.seq (Wp.seq ?_))))
  replace h := ifS h; rcases h with ⟨g1, h⟩ | ⟨g1, h⟩
  · refine regP (seqN ?_)
    exact jumpK [.kill [0, 2, 3, 18, 27]] (w_m_law09_light_k1 h)
  · refine regP (seqN ?_)
    exact jumpK [.kill [0, 2, 3, 18, 27]] (w_m_law09_light_k1 h)
theorem w_m_law09_works {r : Bool} (h : m_law09_works = some r) : Spec Pg 13 [] [] 0 (.bool r) [] 0 := by
  obtain rfl := retS h
  exact m_law09_works_spec
/-! funicular/pack.Name -/
noncomputable abbrev qf_54 (r : Bool) : Ex → St → Prop := FinQ 0 [.tmp 2] (.bool r) [] 0
theorem w_m_pack_Name_k3 {s : ByteArray} {r : Bool}   (h : m_pack_Name_k3 s = some r) : Wp Pg 43 0 (.seq (.reg none i54_R8) .ret) ⟨[(0, .str s), (2, .bad), (3, .bad), (4, .bad), (5, .bad), (7, .bad), (8, .bad), (9, .bad), (10, .bad), (33, .bad)], [], [], 0⟩ (qf_54 r) := by
  unfold m_pack_Name_k3 at h
  refine Wp.seq ?_
  replace h := ifS h; rcases h with ⟨g8, h⟩ | ⟨g8, h⟩
  · replace h := retS h; subst h
    refine regP (seqN (Wp.ret ?_))
    exact finP
  · replace h := retS h; subst h
    refine regP (seqN (Wp.ret ?_))
    exact finP
theorem w_m_pack_Name_k2 {s : ByteArray} {v9 : Int} {v33 : Bool} {r : Bool} {rec_m_pack_Name_l1 : Int → Option Bool} (hrec_m_pack_Name_l1 : ∀ {v9 : Int}, rec_m_pack_Name_l1 v9 = some r → LWp Pg 43 0 i54_L0 ⟨[(0, .str s), (2, .bad), (3, .bad), (4, .bad), (5, .bad), (7, sl (ci .u8) (bytesI s)), (8, .int .i64 ((bytesI s).length : Int)), (9, .int .i64 v9), (10, .bad), (33, .bad)], [], [], 0⟩ (blockQ 0 (seqQ Pg 43 0 (.seq (.reg none i54_R8) .ret) (qf_54 r)))) (h : m_pack_Name_k2 rec_m_pack_Name_l1 v9 v33 = some r) : Wp Pg 43 0 (.cond (.t 33) (.seq (.reg none i54_R6) .ret) .skip) ⟨[(0, .str s), (2, .bad), (3, .bad), (4, .bad), (5, .bad), (7, sl (ci .u8) (bytesI s)), (8, .int .i64 ((bytesI s).length : Int)), (9, .int .i64 v9), (10, .bad), (33, .bool v33)], [], [], 0⟩ (blockQ 1 (seqQ Pg 43 0 (.reg none i54_R7) (loopQ Pg 43 0 i54_L0 (blockQ 0 (seqQ Pg 43 0 (.seq (.reg none i54_R8) .ret) (qf_54 r)))))) := by
  unfold m_pack_Name_k2 at h
  replace h := ifS h; rcases h with ⟨g7, h⟩ | ⟨g7, h⟩
  · replace h := retS h; subst h
    refine condTP (Wp.seq ?_)
    refine regP (seqN (Wp.ret (blockR (seqR (loopR (blockR (seqR ?_)))))))
    exact finP
  · refine condFP (Wp.skip (blockN (seqN ?_)))
    refine regP (loopN ?_)
    exact jumpL [.kill [33]] (hrec_m_pack_Name_l1 h)
theorem w_m_pack_Name_k1 {s : ByteArray} {v9 : Int} {e : Int} {letter : Bool} {r : Bool} {rec_m_pack_Name_l1 : Int → Option Bool} (hrec_m_pack_Name_l1 : ∀ {v9 : Int}, rec_m_pack_Name_l1 v9 = some r → LWp Pg 43 0 i54_L0 ⟨[(0, .str s), (2, .bad), (3, .bad), (4, .bad), (5, .bad), (7, sl (ci .u8) (bytesI s)), (8, .int .i64 ((bytesI s).length : Int)), (9, .int .i64 v9), (10, .bad), (33, .bad)], [], [], 0⟩ (blockQ 0 (seqQ Pg 43 0 (.seq (.reg none i54_R8) .ret) (qf_54 r)))) (h : m_pack_Name_k1 rec_m_pack_Name_l1 v9 e letter = some r) : Wp Pg 43 0 (.seq (.reg none i54_R5) (.cond (.t 33) (.seq (.reg none i54_R6) .ret) .skip)) ⟨[(0, .str s), (2, .bad), (3, .int .i64 v9), (4, .int .u8 e), (5, .bool letter), (7, sl (ci .u8) (bytesI s)), (8, .int .i64 ((bytesI s).length : Int)), (9, .int .i64 v9), (10, .bad), (33, .bad)], [], [], 0⟩ (blockQ 1 (seqQ Pg 43 0 (.reg none i54_R7) (loopQ Pg 43 0 i54_L0 (blockQ 0 (seqQ Pg 43 0 (.seq (.reg none i54_R8) .ret) (qf_54 r)))))) := by
  unfold m_pack_Name_k1 at h
  refine Wp.seq ?_
  replace h := ifS h; rcases h with ⟨g4, h⟩ | ⟨g4, h⟩
  · refine regP (seqN ?_)
    exact jumpK [.kill [3, 4, 5]] (w_m_pack_Name_k2 (s := s) hrec_m_pack_Name_l1 h)
  · replace h := ifS h; rcases h with ⟨g5, h⟩ | ⟨g5, h⟩
    · refine regP (seqN ?_)
      exact jumpK [.kill [3, 4, 5]] (w_m_pack_Name_k2 (s := s) hrec_m_pack_Name_l1 h)
    · replace h := ifS h; rcases h with ⟨g6, h⟩ | ⟨g6, h⟩
      · refine regP (seqN ?_)
        exact jumpK [.kill [3, 4, 5]] (w_m_pack_Name_k2 (s := s) hrec_m_pack_Name_l1 h)
      · refine regP (seqN ?_)
        exact jumpK [.kill [3, 4, 5]] (w_m_pack_Name_k2 (s := s) hrec_m_pack_Name_l1 h)
theorem w_m_pack_Name_l1_B {s : ByteArray} {r : Bool}   {rec_m_pack_Name_l1 : Int → Option Bool} (hrec_m_pack_Name_l1 : ∀ {v9 : Int}, rec_m_pack_Name_l1 v9 = some r → LWp Pg 43 0 i54_L0 ⟨[(0, .str s), (2, .bad), (3, .bad), (4, .bad), (5, .bad), (7, sl (ci .u8) (bytesI s)), (8, .int .i64 ((bytesI s).length : Int)), (9, .int .i64 v9), (10, .bad), (33, .bad)], [], [], 0⟩ (blockQ 0 (seqQ Pg 43 0 (.seq (.reg none i54_R8) .ret) (qf_54 r)))) {v9 : Int} (h : m_pack_Name_l1_B  s rec_m_pack_Name_l1 v9 = some r) : LWp Pg 43 0 i54_L0 ⟨[(0, .str s), (2, .bad), (3, .bad), (4, .bad), (5, .bad), (7, sl (ci .u8) (bytesI s)), (8, .int .i64 ((bytesI s).length : Int)), (9, .int .i64 v9), (10, .bad), (33, .bad)], [], [], 0⟩ (blockQ 0 (seqQ Pg 43 0 (.seq (.reg none i54_R8) .ret) (qf_54 r))) := by
  unfold m_pack_Name_l1_B at h
  refine LWp.stepC i54_L0.eq_1 ?_
  refine Wp.seq (regP (seqN (Wp.seq ?_)))
  replace h := ifS h; rcases h with ⟨g1, h⟩ | ⟨g1, h⟩
  · refine condTP (Wp.skip (seqN (Wp.seq (Wp.block (Wp.seq ?_)))))
    replace h := bndS h; obtain ⟨e, g2, h⟩ := h
    refine regP (seqN (Wp.seq ?_))
    replace h := ifS h; rcases h with ⟨g3, h⟩ | ⟨g3, h⟩
    · refine regP (seqN ?_)
      exact jumpK [.kill [10]] (w_m_pack_Name_k1 (s := s) hrec_m_pack_Name_l1 h)
    · refine regP (seqN ?_)
      exact jumpK [.kill [10]] (w_m_pack_Name_k1 (s := s) hrec_m_pack_Name_l1 h)
  · refine condFP (Wp.out (seqO (loopO (blockO (seqN ?_)))))
    exact jumpK [.kill [7, 8, 9, 10]] (w_m_pack_Name_k3 h)
theorem w_m_pack_Name_l1 {s : ByteArray} {r : Bool}   : ∀ (n : Nat) {v9 : Int}, m_pack_Name_l1  s n v9 = some r → LWp Pg 43 0 i54_L0 ⟨[(0, .str s), (2, .bad), (3, .bad), (4, .bad), (5, .bad), (7, sl (ci .u8) (bytesI s)), (8, .int .i64 ((bytesI s).length : Int)), (9, .int .i64 v9), (10, .bad), (33, .bad)], [], [], 0⟩ (blockQ 0 (seqQ Pg 43 0 (.seq (.reg none i54_R8) .ret) (qf_54 r))) := by
  intro n
  induction n with
  | zero => intro v9 h; unfold m_pack_Name_l1 at h; cases h
  | succ n ih => intro v9 h; unfold m_pack_Name_l1 at h; exact w_m_pack_Name_l1_B  ih h
theorem w_m_pack_Name {s : ByteArray} {r : Bool}   (h : m_pack_Name s = some r) : Spec Pg 54 [.str s] [] 0 (.bool r) [] 0 := by
  refine Spec.intro Go.Proofs.Try.func54 i54_ok (le_of_ble rfl) ?_
  show Wp Pg 43 0 i54_B ⟨argEnv [.str s] i54_V, [], [], 0⟩ (qf_54 r)
  unfold m_pack_Name at h
  unfold i54_B
  refine weakP [] ?_
  refine Wp.seq (regP (seqN (Wp.seq (Wp.seq ?_))))
  refine regP (seqN (Wp.block (Wp.loop ?_)))
  exact jumpL [.kill [2, 3, 4, 5, 10, 33], .tidy] (w_m_pack_Name_l1 _ h)
/-! funicular/vars.Check -/
noncomputable abbrev qf_14 (r : Int) : Ex → St → Prop := FinQ 0 [.tmp 2] (.int .i64 r) [] 0
theorem w_m_vars_Check_k2 {v : TVars} {v21 : Int} {v48 : Bool} {r : Int} {rec_m_vars_Check_l1 : Int → Option Int} (hrec_m_vars_Check_l1 : ∀ {v21 : Int}, rec_m_vars_Check_l1 v21 = some r → LWp Pg 50 0 i14_L0 ⟨[(0, .bad), (1, .ptr 0 0), (2, .bad), (3, .bad), (4, .bad), (5, .bad), (13, .bad), (19, sl cs v.Names), (20, .int .i64 (v.Names.length : Int)), (21, .int .i64 v21), (22, .bad), (36, .bad), (48, .bad)], [], [(0, .box [sl cs v.Names, sl (ci .i64) v.Vals])], 1⟩ (blockQ 1 (seqQ Pg 50 0 (.seq (.reg none i14_R13) .ret) (qf_14 r)))) (h : m_vars_Check_k2 rec_m_vars_Check_l1 v21 v48 = some r) : Wp Pg 50 0 (.cond (.t 48) (.seq (.reg none i14_R11) .ret) .skip) ⟨[(0, .bad), (1, .ptr 0 0), (2, .bad), (3, .bad), (4, .bad), (5, .bad), (13, .bad), (19, sl cs v.Names), (20, .int .i64 (v.Names.length : Int)), (21, .int .i64 v21), (22, .bad), (36, .bad), (48, .bool v48)], [], [(0, .box [sl cs v.Names, sl (ci .i64) v.Vals])], 1⟩ (blockQ 2 (seqQ Pg 50 0 (.reg none i14_R12) (loopQ Pg 50 0 i14_L0 (blockQ 1 (seqQ Pg 50 0 (.seq (.reg none i14_R13) .ret) (qf_14 r)))))) := by
  unfold m_vars_Check_k2 at h
  replace h := ifS h; rcases h with ⟨g11, h⟩ | ⟨g11, h⟩
  · replace h := retS h; subst h
    refine condTP (Wp.seq ?_)
    refine regP (seqN (Wp.ret (blockR (seqR (loopR (blockR (seqR ?_)))))))
    exact finP
  · refine condFP (Wp.skip (blockN (seqN ?_)))
    refine regP (loopN ?_)
    exact jumpL [.kill [48]] (hrec_m_vars_Check_l1 h)
theorem w_m_vars_Check_k1 {v : TVars} {v21 : Int} {e : ByteArray} {v36 : Bool} {r : Int} {rec_m_vars_Check_l1 : Int → Option Int} (hrec_m_vars_Check_l1 : ∀ {v21 : Int}, rec_m_vars_Check_l1 v21 = some r → LWp Pg 50 0 i14_L0 ⟨[(0, .bad), (1, .ptr 0 0), (2, .bad), (3, .bad), (4, .bad), (5, .bad), (13, .bad), (19, sl cs v.Names), (20, .int .i64 (v.Names.length : Int)), (21, .int .i64 v21), (22, .bad), (36, .bad), (48, .bad)], [], [(0, .box [sl cs v.Names, sl (ci .i64) v.Vals])], 1⟩ (blockQ 1 (seqQ Pg 50 0 (.seq (.reg none i14_R13) .ret) (qf_14 r)))) (h : m_vars_Check_k1 rec_m_vars_Check_l1 v v21 e v36 = some r) : Wp Pg 50 0 (.cond (.t 36) (.seq (.reg none i14_R9) .ret) .skip) ⟨[(0, .bad), (1, .ptr 0 0), (2, .bad), (3, .int .i64 v21), (4, .str e), (5, .bad), (13, .bad), (19, sl cs v.Names), (20, .int .i64 (v.Names.length : Int)), (21, .int .i64 v21), (22, .bad), (36, .bool v36), (48, .bad)], [], [(0, .box [sl cs v.Names, sl (ci .i64) v.Vals])], 1⟩ (seqQ Pg 50 0 (.seq (.reg none i14_R10) (.cond (.t 48) (.seq (.reg none i14_R11) .ret) .skip)) (blockQ 2 (seqQ Pg 50 0 (.reg none i14_R12) (loopQ Pg 50 0 i14_L0 (blockQ 1 (seqQ Pg 50 0 (.seq (.reg none i14_R13) .ret) (qf_14 r))))))) := by
  unfold m_vars_Check_k1 at h
  replace h := ifS h; rcases h with ⟨g8, h⟩ | ⟨g8, h⟩
  · replace h := retS h; subst h
    refine condTP (Wp.seq ?_)
    refine regP (seqN (Wp.ret (seqR (blockR (seqR (loopR (blockR (seqR ?_))))))))
    exact finP
  · refine condFP (Wp.skip (seqN (Wp.seq ?_)))
    replace h := ifS h; rcases h with ⟨g9, h⟩ | ⟨g9, h⟩
    · replace h := bndS h; obtain ⟨e_1, g10, h⟩ := h
      refine regP (seqN ?_)
      exact jumpK [.kill [3, 4, 36]] (w_m_vars_Check_k2 (v := v) hrec_m_vars_Check_l1 h)
    · refine regP (seqN ?_)
      exact jumpK [.kill [3, 4, 36]] (w_m_vars_Check_k2 (v := v) hrec_m_vars_Check_l1 h)
theorem w_m_vars_Check_l1_B {v : TVars} {r : Int}   {rec_m_vars_Check_l1 : Int → Option Int} (hrec_m_vars_Check_l1 : ∀ {v21 : Int}, rec_m_vars_Check_l1 v21 = some r → LWp Pg 50 0 i14_L0 ⟨[(0, .bad), (1, .ptr 0 0), (2, .bad), (3, .bad), (4, .bad), (5, .bad), (13, .bad), (19, sl cs v.Names), (20, .int .i64 (v.Names.length : Int)), (21, .int .i64 v21), (22, .bad), (36, .bad), (48, .bad)], [], [(0, .box [sl cs v.Names, sl (ci .i64) v.Vals])], 1⟩ (blockQ 1 (seqQ Pg 50 0 (.seq (.reg none i14_R13) .ret) (qf_14 r)))) {v21 : Int} (h : m_vars_Check_l1_B  v rec_m_vars_Check_l1 v21 = some r) : LWp Pg 50 0 i14_L0 ⟨[(0, .bad), (1, .ptr 0 0), (2, .bad), (3, .bad), (4, .bad), (5, .bad), (13, .bad), (19, sl cs v.Names), (20, .int .i64 (v.Names.length : Int)), (21, .int .i64 v21), (22, .bad), (36, .bad), (48, .bad)], [], [(0, .box [sl cs v.Names, sl (ci .i64) v.Vals])], 1⟩ (blockQ 1 (seqQ Pg 50 0 (.seq (.reg none i14_R13) .ret) (qf_14 r))) := by
  unfold m_vars_Check_l1_B at h
  refine LWp.stepC i14_L0.eq_1 ?_
  refine Wp.seq (regP (seqN (Wp.seq ?_)))
  replace h := ifS h; rcases h with ⟨g3, h⟩ | ⟨g3, h⟩
  · refine condTP (Wp.skip (seqN (Wp.seq (Wp.block (Wp.seq ?_)))))
    replace h := bndS h; obtain ⟨e, g4, h⟩ := h
    refine regP (seqN (Wp.seq (Wp.seq (Wp.reg ?_))))
    replace h := bndS h; obtain ⟨r0, g5, h⟩ := h
    refine chunkT 2 (tab_cons (w_m_pack_Name g5) (tab_nil _)) ?_
    replace h := ifS h; rcases h with ⟨g6, h⟩ | ⟨g6, h⟩
    · replace h := ifS h; rcases h with ⟨g7, h⟩ | ⟨g7, h⟩
      · refine lastT (tab_nil _) (seqN ?_)
        exact jumpK [.kill [22]] (w_m_vars_Check_k1 hrec_m_vars_Check_l1 h)
      · refine lastT (tab_nil _) (seqN ?_)
        exact jumpK [.kill [22]] (w_m_vars_Check_k1 hrec_m_vars_Check_l1 h)
    · refine lastT (tab_nil _) (seqN ?_)
      exact jumpK [.kill [22]] (w_m_vars_Check_k1 hrec_m_vars_Check_l1 h)
  · replace h := retS h; subst h
    refine condFP (Wp.out (seqO (loopO (blockO (seqN (Wp.seq ?_))))))
    refine regP (seqN (Wp.ret ?_))
    exact finP
theorem w_m_vars_Check_l1 {v : TVars} {r : Int}   : ∀ (n : Nat) {v21 : Int}, m_vars_Check_l1  v n v21 = some r → LWp Pg 50 0 i14_L0 ⟨[(0, .bad), (1, .ptr 0 0), (2, .bad), (3, .bad), (4, .bad), (5, .bad), (13, .bad), (19, sl cs v.Names), (20, .int .i64 (v.Names.length : Int)), (21, .int .i64 v21), (22, .bad), (36, .bad), (48, .bad)], [], [(0, .box [sl cs v.Names, sl (ci .i64) v.Vals])], 1⟩ (blockQ 1 (seqQ Pg 50 0 (.seq (.reg none i14_R13) .ret) (qf_14 r))) := by
  intro n
  induction n with
  | zero => intro v21 h; unfold m_vars_Check_l1 at h; cases h
  | succ n ih => intro v21 h; unfold m_vars_Check_l1 at h; exact w_m_vars_Check_l1_B  ih h
theorem w_m_vars_Check {v : TVars} {r : Int}   (h : m_vars_Check v = some r) : Spec Pg 14 [.agg [sl cs v.Names, sl (ci .i64) v.Vals]] [] 0 (.int .i64 r) [] 0 := by
  refine Spec.intro Go.Proofs.Try.func14 i14_ok (le_of_ble rfl) ?_
  show Wp Pg 50 0 i14_B ⟨argEnv [.agg [sl cs v.Names, sl (ci .i64) v.Vals]] i14_V, [], [], 0⟩ (qf_14 r)
  unfold m_vars_Check at h
  unfold i14_B
  refine weakP [] ?_
  refine Wp.seq (regP (seqN (Wp.seq (Wp.block (Wp.seq ?_)))))
  refine regP (seqN ?_)
  replace h := ifS h; rcases h with ⟨g1, h⟩ | ⟨g1, h⟩
  · replace h := retS h; subst h
    refine condTP (Wp.seq ?_)
    refine regP (seqN (Wp.ret (blockR (seqR ?_))))
    exact finP
  · refine condFP (Wp.seq ?_)
    refine regP (seqN ?_)
    replace h := ifS h; rcases h with ⟨g2, h⟩ | ⟨g2, h⟩
    · replace h := retS h; subst h
      refine condTP (Wp.seq ?_)
      refine regP (seqN (Wp.ret (blockR (seqR ?_))))
      exact finP
    · refine condFP (Wp.skip (blockN (seqN (Wp.seq (Wp.seq ?_)))))
      refine regP (seqN (Wp.block (Wp.loop ?_)))
      exact jumpL [.kill [0, 2, 3, 4, 5, 13, 22, 36, 48]] (w_m_vars_Check_l1 _ h)
/-! funicular/funicularref02.Name -/
noncomputable abbrev qf_55 (r : Bool) : Ex → St → Prop := FinQ 0 [.tmp 2] (.bool r) [] 0
theorem w_m_ref02_Name_k4 {s : ByteArray} {i : Int} {v50 : Bool} {r : Bool} {rec_m_ref02_Name_l1 : Int → Option Bool} (hrec_m_ref02_Name_l1 : ∀ {i : Int}, rec_m_ref02_Name_l1 i = some r → LWp Pg 51 0 i55_L0 ⟨[(0, .str s), (2, .bad), (3, .int .i64 i), (4, .bad), (5, .bad), (18, .bad), (22, .bad), (50, .bad)], [], [], 0⟩ (blockQ 0 (seqQ Pg 51 0 (.seq (.reg none i55_R10) .ret) (qf_55 r)))) (h : m_ref02_Name_k4 rec_m_ref02_Name_l1 i v50 = some r) : Wp Pg 51 0 (.cond (.t 50) (.seq (.reg none i55_R8) .ret) .skip) ⟨[(0, .str s), (2, .bad), (3, .int .i64 i), (4, .bad), (5, .bad), (18, .bad), (22, .bad), (50, .bool v50)], [], [], 0⟩ (blockQ 1 (seqQ Pg 51 0 (.reg none i55_R9) (loopQ Pg 51 0 i55_L0 (blockQ 0 (seqQ Pg 51 0 (.seq (.reg none i55_R10) .ret) (qf_55 r)))))) := by
  unfold m_ref02_Name_k4 at h
  replace h := ifS h; rcases h with ⟨g11, h⟩ | ⟨g11, h⟩
  · replace h := retS h; subst h
    refine condTP (Wp.seq ?_)
    refine regP (seqN (Wp.ret (blockR (seqR (loopR (blockR (seqR ?_)))))))
    exact finP
  · refine condFP (Wp.skip (blockN (seqN ?_)))
    refine regP (loopN ?_)
    exact jumpL [.kill [50]] (hrec_m_ref02_Name_l1 h)
theorem w_m_ref02_Name_k3 {s : ByteArray} {i : Int} {digit : Bool} {letter : Bool} {r : Bool} {rec_m_ref02_Name_l1 : Int → Option Bool} (hrec_m_ref02_Name_l1 : ∀ {i : Int}, rec_m_ref02_Name_l1 i = some r → LWp Pg 51 0 i55_L0 ⟨[(0, .str s), (2, .bad), (3, .int .i64 i), (4, .bad), (5, .bad), (18, .bad), (22, .bad), (50, .bad)], [], [], 0⟩ (blockQ 0 (seqQ Pg 51 0 (.seq (.reg none i55_R10) .ret) (qf_55 r)))) (h : m_ref02_Name_k3 rec_m_ref02_Name_l1 i digit letter = some r) : Wp Pg 51 0 (.seq (.reg none i55_R7) (.cond (.t 50) (.seq (.reg none i55_R8) .ret) .skip)) ⟨[(0, .str s), (2, .bad), (3, .int .i64 i), (4, .bool digit), (5, .bool letter), (18, .bad), (22, .bad), (50, .bad)], [], [], 0⟩ (blockQ 1 (seqQ Pg 51 0 (.reg none i55_R9) (loopQ Pg 51 0 i55_L0 (blockQ 0 (seqQ Pg 51 0 (.seq (.reg none i55_R10) .ret) (qf_55 r)))))) := by
  unfold m_ref02_Name_k3 at h
  refine Wp.seq ?_
  replace h := ifS h; rcases h with ⟨g10, h⟩ | ⟨g10, h⟩
  · refine regP (seqN ?_)
    exact jumpK [.kill [4, 5]] (w_m_ref02_Name_k4 (s := s) hrec_m_ref02_Name_l1 h)
  · refine regP (seqN ?_)
    exact jumpK [.kill [4, 5]] (w_m_ref02_Name_k4 (s := s) hrec_m_ref02_Name_l1 h)
theorem w_m_ref02_Name_k2 {s : ByteArray} {i : Int} {digit : Bool} {r : Bool} {rec_m_ref02_Name_l1 : Int → Option Bool} (hrec_m_ref02_Name_l1 : ∀ {i : Int}, rec_m_ref02_Name_l1 i = some r → LWp Pg 51 0 i55_L0 ⟨[(0, .str s), (2, .bad), (3, .int .i64 i), (4, .bad), (5, .bad), (18, .bad), (22, .bad), (50, .bad)], [], [], 0⟩ (blockQ 0 (seqQ Pg 51 0 (.seq (.reg none i55_R10) .ret) (qf_55 r)))) (h : m_ref02_Name_k2 rec_m_ref02_Name_l1 s i digit = some r) : Wp Pg 51 0 (.seq (.reg none i55_R6) (.seq (.reg none i55_R7) (.cond (.t 50) (.seq (.reg none i55_R8) .ret) .skip))) ⟨[(0, .str s), (2, .bad), (3, .int .i64 i), (4, .bool digit), (5, .bad), (18, .bad), (22, .bad), (50, .bad)], [], [], 0⟩ (blockQ 1 (seqQ Pg 51 0 (.reg none i55_R9) (loopQ Pg 51 0 i55_L0 (blockQ 0 (seqQ Pg 51 0 (.seq (.reg none i55_R10) .ret) (qf_55 r)))))) := by
  unfold m_ref02_Name_k2 at h
  refine Wp.seq ?_
  replace h := bndS h; obtain ⟨c_2, g8, h⟩ := h
  replace h := ifS h; rcases h with ⟨g9, h⟩ | ⟨g9, h⟩
  · refine regP (seqN ?_)
    exact jumpK [] (w_m_ref02_Name_k3 (s := s) hrec_m_ref02_Name_l1 h)
  · refine regP (seqN ?_)
    exact jumpK [] (w_m_ref02_Name_k3 (s := s) hrec_m_ref02_Name_l1 h)
theorem w_m_ref02_Name_l1_B {s : ByteArray} {r : Bool}   {rec_m_ref02_Name_l1 : Int → Option Bool} (hrec_m_ref02_Name_l1 : ∀ {i : Int}, rec_m_ref02_Name_l1 i = some r → LWp Pg 51 0 i55_L0 ⟨[(0, .str s), (2, .bad), (3, .int .i64 i), (4, .bad), (5, .bad), (18, .bad), (22, .bad), (50, .bad)], [], [], 0⟩ (blockQ 0 (seqQ Pg 51 0 (.seq (.reg none i55_R10) .ret) (qf_55 r)))) {i : Int} (h : m_ref02_Name_l1_B  s rec_m_ref02_Name_l1 i = some r) : LWp Pg 51 0 i55_L0 ⟨[(0, .str s), (2, .bad), (3, .int .i64 i), (4, .bad), (5, .bad), (18, .bad), (22, .bad), (50, .bad)], [], [], 0⟩ (blockQ 0 (seqQ Pg 51 0 (.seq (.reg none i55_R10) .ret) (qf_55 r))) := by
  unfold m_ref02_Name_l1_B at h
  refine LWp.stepC i55_L0.eq_1 ?_
  refine Wp.seq (Wp.seq (regP (seqN ?_)))
  replace h := ifS h; rcases h with ⟨g5, h⟩ | ⟨g5, h⟩
  · refine condTP (Wp.skip (seqN (Wp.seq (Wp.block (Wp.seq ?_)))))
    replace h := bndS h; obtain ⟨c_1, g6, h⟩ := h
    replace h := ifS h; rcases h with ⟨g7, h⟩ | ⟨g7, h⟩
    · refine regP (seqN ?_)
      exact jumpK [.kill [22]] (w_m_ref02_Name_k2 hrec_m_ref02_Name_l1 h)
    · refine regP (seqN ?_)
      exact jumpK [.kill [22]] (w_m_ref02_Name_k2 hrec_m_ref02_Name_l1 h)
  · replace h := retS h; subst h
    refine condFP (Wp.out (seqO (loopO (blockO (seqN (Wp.seq ?_))))))
    refine regP (seqN (Wp.ret ?_))
    exact finP
theorem w_m_ref02_Name_l1 {s : ByteArray} {r : Bool}   : ∀ (n : Nat) {i : Int}, m_ref02_Name_l1  s n i = some r → LWp Pg 51 0 i55_L0 ⟨[(0, .str s), (2, .bad), (3, .int .i64 i), (4, .bad), (5, .bad), (18, .bad), (22, .bad), (50, .bad)], [], [], 0⟩ (blockQ 0 (seqQ Pg 51 0 (.seq (.reg none i55_R10) .ret) (qf_55 r))) := by
  intro n
  induction n with
  | zero => intro i h; unfold m_ref02_Name_l1 at h; cases h
  | succ n ih => intro i h; unfold m_ref02_Name_l1 at h; exact w_m_ref02_Name_l1_B  ih h
theorem w_m_ref02_Name_k1 {s : ByteArray} {v18 : Bool} {r : Bool}   (h : m_ref02_Name_k1 s v18 = some r) : Wp Pg 51 0 (.cond (.t 18) (.seq (.reg none i55_R2) .ret) .skip) ⟨[(0, .str s), (2, .bad), (3, .bad), (4, .bad), (5, .bad), (18, .bool v18), (22, .bad), (50, .bad)], [], [], 0⟩ (seqQ Pg 51 0 (.seq (.seq (.reg none i55_R3) (.block 0 (.loop i55_L0))) (.seq (.reg none i55_R10) .ret)) (qf_55 r)) := by
  unfold m_ref02_Name_k1 at h
  replace h := ifS h; rcases h with ⟨g4, h⟩ | ⟨g4, h⟩
  · replace h := retS h; subst h
    refine condTP (Wp.seq ?_)
    refine regP (seqN (Wp.ret (seqR ?_)))
    exact finP
  · refine condFP (Wp.skip (seqN (Wp.seq (Wp.seq ?_))))
    refine regP (seqN (Wp.block (Wp.loop ?_)))
    exact jumpL [.kill [18]] (w_m_ref02_Name_l1 _ h)
theorem w_m_ref02_Name {s : ByteArray} {r : Bool}   (h : m_ref02_Name s = some r) : Spec Pg 55 [.str s] [] 0 (.bool r) [] 0 := by
  refine Spec.intro Go.Proofs.Try.func55 i55_ok (le_of_ble rfl) ?_
  show Wp Pg 51 0 i55_B ⟨argEnv [.str s] i55_V, [], [], 0⟩ (qf_55 r)
  unfold m_ref02_Name at h
  unfold i55_B
  refine weakP [] ?_
  refine Wp.seq (regP (seqN (Wp.seq (Wp.seq ?_))))
  replace h := ifS h; rcases h with ⟨g1, h⟩ | ⟨g1, h⟩
  · refine regP (seqN ?_)
    exact jumpK [.kill [2, 3, 4, 5, 22, 50]] (w_m_ref02_Name_k1 h)
  · replace h := ifS h; rcases h with ⟨g2, h⟩ | ⟨g2, h⟩
    · refine regP (seqN ?_)
      exact jumpK [.kill [2, 3, 4, 5, 22, 50]] (w_m_ref02_Name_k1 h)
    · replace h := bndS h; obtain ⟨c, g3, h⟩ := h
      refine regP (seqN ?_)
      exact jumpK [.kill [2, 3, 4, 5, 22, 50]] (w_m_ref02_Name_k1 h)
/-! funicular/funicularref09.Check -/
noncomputable abbrev qf_15 (r : Int) : Ex → St → Prop := FinQ 0 [.tmp 2] (.int .i64 r) [] 0
theorem w_m_ref09_Check_k1 {v : TVars} {i : Int} {v53 : Bool} {r : Int} {rec_m_ref09_Check_l1 : Int → Option Int} (hrec_m_ref09_Check_l1 : ∀ {i : Int}, rec_m_ref09_Check_l1 i = some r → LWp Pg 54 0 i15_L0 ⟨[(0, .bad), (1, .ptr 0 0), (2, .bad), (3, .int .i64 i), (4, .bad), (11, .bad), (15, .bad), (20, .bad), (53, .bad)], [], [(0, .box [sl cs v.Names, sl (ci .i64) v.Vals])], 1⟩ (blockQ 0 (seqQ Pg 54 0 (.seq (.reg none i15_R11) .ret) (qf_15 r)))) (h : m_ref09_Check_k1 rec_m_ref09_Check_l1 i v53 = some r) : Wp Pg 54 0 (.cond (.t 53) (.seq (.reg none i15_R9) .ret) .skip) ⟨[(0, .bad), (1, .ptr 0 0), (2, .bad), (3, .int .i64 i), (4, .bad), (11, .bad), (15, .bad), (20, .bad), (53, .bool v53)], [], [(0, .box [sl cs v.Names, sl (ci .i64) v.Vals])], 1⟩ (blockQ 1 (seqQ Pg 54 0 (.reg none i15_R10) (loopQ Pg 54 0 i15_L0 (blockQ 0 (seqQ Pg 54 0 (.seq (.reg none i15_R11) .ret) (qf_15 r)))))) := by
  unfold m_ref09_Check_k1 at h
  replace h := ifS h; rcases h with ⟨g11, h⟩ | ⟨g11, h⟩
  · replace h := retS h; subst h
    refine condTP (Wp.seq ?_)
    refine regP (seqN (Wp.ret (blockR (seqR (loopR (blockR (seqR ?_)))))))
    exact finP
  · refine condFP (Wp.skip (blockN (seqN ?_)))
    refine regP (loopN ?_)
    exact jumpL [.kill [53]] (hrec_m_ref09_Check_l1 h)
theorem w_m_ref09_Check_l1_B {v : TVars} {r : Int}   {rec_m_ref09_Check_l1 : Int → Option Int} (hrec_m_ref09_Check_l1 : ∀ {i : Int}, rec_m_ref09_Check_l1 i = some r → LWp Pg 54 0 i15_L0 ⟨[(0, .bad), (1, .ptr 0 0), (2, .bad), (3, .int .i64 i), (4, .bad), (11, .bad), (15, .bad), (20, .bad), (53, .bad)], [], [(0, .box [sl cs v.Names, sl (ci .i64) v.Vals])], 1⟩ (blockQ 0 (seqQ Pg 54 0 (.seq (.reg none i15_R11) .ret) (qf_15 r)))) {i : Int} (h : m_ref09_Check_l1_B  v rec_m_ref09_Check_l1 i = some r) : LWp Pg 54 0 i15_L0 ⟨[(0, .bad), (1, .ptr 0 0), (2, .bad), (3, .int .i64 i), (4, .bad), (11, .bad), (15, .bad), (20, .bad), (53, .bad)], [], [(0, .box [sl cs v.Names, sl (ci .i64) v.Vals])], 1⟩ (blockQ 0 (seqQ Pg 54 0 (.seq (.reg none i15_R11) .ret) (qf_15 r))) := by
  unfold m_ref09_Check_l1_B at h
  refine LWp.stepC i15_L0.eq_1 ?_
  refine Wp.seq (Wp.seq (regP (seqN ?_)))
  replace h := ifS h; rcases h with ⟨g3, h⟩ | ⟨g3, h⟩
  · refine condTP (Wp.skip (seqN (Wp.seq (Wp.block (Wp.seq ?_)))))
    replace h := bndS h; obtain ⟨e, g4, h⟩ := h
    refine regP (seqN (Wp.seq (Wp.reg ?_)))
    replace h := bndS h; obtain ⟨r0, g5, h⟩ := h
    refine chunkT 2 (tab_cons (w_m_ref02_Name g5) (tab_nil _)) ?_
    replace h := ifS h; rcases h with ⟨g6, h⟩ | ⟨g6, h⟩
    · replace h := ifS h; rcases h with ⟨g7, h⟩ | ⟨g7, h⟩
      · refine lastT (tab_nil _) (seqN ?_)
        exact jumpK [.kill [4, 20]] (w_m_ref09_Check_k1 (v := v) hrec_m_ref09_Check_l1 h)
      · replace h := ifS h; rcases h with ⟨g8, h⟩ | ⟨g8, h⟩
        · refine lastT (tab_nil _) (seqN ?_)
          exact jumpK [.kill [4, 20]] (w_m_ref09_Check_k1 (v := v) hrec_m_ref09_Check_l1 h)
        · replace h := ifS h; rcases h with ⟨g9, h⟩ | ⟨g9, h⟩
          · replace h := bndS h; obtain ⟨e_1, g10, h⟩ := h
            refine lastT (tab_nil _) (seqN ?_)
            exact jumpK [.kill [4, 20]] (w_m_ref09_Check_k1 (v := v) hrec_m_ref09_Check_l1 h)
          · refine lastT (tab_nil _) (seqN ?_)
            exact jumpK [.kill [4, 20]] (w_m_ref09_Check_k1 (v := v) hrec_m_ref09_Check_l1 h)
    · refine lastT (tab_nil _) (seqN ?_)
      exact jumpK [.kill [4, 20]] (w_m_ref09_Check_k1 (v := v) hrec_m_ref09_Check_l1 h)
  · replace h := retS h; subst h
    refine condFP (Wp.out (seqO (loopO (blockO (seqN (Wp.seq ?_))))))
    refine regP (seqN (Wp.ret ?_))
    exact finP
theorem w_m_ref09_Check_l1 {v : TVars} {r : Int}   : ∀ (n : Nat) {i : Int}, m_ref09_Check_l1  v n i = some r → LWp Pg 54 0 i15_L0 ⟨[(0, .bad), (1, .ptr 0 0), (2, .bad), (3, .int .i64 i), (4, .bad), (11, .bad), (15, .bad), (20, .bad), (53, .bad)], [], [(0, .box [sl cs v.Names, sl (ci .i64) v.Vals])], 1⟩ (blockQ 0 (seqQ Pg 54 0 (.seq (.reg none i15_R11) .ret) (qf_15 r))) := by
  intro n
  induction n with
  | zero => intro i h; unfold m_ref09_Check_l1 at h; cases h
  | succ n ih => intro i h; unfold m_ref09_Check_l1 at h; exact w_m_ref09_Check_l1_B  ih h
theorem w_m_ref09_Check {v : TVars} {r : Int}   (h : m_ref09_Check v = some r) : Spec Pg 15 [.agg [sl cs v.Names, sl (ci .i64) v.Vals]] [] 0 (.int .i64 r) [] 0 := by
  refine Spec.intro Go.Proofs.Try.func15 i15_ok (le_of_ble rfl) ?_
  show Wp Pg 54 0 i15_B ⟨argEnv [.agg [sl cs v.Names, sl (ci .i64) v.Vals]] i15_V, [], [], 0⟩ (qf_15 r)
  unfold m_ref09_Check at h
  unfold i15_B
  refine weakP [] ?_
  refine Wp.seq (regP (seqN (Wp.seq (Wp.seq ?_))))
  refine regP (seqN ?_)
  replace h := ifS h; rcases h with ⟨g1, h⟩ | ⟨g1, h⟩
  · replace h := retS h; subst h
    refine condTP (Wp.seq ?_)
    refine regP (seqN (Wp.ret (seqR ?_)))
    exact finP
  · refine condFP (Wp.skip (seqN (Wp.seq (Wp.seq ?_))))
    refine regP (seqN ?_)
    replace h := ifS h; rcases h with ⟨g2, h⟩ | ⟨g2, h⟩
    · replace h := retS h; subst h
      refine condTP (Wp.seq ?_)
      refine regP (seqN (Wp.ret (seqR ?_)))
      exact finP
    · refine condFP (Wp.skip (seqN (Wp.seq (Wp.seq ?_))))
      refine regP (seqN (Wp.block (Wp.loop ?_)))
      exact jumpL [.kill [0, 2, 4, 11, 15, 20, 53]] (w_m_ref09_Check_l1 _ h)
/-! funicular/funicularref08.Texts -/
noncomputable abbrev qf_58 (r : Bool) : Ex → St → Prop := FinQ 0 [.tmp 4] (.bool r) [] 0
theorem w_m_ref08_Texts_l1_B {a : (List ByteArray)} {b : (List ByteArray)} {r : Bool}   {rec_m_ref08_Texts_l1 : Int → Option Bool} (hrec_m_ref08_Texts_l1 : ∀ {i : Int}, rec_m_ref08_Texts_l1 i = some r → LWp Pg 26 0 i58_L0 ⟨[(0, sl cs a), (1, sl cs b), (4, .bad), (5, .int .i64 i), (10, .bad), (14, .bad), (25, .bad)], [], [], 0⟩ (blockQ 0 (seqQ Pg 26 0 (.seq (.reg none i58_R8) .ret) (qf_58 r)))) {i : Int} (h : m_ref08_Texts_l1_B  a b rec_m_ref08_Texts_l1 i = some r) : LWp Pg 26 0 i58_L0 ⟨[(0, sl cs a), (1, sl cs b), (4, .bad), (5, .int .i64 i), (10, .bad), (14, .bad), (25, .bad)], [], [], 0⟩ (blockQ 0 (seqQ Pg 26 0 (.seq (.reg none i58_R8) .ret) (qf_58 r))) := by
  unfold m_ref08_Texts_l1_B at h
  refine LWp.stepC i58_L0.eq_1 ?_
  refine Wp.seq (Wp.seq (regP (seqN ?_)))
  replace h := ifS h; rcases h with ⟨g2, h⟩ | ⟨g2, h⟩
  · refine condTP (Wp.skip (seqN (Wp.seq (Wp.block (Wp.seq ?_)))))
    replace h := bndS h; obtain ⟨e, g3, h⟩ := h
    replace h := bndS h; obtain ⟨e_1, g4, h⟩ := h
    refine drawP [] mixed (clsN _) (seqN ?_)
    replace h := ifS h; rcases h with ⟨g5, h⟩ | ⟨g5, h⟩
    · refine condFP (Wp.skip (blockN (seqN ?_)))
      refine regP (loopN ?_)
      exact jumpL [.kill [14, 25], .tidy] (hrec_m_ref08_Texts_l1 h)
    · replace h := retS h; subst h
      refine condTP (Wp.seq ?_)
      refine regP (seqN (Wp.ret (blockR (seqR (loopR (blockR (seqR ?_)))))))
      exact finP
  · replace h := retS h; subst h
    refine condFP (Wp.out (seqO (loopO (blockO (seqN (Wp.seq ?_))))))
    refine regP (seqN (Wp.ret ?_))
    exact finP
theorem w_m_ref08_Texts_l1 {a : (List ByteArray)} {b : (List ByteArray)} {r : Bool}   : ∀ (n : Nat) {i : Int}, m_ref08_Texts_l1  a b n i = some r → LWp Pg 26 0 i58_L0 ⟨[(0, sl cs a), (1, sl cs b), (4, .bad), (5, .int .i64 i), (10, .bad), (14, .bad), (25, .bad)], [], [], 0⟩ (blockQ 0 (seqQ Pg 26 0 (.seq (.reg none i58_R8) .ret) (qf_58 r))) := by
  intro n
  induction n with
  | zero => intro i h; unfold m_ref08_Texts_l1 at h; cases h
  | succ n ih => intro i h; unfold m_ref08_Texts_l1 at h; exact w_m_ref08_Texts_l1_B  ih h
theorem w_m_ref08_Texts {a : (List ByteArray)} {b : (List ByteArray)} {r : Bool}   (h : m_ref08_Texts a b = some r) : Spec Pg 58 [sl cs a, sl cs b] [] 0 (.bool r) [] 0 := by
  refine Spec.intro Go.Proofs.Try.func58 i58_ok (le_of_ble rfl) ?_
  show Wp Pg 26 0 i58_B ⟨argEnv [sl cs a, sl cs b] i58_V, [], [], 0⟩ (qf_58 r)
  unfold m_ref08_Texts at h
  unfold i58_B
  refine weakP [] ?_
  refine Wp.seq (regP (seqN (Wp.seq (Wp.seq ?_))))
  refine regP (seqN ?_)
  replace h := ifS h; rcases h with ⟨g1, h⟩ | ⟨g1, h⟩
  · replace h := retS h; subst h
    refine condTP (Wp.seq ?_)
    refine regP (seqN (Wp.ret (seqR ?_)))
    exact finP
  · refine condFP (Wp.skip (seqN (Wp.seq (Wp.seq ?_))))
    refine regP (seqN (Wp.block (Wp.loop ?_)))
    exact jumpL [.kill [4, 10, 14, 25]] (w_m_ref08_Texts_l1 _ h)
end Go.Proofs.Ytjhnlgelcfplaaa.R
