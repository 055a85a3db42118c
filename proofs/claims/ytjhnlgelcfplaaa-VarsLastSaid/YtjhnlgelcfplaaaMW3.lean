/- The program's functions answer what the models answer: 3. -/
import Derived.Test.YtjhnlgelcfplaaaMW0
import Derived.Test.YtjhnlgelcfplaaaMW1
import Derived.Test.YtjhnlgelcfplaaaMW2
set_option maxRecDepth 100000
set_option linter.unusedVariables false
set_option linter.unusedSimpArgs false
set_option linter.defProp false
noncomputable section
namespace Go.Proofs.Ytjhnlgelcfplaaa.R
open Go Nat
/-! funicular/funicularref09.Of -/
noncomputable abbrev qf_23 (r : (TVars × Int)) : Ex → St → Prop := FinQ 0 [.cell 2 true 2, .tmp 3] (.tup [.agg [sl cs r.1.Names, sl (ci .i64) r.1.Vals], .int .i64 r.2]) [] 0
theorem w_m_ref09_Of_k2 {out_0_3 : (List ByteArray)} {out_1_3 : (List Int)} {r : (TVars × Int)}   (h : m_ref09_Of_k2 out_0_3 out_1_3 = some r) : Wp Pg 58 0 (.seq (.seq (.reg none i23_R12) (.cond (.t 55) (.seq (.reg none i23_R13) .ret) .skip)) (.seq (.reg none i23_R14) .ret)) ⟨[(0, .bad), (2, .ptr 0 0), (3, .bad), (4, .ptr 1 0), (5, .bad), (6, .bad), (7, .bad), (12, .bad), (21, .bad), (31, .bad), (55, .bad)], [], [(0, .box [.nil, .nil]), (1, .box [sl cs out_0_3, sl (ci .i64) out_1_3])], 2⟩ (qf_23 r) := by
  unfold m_ref09_Of_k2 at h
  refine Wp.seq (Wp.seq (regP (seqN ?_)))
  replace h := ifS h; rcases h with ⟨g10, h⟩ | ⟨g10, h⟩
  · replace h := retS h; subst h
    refine condTP (Wp.seq ?_)
    refine regP (seqN ?_)
    refine weakP [.cell 2 0 .frz, .cell 2 1 .frz] (Wp.ret (seqR ?_))
    exact finP
  · replace h := retS h; subst h
    refine condFP (Wp.skip (seqN (Wp.seq ?_)))
    refine regP (seqN (Wp.ret ?_))
    exact finP
theorem w_m_ref09_Of_k1 {l : (List TVars)} {i : Int} {out_0_2 : (List ByteArray)} {out_1_2 : (List Int)} {r : (TVars × Int)} {rec_m_ref09_Of_l1 : Int → (List ByteArray) → (List Int) → Option (TVars × Int)} (hrec_m_ref09_Of_l1 : ∀ {i : Int} {out_0 : (List ByteArray)} {out_1 : (List Int)}, rec_m_ref09_Of_l1 i out_0 out_1 = some r → LWp Pg 58 0 i23_L1 ⟨[(0, sl TVars.c l), (2, .ptr 0 0), (3, .bad), (4, .ptr 1 0), (5, .int .i64 i), (6, .bad), (7, .bad), (12, .bad), (21, .bad), (31, .bad), (55, .bad)], [], [(0, .box [.nil, .nil]), (1, .box [sl cs out_0, sl (ci .i64) out_1])], 2⟩ (blockQ 0 (seqQ Pg 58 0 (.seq (.seq (.reg none i23_R12) (.cond (.t 55) (.seq (.reg none i23_R13) .ret) .skip)) (.seq (.reg none i23_R14) .ret)) (qf_23 r)))) (h : m_ref09_Of_k1 rec_m_ref09_Of_l1 i out_0_2 out_1_2 = some r) : Wp Pg 58 0 (.reg none i23_R11) ⟨[(0, sl TVars.c l), (2, .ptr 0 0), (3, .bad), (4, .ptr 1 0), (5, .int .i64 i), (6, .bad), (7, .bad), (12, .bad), (21, .bad), (31, .bad), (55, .bad)], [], [(0, .box [.nil, .nil]), (1, .box [sl cs out_0_2, sl (ci .i64) out_1_2])], 2⟩ (loopQ Pg 58 0 i23_L1 (blockQ 0 (seqQ Pg 58 0 (.seq (.seq (.reg none i23_R12) (.cond (.t 55) (.seq (.reg none i23_R13) .ret) .skip)) (.seq (.reg none i23_R14) .ret)) (qf_23 r)))) := by
  unfold m_ref09_Of_k1 at h
  refine regP (loopN ?_)
  exact jumpL [] (hrec_m_ref09_Of_l1 h)
theorem w_m_ref09_Of_l2_B {l : (List TVars)} {i : Int} {r : (TVars × Int)} {rec_m_ref09_Of_l1 : Int → (List ByteArray) → (List Int) → Option (TVars × Int)} (hrec_m_ref09_Of_l1 : ∀ {i : Int} {out_0 : (List ByteArray)} {out_1 : (List Int)}, rec_m_ref09_Of_l1 i out_0 out_1 = some r → LWp Pg 58 0 i23_L1 ⟨[(0, sl TVars.c l), (2, .ptr 0 0), (3, .bad), (4, .ptr 1 0), (5, .int .i64 i), (6, .bad), (7, .bad), (12, .bad), (21, .bad), (31, .bad), (55, .bad)], [], [(0, .box [.nil, .nil]), (1, .box [sl cs out_0, sl (ci .i64) out_1])], 2⟩ (blockQ 0 (seqQ Pg 58 0 (.seq (.seq (.reg none i23_R12) (.cond (.t 55) (.seq (.reg none i23_R13) .ret) .skip)) (.seq (.reg none i23_R14) .ret)) (qf_23 r)))) {rec_m_ref09_Of_l2 : Int → (List ByteArray) → (List Int) → Option (TVars × Int)} (hrec_m_ref09_Of_l2 : ∀ {k : Int} {out_0_1 : (List ByteArray)} {out_1_1 : (List Int)}, rec_m_ref09_Of_l2 k out_0_1 out_1_1 = some r → LWp Pg 58 0 i23_L0 ⟨[(0, sl TVars.c l), (2, .ptr 0 0), (3, .bad), (4, .ptr 1 0), (5, .int .i64 i), (6, .bad), (7, .int .i64 k), (12, .bad), (21, .bad), (31, .bad), (55, .bad)], [], [(0, .box [.nil, .nil]), (1, .box [sl cs out_0_1, sl (ci .i64) out_1_1])], 2⟩ (blockQ 2 (blockQ 1 (seqQ Pg 58 0 (.reg none i23_R11) (loopQ Pg 58 0 i23_L1 (blockQ 0 (seqQ Pg 58 0 (.seq (.seq (.reg none i23_R12) (.cond (.t 55) (.seq (.reg none i23_R13) .ret) .skip)) (.seq (.reg none i23_R14) .ret)) (qf_23 r)))))))) {k : Int} {out_0_1 : (List ByteArray)} {out_1_1 : (List Int)} (h : m_ref09_Of_l2_B rec_m_ref09_Of_l1 l i rec_m_ref09_Of_l2 k out_0_1 out_1_1 = some r) : LWp Pg 58 0 i23_L0 ⟨[(0, sl TVars.c l), (2, .ptr 0 0), (3, .bad), (4, .ptr 1 0), (5, .int .i64 i), (6, .bad), (7, .int .i64 k), (12, .bad), (21, .bad), (31, .bad), (55, .bad)], [], [(0, .box [.nil, .nil]), (1, .box [sl cs out_0_1, sl (ci .i64) out_1_1])], 2⟩ (blockQ 2 (blockQ 1 (seqQ Pg 58 0 (.reg none i23_R11) (loopQ Pg 58 0 i23_L1 (blockQ 0 (seqQ Pg 58 0 (.seq (.seq (.reg none i23_R12) (.cond (.t 55) (.seq (.reg none i23_R13) .ret) .skip)) (.seq (.reg none i23_R14) .ret)) (qf_23 r))))))) := by
  unfold m_ref09_Of_l2_B at h
  refine LWp.stepC i23_L0.eq_1 ?_
  refine Wp.seq (Wp.seq ?_)
  replace h := bndS h; obtain ⟨e_1, g5, h⟩ := h
  refine regP (seqN ?_)
  replace h := ifS h; rcases h with ⟨g6, h⟩ | ⟨g6, h⟩
  · refine condTP (Wp.skip (seqN (Wp.seq (Wp.block ?_))))
    replace h := bndS h; obtain ⟨e_2, g7, h⟩ := h
    replace h := bndS h; obtain ⟨e_3, g8, h⟩ := h
    replace h := bndS h; obtain ⟨r0_1, g9, h⟩ := h
    refine drawP [] mixed (clsC 17 (tab_cons (w_m_ref09_put g9) (tab_nil _)) (clsN _)) (blockN (seqN ?_))
    refine regP (loopN ?_)
    exact jumpL [.kill [31], .tidy] (hrec_m_ref09_Of_l2 h)
  · refine condFP (Wp.out (seqO (loopO (blockO (blockN (seqN ?_))))))
    exact jumpK [.kill [7, 31]] (w_m_ref09_Of_k1 (l := l) hrec_m_ref09_Of_l1 h)
theorem w_m_ref09_Of_l2 {l : (List TVars)} {i : Int} {r : (TVars × Int)} {rec_m_ref09_Of_l1 : Int → (List ByteArray) → (List Int) → Option (TVars × Int)} (hrec_m_ref09_Of_l1 : ∀ {i : Int} {out_0 : (List ByteArray)} {out_1 : (List Int)}, rec_m_ref09_Of_l1 i out_0 out_1 = some r → LWp Pg 58 0 i23_L1 ⟨[(0, sl TVars.c l), (2, .ptr 0 0), (3, .bad), (4, .ptr 1 0), (5, .int .i64 i), (6, .bad), (7, .bad), (12, .bad), (21, .bad), (31, .bad), (55, .bad)], [], [(0, .box [.nil, .nil]), (1, .box [sl cs out_0, sl (ci .i64) out_1])], 2⟩ (blockQ 0 (seqQ Pg 58 0 (.seq (.seq (.reg none i23_R12) (.cond (.t 55) (.seq (.reg none i23_R13) .ret) .skip)) (.seq (.reg none i23_R14) .ret)) (qf_23 r)))) : ∀ (n : Nat) {k : Int} {out_0_1 : (List ByteArray)} {out_1_1 : (List Int)}, m_ref09_Of_l2 rec_m_ref09_Of_l1 l i n k out_0_1 out_1_1 = some r → LWp Pg 58 0 i23_L0 ⟨[(0, sl TVars.c l), (2, .ptr 0 0), (3, .bad), (4, .ptr 1 0), (5, .int .i64 i), (6, .bad), (7, .int .i64 k), (12, .bad), (21, .bad), (31, .bad), (55, .bad)], [], [(0, .box [.nil, .nil]), (1, .box [sl cs out_0_1, sl (ci .i64) out_1_1])], 2⟩ (blockQ 2 (blockQ 1 (seqQ Pg 58 0 (.reg none i23_R11) (loopQ Pg 58 0 i23_L1 (blockQ 0 (seqQ Pg 58 0 (.seq (.seq (.reg none i23_R12) (.cond (.t 55) (.seq (.reg none i23_R13) .ret) .skip)) (.seq (.reg none i23_R14) .ret)) (qf_23 r))))))) := by
  intro n
  induction n with
  | zero => intro k out_0_1 out_1_1 h; unfold m_ref09_Of_l2 at h; cases h
  | succ n ih => intro k out_0_1 out_1_1 h; unfold m_ref09_Of_l2 at h; exact w_m_ref09_Of_l2_B hrec_m_ref09_Of_l1 ih h
theorem w_m_ref09_Of_l1_B {l : (List TVars)} {r : (TVars × Int)}   {rec_m_ref09_Of_l1 : Int → (List ByteArray) → (List Int) → Option (TVars × Int)} (hrec_m_ref09_Of_l1 : ∀ {i : Int} {out_0 : (List ByteArray)} {out_1 : (List Int)}, rec_m_ref09_Of_l1 i out_0 out_1 = some r → LWp Pg 58 0 i23_L1 ⟨[(0, sl TVars.c l), (2, .ptr 0 0), (3, .bad), (4, .ptr 1 0), (5, .int .i64 i), (6, .bad), (7, .bad), (12, .bad), (21, .bad), (31, .bad), (55, .bad)], [], [(0, .box [.nil, .nil]), (1, .box [sl cs out_0, sl (ci .i64) out_1])], 2⟩ (blockQ 0 (seqQ Pg 58 0 (.seq (.seq (.reg none i23_R12) (.cond (.t 55) (.seq (.reg none i23_R13) .ret) .skip)) (.seq (.reg none i23_R14) .ret)) (qf_23 r)))) {i : Int} {out_0 : (List ByteArray)} {out_1 : (List Int)} (h : m_ref09_Of_l1_B  l rec_m_ref09_Of_l1 i out_0 out_1 = some r) : LWp Pg 58 0 i23_L1 ⟨[(0, sl TVars.c l), (2, .ptr 0 0), (3, .bad), (4, .ptr 1 0), (5, .int .i64 i), (6, .bad), (7, .bad), (12, .bad), (21, .bad), (31, .bad), (55, .bad)], [], [(0, .box [.nil, .nil]), (1, .box [sl cs out_0, sl (ci .i64) out_1])], 2⟩ (blockQ 0 (seqQ Pg 58 0 (.seq (.seq (.reg none i23_R12) (.cond (.t 55) (.seq (.reg none i23_R13) .ret) .skip)) (.seq (.reg none i23_R14) .ret)) (qf_23 r))) := by
  unfold m_ref09_Of_l1_B at h
  refine LWp.stepC i23_L1.eq_1 ?_
  refine Wp.seq (Wp.seq (regP (seqN ?_)))
  replace h := ifS h; rcases h with ⟨g1, h⟩ | ⟨g1, h⟩
  · refine condTP (Wp.skip (seqN (Wp.seq (Wp.block (Wp.seq (Wp.seq (Wp.reg ?_)))))))
    replace h := bndS h; obtain ⟨e, g2, h⟩ := h
    replace h := bndS h; obtain ⟨r0, g3, h⟩ := h
    refine chunkT 5 (tab_cons (w_m_ref09_Check g3) (tab_nil _)) ?_
    refine lastT (tab_nil _) (seqN (Wp.seq ?_))
    refine regP (seqN ?_)
    replace h := ifS h; rcases h with ⟨g4, h⟩ | ⟨g4, h⟩
    · replace h := retS h; subst h
      refine condTP (Wp.seq ?_)
      refine regP (seqN ?_)
      refine weakP [.cell 2 0 .frz, .cell 2 1 .frz] (Wp.ret (seqR (blockR (seqR (loopR (blockR (seqR ?_)))))))
      exact finP
    · refine condFP (Wp.skip (seqN (Wp.seq ?_)))
      refine regP (seqN (Wp.block (Wp.loop ?_)))
      exact jumpL [.kill [6, 12, 21]] (w_m_ref09_Of_l2 hrec_m_ref09_Of_l1 _ h)
  · refine condFP (Wp.out (seqO (loopO (blockO (seqN ?_)))))
    exact jumpK [.kill [0, 5, 12]] (w_m_ref09_Of_k2 h)
theorem w_m_ref09_Of_l1 {l : (List TVars)} {r : (TVars × Int)}   : ∀ (n : Nat) {i : Int} {out_0 : (List ByteArray)} {out_1 : (List Int)}, m_ref09_Of_l1  l n i out_0 out_1 = some r → LWp Pg 58 0 i23_L1 ⟨[(0, sl TVars.c l), (2, .ptr 0 0), (3, .bad), (4, .ptr 1 0), (5, .int .i64 i), (6, .bad), (7, .bad), (12, .bad), (21, .bad), (31, .bad), (55, .bad)], [], [(0, .box [.nil, .nil]), (1, .box [sl cs out_0, sl (ci .i64) out_1])], 2⟩ (blockQ 0 (seqQ Pg 58 0 (.seq (.seq (.reg none i23_R12) (.cond (.t 55) (.seq (.reg none i23_R13) .ret) .skip)) (.seq (.reg none i23_R14) .ret)) (qf_23 r))) := by
  intro n
  induction n with
  | zero => intro i out_0 out_1 h; unfold m_ref09_Of_l1 at h; cases h
  | succ n ih => intro i out_0 out_1 h; unfold m_ref09_Of_l1 at h; exact w_m_ref09_Of_l1_B  ih h
theorem w_m_ref09_Of {l : (List TVars)} {r : (TVars × Int)}   (h : m_ref09_Of l = some r) : Spec Pg 23 [sl TVars.c l] [] 0 (.tup [.agg [sl cs r.1.Names, sl (ci .i64) r.1.Vals], .int .i64 r.2]) [] 0 := by
  refine Spec.intro Go.Proofs.Try.func23 i23_ok (le_of_ble rfl) ?_
  show Wp Pg 58 0 i23_B ⟨argEnv [sl TVars.c l] i23_V, [], [], 0⟩ (qf_23 r)
  unfold m_ref09_Of at h
  unfold i23_B
  refine weakP [] ?_
  refine Wp.seq (regP (seqN (Wp.seq ?_)))
  refine regP (seqN (Wp.seq (Wp.seq ?_)))
  refine regP (seqN (Wp.block (Wp.loop ?_)))
  exact jumpL [.kill [3, 6, 7, 12, 21, 31, 55], .cell 4 0 .frz, .cell 4 1 .frz, .tidy] (w_m_ref09_Of_l1 _ h)
/-! funicular/vars.Set -/
noncomputable abbrev qf_24 (r : (TVars × Int)) : Ex → St → Prop := FinQ 0 [.cell 6 true 2, .tmp 7] (.tup [.agg [sl cs r.1.Names, sl (ci .i64) r.1.Vals], .int .i64 r.2]) [] 0
theorem w_m_vars_Set {v : TVars} {name : ByteArray} {n0 : Int} {r : (TVars × Int)}   (h : m_vars_Set v name n0 = some r) : Spec Pg 24 [.agg [sl cs v.Names, sl (ci .i64) v.Vals], .str name, .int .i64 n0] [] 0 (.tup [.agg [sl cs r.1.Names, sl (ci .i64) r.1.Vals], .int .i64 r.2]) [] 0 := by
  refine Spec.intro Go.Proofs.Try.func24 i24_ok (le_of_ble rfl) ?_
  show Wp Pg 18 0 i24_B ⟨argEnv [.agg [sl cs v.Names, sl (ci .i64) v.Vals], .str name, .int .i64 n0] i24_V, [], [], 0⟩ (qf_24 r)
  unfold m_vars_Set at h
  unfold i24_B
  refine weakP [] ?_
  refine Wp.seq (regP (seqN (Wp.seq (Wp.reg ?_))))
  replace h := bndS h; obtain ⟨r0, g1, h⟩ := h
  replace h := retS h; subst h
  refine chunkT 8 (tab_cons (w_m_vars_Of g1) (tab_nil _)) ?_
  refine lastT (tab_nil _) (seqN (Wp.ret ?_))
  exact finP
/-! funicular/funicularref09.One -/
noncomputable abbrev qf_25 (r : TVars) : Ex → St → Prop := FinQ 0 [.cell 4 true 2] (.agg [sl cs r.Names, sl (ci .i64) r.Vals]) [] 0
theorem w_m_ref09_One {name : ByteArray} {n0 : Int} {r : TVars}   (h : m_ref09_One name n0 = some r) : Spec Pg 25 [.str name, .int .i64 n0] [] 0 (.agg [sl cs r.Names, sl (ci .i64) r.Vals]) [] 0 := by
  refine Spec.intro Go.Proofs.Try.func25 i25_ok (le_of_ble rfl) ?_
  show Wp Pg 10 0 i25_B ⟨argEnv [.str name, .int .i64 n0] i25_V, [], [], 0⟩ (qf_25 r)
  unfold m_ref09_One at h
  unfold i25_B
  refine weakP [] ?_
  replace h := retS h; subst h
  refine Wp.seq (regP (seqN (Wp.seq ?_)))
  refine regP (seqN ?_)
  refine weakP [.cell 4 0 .frz, .cell 4 1 .frz] (Wp.ret ?_)
  exact finP
/-! funicular/vars.Get -/
noncomputable abbrev qf_28 (r : (Int × Bool)) : Ex → St → Prop := FinQ 0 [.tmp 4, .tmp 5] (.tup [.int .i64 r.1, .bool r.2]) [] 0
theorem w_m_vars_Get_k1 {v : TVars} {r0 : (Int × Bool)} {v23 : Bool} {r : (Int × Bool)}   (h : m_vars_Get_k1 v r0 v23 = some r) : Wp Pg 29 0 (.cond (.t 23) (.seq (.reg none i28_R3) .ret) .skip) ⟨[(0, .bad), (1, .bad), (2, .ptr 0 0), (4, .bad), (5, .bad), (6, .int .i64 r0.1), (7, .bad), (23, .bool v23)], [], [(0, .box [sl cs v.Names, sl (ci .i64) v.Vals])], 1⟩ (seqQ Pg 29 0 (.seq (.reg none i28_R4) .ret) (qf_28 r)) := by
  unfold m_vars_Get_k1 at h
  replace h := ifS h; rcases h with ⟨g3, h⟩ | ⟨g3, h⟩
  · replace h := retS h; subst h
    refine condTP (Wp.seq ?_)
    refine regP (seqN (Wp.ret (seqR ?_)))
    exact finP
  · refine condFP (Wp.skip (seqN (Wp.seq ?_)))
    replace h := bndS h; obtain ⟨e, g4, h⟩ := h
    replace h := retS h; subst h
    refine regP (seqN (Wp.ret ?_))
    exact finP
theorem w_m_vars_Get {v : TVars} {name : ByteArray} {r : (Int × Bool)}   (h : m_vars_Get v name = some r) : Spec Pg 28 [.agg [sl cs v.Names, sl (ci .i64) v.Vals], .str name] [] 0 (.tup [.int .i64 r.1, .bool r.2]) [] 0 := by
  refine Spec.intro Go.Proofs.Try.func28 i28_ok (le_of_ble rfl) ?_
  show Wp Pg 29 0 i28_B ⟨argEnv [.agg [sl cs v.Names, sl (ci .i64) v.Vals], .str name] i28_V, [], [], 0⟩ (qf_28 r)
  unfold m_vars_Get at h
  unfold i28_B
  refine weakP [] ?_
  refine Wp.seq (regP (seqN (Wp.seq (Wp.reg ?_))))
  replace h := bndS h; obtain ⟨r0, g1, h⟩ := h
  refine chunkT 4 (tab_cons (w_m_slices_BinarySearch_string_string g1) (tab_nil _)) ?_
  refine lastT (tab_nil _) (seqN (Wp.seq (Wp.seq ?_)))
  replace h := ifS h; rcases h with ⟨g2, h⟩ | ⟨g2, h⟩
  · refine regP (seqN ?_)
    exact jumpK [.kill [0, 1, 4, 5, 7]] (w_m_vars_Get_k1 h)
  · refine regP (seqN ?_)
    exact jumpK [.kill [0, 1, 4, 5, 7]] (w_m_vars_Get_k1 h)
/-! funicular/vars.Diff -/
noncomputable abbrev qf_26 (r : (TVars × Int)) : Ex → St → Prop := FinQ 0 [.cell 4 true 2, .tmp 5] (.tup [.agg [sl cs r.1.Names, sl (ci .i64) r.1.Vals], .int .i64 r.2]) [] 0
theorem w_m_vars_Diff_k4 {out_0_1 : (List ByteArray)} {out_1_1 : (List Int)} {r : (TVars × Int)}   (h : m_vars_Diff_k4 out_0_1 out_1_1 = some r) : Wp Pg 92 0 (.seq (.reg none i26_R24) .ret) ⟨[(0, .bad), (1, .bad), (2, .bad), (3, .bad), (4, .ptr 0 0), (5, .bad), (7, .bad), (8, .bad), (10, .bad), (12, .bad), (13, .ptr 1 0), (14, .bad), (15, .bad), (16, .bad), (17, .bad), (20, .bad), (21, .bad), (22, .bad), (23, .bad), (29, .bad), (34, .bad), (35, .bad), (36, .bad), (37, .bad), (47, .bad), (51, .bad), (52, .bad), (53, .bad), (54, .bad), (73, .bad)], [], [(0, .box [.nil, .nil]), (1, .box [.own 1 2 0 out_0_1.length false, .own 1 3 0 out_1_1.length false]), (2, .arr 1 (List.map cs out_0_1) 0), (3, .arr 1 (List.map (ci .i64) out_1_1) 0)], 4⟩ (qf_26 r) := by
  unfold m_vars_Diff_k4 at h
  replace h := retS h; subst h
  refine Wp.seq (regP (seqN ?_))
  refine weakP [.cell 4 0 .frz, .cell 4 1 .frz] (Wp.ret ?_)
  exact finP
theorem w_m_vars_Diff_k3 {from0 : TVars} {to0 : TVars} {v53 : Int} {out_0 : (List ByteArray)} {out_1 : (List Int)} {e_2 : ByteArray} {v73 : Bool} {r : (TVars × Int)} {rec_m_vars_Diff_l3 : Int → (List ByteArray) → (List Int) → Option (TVars × Int)} (hrec_m_vars_Diff_l3 : ∀ {v53 : Int} {out_0 : (List ByteArray)} {out_1 : (List Int)}, rec_m_vars_Diff_l3 v53 out_0 out_1 = some r → LWp Pg 92 0 i26_L2 ⟨[(0, .bad), (1, .bad), (2, .ptr 0 0), (3, .ptr 1 0), (4, .ptr 2 0), (5, .bad), (7, .bad), (8, .bad), (10, .bad), (12, .bad), (13, .ptr 3 0), (14, .bad), (15, .bad), (16, .bad), (17, .bad), (20, .bad), (21, .bad), (22, .bad), (23, .bad), (29, .bad), (34, .bad), (35, .bad), (36, .bad), (37, .bad), (47, .bad), (51, sl cs to0.Names), (52, .int .i64 (to0.Names.length : Int)), (53, .int .i64 v53), (54, .bad), (73, .bad)], [], [(0, .box [sl cs from0.Names, sl (ci .i64) from0.Vals]), (1, .box [sl cs to0.Names, sl (ci .i64) to0.Vals]), (2, .box [.nil, .nil]), (3, .box [.own 1 4 0 out_0.length false, .own 1 5 0 out_1.length false]), (4, .arr 1 (List.map cs out_0) 0), (5, .arr 1 (List.map (ci .i64) out_1) 0)], 6⟩ (blockQ 4 (seqQ Pg 92 0 (.seq (.reg none i26_R24) .ret) (qf_26 r)))) (h : m_vars_Diff_k3 rec_m_vars_Diff_l3 to0 v53 out_0 out_1 e_2 v73 = some r) : Wp Pg 92 0 (.cond (.t 73) (.out 5) .skip) ⟨[(0, .bad), (1, .bad), (2, .ptr 0 0), (3, .ptr 1 0), (4, .ptr 2 0), (5, .bad), (7, .bad), (8, .bad), (10, .bad), (12, .bad), (13, .ptr 3 0), (14, .int .i64 v53), (15, .str e_2), (16, .bad), (17, .bad), (20, .bad), (21, .bad), (22, .bad), (23, .bad), (29, .bad), (34, .bad), (35, .bad), (36, .bad), (37, .bad), (47, .bad), (51, sl cs to0.Names), (52, .int .i64 (to0.Names.length : Int)), (53, .int .i64 v53), (54, .bad), (73, .bool v73)], [], [(0, .box [sl cs from0.Names, sl (ci .i64) from0.Vals]), (1, .box [sl cs to0.Names, sl (ci .i64) to0.Vals]), (2, .box [.nil, .nil]), (3, .box [.own 1 4 0 out_0.length false, .own 1 5 0 out_1.length false]), (4, .arr 1 (List.map cs out_0) 0), (5, .arr 1 (List.map (ci .i64) out_1) 0)], 6⟩ (seqQ Pg 92 0 (.seq (.reg none i26_R21) (.reg (some [(1, 7)]) i26_R22)) (blockQ 5 (seqQ Pg 92 0 (.reg none i26_R23) (loopQ Pg 92 0 i26_L2 (blockQ 4 (seqQ Pg 92 0 (.seq (.reg none i26_R24) .ret) (qf_26 r))))))) := by
  unfold m_vars_Diff_k3 at h
  replace h := ifS h; rcases h with ⟨g14, h⟩ | ⟨g14, h⟩
  · refine condTP (Wp.out (seqO (blockO (seqN ?_))))
    refine regP (loopN ?_)
    exact jumpL [.kill [14, 15, 73]] (hrec_m_vars_Diff_l3 h)
  · refine condFP (Wp.skip (seqN (Wp.seq ?_)))
    replace h := reqS h; obtain ⟨g15, h⟩ := h
    refine regP (seqN ?_)
    replace h := bndS h; obtain ⟨e_4, g16, h⟩ := h
    replace h := reqS h; obtain ⟨g17, h⟩ := h
    refine drawP [] mixed (clsN _) (blockN (seqN ?_))
    refine regP (loopN ?_)
    exact jumpL [.kill [14, 15, 73], .tidy] (hrec_m_vars_Diff_l3 h)
theorem w_m_vars_Diff_l3_B {from0 : TVars} {to0 : TVars} {r : (TVars × Int)}   {rec_m_vars_Diff_l3 : Int → (List ByteArray) → (List Int) → Option (TVars × Int)} (hrec_m_vars_Diff_l3 : ∀ {v53 : Int} {out_0 : (List ByteArray)} {out_1 : (List Int)}, rec_m_vars_Diff_l3 v53 out_0 out_1 = some r → LWp Pg 92 0 i26_L2 ⟨[(0, .bad), (1, .bad), (2, .ptr 0 0), (3, .ptr 1 0), (4, .ptr 2 0), (5, .bad), (7, .bad), (8, .bad), (10, .bad), (12, .bad), (13, .ptr 3 0), (14, .bad), (15, .bad), (16, .bad), (17, .bad), (20, .bad), (21, .bad), (22, .bad), (23, .bad), (29, .bad), (34, .bad), (35, .bad), (36, .bad), (37, .bad), (47, .bad), (51, sl cs to0.Names), (52, .int .i64 (to0.Names.length : Int)), (53, .int .i64 v53), (54, .bad), (73, .bad)], [], [(0, .box [sl cs from0.Names, sl (ci .i64) from0.Vals]), (1, .box [sl cs to0.Names, sl (ci .i64) to0.Vals]), (2, .box [.nil, .nil]), (3, .box [.own 1 4 0 out_0.length false, .own 1 5 0 out_1.length false]), (4, .arr 1 (List.map cs out_0) 0), (5, .arr 1 (List.map (ci .i64) out_1) 0)], 6⟩ (blockQ 4 (seqQ Pg 92 0 (.seq (.reg none i26_R24) .ret) (qf_26 r)))) {v53 : Int} {out_0 : (List ByteArray)} {out_1 : (List Int)} (h : m_vars_Diff_l3_B  from0 to0 rec_m_vars_Diff_l3 v53 out_0 out_1 = some r) : LWp Pg 92 0 i26_L2 ⟨[(0, .bad), (1, .bad), (2, .ptr 0 0), (3, .ptr 1 0), (4, .ptr 2 0), (5, .bad), (7, .bad), (8, .bad), (10, .bad), (12, .bad), (13, .ptr 3 0), (14, .bad), (15, .bad), (16, .bad), (17, .bad), (20, .bad), (21, .bad), (22, .bad), (23, .bad), (29, .bad), (34, .bad), (35, .bad), (36, .bad), (37, .bad), (47, .bad), (51, sl cs to0.Names), (52, .int .i64 (to0.Names.length : Int)), (53, .int .i64 v53), (54, .bad), (73, .bad)], [], [(0, .box [sl cs from0.Names, sl (ci .i64) from0.Vals]), (1, .box [sl cs to0.Names, sl (ci .i64) to0.Vals]), (2, .box [.nil, .nil]), (3, .box [.own 1 4 0 out_0.length false, .own 1 5 0 out_1.length false]), (4, .arr 1 (List.map cs out_0) 0), (5, .arr 1 (List.map (ci .i64) out_1) 0)], 6⟩ (blockQ 4 (seqQ Pg 92 0 (.seq (.reg none i26_R24) .ret) (qf_26 r))) := by
  unfold m_vars_Diff_l3_B at h
  refine LWp.stepC i26_L2.eq_1 ?_
  refine Wp.seq (regP (seqN (Wp.seq ?_)))
  replace h := ifS h; rcases h with ⟨g9, h⟩ | ⟨g9, h⟩
  · refine condTP (Wp.skip (seqN (Wp.seq (Wp.block (Wp.seq ?_)))))
    replace h := bndS h; obtain ⟨e_2, g10, h⟩ := h
    refine regP (seqN (Wp.seq (Wp.seq (Wp.reg ?_))))
    replace h := bndS h; obtain ⟨r0_2, g11, h⟩ := h
    refine chunkT 3 (tab_cons (w_m_vars_Get g11) (tab_nil _)) ?_
    refine lastT (tab_nil _) (seqN (Wp.seq ?_))
    replace h := ifS h; rcases h with ⟨g12, h⟩ | ⟨g12, h⟩
    · replace h := bndS h; obtain ⟨e_3, g13, h⟩ := h
      refine regP (seqN ?_)
      exact jumpK [.kill [16, 17, 54]] (w_m_vars_Diff_k3 (from0 := from0) hrec_m_vars_Diff_l3 h)
    · refine regP (seqN ?_)
      exact jumpK [.kill [16, 17, 54]] (w_m_vars_Diff_k3 (from0 := from0) hrec_m_vars_Diff_l3 h)
  · refine condFP (Wp.out (seqO (loopO (blockO (seqN ?_)))))
    exact jumpK [.kill [2, 3, 51, 52, 53, 54], .tidy] (w_m_vars_Diff_k4 h)
theorem w_m_vars_Diff_l3 {from0 : TVars} {to0 : TVars} {r : (TVars × Int)}   : ∀ (n : Nat) {v53 : Int} {out_0 : (List ByteArray)} {out_1 : (List Int)}, m_vars_Diff_l3  from0 to0 n v53 out_0 out_1 = some r → LWp Pg 92 0 i26_L2 ⟨[(0, .bad), (1, .bad), (2, .ptr 0 0), (3, .ptr 1 0), (4, .ptr 2 0), (5, .bad), (7, .bad), (8, .bad), (10, .bad), (12, .bad), (13, .ptr 3 0), (14, .bad), (15, .bad), (16, .bad), (17, .bad), (20, .bad), (21, .bad), (22, .bad), (23, .bad), (29, .bad), (34, .bad), (35, .bad), (36, .bad), (37, .bad), (47, .bad), (51, sl cs to0.Names), (52, .int .i64 (to0.Names.length : Int)), (53, .int .i64 v53), (54, .bad), (73, .bad)], [], [(0, .box [sl cs from0.Names, sl (ci .i64) from0.Vals]), (1, .box [sl cs to0.Names, sl (ci .i64) to0.Vals]), (2, .box [.nil, .nil]), (3, .box [.own 1 4 0 out_0.length false, .own 1 5 0 out_1.length false]), (4, .arr 1 (List.map cs out_0) 0), (5, .arr 1 (List.map (ci .i64) out_1) 0)], 6⟩ (blockQ 4 (seqQ Pg 92 0 (.seq (.reg none i26_R24) .ret) (qf_26 r))) := by
  intro n
  induction n with
  | zero => intro v53 out_0 out_1 h; unfold m_vars_Diff_l3 at h; cases h
  | succ n ih => intro v53 out_0 out_1 h; unfold m_vars_Diff_l3 at h; exact w_m_vars_Diff_l3_B  ih h
theorem w_m_vars_Diff_k2 {from0 : TVars} {to0 : TVars} {r : (TVars × Int)}   (h : m_vars_Diff_k2 from0 to0 = some r) : Wp Pg 92 0 (.seq (.reg none i26_R15) (.seq (.seq (.reg none i26_R16) (.block 4 (.loop i26_L2))) (.seq (.reg none i26_R24) .ret))) ⟨[(0, .bad), (1, .bad), (2, .ptr 0 0), (3, .ptr 1 0), (4, .ptr 2 0), (5, .bad), (7, .bad), (8, .bad), (10, .bad), (12, .bad), (13, .bad), (14, .bad), (15, .bad), (16, .bad), (17, .bad), (20, .bad), (21, .bad), (22, .bad), (23, .bad), (29, .bad), (34, .bad), (35, .bad), (36, .bad), (37, .bad), (47, .bad), (51, .bad), (52, .bad), (53, .bad), (54, .bad), (73, .bad)], [], [(0, .box [sl cs from0.Names, sl (ci .i64) from0.Vals]), (1, .box [sl cs to0.Names, sl (ci .i64) to0.Vals]), (2, .box [.nil, .nil])], 3⟩ (qf_26 r) := by
  unfold m_vars_Diff_k2 at h
  refine Wp.seq (regP (seqN (Wp.seq (Wp.seq ?_))))
  refine regP (seqN (Wp.block (Wp.loop ?_)))
  exact jumpL [.cell 13 0 (.virt 1), .cell 13 1 (.virt 1), .tidy] (w_m_vars_Diff_l3 _ h)
theorem w_m_vars_Diff_l2_B {from0 : TVars} {to0 : TVars} {r : (TVars × Int)}   {rec_m_vars_Diff_l2 : Int → Option (TVars × Int)} (hrec_m_vars_Diff_l2 : ∀ {v36 : Int}, rec_m_vars_Diff_l2 v36 = some r → LWp Pg 92 0 i26_L1 ⟨[(0, .bad), (1, .bad), (2, .ptr 0 0), (3, .ptr 1 0), (4, .ptr 2 0), (5, .bad), (7, .bad), (8, .bad), (10, .bad), (12, .bad), (13, .bad), (14, .bad), (15, .bad), (16, .bad), (17, .bad), (20, .bad), (21, .bad), (22, .bad), (23, .bad), (29, .bad), (34, sl cs from0.Names), (35, .int .i64 (from0.Names.length : Int)), (36, .int .i64 v36), (37, .bad), (47, .bad), (51, .bad), (52, .bad), (53, .bad), (54, .bad), (73, .bad)], [], [(0, .box [sl cs from0.Names, sl (ci .i64) from0.Vals]), (1, .box [sl cs to0.Names, sl (ci .i64) to0.Vals]), (2, .box [.nil, .nil])], 3⟩ (blockQ 2 (seqQ Pg 92 0 (.seq (.reg none i26_R15) (.seq (.seq (.reg none i26_R16) (.block 4 (.loop i26_L2))) (.seq (.reg none i26_R24) .ret))) (qf_26 r)))) {v36 : Int} (h : m_vars_Diff_l2_B  from0 to0 rec_m_vars_Diff_l2 v36 = some r) : LWp Pg 92 0 i26_L1 ⟨[(0, .bad), (1, .bad), (2, .ptr 0 0), (3, .ptr 1 0), (4, .ptr 2 0), (5, .bad), (7, .bad), (8, .bad), (10, .bad), (12, .bad), (13, .bad), (14, .bad), (15, .bad), (16, .bad), (17, .bad), (20, .bad), (21, .bad), (22, .bad), (23, .bad), (29, .bad), (34, sl cs from0.Names), (35, .int .i64 (from0.Names.length : Int)), (36, .int .i64 v36), (37, .bad), (47, .bad), (51, .bad), (52, .bad), (53, .bad), (54, .bad), (73, .bad)], [], [(0, .box [sl cs from0.Names, sl (ci .i64) from0.Vals]), (1, .box [sl cs to0.Names, sl (ci .i64) to0.Vals]), (2, .box [.nil, .nil])], 3⟩ (blockQ 2 (seqQ Pg 92 0 (.seq (.reg none i26_R15) (.seq (.seq (.reg none i26_R16) (.block 4 (.loop i26_L2))) (.seq (.reg none i26_R24) .ret))) (qf_26 r))) := by
  unfold m_vars_Diff_l2_B at h
  refine LWp.stepC i26_L1.eq_1 ?_
  refine Wp.seq (regP (seqN (Wp.seq ?_)))
  replace h := ifS h; rcases h with ⟨g5, h⟩ | ⟨g5, h⟩
  · refine condTP (Wp.skip (seqN (Wp.seq (Wp.block (Wp.seq ?_)))))
    replace h := bndS h; obtain ⟨e_1, g6, h⟩ := h
    refine regP (seqN (Wp.seq (Wp.reg ?_)))
    replace h := bndS h; obtain ⟨r0_1, g7, h⟩ := h
    refine chunkT 3 (tab_cons (w_m_vars_Get g7) (tab_nil _)) ?_
    refine lastT (tab_nil _) (seqN (Wp.seq ?_))
    refine regP (seqN ?_)
    replace h := ifS h; rcases h with ⟨g8, h⟩ | ⟨g8, h⟩
    · refine condFP (Wp.skip (blockN (seqN ?_)))
      refine regP (loopN ?_)
      exact jumpL [.kill [10, 12, 37, 47]] (hrec_m_vars_Diff_l2 h)
    · replace h := retS h; subst h
      refine condTP (Wp.seq ?_)
      refine regP (seqN ?_)
      refine weakP [.cell 4 0 .frz, .cell 4 1 .frz] (Wp.ret (blockR (seqR (loopR (blockR (seqR ?_))))))
      exact finP
  · refine condFP (Wp.out (seqO (loopO (blockO (seqN ?_)))))
    exact jumpK [.kill [34, 35, 36, 37]] (w_m_vars_Diff_k2 h)
theorem w_m_vars_Diff_l2 {from0 : TVars} {to0 : TVars} {r : (TVars × Int)}   : ∀ (n : Nat) {v36 : Int}, m_vars_Diff_l2  from0 to0 n v36 = some r → LWp Pg 92 0 i26_L1 ⟨[(0, .bad), (1, .bad), (2, .ptr 0 0), (3, .ptr 1 0), (4, .ptr 2 0), (5, .bad), (7, .bad), (8, .bad), (10, .bad), (12, .bad), (13, .bad), (14, .bad), (15, .bad), (16, .bad), (17, .bad), (20, .bad), (21, .bad), (22, .bad), (23, .bad), (29, .bad), (34, sl cs from0.Names), (35, .int .i64 (from0.Names.length : Int)), (36, .int .i64 v36), (37, .bad), (47, .bad), (51, .bad), (52, .bad), (53, .bad), (54, .bad), (73, .bad)], [], [(0, .box [sl cs from0.Names, sl (ci .i64) from0.Vals]), (1, .box [sl cs to0.Names, sl (ci .i64) to0.Vals]), (2, .box [.nil, .nil])], 3⟩ (blockQ 2 (seqQ Pg 92 0 (.seq (.reg none i26_R15) (.seq (.seq (.reg none i26_R16) (.block 4 (.loop i26_L2))) (.seq (.reg none i26_R24) .ret))) (qf_26 r))) := by
  intro n
  induction n with
  | zero => intro v36 h; unfold m_vars_Diff_l2 at h; cases h
  | succ n ih => intro v36 h; unfold m_vars_Diff_l2 at h; exact w_m_vars_Diff_l2_B  ih h
theorem w_m_vars_Diff_k1 {from0 : TVars} {to0 : TVars} {r : (TVars × Int)}   (h : m_vars_Diff_k1 from0 to0 = some r) : Wp Pg 92 0 (.seq (.seq (.reg none i26_R8) (.block 2 (.loop i26_L1))) (.seq (.reg none i26_R15) (.seq (.seq (.reg none i26_R16) (.block 4 (.loop i26_L2))) (.seq (.reg none i26_R24) .ret)))) ⟨[(0, .bad), (1, .bad), (2, .ptr 0 0), (3, .ptr 1 0), (4, .ptr 2 0), (5, .bad), (7, .bad), (8, .bad), (10, .bad), (12, .bad), (13, .bad), (14, .bad), (15, .bad), (16, .bad), (17, .bad), (20, .bad), (21, .bad), (22, .bad), (23, .bad), (29, .bad), (34, .bad), (35, .bad), (36, .bad), (37, .bad), (47, .bad), (51, .bad), (52, .bad), (53, .bad), (54, .bad), (73, .bad)], [], [(0, .box [sl cs from0.Names, sl (ci .i64) from0.Vals]), (1, .box [sl cs to0.Names, sl (ci .i64) to0.Vals]), (2, .box [.nil, .nil])], 3⟩ (qf_26 r) := by
  unfold m_vars_Diff_k1 at h
  refine Wp.seq (Wp.seq (regP (seqN (Wp.block (Wp.loop ?_)))))
  exact jumpL [] (w_m_vars_Diff_l2 _ h)
theorem w_m_vars_Diff_l1_B {from0 : TVars} {to0 : TVars} {r : (TVars × Int)}   {rec_m_vars_Diff_l1 : Int → Option (TVars × Int)} (hrec_m_vars_Diff_l1 : ∀ {v22 : Int}, rec_m_vars_Diff_l1 v22 = some r → LWp Pg 92 0 i26_L0 ⟨[(0, .bad), (1, .bad), (2, .ptr 0 0), (3, .ptr 1 0), (4, .ptr 2 0), (5, .bad), (7, .bad), (8, .bad), (10, .bad), (12, .bad), (13, .bad), (14, .bad), (15, .bad), (16, .bad), (17, .bad), (20, sl TVars.c ([from0, to0])), (21, .int .i64 ((2 : Nat) : Int)), (22, .int .i64 v22), (23, .bad), (29, .bad), (34, .bad), (35, .bad), (36, .bad), (37, .bad), (47, .bad), (51, .bad), (52, .bad), (53, .bad), (54, .bad), (73, .bad)], [], [(0, .box [sl cs from0.Names, sl (ci .i64) from0.Vals]), (1, .box [sl cs to0.Names, sl (ci .i64) to0.Vals]), (2, .box [.nil, .nil])], 3⟩ (blockQ 0 (seqQ Pg 92 0 (.seq (.seq (.reg none i26_R8) (.block 2 (.loop i26_L1))) (.seq (.reg none i26_R15) (.seq (.seq (.reg none i26_R16) (.block 4 (.loop i26_L2))) (.seq (.reg none i26_R24) .ret)))) (qf_26 r)))) {v22 : Int} (h : m_vars_Diff_l1_B  from0 to0 rec_m_vars_Diff_l1 v22 = some r) : LWp Pg 92 0 i26_L0 ⟨[(0, .bad), (1, .bad), (2, .ptr 0 0), (3, .ptr 1 0), (4, .ptr 2 0), (5, .bad), (7, .bad), (8, .bad), (10, .bad), (12, .bad), (13, .bad), (14, .bad), (15, .bad), (16, .bad), (17, .bad), (20, sl TVars.c ([from0, to0])), (21, .int .i64 ((2 : Nat) : Int)), (22, .int .i64 v22), (23, .bad), (29, .bad), (34, .bad), (35, .bad), (36, .bad), (37, .bad), (47, .bad), (51, .bad), (52, .bad), (53, .bad), (54, .bad), (73, .bad)], [], [(0, .box [sl cs from0.Names, sl (ci .i64) from0.Vals]), (1, .box [sl cs to0.Names, sl (ci .i64) to0.Vals]), (2, .box [.nil, .nil])], 3⟩ (blockQ 0 (seqQ Pg 92 0 (.seq (.seq (.reg none i26_R8) (.block 2 (.loop i26_L1))) (.seq (.reg none i26_R15) (.seq (.seq (.reg none i26_R16) (.block 4 (.loop i26_L2))) (.seq (.reg none i26_R24) .ret)))) (qf_26 r))) := by
  unfold m_vars_Diff_l1_B at h
  refine LWp.stepC i26_L0.eq_1 ?_
  refine Wp.seq (regP (seqN (Wp.seq ?_)))
  replace h := ifS h; rcases h with ⟨g1, h⟩ | ⟨g1, h⟩
  · refine condTP (Wp.skip (seqN (Wp.seq (Wp.block (Wp.seq ?_)))))
    replace h := bndS h; obtain ⟨e, g2, h⟩ := h
    have := (show iasAV 2 (canI [[sl cs from0.Names, sl (ci .i64) from0.Vals], [sl cs to0.Names, sl (ci .i64) to0.Vals]]) (.int .i64 v22) = some (.iptr [sl cs e.Names, sl (ci .i64) e.Vals] 0) from ias_sl (c := TVars.c) g2)
    refine regP (seqN (Wp.seq (Wp.reg ?_)))
    replace h := bndS h; obtain ⟨r0, g3, h⟩ := h
    refine chunkT 2 (tab_cons (w_m_vars_Check g3) (tab_nil _)) ?_
    refine lastT (tab_nil _) (seqN (Wp.seq ?_))
    refine regP (seqN ?_)
    replace h := ifS h; rcases h with ⟨g4, h⟩ | ⟨g4, h⟩
    · replace h := retS h; subst h
      refine condTP (Wp.seq ?_)
      refine regP (seqN ?_)
      refine weakP [.cell 4 0 .frz, .cell 4 1 .frz] (Wp.ret (blockR (seqR (loopR (blockR (seqR ?_))))))
      exact finP
    · refine condFP (Wp.skip (blockN (seqN ?_)))
      refine regP (loopN ?_)
      exact jumpL [.kill [7, 8, 23, 29], .tidy] (hrec_m_vars_Diff_l1 h)
  · refine condFP (Wp.out (seqO (loopO (blockO (seqN ?_)))))
    exact jumpK [.kill [20, 21, 22, 23]] (w_m_vars_Diff_k1 h)
theorem w_m_vars_Diff_l1 {from0 : TVars} {to0 : TVars} {r : (TVars × Int)}   : ∀ (n : Nat) {v22 : Int}, m_vars_Diff_l1  from0 to0 n v22 = some r → LWp Pg 92 0 i26_L0 ⟨[(0, .bad), (1, .bad), (2, .ptr 0 0), (3, .ptr 1 0), (4, .ptr 2 0), (5, .bad), (7, .bad), (8, .bad), (10, .bad), (12, .bad), (13, .bad), (14, .bad), (15, .bad), (16, .bad), (17, .bad), (20, sl TVars.c ([from0, to0])), (21, .int .i64 ((2 : Nat) : Int)), (22, .int .i64 v22), (23, .bad), (29, .bad), (34, .bad), (35, .bad), (36, .bad), (37, .bad), (47, .bad), (51, .bad), (52, .bad), (53, .bad), (54, .bad), (73, .bad)], [], [(0, .box [sl cs from0.Names, sl (ci .i64) from0.Vals]), (1, .box [sl cs to0.Names, sl (ci .i64) to0.Vals]), (2, .box [.nil, .nil])], 3⟩ (blockQ 0 (seqQ Pg 92 0 (.seq (.seq (.reg none i26_R8) (.block 2 (.loop i26_L1))) (.seq (.reg none i26_R15) (.seq (.seq (.reg none i26_R16) (.block 4 (.loop i26_L2))) (.seq (.reg none i26_R24) .ret)))) (qf_26 r))) := by
  intro n
  induction n with
  | zero => intro v22 h; unfold m_vars_Diff_l1 at h; cases h
  | succ n ih => intro v22 h; unfold m_vars_Diff_l1 at h; exact w_m_vars_Diff_l1_B  ih h
theorem w_m_vars_Diff {from0 : TVars} {to0 : TVars} {r : (TVars × Int)}   (h : m_vars_Diff from0 to0 = some r) : Spec Pg 26 [.agg [sl cs from0.Names, sl (ci .i64) from0.Vals], .agg [sl cs to0.Names, sl (ci .i64) to0.Vals]] [] 0 (.tup [.agg [sl cs r.1.Names, sl (ci .i64) r.1.Vals], .int .i64 r.2]) [] 0 := by
  refine Spec.intro Go.Proofs.Try.func26 i26_ok (le_of_ble rfl) ?_
  show Wp Pg 92 0 i26_B ⟨argEnv [.agg [sl cs from0.Names, sl (ci .i64) from0.Vals], .agg [sl cs to0.Names, sl (ci .i64) to0.Vals]] i26_V, [], [], 0⟩ (qf_26 r)
  unfold m_vars_Diff at h
  unfold i26_B
  refine weakP [] ?_
  refine Wp.seq (regP (seqN (Wp.seq (Wp.seq ?_))))
  refine regP (seqN (Wp.block (Wp.loop ?_)))
  exact jumpL [.kill [0, 1, 5, 7, 8, 10, 12, 13, 14, 15, 16, 17, 23, 29, 34, 35, 36, 37, 47, 51, 52, 53, 54, 73], .at 20 .frz, .tidy] (w_m_vars_Diff_l1 _ h)
/-! funicular/funicularref09.Get -/
noncomputable abbrev qf_29 (r : (Int × Bool)) : Ex → St → Prop := FinQ 0 [.tmp 4, .tmp 5] (.tup [.int .i64 r.1, .bool r.2]) [] 0
theorem w_m_ref09_Get_l1_B {v : TVars} {name : ByteArray} {r : (Int × Bool)}   {rec_m_ref09_Get_l1 : Int → Option (Int × Bool)} (hrec_m_ref09_Get_l1 : ∀ {i : Int}, rec_m_ref09_Get_l1 i = some r → LWp Pg 26 0 i29_L0 ⟨[(0, .bad), (1, .str name), (2, .ptr 0 0), (4, .bad), (5, .bad), (6, .int .i64 i), (11, .bad), (20, .bad)], [], [(0, .box [sl cs v.Names, sl (ci .i64) v.Vals])], 1⟩ (blockQ 0 (seqQ Pg 26 0 (.seq (.reg none i29_R6) .ret) (qf_29 r)))) {i : Int} (h : m_ref09_Get_l1_B  v name rec_m_ref09_Get_l1 i = some r) : LWp Pg 26 0 i29_L0 ⟨[(0, .bad), (1, .str name), (2, .ptr 0 0), (4, .bad), (5, .bad), (6, .int .i64 i), (11, .bad), (20, .bad)], [], [(0, .box [sl cs v.Names, sl (ci .i64) v.Vals])], 1⟩ (blockQ 0 (seqQ Pg 26 0 (.seq (.reg none i29_R6) .ret) (qf_29 r))) := by
  unfold m_ref09_Get_l1_B at h
  refine LWp.stepC i29_L0.eq_1 ?_
  refine Wp.seq (Wp.seq (regP (seqN ?_)))
  replace h := ifS h; rcases h with ⟨g1, h⟩ | ⟨g1, h⟩
  · refine condTP (Wp.skip (seqN (Wp.seq (Wp.block (Wp.seq ?_)))))
    replace h := bndS h; obtain ⟨e, g2, h⟩ := h
    refine regP (seqN ?_)
    replace h := ifS h; rcases h with ⟨g3, h⟩ | ⟨g3, h⟩
    · refine condTP (Wp.seq ?_)
      replace h := bndS h; obtain ⟨e_1, g4, h⟩ := h
      replace h := retS h; subst h
      refine regP (seqN (Wp.ret (blockR (seqR (loopR (blockR (seqR ?_)))))))
      exact finP
    · refine condFP (Wp.skip (blockN (seqN ?_)))
      refine regP (loopN ?_)
      exact jumpL [.kill [11, 20]] (hrec_m_ref09_Get_l1 h)
  · replace h := retS h; subst h
    refine condFP (Wp.out (seqO (loopO (blockO (seqN (Wp.seq ?_))))))
    refine regP (seqN (Wp.ret ?_))
    exact finP
theorem w_m_ref09_Get_l1 {v : TVars} {name : ByteArray} {r : (Int × Bool)}   : ∀ (n : Nat) {i : Int}, m_ref09_Get_l1  v name n i = some r → LWp Pg 26 0 i29_L0 ⟨[(0, .bad), (1, .str name), (2, .ptr 0 0), (4, .bad), (5, .bad), (6, .int .i64 i), (11, .bad), (20, .bad)], [], [(0, .box [sl cs v.Names, sl (ci .i64) v.Vals])], 1⟩ (blockQ 0 (seqQ Pg 26 0 (.seq (.reg none i29_R6) .ret) (qf_29 r))) := by
  intro n
  induction n with
  | zero => intro i h; unfold m_ref09_Get_l1 at h; cases h
  | succ n ih => intro i h; unfold m_ref09_Get_l1 at h; exact w_m_ref09_Get_l1_B  ih h
theorem w_m_ref09_Get {v : TVars} {name : ByteArray} {r : (Int × Bool)}   (h : m_ref09_Get v name = some r) : Spec Pg 29 [.agg [sl cs v.Names, sl (ci .i64) v.Vals], .str name] [] 0 (.tup [.int .i64 r.1, .bool r.2]) [] 0 := by
  refine Spec.intro Go.Proofs.Try.func29 i29_ok (le_of_ble rfl) ?_
  show Wp Pg 26 0 i29_B ⟨argEnv [.agg [sl cs v.Names, sl (ci .i64) v.Vals], .str name] i29_V, [], [], 0⟩ (qf_29 r)
  unfold m_ref09_Get at h
  unfold i29_B
  refine weakP [] ?_
  refine Wp.seq (regP (seqN (Wp.seq (Wp.seq ?_))))
  refine regP (seqN (Wp.block (Wp.loop ?_)))
  exact jumpL [.kill [0, 4, 5, 11, 20]] (w_m_ref09_Get_l1 _ h)
end Go.Proofs.Ytjhnlgelcfplaaa.R
