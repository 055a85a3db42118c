/- The program's functions answer what the models answer: 4. -/
import Derived.Test.YtjhnlgelcfplaaaMW0
import Derived.Test.YtjhnlgelcfplaaaMW1
import Derived.Test.YtjhnlgelcfplaaaMW2
import Derived.Test.YtjhnlgelcfplaaaMW3
set_option maxRecDepth 100000
set_option maxHeartbeats 1600000
set_option linter.unusedVariables false
set_option linter.unusedSimpArgs false
set_option linter.defProp false
noncomputable section
namespace Go.Proofs.Ytjhnlgelcfplaaa.R
open Go Nat
/-! funicular/funicularref09.Diff -/
noncomputable abbrev qf_27 (r : (TVars × Int)) : Ex → St → Prop := FinQ 0 [.cell 4 true 2, .tmp 5] (.tup [.agg [sl cs r.1.Names, sl (ci .i64) r.1.Vals], .int .i64 r.2]) [] 0
theorem w_m_ref09_Diff_k4 {out_0_2 : (List ByteArray)} {out_1_2 : (List Int)} {r : (TVars × Int)}   (h : m_ref09_Diff_k4 out_0_2 out_1_2 = some r) : Wp Pg 89 0 (.seq (.reg none i27_R20) .ret) ⟨[(0, .bad), (1, .bad), (2, .bad), (3, .bad), (4, .ptr 0 0), (5, .bad), (6, .bad), (7, .bad), (8, .bad), (10, .bad), (11, .ptr 1 0), (12, .bad), (13, .bad), (14, .bad), (18, .bad), (24, .bad), (31, .bad), (45, .bad), (52, .bad), (75, .bad)], [], [(0, .box [.nil, .nil]), (1, .box [sl cs out_0_2, sl (ci .i64) out_1_2])], 2⟩ (qf_27 r) := by
  unfold m_ref09_Diff_k4 at h
  replace h := retS h; subst h
  refine Wp.seq (regP (seqN (Wp.ret ?_)))
  exact finP
theorem w_m_ref09_Diff_k3 {from0 : TVars} {to0 : TVars} {i_1 : Int} {out_0_1 : (List ByteArray)} {out_1_1 : (List Int)} {r : (TVars × Int)} {rec_m_ref09_Diff_l2 : Int → (List ByteArray) → (List Int) → Option (TVars × Int)} (hrec_m_ref09_Diff_l2 : ∀ {i_1 : Int} {out_0 : (List ByteArray)} {out_1 : (List Int)}, rec_m_ref09_Diff_l2 i_1 out_0 out_1 = some r → LWp Pg 89 0 i27_L1 ⟨[(0, .bad), (1, .bad), (2, .ptr 0 0), (3, .ptr 1 0), (4, .ptr 2 0), (5, .bad), (6, .bad), (7, .bad), (8, .bad), (10, .bad), (11, .ptr 3 0), (12, .int .i64 i_1), (13, .bad), (14, .bad), (18, .bad), (24, .bad), (31, .bad), (45, .bad), (52, .bad), (75, .bad)], [], [(0, .box [sl cs from0.Names, sl (ci .i64) from0.Vals]), (1, .box [sl cs to0.Names, sl (ci .i64) to0.Vals]), (2, .box [.nil, .nil]), (3, .box [sl cs out_0, sl (ci .i64) out_1])], 4⟩ (blockQ 2 (seqQ Pg 89 0 (.seq (.reg none i27_R20) .ret) (qf_27 r)))) (h : m_ref09_Diff_k3 rec_m_ref09_Diff_l2 i_1 out_0_1 out_1_1 = some r) : Wp Pg 89 0 (.reg none i27_R19) ⟨[(0, .bad), (1, .bad), (2, .ptr 0 0), (3, .ptr 1 0), (4, .ptr 2 0), (5, .bad), (6, .bad), (7, .bad), (8, .bad), (10, .bad), (11, .ptr 3 0), (12, .int .i64 i_1), (13, .bad), (14, .bad), (18, .bad), (24, .bad), (31, .bad), (45, .bad), (52, .bad), (75, .bad)], [], [(0, .box [sl cs from0.Names, sl (ci .i64) from0.Vals]), (1, .box [sl cs to0.Names, sl (ci .i64) to0.Vals]), (2, .box [.nil, .nil]), (3, .box [sl cs out_0_1, sl (ci .i64) out_1_1])], 4⟩ (loopQ Pg 89 0 i27_L1 (blockQ 2 (seqQ Pg 89 0 (.seq (.reg none i27_R20) .ret) (qf_27 r)))) := by
  unfold m_ref09_Diff_k3 at h
  refine regP (loopN ?_)
  exact jumpL [] (hrec_m_ref09_Diff_l2 h)
theorem w_m_ref09_Diff_k2 {from0 : TVars} {to0 : TVars} {i_1 : Int} {out_0 : (List ByteArray)} {out_1 : (List Int)} {v75 : Bool} {r : (TVars × Int)} {rec_m_ref09_Diff_l2 : Int → (List ByteArray) → (List Int) → Option (TVars × Int)} (hrec_m_ref09_Diff_l2 : ∀ {i_1 : Int} {out_0 : (List ByteArray)} {out_1 : (List Int)}, rec_m_ref09_Diff_l2 i_1 out_0 out_1 = some r → LWp Pg 89 0 i27_L1 ⟨[(0, .bad), (1, .bad), (2, .ptr 0 0), (3, .ptr 1 0), (4, .ptr 2 0), (5, .bad), (6, .bad), (7, .bad), (8, .bad), (10, .bad), (11, .ptr 3 0), (12, .int .i64 i_1), (13, .bad), (14, .bad), (18, .bad), (24, .bad), (31, .bad), (45, .bad), (52, .bad), (75, .bad)], [], [(0, .box [sl cs from0.Names, sl (ci .i64) from0.Vals]), (1, .box [sl cs to0.Names, sl (ci .i64) to0.Vals]), (2, .box [.nil, .nil]), (3, .box [sl cs out_0, sl (ci .i64) out_1])], 4⟩ (blockQ 2 (seqQ Pg 89 0 (.seq (.reg none i27_R20) .ret) (qf_27 r)))) (h : m_ref09_Diff_k2 rec_m_ref09_Diff_l2 to0 i_1 out_0 out_1 v75 = some r) : Wp Pg 89 0 (.cond (.t 75) (.reg (some []) i27_R18) .skip) ⟨[(0, .bad), (1, .bad), (2, .ptr 0 0), (3, .ptr 1 0), (4, .ptr 2 0), (5, .bad), (6, .bad), (7, .bad), (8, .bad), (10, .bad), (11, .ptr 3 0), (12, .int .i64 i_1), (13, .bad), (14, .bad), (18, .bad), (24, .bad), (31, .bad), (45, .bad), (52, .bad), (75, .bool v75)], [], [(0, .box [sl cs from0.Names, sl (ci .i64) from0.Vals]), (1, .box [sl cs to0.Names, sl (ci .i64) to0.Vals]), (2, .box [.nil, .nil]), (3, .box [sl cs out_0, sl (ci .i64) out_1])], 4⟩ (blockQ 3 (seqQ Pg 89 0 (.reg none i27_R19) (loopQ Pg 89 0 i27_L1 (blockQ 2 (seqQ Pg 89 0 (.seq (.reg none i27_R20) .ret) (qf_27 r)))))) := by
  unfold m_ref09_Diff_k2 at h
  replace h := ifS h; rcases h with ⟨g14, h⟩ | ⟨g14, h⟩
  · refine condTP ?_
    replace h := bndS h; obtain ⟨e_3, g15, h⟩ := h
    replace h := bndS h; obtain ⟨e_4, g16, h⟩ := h
    replace h := bndS h; obtain ⟨r0_4, g17, h⟩ := h
    refine drawP [] mixed (clsC 11 (tab_cons (w_m_ref09_put g17) (tab_nil _)) (clsN _)) (blockN (seqN ?_))
    exact jumpK [.kill [75], .tidy] (w_m_ref09_Diff_k3 (from0 := from0) (to0 := to0) hrec_m_ref09_Diff_l2 h)
  · refine condFP (Wp.skip (blockN (seqN ?_)))
    exact jumpK [.kill [75]] (w_m_ref09_Diff_k3 (from0 := from0) (to0 := to0) hrec_m_ref09_Diff_l2 h)
theorem w_m_ref09_Diff_l2_B {from0 : TVars} {to0 : TVars} {r : (TVars × Int)}   {rec_m_ref09_Diff_l2 : Int → (List ByteArray) → (List Int) → Option (TVars × Int)} (hrec_m_ref09_Diff_l2 : ∀ {i_1 : Int} {out_0 : (List ByteArray)} {out_1 : (List Int)}, rec_m_ref09_Diff_l2 i_1 out_0 out_1 = some r → LWp Pg 89 0 i27_L1 ⟨[(0, .bad), (1, .bad), (2, .ptr 0 0), (3, .ptr 1 0), (4, .ptr 2 0), (5, .bad), (6, .bad), (7, .bad), (8, .bad), (10, .bad), (11, .ptr 3 0), (12, .int .i64 i_1), (13, .bad), (14, .bad), (18, .bad), (24, .bad), (31, .bad), (45, .bad), (52, .bad), (75, .bad)], [], [(0, .box [sl cs from0.Names, sl (ci .i64) from0.Vals]), (1, .box [sl cs to0.Names, sl (ci .i64) to0.Vals]), (2, .box [.nil, .nil]), (3, .box [sl cs out_0, sl (ci .i64) out_1])], 4⟩ (blockQ 2 (seqQ Pg 89 0 (.seq (.reg none i27_R20) .ret) (qf_27 r)))) {i_1 : Int} {out_0 : (List ByteArray)} {out_1 : (List Int)} (h : m_ref09_Diff_l2_B  from0 to0 rec_m_ref09_Diff_l2 i_1 out_0 out_1 = some r) : LWp Pg 89 0 i27_L1 ⟨[(0, .bad), (1, .bad), (2, .ptr 0 0), (3, .ptr 1 0), (4, .ptr 2 0), (5, .bad), (6, .bad), (7, .bad), (8, .bad), (10, .bad), (11, .ptr 3 0), (12, .int .i64 i_1), (13, .bad), (14, .bad), (18, .bad), (24, .bad), (31, .bad), (45, .bad), (52, .bad), (75, .bad)], [], [(0, .box [sl cs from0.Names, sl (ci .i64) from0.Vals]), (1, .box [sl cs to0.Names, sl (ci .i64) to0.Vals]), (2, .box [.nil, .nil]), (3, .box [sl cs out_0, sl (ci .i64) out_1])], 4⟩ (blockQ 2 (seqQ Pg 89 0 (.seq (.reg none i27_R20) .ret) (qf_27 r))) := by
  unfold m_ref09_Diff_l2_B at h
  refine LWp.stepC i27_L1.eq_1 ?_
  refine Wp.seq (Wp.seq (regP (seqN ?_)))
  replace h := ifS h; rcases h with ⟨g9, h⟩ | ⟨g9, h⟩
  · refine condTP (Wp.skip (seqN (Wp.seq (Wp.block (Wp.seq ?_)))))
    replace h := bndS h; obtain ⟨e_1, g10, h⟩ := h
    replace h := bndS h; obtain ⟨r0_3, g11, h⟩ := h
    refine drawP [] mixed (clsC 6 (tab_cons (w_m_ref09_Get g11) (tab_nil _)) (clsN _)) (seqN (Wp.seq ?_))
    replace h := ifS h; rcases h with ⟨g12, h⟩ | ⟨g12, h⟩
    · replace h := bndS h; obtain ⟨e_2, g13, h⟩ := h
      refine regP (seqN ?_)
      exact jumpK [.kill [13, 14, 52], .tidy] (w_m_ref09_Diff_k2 (from0 := from0) hrec_m_ref09_Diff_l2 h)
    · refine regP (seqN ?_)
      exact jumpK [.kill [13, 14, 52], .tidy] (w_m_ref09_Diff_k2 (from0 := from0) hrec_m_ref09_Diff_l2 h)
  · refine condFP (Wp.out (seqO (loopO (blockO (seqN ?_)))))
    exact jumpK [.kill [2, 3, 12, 52], .tidy] (w_m_ref09_Diff_k4 h)
theorem w_m_ref09_Diff_l2 {from0 : TVars} {to0 : TVars} {r : (TVars × Int)}   : ∀ (n : Nat) {i_1 : Int} {out_0 : (List ByteArray)} {out_1 : (List Int)}, m_ref09_Diff_l2  from0 to0 n i_1 out_0 out_1 = some r → LWp Pg 89 0 i27_L1 ⟨[(0, .bad), (1, .bad), (2, .ptr 0 0), (3, .ptr 1 0), (4, .ptr 2 0), (5, .bad), (6, .bad), (7, .bad), (8, .bad), (10, .bad), (11, .ptr 3 0), (12, .int .i64 i_1), (13, .bad), (14, .bad), (18, .bad), (24, .bad), (31, .bad), (45, .bad), (52, .bad), (75, .bad)], [], [(0, .box [sl cs from0.Names, sl (ci .i64) from0.Vals]), (1, .box [sl cs to0.Names, sl (ci .i64) to0.Vals]), (2, .box [.nil, .nil]), (3, .box [sl cs out_0, sl (ci .i64) out_1])], 4⟩ (blockQ 2 (seqQ Pg 89 0 (.seq (.reg none i27_R20) .ret) (qf_27 r))) := by
  intro n
  induction n with
  | zero => intro i_1 out_0 out_1 h; unfold m_ref09_Diff_l2 at h; cases h
  | succ n ih => intro i_1 out_0 out_1 h; unfold m_ref09_Diff_l2 at h; exact w_m_ref09_Diff_l2_B  ih h
theorem w_m_ref09_Diff_k1 {from0 : TVars} {to0 : TVars} {r : (TVars × Int)}   (h : m_ref09_Diff_k1 from0 to0 = some r) : Wp Pg 89 0 (.seq (.reg none i27_R13) (.seq (.seq (.reg none i27_R14) (.block 2 (.loop i27_L1))) (.seq (.reg none i27_R20) .ret))) ⟨[(0, .bad), (1, .bad), (2, .ptr 0 0), (3, .ptr 1 0), (4, .ptr 2 0), (5, .bad), (6, .bad), (7, .bad), (8, .bad), (10, .bad), (11, .bad), (12, .bad), (13, .bad), (14, .bad), (18, .bad), (24, .bad), (31, .bad), (45, .bad), (52, .bad), (75, .bad)], [], [(0, .box [sl cs from0.Names, sl (ci .i64) from0.Vals]), (1, .box [sl cs to0.Names, sl (ci .i64) to0.Vals]), (2, .box [.nil, .nil])], 3⟩ (qf_27 r) := by
  unfold m_ref09_Diff_k1 at h
  refine Wp.seq (regP (seqN (Wp.seq (Wp.seq ?_))))
  refine regP (seqN (Wp.block (Wp.loop ?_)))
  exact jumpL [.cell 11 0 .frz, .cell 11 1 .frz, .tidy] (w_m_ref09_Diff_l2 _ h)
theorem w_m_ref09_Diff_l1_B {from0 : TVars} {to0 : TVars} {r : (TVars × Int)}   {rec_m_ref09_Diff_l1 : Int → Option (TVars × Int)} (hrec_m_ref09_Diff_l1 : ∀ {i : Int}, rec_m_ref09_Diff_l1 i = some r → LWp Pg 89 0 i27_L0 ⟨[(0, .bad), (1, .bad), (2, .ptr 0 0), (3, .ptr 1 0), (4, .ptr 2 0), (5, .bad), (6, .bad), (7, .bad), (8, .int .i64 i), (10, .bad), (11, .bad), (12, .bad), (13, .bad), (14, .bad), (18, .bad), (24, .bad), (31, .bad), (45, .bad), (52, .bad), (75, .bad)], [], [(0, .box [sl cs from0.Names, sl (ci .i64) from0.Vals]), (1, .box [sl cs to0.Names, sl (ci .i64) to0.Vals]), (2, .box [.nil, .nil])], 3⟩ (blockQ 0 (seqQ Pg 89 0 (.seq (.reg none i27_R13) (.seq (.seq (.reg none i27_R14) (.block 2 (.loop i27_L1))) (.seq (.reg none i27_R20) .ret))) (qf_27 r)))) {i : Int} (h : m_ref09_Diff_l1_B  from0 to0 rec_m_ref09_Diff_l1 i = some r) : LWp Pg 89 0 i27_L0 ⟨[(0, .bad), (1, .bad), (2, .ptr 0 0), (3, .ptr 1 0), (4, .ptr 2 0), (5, .bad), (6, .bad), (7, .bad), (8, .int .i64 i), (10, .bad), (11, .bad), (12, .bad), (13, .bad), (14, .bad), (18, .bad), (24, .bad), (31, .bad), (45, .bad), (52, .bad), (75, .bad)], [], [(0, .box [sl cs from0.Names, sl (ci .i64) from0.Vals]), (1, .box [sl cs to0.Names, sl (ci .i64) to0.Vals]), (2, .box [.nil, .nil])], 3⟩ (blockQ 0 (seqQ Pg 89 0 (.seq (.reg none i27_R13) (.seq (.seq (.reg none i27_R14) (.block 2 (.loop i27_L1))) (.seq (.reg none i27_R20) .ret))) (qf_27 r))) := by
  unfold m_ref09_Diff_l1_B at h
  refine LWp.stepC i27_L0.eq_1 ?_
  refine Wp.seq (Wp.seq (regP (seqN ?_)))
  replace h := ifS h; rcases h with ⟨g5, h⟩ | ⟨g5, h⟩
  · refine condTP (Wp.skip (seqN (Wp.seq (Wp.block (Wp.seq ?_)))))
    replace h := bndS h; obtain ⟨e, g6, h⟩ := h
    replace h := bndS h; obtain ⟨r0_2, g7, h⟩ := h
    refine drawP [] mixed (clsC 6 (tab_cons (w_m_ref09_Get g7) (tab_nil _)) (clsN _)) (seqN (Wp.seq ?_))
    refine regP (seqN ?_)
    replace h := ifS h; rcases h with ⟨g8, h⟩ | ⟨g8, h⟩
    · refine condFP (Wp.skip (blockN (seqN ?_)))
      refine regP (loopN ?_)
      exact jumpL [.kill [10, 31, 45], .tidy] (hrec_m_ref09_Diff_l1 h)
    · replace h := retS h; subst h
      refine condTP (Wp.seq ?_)
      refine regP (seqN ?_)
      refine weakP [.cell 4 0 .frz, .cell 4 1 .frz] (Wp.ret (blockR (seqR (loopR (blockR (seqR ?_))))))
      exact finP
  · refine condFP (Wp.out (seqO (loopO (blockO (seqN ?_)))))
    exact jumpK [.kill [8, 31]] (w_m_ref09_Diff_k1 h)
theorem w_m_ref09_Diff_l1 {from0 : TVars} {to0 : TVars} {r : (TVars × Int)}   : ∀ (n : Nat) {i : Int}, m_ref09_Diff_l1  from0 to0 n i = some r → LWp Pg 89 0 i27_L0 ⟨[(0, .bad), (1, .bad), (2, .ptr 0 0), (3, .ptr 1 0), (4, .ptr 2 0), (5, .bad), (6, .bad), (7, .bad), (8, .int .i64 i), (10, .bad), (11, .bad), (12, .bad), (13, .bad), (14, .bad), (18, .bad), (24, .bad), (31, .bad), (45, .bad), (52, .bad), (75, .bad)], [], [(0, .box [sl cs from0.Names, sl (ci .i64) from0.Vals]), (1, .box [sl cs to0.Names, sl (ci .i64) to0.Vals]), (2, .box [.nil, .nil])], 3⟩ (blockQ 0 (seqQ Pg 89 0 (.seq (.reg none i27_R13) (.seq (.seq (.reg none i27_R14) (.block 2 (.loop i27_L1))) (.seq (.reg none i27_R20) .ret))) (qf_27 r))) := by
  intro n
  induction n with
  | zero => intro i h; unfold m_ref09_Diff_l1 at h; cases h
  | succ n ih => intro i h; unfold m_ref09_Diff_l1 at h; exact w_m_ref09_Diff_l1_B  ih h
theorem w_m_ref09_Diff {from0 : TVars} {to0 : TVars} {r : (TVars × Int)}   (h : m_ref09_Diff from0 to0 = some r) : Spec Pg 27 [.agg [sl cs from0.Names, sl (ci .i64) from0.Vals], .agg [sl cs to0.Names, sl (ci .i64) to0.Vals]] [] 0 (.tup [.agg [sl cs r.1.Names, sl (ci .i64) r.1.Vals], .int .i64 r.2]) [] 0 := by
  refine Spec.intro Go.Proofs.Try.func27 i27_ok (le_of_ble rfl) ?_
  show Wp Pg 89 0 i27_B ⟨argEnv [.agg [sl cs from0.Names, sl (ci .i64) from0.Vals], .agg [sl cs to0.Names, sl (ci .i64) to0.Vals]] i27_V, [], [], 0⟩ (qf_27 r)
  unfold m_ref09_Diff at h
  unfold i27_B
  refine weakP [] ?_
  refine Wp.seq (regP (seqN (Wp.seq (Wp.seq (Wp.reg ?_)))))
  replace h := bndS h; obtain ⟨r0, g1, h⟩ := h
  refine chunkT 2 (tab_cons (w_m_ref09_Check g1) (tab_nil _)) ?_
  refine lastT (tab_nil _) (seqN (Wp.seq ?_))
  refine regP (seqN ?_)
  replace h := ifS h; rcases h with ⟨g2, h⟩ | ⟨g2, h⟩
  · replace h := retS h; subst h
    refine condTP (Wp.seq ?_)
    refine regP (seqN ?_)
    refine weakP [.cell 4 0 .frz, .cell 4 1 .frz] (Wp.ret (seqR ?_))
    exact finP
  · refine condFP (Wp.skip (seqN (Wp.seq (Wp.seq (Wp.reg ?_)))))
    replace h := bndS h; obtain ⟨r0_1, g3, h⟩ := h
    refine chunkT 2 (tab_cons (w_m_ref09_Check g3) (tab_nil _)) ?_
    refine lastT (tab_nil _) (seqN (Wp.seq ?_))
    refine regP (seqN ?_)
    replace h := ifS h; rcases h with ⟨g4, h⟩ | ⟨g4, h⟩
    · replace h := retS h; subst h
      refine condTP (Wp.seq ?_)
      refine regP (seqN ?_)
      refine weakP [.cell 4 0 .frz, .cell 4 1 .frz] (Wp.ret (seqR ?_))
      exact finP
    · refine condFP (Wp.skip (seqN (Wp.seq (Wp.seq ?_))))
      refine regP (seqN (Wp.block (Wp.loop ?_)))
      exact jumpL [.kill [0, 1, 5, 6, 7, 10, 11, 12, 13, 14, 18, 24, 31, 45, 52, 75], .tidy] (w_m_ref09_Diff_l1 _ h)
/-! funicular/funicularlaw09.VarsPuts -/
noncomputable abbrev qf_5 (r : Bool) : Ex → St → Prop := FinQ 0 [.tmp 10] (.bool r) [] 0
theorem w_m_law09_VarsPuts_k2 {v : TVars} {name : ByteArray} {v120 : Bool} {r : Bool}   (h : m_law09_VarsPuts_k2 v name v120 = some r) : Wp Pg 148 0 (.cond (.t 120) (.seq (.reg none i5_R10) .ret) .skip) ⟨[(0, .bad), (1, .bad), (2, .bad), (3, .str name), (4, .bad), (5, .ptr 0 0), (6, .bad), (7, .bad), (10, .bad), (11, .bad), (12, .bad), (13, .bad), (14, .bad), (15, .bad), (16, .bad), (17, .bad), (18, .bad), (19, .bad), (20, .bad), (21, .bad), (22, .bad), (23, .bad), (24, .bad), (25, .bad), (26, .bad), (44, .bad), (120, .bool v120), (123, .bad)], [], [(0, .box [sl cs v.Names, sl (ci .i64) v.Vals])], 1⟩ (seqQ Pg 148 0 (.seq (.seq (.reg none i5_R11) (.cond (.t 123) (.seq (.reg none i5_R12) .ret) .skip)) (.seq (.reg none i5_R13) (.seq (.reg none i5_R14) (.seq (.reg none i5_R15) .ret)))) (qf_5 r)) := by
  unfold m_law09_VarsPuts_k2 at h
  replace h := ifS h; rcases h with ⟨g24, h⟩ | ⟨g24, h⟩
  · replace h := retS h; subst h
    refine condTP (Wp.seq ?_)
    refine regP (seqN (Wp.ret (seqR ?_)))
    exact finP
  · refine condFP (Wp.skip (seqN (Wp.seq (Wp.seq (Wp.reg ?_)))))
    replace h := bndS h; obtain ⟨r0_14, g25, h⟩ := h
    refine chunkT 2 (tab_cons (w_m_ref09_Check g25) (tab_nil _)) ?_
    refine lastT (tab_nil _) (seqN ?_)
    replace h := ifS h; rcases h with ⟨g26, h⟩ | ⟨g26, h⟩
    · refine condTP (Wp.seq (Wp.reg ?_))
      replace h := bndS h; obtain ⟨r0_15, g27, h⟩ := h
      replace h := retS h; subst h
      refine chunkT 1 (tab_cons (w_m_law09_works g27) (tab_nil _)) ?_
      refine lastT (tab_nil _) (seqN (Wp.ret (seqR ?_)))
      exact finP
    · refine condFP (Wp.skip (seqN (Wp.seq (Wp.reg ?_))))
      replace h := bndS h; obtain ⟨r0_16, g28, h⟩ := h
      refine chunkT 3 (tab_cons (w_m_vars_Get g28) (tab_nil _)) ?_
      refine lastT (tab_nil _) (seqN (Wp.seq (Wp.reg ?_)))
      replace h := bndS h; obtain ⟨r0_17, g29, h⟩ := h
      refine chunkT 3 (tab_cons (w_m_ref09_Get g29) (tab_nil _)) ?_
      refine lastT (tab_nil _) (seqN (Wp.seq (Wp.reg ?_)))
      replace h := ifS h; rcases h with ⟨g30, h⟩ | ⟨g30, h⟩
      · replace h := ifS h; rcases h with ⟨g31, h⟩ | ⟨g31, h⟩
        · replace h := bndS h; obtain ⟨r0_18, g32, h⟩ := h
          replace h := retS h; subst h
          refine chunkT 10 (tab_cons (w_m_law09_works g32) (tab_nil _)) ?_
          refine lastT (tab_nil _) (seqN (Wp.ret ?_))
          exact finP
        · replace h := retS h; subst h
          refine lastT (tab_nil _) (seqN (Wp.ret ?_))
          exact finP
      · replace h := retS h; subst h
        refine lastT (tab_nil _) (seqN (Wp.ret ?_))
        exact finP
theorem w_m_law09_VarsPuts_k1 {v : TVars} {w : TVars} {x0 : TVars} {name : ByteArray} {n0 : Int} {v44 : Bool} {r : Bool}   (h : m_law09_VarsPuts_k1 v w x0 name n0 v44 = some r) : Wp Pg 148 0 (.cond (.t 44) (.seq (.reg none i5_R2) .ret) .skip) ⟨[(0, .bad), (1, .bad), (2, .bad), (3, .str name), (4, .int .i64 n0), (5, .ptr 0 0), (6, .ptr 1 0), (7, .ptr 2 0), (10, .bad), (11, .bad), (12, .bad), (13, .bad), (14, .bad), (15, .bad), (16, .bad), (17, .bad), (18, .bad), (19, .bad), (20, .bad), (21, .bad), (22, .bad), (23, .bad), (24, .bad), (25, .bad), (26, .bad), (44, .bool v44), (120, .bad), (123, .bad)], [], [(0, .box [sl cs v.Names, sl (ci .i64) v.Vals]), (1, .box [sl cs w.Names, sl (ci .i64) w.Vals]), (2, .box [sl cs x0.Names, sl (ci .i64) x0.Vals])], 3⟩ (seqQ Pg 148 0 (.seq (.reg none i5_R3) (.seq (.reg none i5_R4) (.seq (.reg none i5_R5) (.seq (.reg (some [(0, 3), (0, 9), (3, 9), (4, 9), (5, 9)]) i5_R6) (.seq (.reg none i5_R7) (.seq (.reg none i5_R8) (.seq (.seq (.reg none i5_R9) (.cond (.t 120) (.seq (.reg none i5_R10) .ret) .skip)) (.seq (.seq (.reg none i5_R11) (.cond (.t 123) (.seq (.reg none i5_R12) .ret) .skip)) (.seq (.reg none i5_R13) (.seq (.reg none i5_R14) (.seq (.reg none i5_R15) .ret))))))))))) (qf_5 r)) := by
  unfold m_law09_VarsPuts_k1 at h
  replace h := ifS h; rcases h with ⟨g7, h⟩ | ⟨g7, h⟩
  · refine condTP (Wp.seq (Wp.reg ?_))
    replace h := bndS h; obtain ⟨r0_3, g8, h⟩ := h
    replace h := retS h; subst h
    refine chunkT 1 (tab_cons (w_m_law09_works g8) (tab_nil _)) ?_
    refine lastT (tab_nil _) (seqN (Wp.ret (seqR ?_)))
    exact finP
  · refine condFP (Wp.skip (seqN (Wp.seq (Wp.reg ?_))))
    replace h := bndS h; obtain ⟨r0_4, g9, h⟩ := h
    refine chunkT 5 (tab_cons (w_m_vars_Of g9) (tab_nil _)) ?_
    refine lastT (tab_nil _) (seqN (Wp.seq (Wp.reg ?_)))
    replace h := bndS h; obtain ⟨r0_5, g10, h⟩ := h
    refine chunkT 5 (tab_cons (w_m_ref09_Of g10) (tab_nil _)) ?_
    refine lastT (tab_nil _) (seqN (Wp.seq (Wp.reg ?_)))
    replace h := bndS h; obtain ⟨r0_6, g11, h⟩ := h
    refine chunkT 4 (tab_cons (w_m_vars_Set g11) (tab_nil _)) ?_
    refine lastT (tab_nil _) (seqN (Wp.seq ?_))
    replace h := bndS h; obtain ⟨r0_7, g12, h⟩ := h
    replace h := bndS h; obtain ⟨r0_8, g13, h⟩ := h
    refine drawP [] mixed (clsC 3 (tab_cons (w_m_ref09_One g12) (tab_nil _)) (clsC 5 (tab_cons (w_m_ref09_Of g13) (tab_nil _)) (clsN _))) (seqN (Wp.seq (Wp.reg ?_)))
    replace h := bndS h; obtain ⟨r0_9, g14, h⟩ := h
    refine chunkT 3 (tab_cons (w_m_vars_Diff g14) (tab_nil _)) ?_
    refine lastT (tab_nil _) (seqN (Wp.seq (Wp.reg ?_)))
    replace h := bndS h; obtain ⟨r0_10, g15, h⟩ := h
    refine chunkT 3 (tab_cons (w_m_ref09_Diff g15) (tab_nil _)) ?_
    refine lastT (tab_nil _) (seqN (Wp.seq (Wp.seq (Wp.reg ?_))))
    replace h := ifS h; rcases h with ⟨g16, h⟩ | ⟨g16, h⟩
    · refine lastT (tab_nil _) (seqN ?_)
      exact jumpK [.kill [4, 6, 7, 11, 12, 13, 14, 15, 16, 17, 18, 19, 20, 21, 22, 44], .tidy] (w_m_law09_VarsPuts_k2 h)
    · replace h := ifS h; rcases h with ⟨g17, h⟩ | ⟨g17, h⟩
      · refine lastT (tab_nil _) (seqN ?_)
        exact jumpK [.kill [4, 6, 7, 11, 12, 13, 14, 15, 16, 17, 18, 19, 20, 21, 22, 44], .tidy] (w_m_law09_VarsPuts_k2 h)
      · replace h := ifS h; rcases h with ⟨g18, h⟩ | ⟨g18, h⟩
        · refine lastT (tab_nil _) (seqN ?_)
          exact jumpK [.kill [4, 6, 7, 11, 12, 13, 14, 15, 16, 17, 18, 19, 20, 21, 22, 44], .tidy] (w_m_law09_VarsPuts_k2 h)
        · replace h := bndS h; obtain ⟨r0_11, g19, h⟩ := h
          refine chunkT 17 (tab_cons (w_m_ref09_Same g19) (tab_nil _)) ?_
          replace h := ifS h; rcases h with ⟨g20, h⟩ | ⟨g20, h⟩
          · replace h := bndS h; obtain ⟨r0_12, g21, h⟩ := h
            refine chunkT 6 (tab_cons (w_m_ref09_Same g21) (tab_nil _)) ?_
            replace h := ifS h; rcases h with ⟨g22, h⟩ | ⟨g22, h⟩
            · replace h := bndS h; obtain ⟨r0_13, g23, h⟩ := h
              refine chunkT 6 (tab_cons (w_m_ref09_Same g23) (tab_nil _)) ?_
              refine lastT (tab_nil _) (seqN ?_)
              exact jumpK [.kill [4, 6, 7, 11, 12, 13, 14, 15, 16, 17, 18, 19, 20, 21, 22, 44], .tidy] (w_m_law09_VarsPuts_k2 h)
            · refine lastT (tab_nil _) (seqN ?_)
              exact jumpK [.kill [4, 6, 7, 11, 12, 13, 14, 15, 16, 17, 18, 19, 20, 21, 22, 44], .tidy] (w_m_law09_VarsPuts_k2 h)
          · refine lastT (tab_nil _) (seqN ?_)
            exact jumpK [.kill [4, 6, 7, 11, 12, 13, 14, 15, 16, 17, 18, 19, 20, 21, 22, 44], .tidy] (w_m_law09_VarsPuts_k2 h)
theorem w_m_law09_VarsPuts {v : TVars} {w : TVars} {x0 : TVars} {name : ByteArray} {n0 : Int} {r : Bool}   (h : m_law09_VarsPuts v w x0 name n0 = some r) : Spec Pg 5 [.agg [sl cs v.Names, sl (ci .i64) v.Vals], .agg [sl cs w.Names, sl (ci .i64) w.Vals], .agg [sl cs x0.Names, sl (ci .i64) x0.Vals], .str name, .int .i64 n0] [] 0 (.bool r) [] 0 := by
  refine Spec.intro Go.Proofs.Try.func5 i5_ok (le_of_ble rfl) ?_
  show Wp Pg 148 0 i5_B ⟨argEnv [.agg [sl cs v.Names, sl (ci .i64) v.Vals], .agg [sl cs w.Names, sl (ci .i64) w.Vals], .agg [sl cs x0.Names, sl (ci .i64) x0.Vals], .str name, .int .i64 n0] i5_V, [], [], 0⟩ (qf_5 r)
  unfold m_law09_VarsPuts at h
  unfold i5_B
  refine weakP [] ?_
  refine Wp.seq (regP (seqN (Wp.seq (Wp.seq (Wp.reg ?_)))))
  replace h := bndS h; obtain ⟨r0, g1, h⟩ := h
  refine chunkT 2 (tab_cons (w_m_law09_light g1) (tab_nil _)) ?_
  replace h := ifS h; rcases h with ⟨g2, h⟩ | ⟨g2, h⟩
  · replace h := bndS h; obtain ⟨r0_1, g3, h⟩ := h
    refine chunkT 4 (tab_cons (w_m_law09_light g3) (tab_nil _)) ?_
    replace h := ifS h; rcases h with ⟨g4, h⟩ | ⟨g4, h⟩
    · replace h := bndS h; obtain ⟨r0_2, g5, h⟩ := h
      refine chunkT 5 (tab_cons (w_m_law09_light g5) (tab_nil _)) ?_
      replace h := ifS h; rcases h with ⟨g6, h⟩ | ⟨g6, h⟩
      · refine lastT (tab_nil _) (seqN ?_)
        exact jumpK [.kill [0, 1, 2, 10, 11, 12, 13, 14, 15, 16, 17, 18, 19, 20, 21, 22, 23, 24, 25, 26, 120, 123], .tidy] (w_m_law09_VarsPuts_k1 h)
      · refine lastT (tab_nil _) (seqN ?_)
        exact jumpK [.kill [0, 1, 2, 10, 11, 12, 13, 14, 15, 16, 17, 18, 19, 20, 21, 22, 23, 24, 25, 26, 120, 123], .tidy] (w_m_law09_VarsPuts_k1 h)
    · refine lastT (tab_nil _) (seqN ?_)
      exact jumpK [.kill [0, 1, 2, 10, 11, 12, 13, 14, 15, 16, 17, 18, 19, 20, 21, 22, 23, 24, 25, 26, 120, 123], .tidy] (w_m_law09_VarsPuts_k1 h)
  · refine lastT (tab_nil _) (seqN ?_)
    exact jumpK [.kill [0, 1, 2, 10, 11, 12, 13, 14, 15, 16, 17, 18, 19, 20, 21, 22, 23, 24, 25, 26, 120, 123], .tidy] (w_m_law09_VarsPuts_k1 h)
/-! funicular/funicularlaw09.VarsLast -/
noncomputable abbrev qf_6 (r : Bool) : Ex → St → Prop := FinQ 0 [.tmp 6] (.bool r) [] 0
theorem w_m_law09_VarsLast_k4 {v : TVars} {r0_3 : (TVars × Int)} {v85 : Bool} {r : Bool}   (h : m_law09_VarsLast_k4 v r0_3 v85 = some r) : Wp Pg 113 0 (.cond (.t 85) (.seq (.reg none i6_R14) .ret) .skip) ⟨[(0, .bad), (1, .bad), (2, .bad), (3, .ptr 0 0), (4, .bad), (6, .bad), (7, .ptr 1 0), (8, .bad), (9, .bad), (10, .bad), (11, .bad), (12, .bad), (13, .bad), (14, .bad), (15, .bad), (16, .bad), (17, .bad), (18, .bad), (31, .bad), (41, .bad), (57, .bad), (71, .bad), (85, .bool v85)], [], [(0, .box [sl cs v.Names, sl (ci .i64) v.Vals]), (1, .box [sl cs r0_3.1.Names, sl (ci .i64) r0_3.1.Vals])], 2⟩ (seqQ Pg 113 0 (.seq (.reg none i6_R15) (.seq (.reg none i6_R16) (.seq (.reg none i6_R17) .ret))) (qf_6 r)) := by
  unfold m_law09_VarsLast_k4 at h
  replace h := ifS h; rcases h with ⟨g19, h⟩ | ⟨g19, h⟩
  · replace h := retS h; subst h
    refine condTP (Wp.seq ?_)
    refine regP (seqN (Wp.ret (seqR ?_)))
    exact finP
  · refine condFP (Wp.skip (seqN (Wp.seq (Wp.reg ?_))))
    replace h := bndS h; obtain ⟨r0_10, g20, h⟩ := h
    refine chunkT 3 (tab_cons (w_m_vars_Diff g20) (tab_nil _)) ?_
    refine lastT (tab_nil _) (seqN (Wp.seq (Wp.reg ?_)))
    replace h := bndS h; obtain ⟨r0_11, g21, h⟩ := h
    refine chunkT 4 (tab_cons (w_m_vars_Of g21) (tab_nil _)) ?_
    refine lastT (tab_nil _) (seqN (Wp.seq (Wp.reg ?_)))
    replace h := ifS h; rcases h with ⟨g22, h⟩ | ⟨g22, h⟩
    · replace h := ifS h; rcases h with ⟨g23, h⟩ | ⟨g23, h⟩
      · replace h := bndS h; obtain ⟨r0_12, g24, h⟩ := h
        refine chunkT 10 (tab_cons (w_m_ref09_Same g24) (tab_nil _)) ?_
        replace h := ifS h; rcases h with ⟨g25, h⟩ | ⟨g25, h⟩
        · replace h := bndS h; obtain ⟨r0_13, g26, h⟩ := h
          replace h := retS h; subst h
          refine chunkT 3 (tab_cons (w_m_law09_works g26) (tab_nil _)) ?_
          refine lastT (tab_nil _) (seqN (Wp.ret ?_))
          exact finP
        · replace h := retS h; subst h
          refine lastT (tab_nil _) (seqN (Wp.ret ?_))
          exact finP
      · replace h := retS h; subst h
        refine lastT (tab_nil _) (seqN (Wp.ret ?_))
        exact finP
    · replace h := retS h; subst h
      refine lastT (tab_nil _) (seqN (Wp.ret ?_))
      exact finP
theorem w_m_law09_VarsLast_k3 {v : TVars} {r0_3 : (TVars × Int)} {r0_7 : (Int × Bool)} {m : Int} {is : Bool} {r : Bool}   (h : m_law09_VarsLast_k3 v r0_3 r0_7 m is = some r) : Wp Pg 113 0 (.seq (.seq (.reg none i6_R13) (.cond (.t 85) (.seq (.reg none i6_R14) .ret) .skip)) (.seq (.reg none i6_R15) (.seq (.reg none i6_R16) (.seq (.reg none i6_R17) .ret)))) ⟨[(0, .bad), (1, .bad), (2, .bad), (3, .ptr 0 0), (4, .bad), (6, .bad), (7, .ptr 1 0), (8, .bad), (9, .bad), (10, .bad), (11, .int .i64 r0_7.1), (12, .bool r0_7.2), (13, .int .i64 m), (14, .bool is), (15, .bad), (16, .bad), (17, .bad), (18, .bad), (31, .bad), (41, .bad), (57, .bad), (71, .bad), (85, .bad)], [], [(0, .box [sl cs v.Names, sl (ci .i64) v.Vals]), (1, .box [sl cs r0_3.1.Names, sl (ci .i64) r0_3.1.Vals])], 2⟩ (qf_6 r) := by
  unfold m_law09_VarsLast_k3 at h
  refine Wp.seq (Wp.seq ?_)
  replace h := ifS h; rcases h with ⟨g18, h⟩ | ⟨g18, h⟩
  · refine regP (seqN ?_)
    exact jumpK [.kill [11, 12, 13, 14]] (w_m_law09_VarsLast_k4 h)
  · refine regP (seqN ?_)
    exact jumpK [.kill [11, 12, 13, 14]] (w_m_law09_VarsLast_k4 h)
theorem w_m_law09_VarsLast_k2 {v : TVars} {w : TVars} {name : ByteArray} {r0_3 : (TVars × Int)} {v57 : Bool} {r : Bool}   (h : m_law09_VarsLast_k2 v w name r0_3 v57 = some r) : Wp Pg 113 0 (.cond (.t 57) (.seq (.reg none i6_R8) .ret) .skip) ⟨[(0, .bad), (1, .bad), (2, .str name), (3, .ptr 0 0), (4, .ptr 1 0), (6, .bad), (7, .ptr 2 0), (8, .bad), (9, .bad), (10, .bad), (11, .bad), (12, .bad), (13, .bad), (14, .bad), (15, .bad), (16, .bad), (17, .bad), (18, .bad), (31, .bad), (41, .bad), (57, .bool v57), (71, .bad), (85, .bad)], [], [(0, .box [sl cs v.Names, sl (ci .i64) v.Vals]), (1, .box [sl cs w.Names, sl (ci .i64) w.Vals]), (2, .box [sl cs r0_3.1.Names, sl (ci .i64) r0_3.1.Vals])], 3⟩ (seqQ Pg 113 0 (.seq (.reg none i6_R9) (.seq (.reg none i6_R10) (.seq (.seq (.reg none i6_R11) (.cond (.t 71) (.reg none i6_R12) .skip)) (.seq (.seq (.reg none i6_R13) (.cond (.t 85) (.seq (.reg none i6_R14) .ret) .skip)) (.seq (.reg none i6_R15) (.seq (.reg none i6_R16) (.seq (.reg none i6_R17) .ret))))))) (qf_6 r)) := by
  unfold m_law09_VarsLast_k2 at h
  replace h := ifS h; rcases h with ⟨g13, h⟩ | ⟨g13, h⟩
  · replace h := retS h; subst h
    refine condTP (Wp.seq ?_)
    refine regP (seqN (Wp.ret (seqR ?_)))
    exact finP
  · refine condFP (Wp.skip (seqN (Wp.seq (Wp.reg ?_))))
    replace h := bndS h; obtain ⟨r0_7, g14, h⟩ := h
    refine chunkT 3 (tab_cons (w_m_vars_Get g14) (tab_nil _)) ?_
    refine lastT (tab_nil _) (seqN (Wp.seq (Wp.reg ?_)))
    replace h := bndS h; obtain ⟨r0_8, g15, h⟩ := h
    refine chunkT 3 (tab_cons (w_m_vars_Get g15) (tab_nil _)) ?_
    refine lastT (tab_nil _) (seqN (Wp.seq (Wp.seq ?_)))
    refine regP (seqN ?_)
    replace h := ifS h; rcases h with ⟨g16, h⟩ | ⟨g16, h⟩
    · refine condFP (Wp.skip (seqN ?_))
      exact jumpK [.kill [2, 4, 57, 71], .tidy] (w_m_law09_VarsLast_k3 h)
    · refine condTP (Wp.reg ?_)
      replace h := bndS h; obtain ⟨r0_9, g17, h⟩ := h
      refine chunkT 3 (tab_cons (w_m_vars_Get g17) (tab_nil _)) ?_
      refine lastT (tab_nil _) (seqN ?_)
      exact jumpK [.kill [2, 4, 57, 71], .tidy] (w_m_law09_VarsLast_k3 h)
theorem w_m_law09_VarsLast_k1 {v : TVars} {w : TVars} {name : ByteArray} {v31 : Bool} {r : Bool}   (h : m_law09_VarsLast_k1 v w name v31 = some r) : Wp Pg 113 0 (.cond (.t 31) (.seq (.reg none i6_R2) .ret) .skip) ⟨[(0, .bad), (1, .bad), (2, .str name), (3, .ptr 0 0), (4, .ptr 1 0), (6, .bad), (7, .bad), (8, .bad), (9, .bad), (10, .bad), (11, .bad), (12, .bad), (13, .bad), (14, .bad), (15, .bad), (16, .bad), (17, .bad), (18, .bad), (31, .bool v31), (41, .bad), (57, .bad), (71, .bad), (85, .bad)], [], [(0, .box [sl cs v.Names, sl (ci .i64) v.Vals]), (1, .box [sl cs w.Names, sl (ci .i64) w.Vals])], 2⟩ (seqQ Pg 113 0 (.seq (.reg none i6_R3) (.seq (.seq (.reg none i6_R4) (.cond (.t 41) (.seq (.reg none i6_R5) .ret) .skip)) (.seq (.reg none i6_R6) (.seq (.seq (.reg none i6_R7) (.cond (.t 57) (.seq (.reg none i6_R8) .ret) .skip)) (.seq (.reg none i6_R9) (.seq (.reg none i6_R10) (.seq (.seq (.reg none i6_R11) (.cond (.t 71) (.reg none i6_R12) .skip)) (.seq (.seq (.reg none i6_R13) (.cond (.t 85) (.seq (.reg none i6_R14) .ret) .skip)) (.seq (.reg none i6_R15) (.seq (.reg none i6_R16) (.seq (.reg none i6_R17) .ret))))))))))) (qf_6 r)) := by
  unfold m_law09_VarsLast_k1 at h
  replace h := ifS h; rcases h with ⟨g5, h⟩ | ⟨g5, h⟩
  · refine condTP (Wp.seq (Wp.reg ?_))
    replace h := bndS h; obtain ⟨r0_2, g6, h⟩ := h
    replace h := retS h; subst h
    refine chunkT 1 (tab_cons (w_m_law09_works g6) (tab_nil _)) ?_
    refine lastT (tab_nil _) (seqN (Wp.ret (seqR ?_)))
    exact finP
  · refine condFP (Wp.skip (seqN (Wp.seq (Wp.reg ?_))))
    replace h := bndS h; obtain ⟨r0_3, g7, h⟩ := h
    refine chunkT 4 (tab_cons (w_m_vars_Of g7) (tab_nil _)) ?_
    refine lastT (tab_nil _) (seqN (Wp.seq (Wp.seq ?_)))
    refine regP (seqN ?_)
    replace h := ifS h; rcases h with ⟨g8, h⟩ | ⟨g8, h⟩
    · refine condTP (Wp.seq (Wp.reg ?_))
      replace h := bndS h; obtain ⟨r0_4, g9, h⟩ := h
      replace h := retS h; subst h
      refine chunkT 1 (tab_cons (w_m_law09_works g9) (tab_nil _)) ?_
      refine lastT (tab_nil _) (seqN (Wp.ret (seqR ?_)))
      exact finP
    · refine condFP (Wp.skip (seqN (Wp.seq (Wp.reg ?_))))
      replace h := bndS h; obtain ⟨r0_5, g10, h⟩ := h
      refine chunkT 4 (tab_cons (w_m_vars_Of g10) (tab_nil _)) ?_
      refine lastT (tab_nil _) (seqN (Wp.seq (Wp.seq (Wp.reg ?_))))
      replace h := ifS h; rcases h with ⟨g11, h⟩ | ⟨g11, h⟩
      · refine lastT (tab_nil _) (seqN ?_)
        exact jumpK [.kill [8, 9, 10, 31, 41], .tidy] (w_m_law09_VarsLast_k2 h)
      · replace h := bndS h; obtain ⟨r0_6, g12, h⟩ := h
        refine chunkT 6 (tab_cons (w_m_ref09_Same g12) (tab_nil _)) ?_
        refine lastT (tab_nil _) (seqN ?_)
        exact jumpK [.kill [8, 9, 10, 31, 41], .tidy] (w_m_law09_VarsLast_k2 h)
theorem w_m_law09_VarsLast {v : TVars} {w : TVars} {name : ByteArray} {r : Bool}   (h : m_law09_VarsLast v w name = some r) : Spec Pg 6 [.agg [sl cs v.Names, sl (ci .i64) v.Vals], .agg [sl cs w.Names, sl (ci .i64) w.Vals], .str name] [] 0 (.bool r) [] 0 := by
  refine Spec.intro Go.Proofs.Try.func6 i6_ok (le_of_ble rfl) ?_
  show Wp Pg 113 0 i6_B ⟨argEnv [.agg [sl cs v.Names, sl (ci .i64) v.Vals], .agg [sl cs w.Names, sl (ci .i64) w.Vals], .str name] i6_V, [], [], 0⟩ (qf_6 r)
  unfold m_law09_VarsLast at h
  unfold i6_B
  refine weakP [] ?_
  refine Wp.seq (regP (seqN (Wp.seq (Wp.seq (Wp.reg ?_)))))
  replace h := bndS h; obtain ⟨r0, g1, h⟩ := h
  refine chunkT 2 (tab_cons (w_m_law09_light g1) (tab_nil _)) ?_
  replace h := ifS h; rcases h with ⟨g2, h⟩ | ⟨g2, h⟩
  · replace h := bndS h; obtain ⟨r0_1, g3, h⟩ := h
    refine chunkT 4 (tab_cons (w_m_law09_light g3) (tab_nil _)) ?_
    replace h := ifS h; rcases h with ⟨g4, h⟩ | ⟨g4, h⟩
    · refine lastT (tab_nil _) (seqN ?_)
      exact jumpK [.kill [0, 1, 6, 7, 8, 9, 10, 11, 12, 13, 14, 15, 16, 17, 18, 41, 57, 71, 85], .tidy] (w_m_law09_VarsLast_k1 h)
    · refine lastT (tab_nil _) (seqN ?_)
      exact jumpK [.kill [0, 1, 6, 7, 8, 9, 10, 11, 12, 13, 14, 15, 16, 17, 18, 41, 57, 71, 85], .tidy] (w_m_law09_VarsLast_k1 h)
  · refine lastT (tab_nil _) (seqN ?_)
    exact jumpK [.kill [0, 1, 6, 7, 8, 9, 10, 11, 12, 13, 14, 15, 16, 17, 18, 41, 57, 71, 85], .tidy] (w_m_law09_VarsLast_k1 h)
end Go.Proofs.Ytjhnlgelcfplaaa.R
