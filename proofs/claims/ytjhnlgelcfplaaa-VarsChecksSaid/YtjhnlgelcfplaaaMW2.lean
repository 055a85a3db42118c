/- The program's functions answer what the models answer: 2. -/
import Derived.Test.YtjhnlgelcfplaaaMW0
import Derived.Test.YtjhnlgelcfplaaaMW1
set_option maxRecDepth 100000
set_option linter.unusedVariables false
set_option linter.unusedSimpArgs false
set_option linter.defProp false
noncomputable section
namespace Go.Proofs.Ytjhnlgelcfplaaa.R
open Go Nat
/-! funicular/funicularref08.Texts -/
noncomputable abbrev qf_58 (r : Bool) : Ex → St → Prop := FinQ 0 [.tmp 4] (.bool r) [] 0
theorem w_m_ref08_Texts_l1_B {a : (List ByteArray)} {b : (List ByteArray)} {r : Bool}   {rec_m_ref08_Texts_l1 : Int → Option Bool} (hrec_m_ref08_Texts_l1 : ∀ {i : Int}, rec_m_ref08_Texts_l1 i = some r → LWp Pg 26 0 i58_L0 ⟨[(0, sl cs a), (1, sl cs b), (4, .bad), (5, .int .i64 i), (10, .bad), (14, .bad), (25, .bad)], [], [], 0⟩ (blockQ 0 (seqQ Pg 26 0 (.seq (.reg none i58_R8) .ret) (qf_58 r)))) {i : Int} (h : m_ref08_Texts_l1_B  a b rec_m_ref08_Texts_l1 i = some r) : LWp Pg 26 0 i58_L0 ⟨[(0, sl cs a), (1, sl cs b), (4, .bad), (5, .int .i64 i), (10, .bad), (14, .bad), (25, .bad)], [], [], 0⟩ (blockQ 0 (seqQ Pg 26 0 (.seq (.reg none i58_R8) .ret) (qf_58 r))) := by
  unfold m_ref08_Texts_l1_B at h
  refine LWp.stepC i58_L0.eq_1 ?_
  refine Wp.seq (Wp.seq (regP (seqN ?_)))
  replace h := ifS h; rcases h with ⟨g2, h⟩ | ⟨g2, h⟩
  · refine condTP (Wp.skip (seqN (Wp.seq (Wp.block (Wp.seq ?_)))))
    replace h := bndS h; obtain ⟨e, g3, h⟩ := h
    replace h := bndS h; obtain ⟨e_1, g4, h⟩ := h
    refine drawP [] mixed (clsN _) (seqN ?_)
    replace h := ifS h; rcases h with ⟨g5, h⟩ | ⟨g5, h⟩
    · refine condFP (Wp.skip (blockN (seqN ?_)))
      refine regP (loopN ?_)
      exact jumpL [.kill [14, 25], .tidy] (hrec_m_ref08_Texts_l1 h)
    · replace h := retS h; subst h
      refine condTP (Wp.seq ?_)
      refine regP (seqN (Wp.ret (blockR (seqR (loopR (blockR (seqR ?_)))))))
      exact finP
  · replace h := retS h; subst h
    refine condFP (Wp.out (seqO (loopO (blockO (seqN (Wp.seq ?_))))))
    refine regP (seqN (Wp.ret ?_))
    exact finP
theorem w_m_ref08_Texts_l1 {a : (List ByteArray)} {b : (List ByteArray)} {r : Bool}   : ∀ (n : Nat) {i : Int}, m_ref08_Texts_l1  a b n i = some r → LWp Pg 26 0 i58_L0 ⟨[(0, sl cs a), (1, sl cs b), (4, .bad), (5, .int .i64 i), (10, .bad), (14, .bad), (25, .bad)], [], [], 0⟩ (blockQ 0 (seqQ Pg 26 0 (.seq (.reg none i58_R8) .ret) (qf_58 r))) := by
  intro n
  induction n with
  | zero => intro i h; unfold m_ref08_Texts_l1 at h; cases h
  | succ n ih => intro i h; unfold m_ref08_Texts_l1 at h; exact w_m_ref08_Texts_l1_B  ih h
theorem w_m_ref08_Texts {a : (List ByteArray)} {b : (List ByteArray)} {r : Bool}   (h : m_ref08_Texts a b = some r) : Spec Pg 58 [sl cs a, sl cs b] [] 0 (.bool r) [] 0 := by
  refine Spec.intro Go.Proofs.Try.func58 i58_ok (le_of_ble rfl) ?_
  show Wp Pg 26 0 i58_B ⟨argEnv [sl cs a, sl cs b] i58_V, [], [], 0⟩ (qf_58 r)
  unfold m_ref08_Texts at h
  unfold i58_B
  refine weakP [] ?_
  refine Wp.seq (regP (seqN (Wp.seq (Wp.seq ?_))))
  refine regP (seqN ?_)
  replace h := ifS h; rcases h with ⟨g1, h⟩ | ⟨g1, h⟩
  · replace h := retS h; subst h
    refine condTP (Wp.seq ?_)
    refine regP (seqN (Wp.ret (seqR ?_)))
    exact finP
  · refine condFP (Wp.skip (seqN (Wp.seq (Wp.seq ?_))))
    refine regP (seqN (Wp.block (Wp.loop ?_)))
    exact jumpL [.kill [4, 10, 14, 25]] (w_m_ref08_Texts_l1 _ h)
/-! funicular/funicularref09.Same -/
noncomputable abbrev qf_17 (r : Bool) : Ex → St → Prop := FinQ 0 [.tmp 4] (.bool r) [] 0
theorem w_m_ref09_Same_l1_B {a : TVars} {b : TVars} {r : Bool}   {rec_m_ref09_Same_l1 : Int → Option Bool} (hrec_m_ref09_Same_l1 : ∀ {i : Int}, rec_m_ref09_Same_l1 i = some r → LWp Pg 39 0 i17_L0 ⟨[(0, .bad), (1, .bad), (2, .ptr 0 0), (3, .ptr 1 0), (4, .bad), (5, .int .i64 i), (20, .bad), (25, .bad), (38, .bad)], [], [(0, .box [sl cs a.Names, sl (ci .i64) a.Vals]), (1, .box [sl cs b.Names, sl (ci .i64) b.Vals])], 2⟩ (blockQ 0 (seqQ Pg 39 0 (.seq (.reg none i17_R8) .ret) (qf_17 r)))) {i : Int} (h : m_ref09_Same_l1_B  a b rec_m_ref09_Same_l1 i = some r) : LWp Pg 39 0 i17_L0 ⟨[(0, .bad), (1, .bad), (2, .ptr 0 0), (3, .ptr 1 0), (4, .bad), (5, .int .i64 i), (20, .bad), (25, .bad), (38, .bad)], [], [(0, .box [sl cs a.Names, sl (ci .i64) a.Vals]), (1, .box [sl cs b.Names, sl (ci .i64) b.Vals])], 2⟩ (blockQ 0 (seqQ Pg 39 0 (.seq (.reg none i17_R8) .ret) (qf_17 r))) := by
  unfold m_ref09_Same_l1_B at h
  refine LWp.stepC i17_L0.eq_1 ?_
  refine Wp.seq (Wp.seq (regP (seqN ?_)))
  replace h := ifS h; rcases h with ⟨g4, h⟩ | ⟨g4, h⟩
  · refine condTP (Wp.skip (seqN (Wp.seq (Wp.block (Wp.seq ?_)))))
    replace h := bndS h; obtain ⟨e, g5, h⟩ := h
    replace h := bndS h; obtain ⟨e_1, g6, h⟩ := h
    refine drawP [] mixed (clsN _) (seqN ?_)
    replace h := ifS h; rcases h with ⟨g7, h⟩ | ⟨g7, h⟩
    · replace h := retS h; subst h
      refine condTP (Wp.seq ?_)
      refine regP (seqN (Wp.ret (blockR (seqR (loopR (blockR (seqR ?_)))))))
      exact finP
    · refine condFP (Wp.skip (blockN (seqN ?_)))
      refine regP (loopN ?_)
      exact jumpL [.kill [25, 38], .tidy] (hrec_m_ref09_Same_l1 h)
  · replace h := retS h; subst h
    refine condFP (Wp.out (seqO (loopO (blockO (seqN (Wp.seq ?_))))))
    refine regP (seqN (Wp.ret ?_))
    exact finP
theorem w_m_ref09_Same_l1 {a : TVars} {b : TVars} {r : Bool}   : ∀ (n : Nat) {i : Int}, m_ref09_Same_l1  a b n i = some r → LWp Pg 39 0 i17_L0 ⟨[(0, .bad), (1, .bad), (2, .ptr 0 0), (3, .ptr 1 0), (4, .bad), (5, .int .i64 i), (20, .bad), (25, .bad), (38, .bad)], [], [(0, .box [sl cs a.Names, sl (ci .i64) a.Vals]), (1, .box [sl cs b.Names, sl (ci .i64) b.Vals])], 2⟩ (blockQ 0 (seqQ Pg 39 0 (.seq (.reg none i17_R8) .ret) (qf_17 r))) := by
  intro n
  induction n with
  | zero => intro i h; unfold m_ref09_Same_l1 at h; cases h
  | succ n ih => intro i h; unfold m_ref09_Same_l1 at h; exact w_m_ref09_Same_l1_B  ih h
theorem w_m_ref09_Same_k1 {a : TVars} {b : TVars} {v20 : Bool} {r : Bool}   (h : m_ref09_Same_k1 a b v20 = some r) : Wp Pg 39 0 (.cond (.t 20) (.seq (.reg none i17_R2) .ret) .skip) ⟨[(0, .bad), (1, .bad), (2, .ptr 0 0), (3, .ptr 1 0), (4, .bad), (5, .bad), (20, .bool v20), (25, .bad), (38, .bad)], [], [(0, .box [sl cs a.Names, sl (ci .i64) a.Vals]), (1, .box [sl cs b.Names, sl (ci .i64) b.Vals])], 2⟩ (seqQ Pg 39 0 (.seq (.seq (.reg none i17_R3) (.block 0 (.loop i17_L0))) (.seq (.reg none i17_R8) .ret)) (qf_17 r)) := by
  unfold m_ref09_Same_k1 at h
  replace h := ifS h; rcases h with ⟨g3, h⟩ | ⟨g3, h⟩
  · replace h := retS h; subst h
    refine condTP (Wp.seq ?_)
    refine regP (seqN (Wp.ret (seqR ?_)))
    exact finP
  · refine condFP (Wp.skip (seqN (Wp.seq (Wp.seq ?_))))
    refine regP (seqN (Wp.block (Wp.loop ?_)))
    exact jumpL [.kill [20]] (w_m_ref09_Same_l1 _ h)
theorem w_m_ref09_Same {a : TVars} {b : TVars} {r : Bool}   (h : m_ref09_Same a b = some r) : Spec Pg 17 [.agg [sl cs a.Names, sl (ci .i64) a.Vals], .agg [sl cs b.Names, sl (ci .i64) b.Vals]] [] 0 (.bool r) [] 0 := by
  refine Spec.intro Go.Proofs.Try.func17 i17_ok (le_of_ble rfl) ?_
  show Wp Pg 39 0 i17_B ⟨argEnv [.agg [sl cs a.Names, sl (ci .i64) a.Vals], .agg [sl cs b.Names, sl (ci .i64) b.Vals]] i17_V, [], [], 0⟩ (qf_17 r)
  unfold m_ref09_Same at h
  unfold i17_B
  refine weakP [] ?_
  refine Wp.seq (regP (seqN (Wp.seq (Wp.seq (Wp.reg ?_)))))
  replace h := bndS h; obtain ⟨r0, g1, h⟩ := h
  refine chunkT 5 (tab_cons (w_m_ref08_Texts g1) (tab_nil _)) ?_
  replace h := ifS h; rcases h with ⟨g2, h⟩ | ⟨g2, h⟩
  · refine lastT (tab_nil _) (seqN ?_)
    exact jumpK [.kill [0, 1, 4, 5, 25, 38], .tidy] (w_m_ref09_Same_k1 h)
  · refine lastT (tab_nil _) (seqN ?_)
    exact jumpK [.kill [0, 1, 4, 5, 25, 38], .tidy] (w_m_ref09_Same_k1 h)
/-! funicular/vars.Copy -/
noncomputable abbrev qf_18 (r : TVars) : Ex → St → Prop := FinQ 0 [.cell 2 true 2] (.agg [sl cs r.Names, sl (ci .i64) r.Vals]) [] 0
theorem w_m_vars_Copy {v : TVars} {r : TVars}   (h : m_vars_Copy v = some r) : Spec Pg 18 [.agg [sl cs v.Names, sl (ci .i64) v.Vals]] [] 0 (.agg [sl cs r.Names, sl (ci .i64) r.Vals]) [] 0 := by
  refine Spec.intro Go.Proofs.Try.func18 i18_ok (le_of_ble rfl) ?_
  show Wp Pg 10 0 i18_B ⟨argEnv [.agg [sl cs v.Names, sl (ci .i64) v.Vals]] i18_V, [], [], 0⟩ (qf_18 r)
  unfold m_vars_Copy at h
  unfold i18_B
  refine weakP [] ?_
  refine Wp.seq (regP (seqN (Wp.seq ?_)))
  replace h := reqS h; obtain ⟨g1, h⟩ := h
  replace h := reqS h; obtain ⟨g2, h⟩ := h
  replace h := retS h; subst h
  refine drawP [] mixed (clsN _) (seqN ?_)
  refine weakP [.cell 2 0 .frz, .cell 2 1 .frz] (Wp.ret ?_)
  exact finP
/-! funicular/funicularlaw09.VarsChecks -/
noncomputable abbrev qf_3 (r : Bool) : Ex → St → Prop := FinQ 0 [.tmp 4] (.bool r) [] 0
theorem w_m_law09_VarsChecks_k1 {v : TVars} {w : TVars} {v12 : Bool} {r : Bool}   (h : m_law09_VarsChecks_k1 v w v12 = some r) : Wp Pg 37 0 (.cond (.t 12) (.seq (.reg none i3_R2) .ret) .skip) ⟨[(0, .bad), (1, .bad), (2, .ptr 0 0), (3, .ptr 1 0), (4, .bad), (12, .bool v12)], [], [(0, .box [sl cs v.Names, sl (ci .i64) v.Vals]), (1, .box [sl cs w.Names, sl (ci .i64) w.Vals])], 2⟩ (seqQ Pg 37 0 (.seq (.reg (some [(1, 2), (8, 9), (8, 10), (16, 17)]) i3_R3) .ret) (qf_3 r)) := by
  unfold m_law09_VarsChecks_k1 at h
  replace h := ifS h; rcases h with ⟨g4, h⟩ | ⟨g4, h⟩
  · refine condTP (Wp.seq (Wp.reg ?_))
    replace h := bndS h; obtain ⟨r0_2, g5, h⟩ := h
    replace h := retS h; subst h
    refine chunkT 1 (tab_cons (w_m_law09_works g5) (tab_nil _)) ?_
    refine lastT (tab_nil _) (seqN (Wp.ret (seqR ?_)))
    exact finP
  · refine condFP (Wp.skip (seqN (Wp.seq ?_)))
    replace h := bndS h; obtain ⟨r0_3, g6, h⟩ := h
    replace h := bndS h; obtain ⟨r0_4, g7, h⟩ := h
    replace h := ifS h; rcases h with ⟨g8, h⟩ | ⟨g8, h⟩
    · replace h := bndS h; obtain ⟨r0_5, g9, h⟩ := h
      replace h := bndS h; obtain ⟨r0_6, g10, h⟩ := h
      replace h := ifS h; rcases h with ⟨g11, h⟩ | ⟨g11, h⟩
      · replace h := bndS h; obtain ⟨r0_7, g12, h⟩ := h
        replace h := bndS h; obtain ⟨r0_8, g13, h⟩ := h
        replace h := ifS h; rcases h with ⟨g14, h⟩ | ⟨g14, h⟩
        · replace h := bndS h; obtain ⟨r0_9, g15, h⟩ := h
          replace h := retS h; subst h
          refine drawP [] mixed (clsC 1 (tab_cons (w_m_vars_Check g6) (tab_nil _)) (clsC 3 (tab_cons (w_m_ref09_Check g7) (tab_nil _)) (clsC 8 (tab_cons (w_m_vars_Same g9) (tab_nil _)) (clsC 11 (tab_cons (w_m_ref09_Same g10) (tab_nil _)) (clsC 16 (tab_cons (w_m_vars_Copy g12) (tab_nil _)) (clsC 18 (tab_cons (w_m_ref09_Same g13) (tab_nil _)) (clsC 21 (tab_cons (w_m_law09_works g15) (tab_nil _)) (clsN _)))))))) ?_
          refine seqN (Wp.ret ?_)
          exact finP
        · replace h := retS h; subst h
          refine drawP [] mixed (clsC 1 (tab_cons (w_m_vars_Check g6) (tab_nil _)) (clsC 3 (tab_cons (w_m_ref09_Check g7) (tab_nil _)) (clsC 8 (tab_cons (w_m_vars_Same g9) (tab_nil _)) (clsC 11 (tab_cons (w_m_ref09_Same g10) (tab_nil _)) (clsC 16 (tab_cons (w_m_vars_Copy g12) (tab_nil _)) (clsC 18 (tab_cons (w_m_ref09_Same g13) (tab_nil _)) (clsN _))))))) ?_
          refine seqN (Wp.ret ?_)
          exact finP
      · replace h := retS h; subst h
        refine drawP [] mixed (clsC 1 (tab_cons (w_m_vars_Check g6) (tab_nil _)) (clsC 3 (tab_cons (w_m_ref09_Check g7) (tab_nil _)) (clsC 8 (tab_cons (w_m_vars_Same g9) (tab_nil _)) (clsC 11 (tab_cons (w_m_ref09_Same g10) (tab_nil _)) (clsN _))))) (seqN (Wp.ret ?_))
        exact finP
    · replace h := retS h; subst h
      refine drawP [] mixed (clsC 1 (tab_cons (w_m_vars_Check g6) (tab_nil _)) (clsC 3 (tab_cons (w_m_ref09_Check g7) (tab_nil _)) (clsN _))) (seqN (Wp.ret ?_))
      exact finP
theorem w_m_law09_VarsChecks {v : TVars} {w : TVars} {r : Bool}   (h : m_law09_VarsChecks v w = some r) : Spec Pg 3 [.agg [sl cs v.Names, sl (ci .i64) v.Vals], .agg [sl cs w.Names, sl (ci .i64) w.Vals]] [] 0 (.bool r) [] 0 := by
  refine Spec.intro Go.Proofs.Try.func3 i3_ok (le_of_ble rfl) ?_
  show Wp Pg 37 0 i3_B ⟨argEnv [.agg [sl cs v.Names, sl (ci .i64) v.Vals], .agg [sl cs w.Names, sl (ci .i64) w.Vals]] i3_V, [], [], 0⟩ (qf_3 r)
  unfold m_law09_VarsChecks at h
  unfold i3_B
  refine weakP [] ?_
  refine Wp.seq (regP (seqN (Wp.seq (Wp.seq (Wp.reg ?_)))))
  replace h := bndS h; obtain ⟨r0, g1, h⟩ := h
  refine chunkT 2 (tab_cons (w_m_law09_light g1) (tab_nil _)) ?_
  replace h := ifS h; rcases h with ⟨g2, h⟩ | ⟨g2, h⟩
  · replace h := bndS h; obtain ⟨r0_1, g3, h⟩ := h
    refine chunkT 4 (tab_cons (w_m_law09_light g3) (tab_nil _)) ?_
    refine lastT (tab_nil _) (seqN ?_)
    exact jumpK [.kill [0, 1, 4], .tidy] (w_m_law09_VarsChecks_k1 h)
  · refine lastT (tab_nil _) (seqN ?_)
    exact jumpK [.kill [0, 1, 4], .tidy] (w_m_law09_VarsChecks_k1 h)
end Go.Proofs.Ytjhnlgelcfplaaa.R
