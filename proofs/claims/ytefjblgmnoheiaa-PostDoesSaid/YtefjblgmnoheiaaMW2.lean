/- The program's functions answer what the models answer: 2. -/
import Derived.Test.YtefjblgmnoheiaaMW0
import Derived.Test.YtefjblgmnoheiaaMW1
set_option maxRecDepth 100000
set_option maxHeartbeats 1600000
set_option linter.unusedVariables false
set_option linter.unusedSimpArgs false
set_option linter.defProp false
noncomputable section
namespace Go.Proofs.Ytefjblgmnoheiaa.R
open Go Nat
/-! funicular/funicularref09.Check -/
noncomputable abbrev qf_60 (r : Int) : Ex → St → Prop := FinQ 0 [.tmp 2] (.int .i64 r) [] 0
noncomputable abbrev H_m_ref09_Check_l1 (v : TVars) (rec0 : Int → Option Int) (r : Int) : Prop := ∀ {i : Int}, rec0 i = some r → LWp Pg 54 0 i60_L0 ⟨[(0, .bad), (1, .ptr 0 0), (2, .bad), (3, .int .i64 i), (4, .bad), (11, .bad), (15, .bad), (20, .bad), (53, .bad)], [], [(0, .box [sl cs v.Names, sl (ci .i64) v.Vals])], 1⟩ (blockQ 0 (seqQ Pg 54 0 (.seq (.reg none i60_R11) .ret) (qf_60 r)))
theorem w_m_ref09_Check_k1 {v : TVars} {i : Int} {v53 : Bool} {r : Int} {rec_m_ref09_Check_l1 : Int → Option Int} (hrec_m_ref09_Check_l1 : H_m_ref09_Check_l1 v rec_m_ref09_Check_l1 r) (h : m_ref09_Check_k1 rec_m_ref09_Check_l1 i v53 = some r) : Wp Pg 54 0 (.cond (.t 53) (.seq (.reg none i60_R9) .ret) .skip) ⟨[(0, .bad), (1, .ptr 0 0), (2, .bad), (3, .int .i64 i), (4, .bad), (11, .bad), (15, .bad), (20, .bad), (53, .bool v53)], [], [(0, .box [sl cs v.Names, sl (ci .i64) v.Vals])], 1⟩ (blockQ 1 (seqQ Pg 54 0 (.reg none i60_R10) (loopQ Pg 54 0 i60_L0 (blockQ 0 (seqQ Pg 54 0 (.seq (.reg none i60_R11) .ret) (qf_60 r)))))) := by
  unfold m_ref09_Check_k1 at h
  replace h := ifS h; rcases h with ⟨g11, h⟩ | ⟨g11, h⟩
  · replace h := retS h; subst h
    refine condTP (Wp.seq ?_)
    refine regP (seqN (Wp.ret (blockR (seqR (loopR (blockR (seqR ?_)))))))
    exact finP
  · refine condFP (Wp.skip (blockN (seqN ?_)))
    refine regP (loopN ?_)
    exact jumpL [.kill [53]] (hrec_m_ref09_Check_l1 h)
theorem w_m_ref09_Check_l1_B {v : TVars} {r : Int}   {rec_m_ref09_Check_l1 : Int → Option Int} (hrec_m_ref09_Check_l1 : H_m_ref09_Check_l1 v rec_m_ref09_Check_l1 r) {i : Int} (h : m_ref09_Check_l1_B  v rec_m_ref09_Check_l1 i = some r) : LWp Pg 54 0 i60_L0 ⟨[(0, .bad), (1, .ptr 0 0), (2, .bad), (3, .int .i64 i), (4, .bad), (11, .bad), (15, .bad), (20, .bad), (53, .bad)], [], [(0, .box [sl cs v.Names, sl (ci .i64) v.Vals])], 1⟩ (blockQ 0 (seqQ Pg 54 0 (.seq (.reg none i60_R11) .ret) (qf_60 r))) := by
  unfold m_ref09_Check_l1_B at h
  refine LWp.stepC i60_L0.eq_1 ?_
  refine Wp.seq (Wp.seq (regP (seqN ?_)))
  replace h := ifS h; rcases h with ⟨g3, h⟩ | ⟨g3, h⟩
  · refine condTP (Wp.skip (seqN (Wp.seq (Wp.block (Wp.seq ?_)))))
    replace h := bndS h; obtain ⟨e, g4, h⟩ := h
    refine regP (seqN (Wp.seq (Wp.reg ?_)))
    replace h := bndS h; obtain ⟨r0, g5, h⟩ := h
    refine chunkT 2 (tab_cons (w_m_ref02_Name g5) (tab_nil _)) ?_
    replace h := ifS h; rcases h with ⟨g6, h⟩ | ⟨g6, h⟩
    · replace h := ifS h; rcases h with ⟨g7, h⟩ | ⟨g7, h⟩
      · refine lastT (tab_nil _) (seqN ?_)
        exact jumpK [.kill [4, 20]] (w_m_ref09_Check_k1 (v := v) hrec_m_ref09_Check_l1 h)
      · replace h := ifS h; rcases h with ⟨g8, h⟩ | ⟨g8, h⟩
        · refine lastT (tab_nil _) (seqN ?_)
          exact jumpK [.kill [4, 20]] (w_m_ref09_Check_k1 (v := v) hrec_m_ref09_Check_l1 h)
        · replace h := ifS h; rcases h with ⟨g9, h⟩ | ⟨g9, h⟩
          · replace h := bndS h; obtain ⟨e_1, g10, h⟩ := h
            refine lastT (tab_nil _) (seqN ?_)
            exact jumpK [.kill [4, 20]] (w_m_ref09_Check_k1 (v := v) hrec_m_ref09_Check_l1 h)
          · refine lastT (tab_nil _) (seqN ?_)
            exact jumpK [.kill [4, 20]] (w_m_ref09_Check_k1 (v := v) hrec_m_ref09_Check_l1 h)
    · refine lastT (tab_nil _) (seqN ?_)
      exact jumpK [.kill [4, 20]] (w_m_ref09_Check_k1 (v := v) hrec_m_ref09_Check_l1 h)
  · replace h := retS h; subst h
    refine condFP (Wp.out (seqO (loopO (blockO (seqN (Wp.seq ?_))))))
    refine regP (seqN (Wp.ret ?_))
    exact finP
theorem w_m_ref09_Check_l1 {v : TVars} {r : Int}   : ∀ (n : Nat), H_m_ref09_Check_l1 v (m_ref09_Check_l1  v n) r := by
  intro n
  induction n with
  | zero => intro i h; unfold m_ref09_Check_l1 at h; cases h
  | succ n ih => intro i h; unfold m_ref09_Check_l1 at h; exact w_m_ref09_Check_l1_B  ih h
theorem w_m_ref09_Check {v : TVars} {r : Int}   (h : m_ref09_Check v = some r) : Spec Pg 60 [.agg [sl cs v.Names, sl (ci .i64) v.Vals]] [] 0 (.int .i64 r) [] 0 := by
  refine Spec.intro Try.func60 i60_ok (le_of_ble rfl) ?_
  show Wp Pg 54 0 i60_B ⟨argEnv _ i60_V, [], _, _⟩ (qf_60 r)
  unfold m_ref09_Check at h
  unfold i60_B
  refine weakP [] ?_
  refine Wp.seq (regP (seqN (Wp.seq (Wp.seq ?_))))
  refine regP (seqN ?_)
  replace h := ifS h; rcases h with ⟨g1, h⟩ | ⟨g1, h⟩
  · replace h := retS h; subst h
    refine condTP (Wp.seq ?_)
    refine regP (seqN (Wp.ret (seqR ?_)))
    exact finP
  · refine condFP (Wp.skip (seqN (Wp.seq (Wp.seq ?_))))
    refine regP (seqN ?_)
    replace h := ifS h; rcases h with ⟨g2, h⟩ | ⟨g2, h⟩
    · replace h := retS h; subst h
      refine condTP (Wp.seq ?_)
      refine regP (seqN (Wp.ret (seqR ?_)))
      exact finP
    · refine condFP (Wp.skip (seqN (Wp.seq (Wp.seq ?_))))
      refine regP (seqN (Wp.block (Wp.loop ?_)))
      exact jumpL [.kill [0, 2, 4, 11, 15, 20, 53]] (w_m_ref09_Check_l1 _ h)
/-! funicular/funicularref22.took -/
noncomputable abbrev qf_80 (r : Bool) : Ex → St → Prop := FinQ 0 [.tmp 6] (.bool r) [] 0
noncomputable abbrev H_m_ref22_took_l1 (l : (List TWho)) (part inst : Int) (rec0 : Int → Option Bool) (r : Bool) : Prop := ∀ {i : Int}, rec0 i = some r → LWp Pg 30 0 i80_L0 ⟨[(0, sl TWho.c l), (1, .int .i64 part), (2, .int .i64 inst), (6, .bad), (7, .int .i64 i), (11, .bad), (29, .bad)], [], [], 0⟩ (blockQ 0 (seqQ Pg 30 0 (.seq (.reg none i80_R6) .ret) (qf_80 r)))
theorem w_m_ref22_took_k1 {l : (List TWho)} {part inst i : Int} {v29 : Bool} {r : Bool} {rec_m_ref22_took_l1 : Int → Option Bool} (hrec_m_ref22_took_l1 : H_m_ref22_took_l1 l part inst rec_m_ref22_took_l1 r) (h : m_ref22_took_k1 rec_m_ref22_took_l1 i v29 = some r) : Wp Pg 30 0 (.cond (.t 29) (.seq (.reg none i80_R4) .ret) .skip) ⟨[(0, sl TWho.c l), (1, .int .i64 part), (2, .int .i64 inst), (6, .bad), (7, .int .i64 i), (11, .bad), (29, .bool v29)], [], [], 0⟩ (blockQ 1 (seqQ Pg 30 0 (.reg none i80_R5) (loopQ Pg 30 0 i80_L0 (blockQ 0 (seqQ Pg 30 0 (.seq (.reg none i80_R6) .ret) (qf_80 r)))))) := by
  unfold m_ref22_took_k1 at h
  replace h := ifS h; rcases h with ⟨g4, h⟩ | ⟨g4, h⟩
  · replace h := retS h; subst h
    refine condTP (Wp.seq ?_)
    refine regP (seqN (Wp.ret (blockR (seqR (loopR (blockR (seqR ?_)))))))
    exact finP
  · refine condFP (Wp.skip (blockN (seqN ?_)))
    refine regP (loopN ?_)
    exact jumpL [.kill [29]] (hrec_m_ref22_took_l1 h)
theorem w_m_ref22_took_l1_B {l : (List TWho)} {part inst : Int} {r : Bool}   {rec_m_ref22_took_l1 : Int → Option Bool} (hrec_m_ref22_took_l1 : H_m_ref22_took_l1 l part inst rec_m_ref22_took_l1 r) {i : Int} (h : m_ref22_took_l1_B  l part inst rec_m_ref22_took_l1 i = some r) : LWp Pg 30 0 i80_L0 ⟨[(0, sl TWho.c l), (1, .int .i64 part), (2, .int .i64 inst), (6, .bad), (7, .int .i64 i), (11, .bad), (29, .bad)], [], [], 0⟩ (blockQ 0 (seqQ Pg 30 0 (.seq (.reg none i80_R6) .ret) (qf_80 r))) := by
  unfold m_ref22_took_l1_B at h
  refine LWp.stepC i80_L0.eq_1 ?_
  refine Wp.seq (Wp.seq (regP (seqN ?_)))
  replace h := ifS h; rcases h with ⟨g1, h⟩ | ⟨g1, h⟩
  · refine condTP (Wp.skip (seqN (Wp.seq (Wp.block (Wp.seq ?_)))))
    replace h := bndS h; obtain ⟨e, g2, h⟩ := h
    replace h := ifS h; rcases h with ⟨g3, h⟩ | ⟨g3, h⟩
    · refine regP (seqN ?_)
      exact jumpK [.kill [11]] (w_m_ref22_took_k1 (l := l) (part := part) (inst := inst) hrec_m_ref22_took_l1 h)
    · refine regP (seqN ?_)
      exact jumpK [.kill [11]] (w_m_ref22_took_k1 (l := l) (part := part) (inst := inst) hrec_m_ref22_took_l1 h)
  · replace h := retS h; subst h
    refine condFP (Wp.out (seqO (loopO (blockO (seqN (Wp.seq ?_))))))
    refine regP (seqN (Wp.ret ?_))
    exact finP
theorem w_m_ref22_took_l1 {l : (List TWho)} {part inst : Int} {r : Bool}   : ∀ (n : Nat), H_m_ref22_took_l1 l part inst (m_ref22_took_l1  l part inst n) r := by
  intro n
  induction n with
  | zero => intro i h; unfold m_ref22_took_l1 at h; cases h
  | succ n ih => intro i h; unfold m_ref22_took_l1 at h; exact w_m_ref22_took_l1_B  ih h
theorem w_m_ref22_took {l : (List TWho)} {part : Int} {inst : Int} {r : Bool}   (h : m_ref22_took l part inst = some r) : Spec Pg 80 [sl TWho.c l, .int .i64 part, .int .i64 inst] [] 0 (.bool r) [] 0 := by
  refine Spec.intro Try.func80 i80_ok (le_of_ble rfl) ?_
  show Wp Pg 30 0 i80_B ⟨argEnv _ i80_V, [], _, _⟩ (qf_80 r)
  unfold m_ref22_took at h
  unfold i80_B
  refine weakP [] ?_
  refine Wp.seq (regP (seqN (Wp.seq (Wp.seq ?_))))
  refine regP (seqN (Wp.block (Wp.loop ?_)))
  exact jumpL [.kill [6, 11, 29]] (w_m_ref22_took_l1 _ h)
/-! funicular/funicularref22.Mail -/
noncomputable abbrev qf_41 (r : Int) : Ex → St → Prop := FinQ 0 [.tmp 2] (.int .i64 r) [] 0
noncomputable abbrev H_m_ref22_Mail_l1 (m : TMail) (rec0 : Int → Option Int) (r : Int) : Prop := ∀ {i : Int}, rec0 i = some r → LWp Pg 61 0 i41_L0 ⟨[(0, .bad), (1, .ptr 0 0), (2, .bad), (3, .bad), (4, .int .i64 i), (5, .bad), (21, .bad), (26, .bad), (32, .bad), (60, .bad)], [], (hs7 m), 1⟩ (blockQ 0 (seqQ Pg 61 0 (.seq (.reg none i41_R12) .ret) (qf_41 r)))
theorem w_m_ref22_Mail_k2 {m : TMail} {i : Int} {v60 : Bool} {r : Int} {rec_m_ref22_Mail_l1 : Int → Option Int} (hrec_m_ref22_Mail_l1 : H_m_ref22_Mail_l1 m rec_m_ref22_Mail_l1 r) (h : m_ref22_Mail_k2 rec_m_ref22_Mail_l1 i v60 = some r) : Wp Pg 61 0 (.cond (.t 60) (.seq (.reg none i41_R10) .ret) .skip) ⟨[(0, .bad), (1, .ptr 0 0), (2, .bad), (3, .bad), (4, .int .i64 i), (5, .bad), (21, .bad), (26, .bad), (32, .bad), (60, .bool v60)], [], (hs7 m), 1⟩ (blockQ 1 (seqQ Pg 61 0 (.reg none i41_R11) (loopQ Pg 61 0 i41_L0 (blockQ 0 (seqQ Pg 61 0 (.seq (.reg none i41_R12) .ret) (qf_41 r)))))) := by
  unfold m_ref22_Mail_k2 at h
  replace h := ifS h; rcases h with ⟨g17, h⟩ | ⟨g17, h⟩
  · replace h := retS h; subst h
    refine condTP (Wp.seq ?_)
    refine regP (seqN (Wp.ret (blockR (seqR (loopR (blockR (seqR ?_)))))))
    exact finP
  · refine condFP (Wp.skip (blockN (seqN ?_)))
    refine regP (loopN ?_)
    exact jumpL [.kill [60]] (hrec_m_ref22_Mail_l1 h)
theorem w_m_ref22_Mail_l1_B {m : TMail} {r : Int}   {rec_m_ref22_Mail_l1 : Int → Option Int} (hrec_m_ref22_Mail_l1 : H_m_ref22_Mail_l1 m rec_m_ref22_Mail_l1 r) {i : Int} (h : m_ref22_Mail_l1_B  m rec_m_ref22_Mail_l1 i = some r) : LWp Pg 61 0 i41_L0 ⟨[(0, .bad), (1, .ptr 0 0), (2, .bad), (3, .bad), (4, .int .i64 i), (5, .bad), (21, .bad), (26, .bad), (32, .bad), (60, .bad)], [], (hs7 m), 1⟩ (blockQ 0 (seqQ Pg 61 0 (.seq (.reg none i41_R12) .ret) (qf_41 r))) := by
  unfold m_ref22_Mail_l1_B at h
  refine LWp.stepC i41_L0.eq_1 ?_
  refine Wp.seq (Wp.seq (regP (seqN ?_)))
  replace h := ifS h; rcases h with ⟨g9, h⟩ | ⟨g9, h⟩
  · refine condTP (Wp.skip (seqN (Wp.seq (Wp.block (Wp.seq ?_)))))
    replace h := bndS h; obtain ⟨e, g10, h⟩ := h
    refine regP (seqN (Wp.seq ?_))
    replace h := bndS h; obtain ⟨r0_4, g11, h⟩ := h
    replace h := ifS h; rcases h with ⟨g12, h⟩ | ⟨g12, h⟩
    · replace h := bndS h; obtain ⟨r0_5, g13, h⟩ := h
      replace h := ifS h; rcases h with ⟨g14, h⟩ | ⟨g14, h⟩
      · replace h := bndS h; obtain ⟨l, g15, h⟩ := h
        replace h := bndS h; obtain ⟨r0_6, g16, h⟩ := h
        refine drawP [] mixed (clsC 2 (tab_cons (w_m_ref22_in g11) (tab_nil _)) (clsC 7 (tab_cons (w_m_ref22_in g13) (tab_nil _)) (clsC 19 (tab_cons (w_m_ref22_took g16) (tab_nil _)) (clsN _)))) (seqN ?_)
        exact jumpK [.kill [5, 32], .tidy] (w_m_ref22_Mail_k2 (m := m) hrec_m_ref22_Mail_l1 h)
      · refine drawP [] mixed (clsC 2 (tab_cons (w_m_ref22_in g11) (tab_nil _)) (clsC 7 (tab_cons (w_m_ref22_in g13) (tab_nil _)) (clsN _))) (seqN ?_)
        exact jumpK [.kill [5, 32], .tidy] (w_m_ref22_Mail_k2 (m := m) hrec_m_ref22_Mail_l1 h)
    · refine drawP [] mixed (clsC 2 (tab_cons (w_m_ref22_in g11) (tab_nil _)) (clsN _)) (seqN ?_)
      exact jumpK [.kill [5, 32], .tidy] (w_m_ref22_Mail_k2 (m := m) hrec_m_ref22_Mail_l1 h)
  · replace h := retS h; subst h
    refine condFP (Wp.out (seqO (loopO (blockO (seqN (Wp.seq ?_))))))
    refine regP (seqN (Wp.ret ?_))
    exact finP
theorem w_m_ref22_Mail_l1 {m : TMail} {r : Int}   : ∀ (n : Nat), H_m_ref22_Mail_l1 m (m_ref22_Mail_l1  m n) r := by
  intro n
  induction n with
  | zero => intro i h; unfold m_ref22_Mail_l1 at h; cases h
  | succ n ih => intro i h; unfold m_ref22_Mail_l1 at h; exact w_m_ref22_Mail_l1_B  ih h
theorem w_m_ref22_Mail_k1 {m : TMail} {v21 : Bool} {r : Int}   (h : m_ref22_Mail_k1 m v21 = some r) : Wp Pg 61 0 (.cond (.t 21) (.seq (.reg none i41_R2) .ret) .skip) ⟨[(0, .bad), (1, .ptr 0 0), (2, .bad), (3, .bad), (4, .bad), (5, .bad), (21, .bool v21), (26, .bad), (32, .bad), (60, .bad)], [], (hs7 m), 1⟩ (seqQ Pg 61 0 (.seq (.seq (.reg none i41_R3) (.seq (.reg none i41_R4) (.cond (.t 26) (.seq (.reg none i41_R5) .ret) .skip))) (.seq (.seq (.reg none i41_R6) (.block 0 (.loop i41_L0))) (.seq (.reg none i41_R12) .ret))) (qf_41 r)) := by
  unfold m_ref22_Mail_k1 at h
  replace h := ifS h; rcases h with ⟨g6, h⟩ | ⟨g6, h⟩
  · replace h := retS h; subst h
    refine condTP (Wp.seq ?_)
    refine regP (seqN (Wp.ret (seqR ?_)))
    exact finP
  · refine condFP (Wp.skip (seqN (Wp.seq (Wp.seq (Wp.reg ?_)))))
    replace h := bndS h; obtain ⟨r0_3, g7, h⟩ := h
    refine chunkT 3 (tab_cons (w_m_ref09_Check g7) (tab_nil _)) ?_
    refine lastT (tab_nil _) (seqN (Wp.seq ?_))
    refine regP (seqN ?_)
    replace h := ifS h; rcases h with ⟨g8, h⟩ | ⟨g8, h⟩
    · replace h := retS h; subst h
      refine condTP (Wp.seq ?_)
      refine regP (seqN (Wp.ret (seqR ?_)))
      exact finP
    · refine condFP (Wp.skip (seqN (Wp.seq (Wp.seq ?_))))
      refine regP (seqN (Wp.block (Wp.loop ?_)))
      exact jumpL [.kill [3, 21, 26]] (w_m_ref22_Mail_l1 _ h)
theorem w_m_ref22_Mail {m : TMail} {r : Int}   (h : m_ref22_Mail m = some r) : Spec Pg 41 [.agg [.int .i64 m.Id, .str m.Name, .int .i64 m.Key, sl cs m.Vars.Names, sl (ci .i64) m.Vars.Vals, .int .i64 m.Until, sl TWho.c m.Took]] [] 0 (.int .i64 r) [] 0 := by
  refine Spec.intro Try.func41 i41_ok (le_of_ble rfl) ?_
  show Wp Pg 61 0 i41_B ⟨argEnv _ i41_V, [], _, _⟩ (qf_41 r)
  unfold m_ref22_Mail at h
  unfold i41_B
  refine weakP [] ?_
  refine Wp.seq (regP (seqN (Wp.seq (Wp.seq (Wp.reg ?_)))))
  replace h := bndS h; obtain ⟨r0, g1, h⟩ := h
  refine chunkT 3 (tab_cons (w_m_ref22_in g1) (tab_nil _)) ?_
  replace h := ifS h; rcases h with ⟨g2, h⟩ | ⟨g2, h⟩
  · replace h := bndS h; obtain ⟨r0_1, g3, h⟩ := h
    refine chunkT 5 (tab_cons (w_m_ref02_Name g3) (tab_nil _)) ?_
    replace h := ifS h; rcases h with ⟨g4, h⟩ | ⟨g4, h⟩
    · replace h := bndS h; obtain ⟨r0_2, g5, h⟩ := h
      refine chunkT 6 (tab_cons (w_m_ref22_in g5) (tab_nil _)) ?_
      refine lastT (tab_nil _) (seqN ?_)
      exact jumpK [.kill [0, 2, 3, 4, 5, 26, 32, 60]] (w_m_ref22_Mail_k1 h)
    · refine lastT (tab_nil _) (seqN ?_)
      exact jumpK [.kill [0, 2, 3, 4, 5, 26, 32, 60]] (w_m_ref22_Mail_k1 h)
  · refine lastT (tab_nil _) (seqN ?_)
    exact jumpK [.kill [0, 2, 3, 4, 5, 26, 32, 60]] (w_m_ref22_Mail_k1 h)
/-! funicular/funicularref22.Sub -/
noncomputable abbrev qf_42 (r : Bool) : Ex → St → Prop := FinQ 0 [.tmp 2] (.bool r) [] 0
theorem w_m_ref22_Sub {s : TSub} {r : Bool}   (h : m_ref22_Sub s = some r) : Spec Pg 42 [.agg [.int .i64 s.Part, .int .i64 s.Id, .int .i64 s.Inst, .str s.Name, .int .i64 s.Key, .int .i64 s.Mail]] [] 0 (.bool r) [] 0 := by
  refine Spec.intro Try.func42 i42_ok (le_of_ble rfl) ?_
  show Wp Pg 26 0 i42_B ⟨argEnv _ i42_V, [], _, _⟩ (qf_42 r)
  unfold m_ref22_Sub at h
  unfold i42_B
  refine weakP [] ?_
  refine Wp.seq (regP (seqN (Wp.seq (Wp.reg ?_))))
  replace h := bndS h; obtain ⟨r0, g1, h⟩ := h
  refine chunkT 3 (tab_cons (w_m_ref22_in g1) (tab_nil _)) ?_
  replace h := ifS h; rcases h with ⟨g2, h⟩ | ⟨g2, h⟩
  · replace h := bndS h; obtain ⟨r0_1, g3, h⟩ := h
    refine chunkT 4 (tab_cons (w_m_ref22_in g3) (tab_nil _)) ?_
    replace h := ifS h; rcases h with ⟨g4, h⟩ | ⟨g4, h⟩
    · replace h := bndS h; obtain ⟨r0_2, g5, h⟩ := h
      refine chunkT 5 (tab_cons (w_m_ref22_in g5) (tab_nil _)) ?_
      replace h := ifS h; rcases h with ⟨g6, h⟩ | ⟨g6, h⟩
      · replace h := bndS h; obtain ⟨r0_3, g7, h⟩ := h
        refine chunkT 5 (tab_cons (w_m_ref02_Name g7) (tab_nil _)) ?_
        replace h := ifS h; rcases h with ⟨g8, h⟩ | ⟨g8, h⟩
        · replace h := bndS h; obtain ⟨r0_4, g9, h⟩ := h
          replace h := retS h; subst h
          refine chunkT 5 (tab_cons (w_m_ref22_in g9) (tab_nil _)) ?_
          refine lastT (tab_nil _) (seqN (Wp.ret ?_))
          exact finP
        · replace h := retS h; subst h
          refine lastT (tab_nil _) (seqN (Wp.ret ?_))
          exact finP
      · replace h := retS h; subst h
        refine lastT (tab_nil _) (seqN (Wp.ret ?_))
        exact finP
    · replace h := retS h; subst h
      refine lastT (tab_nil _) (seqN (Wp.ret ?_))
      exact finP
  · replace h := retS h; subst h
    refine lastT (tab_nil _) (seqN (Wp.ret ?_))
    exact finP
/-! funicular/funicularref22.ahead -/
noncomputable abbrev qf_43 (r : Bool) : Ex → St → Prop := FinQ 0 [.tmp 4] (.bool r) [] 0
theorem w_m_ref22_ahead {a : TSub} {b : TSub} {r : Bool}   (h : m_ref22_ahead a b = some r) : Spec Pg 43 [.agg [.int .i64 a.Part, .int .i64 a.Id, .int .i64 a.Inst, .str a.Name, .int .i64 a.Key, .int .i64 a.Mail], .agg [.int .i64 b.Part, .int .i64 b.Id, .int .i64 b.Inst, .str b.Name, .int .i64 b.Key, .int .i64 b.Mail]] [] 0 (.bool r) [] 0 := by
  refine Spec.intro Try.func43 i43_ok (le_of_ble rfl) ?_
  show Wp Pg 24 0 i43_B ⟨argEnv _ i43_V, [], _, _⟩ (qf_43 r)
  unfold m_ref22_ahead at h
  unfold i43_B
  refine weakP [] ?_
  refine Wp.seq (regP (seqN (Wp.seq ?_)))
  replace h := ifS h; rcases h with ⟨g1, h⟩ | ⟨g1, h⟩
  · replace h := retS h; subst h
    refine regP (seqN (Wp.ret ?_))
    exact finP
  · replace h := ifS h; rcases h with ⟨g2, h⟩ | ⟨g2, h⟩
    · replace h := retS h; subst h
      refine regP (seqN (Wp.ret ?_))
      exact finP
    · replace h := retS h; subst h
      refine regP (seqN (Wp.ret ?_))
      exact finP
/-! funicular/funicularref22.Check -/
noncomputable abbrev qf_11 (r : Int) : Ex → St → Prop := FinQ 0 [.tmp 2] (.int .i64 r) [] 0
noncomputable abbrev H_m_ref22_Check_l1 (p : TPost) (rec0 : Int → Option Int) (r : Int) : Prop := ∀ {i : Int}, rec0 i = some r → LWp Pg 109 0 i11_L0 ⟨[(0, .bad), (1, .ptr 0 0), (2, .bad), (3, .int .i64 i), (4, .bad), (5, .bad), (9, .bad), (19, .bad), (24, .bad), (34, .bad), (64, .bad), (69, .bad), (108, .bad)], [], [(0, .box [.int .i64 p.Next, sl TMail.c p.Mails, sl TSub.c p.Subs])], 1⟩ (blockQ 0 (seqQ Pg 109 0 (.seq (.seq (.reg none i11_R13) (.block 2 (.loop i11_L1))) (.seq (.reg none i11_R18) .ret)) (qf_11 r)))
noncomputable abbrev H_m_ref22_Check_l2 (p : TPost) (rec0 : Int → Option Int) (r : Int) : Prop := ∀ {i_1 : Int}, rec0 i_1 = some r → LWp Pg 109 0 i11_L1 ⟨[(0, .bad), (1, .ptr 0 0), (2, .bad), (3, .bad), (4, .bad), (5, .int .i64 i_1), (9, .bad), (19, .bad), (24, .bad), (34, .bad), (64, .bad), (69, .bad), (108, .bad)], [], [(0, .box [.int .i64 p.Next, sl TMail.c p.Mails, sl TSub.c p.Subs])], 1⟩ (blockQ 2 (seqQ Pg 109 0 (.seq (.reg none i11_R18) .ret) (qf_11 r)))
theorem w_m_ref22_Check_k4 {p : TPost} {i_1 : Int} {v108 : Bool} {r : Int} {rec_m_ref22_Check_l2 : Int → Option Int} (hrec_m_ref22_Check_l2 : H_m_ref22_Check_l2 p rec_m_ref22_Check_l2 r) (h : m_ref22_Check_k4 rec_m_ref22_Check_l2 i_1 v108 = some r) : Wp Pg 109 0 (.cond (.t 108) (.seq (.reg none i11_R16) .ret) .skip) ⟨[(0, .bad), (1, .ptr 0 0), (2, .bad), (3, .bad), (4, .bad), (5, .int .i64 i_1), (9, .bad), (19, .bad), (24, .bad), (34, .bad), (64, .bad), (69, .bad), (108, .bool v108)], [], [(0, .box [.int .i64 p.Next, sl TMail.c p.Mails, sl TSub.c p.Subs])], 1⟩ (blockQ 3 (seqQ Pg 109 0 (.reg none i11_R17) (loopQ Pg 109 0 i11_L1 (blockQ 2 (seqQ Pg 109 0 (.seq (.reg none i11_R18) .ret) (qf_11 r)))))) := by
  unfold m_ref22_Check_k4 at h
  replace h := ifS h; rcases h with ⟨g21, h⟩ | ⟨g21, h⟩
  · replace h := retS h; subst h
    refine condTP (Wp.seq ?_)
    refine regP (seqN (Wp.ret (blockR (seqR (loopR (blockR (seqR ?_)))))))
    exact finP
  · refine condFP (Wp.skip (blockN (seqN ?_)))
    refine regP (loopN ?_)
    exact jumpL [.kill [108]] (hrec_m_ref22_Check_l2 h)
theorem w_m_ref22_Check_l2_B {p : TPost} {r : Int}   {rec_m_ref22_Check_l2 : Int → Option Int} (hrec_m_ref22_Check_l2 : H_m_ref22_Check_l2 p rec_m_ref22_Check_l2 r) {i_1 : Int} (h : m_ref22_Check_l2_B  p rec_m_ref22_Check_l2 i_1 = some r) : LWp Pg 109 0 i11_L1 ⟨[(0, .bad), (1, .ptr 0 0), (2, .bad), (3, .bad), (4, .bad), (5, .int .i64 i_1), (9, .bad), (19, .bad), (24, .bad), (34, .bad), (64, .bad), (69, .bad), (108, .bad)], [], [(0, .box [.int .i64 p.Next, sl TMail.c p.Mails, sl TSub.c p.Subs])], 1⟩ (blockQ 2 (seqQ Pg 109 0 (.seq (.reg none i11_R18) .ret) (qf_11 r))) := by
  unfold m_ref22_Check_l2_B at h
  refine LWp.stepC i11_L1.eq_1 ?_
  refine Wp.seq (Wp.seq (regP (seqN ?_)))
  replace h := ifS h; rcases h with ⟨g13, h⟩ | ⟨g13, h⟩
  · refine condTP (Wp.skip (seqN (Wp.seq (Wp.block (Wp.seq ?_)))))
    replace h := bndS h; obtain ⟨e_2, g14, h⟩ := h
    replace h := bndS h; obtain ⟨r0_2, g15, h⟩ := h
    replace h := ifS h; rcases h with ⟨g16, h⟩ | ⟨g16, h⟩
    · replace h := ifS h; rcases h with ⟨g17, h⟩ | ⟨g17, h⟩
      · refine drawP [] mixed (clsC 5 (tab_cons (w_m_ref22_Sub g15) (tab_nil _)) (clsN _)) (seqN ?_)
        exact jumpK [.kill [69], .tidy] (w_m_ref22_Check_k4 (p := p) hrec_m_ref22_Check_l2 h)
      · replace h := ifS h; rcases h with ⟨g18, h⟩ | ⟨g18, h⟩
        · replace h := bndS h; obtain ⟨e_3, g19, h⟩ := h
          replace h := bndS h; obtain ⟨r0_3, g20, h⟩ := h
          refine drawP [] mixed (clsC 5 (tab_cons (w_m_ref22_Sub g15) (tab_nil _)) (clsC 33 (tab_cons (w_m_ref22_ahead g20) (tab_nil _)) (clsN _))) (seqN ?_)
          exact jumpK [.kill [69], .tidy] (w_m_ref22_Check_k4 (p := p) hrec_m_ref22_Check_l2 h)
        · refine drawP [] mixed (clsC 5 (tab_cons (w_m_ref22_Sub g15) (tab_nil _)) (clsN _)) (seqN ?_)
          exact jumpK [.kill [69], .tidy] (w_m_ref22_Check_k4 (p := p) hrec_m_ref22_Check_l2 h)
    · refine drawP [] mixed (clsC 5 (tab_cons (w_m_ref22_Sub g15) (tab_nil _)) (clsN _)) (seqN ?_)
      exact jumpK [.kill [69], .tidy] (w_m_ref22_Check_k4 (p := p) hrec_m_ref22_Check_l2 h)
  · replace h := retS h; subst h
    refine condFP (Wp.out (seqO (loopO (blockO (seqN (Wp.seq ?_))))))
    refine regP (seqN (Wp.ret ?_))
    exact finP
theorem w_m_ref22_Check_l2 {p : TPost} {r : Int}   : ∀ (n : Nat), H_m_ref22_Check_l2 p (m_ref22_Check_l2  p n) r := by
  intro n
  induction n with
  | zero => intro i_1 h; unfold m_ref22_Check_l2 at h; cases h
  | succ n ih => intro i_1 h; unfold m_ref22_Check_l2 at h; exact w_m_ref22_Check_l2_B  ih h
theorem w_m_ref22_Check_k3 {p : TPost} {r : Int}   (h : m_ref22_Check_k3 p = some r) : Wp Pg 109 0 (.seq (.seq (.reg none i11_R13) (.block 2 (.loop i11_L1))) (.seq (.reg none i11_R18) .ret)) ⟨[(0, .bad), (1, .ptr 0 0), (2, .bad), (3, .bad), (4, .bad), (5, .bad), (9, .bad), (19, .bad), (24, .bad), (34, .bad), (64, .bad), (69, .bad), (108, .bad)], [], [(0, .box [.int .i64 p.Next, sl TMail.c p.Mails, sl TSub.c p.Subs])], 1⟩ (qf_11 r) := by
  unfold m_ref22_Check_k3 at h
  refine Wp.seq (Wp.seq (regP (seqN (Wp.block (Wp.loop ?_)))))
  exact jumpL [] (w_m_ref22_Check_l2 _ h)
theorem w_m_ref22_Check_k2 {p : TPost} {i : Int} {v64 : Bool} {r : Int} {rec_m_ref22_Check_l1 : Int → Option Int} (hrec_m_ref22_Check_l1 : H_m_ref22_Check_l1 p rec_m_ref22_Check_l1 r) (h : m_ref22_Check_k2 rec_m_ref22_Check_l1 i v64 = some r) : Wp Pg 109 0 (.cond (.t 64) (.seq (.reg none i11_R11) .ret) .skip) ⟨[(0, .bad), (1, .ptr 0 0), (2, .bad), (3, .int .i64 i), (4, .bad), (5, .bad), (9, .bad), (19, .bad), (24, .bad), (34, .bad), (64, .bool v64), (69, .bad), (108, .bad)], [], [(0, .box [.int .i64 p.Next, sl TMail.c p.Mails, sl TSub.c p.Subs])], 1⟩ (blockQ 1 (seqQ Pg 109 0 (.reg none i11_R12) (loopQ Pg 109 0 i11_L0 (blockQ 0 (seqQ Pg 109 0 (.seq (.seq (.reg none i11_R13) (.block 2 (.loop i11_L1))) (.seq (.reg none i11_R18) .ret)) (qf_11 r)))))) := by
  unfold m_ref22_Check_k2 at h
  replace h := ifS h; rcases h with ⟨g12, h⟩ | ⟨g12, h⟩
  · replace h := retS h; subst h
    refine condTP (Wp.seq ?_)
    refine regP (seqN (Wp.ret (blockR (seqR (loopR (blockR (seqR ?_)))))))
    exact finP
  · refine condFP (Wp.skip (blockN (seqN ?_)))
    refine regP (loopN ?_)
    exact jumpL [.kill [64]] (hrec_m_ref22_Check_l1 h)
theorem w_m_ref22_Check_l1_B {p : TPost} {r : Int}   {rec_m_ref22_Check_l1 : Int → Option Int} (hrec_m_ref22_Check_l1 : H_m_ref22_Check_l1 p rec_m_ref22_Check_l1 r) {i : Int} (h : m_ref22_Check_l1_B  p rec_m_ref22_Check_l1 i = some r) : LWp Pg 109 0 i11_L0 ⟨[(0, .bad), (1, .ptr 0 0), (2, .bad), (3, .int .i64 i), (4, .bad), (5, .bad), (9, .bad), (19, .bad), (24, .bad), (34, .bad), (64, .bad), (69, .bad), (108, .bad)], [], [(0, .box [.int .i64 p.Next, sl TMail.c p.Mails, sl TSub.c p.Subs])], 1⟩ (blockQ 0 (seqQ Pg 109 0 (.seq (.seq (.reg none i11_R13) (.block 2 (.loop i11_L1))) (.seq (.reg none i11_R18) .ret)) (qf_11 r))) := by
  unfold m_ref22_Check_l1_B at h
  refine LWp.stepC i11_L0.eq_1 ?_
  refine Wp.seq (Wp.seq (regP (seqN ?_)))
  replace h := ifS h; rcases h with ⟨g5, h⟩ | ⟨g5, h⟩
  · refine condTP (Wp.skip (seqN (Wp.seq (Wp.block (Wp.seq (Wp.seq (Wp.reg ?_)))))))
    replace h := bndS h; obtain ⟨e, g6, h⟩ := h
    replace h := bndS h; obtain ⟨r0_1, g7, h⟩ := h
    refine chunkT 6 (tab_cons (w_m_ref22_Mail g7) (tab_nil _)) ?_
    refine lastT (tab_nil _) (seqN (Wp.seq ?_))
    refine regP (seqN ?_)
    replace h := ifS h; rcases h with ⟨g8, h⟩ | ⟨g8, h⟩
    · replace h := retS h; subst h
      refine condTP (Wp.seq ?_)
      refine regP (seqN (Wp.ret (seqR (blockR (seqR (loopR (blockR (seqR ?_))))))))
      exact finP
    · refine condFP (Wp.skip (seqN (Wp.seq ?_)))
      replace h := ifS h; rcases h with ⟨g9, h⟩ | ⟨g9, h⟩
      · refine drawP [] mixed (clsN _) (seqN ?_)
        exact jumpK [.kill [4, 24, 34], .tidy] (w_m_ref22_Check_k2 (p := p) hrec_m_ref22_Check_l1 h)
      · replace h := ifS h; rcases h with ⟨g10, h⟩ | ⟨g10, h⟩
        · replace h := bndS h; obtain ⟨e_1, g11, h⟩ := h
          refine drawP [] mixed (clsN _) (seqN ?_)
          exact jumpK [.kill [4, 24, 34], .tidy] (w_m_ref22_Check_k2 (p := p) hrec_m_ref22_Check_l1 h)
        · refine drawP [] mixed (clsN _) (seqN ?_)
          exact jumpK [.kill [4, 24, 34], .tidy] (w_m_ref22_Check_k2 (p := p) hrec_m_ref22_Check_l1 h)
  · refine condFP (Wp.out (seqO (loopO (blockO (seqN ?_)))))
    exact jumpK [.kill [3, 24]] (w_m_ref22_Check_k3 h)
theorem w_m_ref22_Check_l1 {p : TPost} {r : Int}   : ∀ (n : Nat), H_m_ref22_Check_l1 p (m_ref22_Check_l1  p n) r := by
  intro n
  induction n with
  | zero => intro i h; unfold m_ref22_Check_l1 at h; cases h
  | succ n ih => intro i h; unfold m_ref22_Check_l1 at h; exact w_m_ref22_Check_l1_B  ih h
theorem w_m_ref22_Check_k1 {p : TPost} {v19 : Bool} {r : Int}   (h : m_ref22_Check_k1 p v19 = some r) : Wp Pg 109 0 (.cond (.t 19) (.seq (.reg none i11_R4) .ret) .skip) ⟨[(0, .bad), (1, .ptr 0 0), (2, .bad), (3, .bad), (4, .bad), (5, .bad), (9, .bad), (19, .bool v19), (24, .bad), (34, .bad), (64, .bad), (69, .bad), (108, .bad)], [], [(0, .box [.int .i64 p.Next, sl TMail.c p.Mails, sl TSub.c p.Subs])], 1⟩ (seqQ Pg 109 0 (.seq (.seq (.reg none i11_R5) (.block 0 (.loop i11_L0))) (.seq (.seq (.reg none i11_R13) (.block 2 (.loop i11_L1))) (.seq (.reg none i11_R18) .ret))) (qf_11 r)) := by
  unfold m_ref22_Check_k1 at h
  replace h := ifS h; rcases h with ⟨g4, h⟩ | ⟨g4, h⟩
  · replace h := retS h; subst h
    refine condTP (Wp.seq ?_)
    refine regP (seqN (Wp.ret (seqR ?_)))
    exact finP
  · refine condFP (Wp.skip (seqN (Wp.seq (Wp.seq ?_))))
    refine regP (seqN (Wp.block (Wp.loop ?_)))
    exact jumpL [.kill [19]] (w_m_ref22_Check_l1 _ h)
theorem w_m_ref22_Check {p : TPost} {r : Int}   (h : m_ref22_Check p = some r) : Spec Pg 11 [.agg [.int .i64 p.Next, sl TMail.c p.Mails, sl TSub.c p.Subs]] [] 0 (.int .i64 r) [] 0 := by
  refine Spec.intro Try.func11 i11_ok (le_of_ble rfl) ?_
  show Wp Pg 109 0 i11_B ⟨argEnv _ i11_V, [], _, _⟩ (qf_11 r)
  unfold m_ref22_Check at h
  unfold i11_B
  refine weakP [] ?_
  refine Wp.seq (regP (seqN (Wp.seq (Wp.seq (Wp.reg ?_)))))
  replace h := bndS h; obtain ⟨r0, g1, h⟩ := h
  refine chunkT 3 (tab_cons (w_m_ref22_in g1) (tab_nil _)) ?_
  refine lastT (tab_nil _) (seqN ?_)
  replace h := ifS h; rcases h with ⟨g2, h⟩ | ⟨g2, h⟩
  · refine condFP (Wp.skip (seqN (Wp.seq (Wp.seq ?_))))
    replace h := ifS h; rcases h with ⟨g3, h⟩ | ⟨g3, h⟩
    · refine regP (seqN ?_)
      exact jumpK [.kill [0, 2, 3, 4, 5, 9, 24, 34, 64, 69, 108]] (w_m_ref22_Check_k1 h)
    · refine regP (seqN ?_)
      exact jumpK [.kill [0, 2, 3, 4, 5, 9, 24, 34, 64, 69, 108]] (w_m_ref22_Check_k1 h)
  · replace h := retS h; subst h
    refine condTP (Wp.seq ?_)
    refine regP (seqN (Wp.ret (seqR ?_)))
    exact finP
/-! funicular/funicularref08.Texts -/
noncomputable abbrev qf_85 (r : Bool) : Ex → St → Prop := FinQ 0 [.tmp 4] (.bool r) [] 0
noncomputable abbrev H_m_ref08_Texts_l1 (a b : (List ByteArray)) (rec0 : Int → Option Bool) (r : Bool) : Prop := ∀ {i : Int}, rec0 i = some r → LWp Pg 26 0 i85_L0 ⟨[(0, sl cs a), (1, sl cs b), (4, .bad), (5, .int .i64 i), (10, .bad), (14, .bad), (25, .bad)], [], [], 0⟩ (blockQ 0 (seqQ Pg 26 0 (.seq (.reg none i85_R8) .ret) (qf_85 r)))
theorem w_m_ref08_Texts_l1_B {a b : (List ByteArray)} {r : Bool}   {rec_m_ref08_Texts_l1 : Int → Option Bool} (hrec_m_ref08_Texts_l1 : H_m_ref08_Texts_l1 a b rec_m_ref08_Texts_l1 r) {i : Int} (h : m_ref08_Texts_l1_B  a b rec_m_ref08_Texts_l1 i = some r) : LWp Pg 26 0 i85_L0 ⟨[(0, sl cs a), (1, sl cs b), (4, .bad), (5, .int .i64 i), (10, .bad), (14, .bad), (25, .bad)], [], [], 0⟩ (blockQ 0 (seqQ Pg 26 0 (.seq (.reg none i85_R8) .ret) (qf_85 r))) := by
  unfold m_ref08_Texts_l1_B at h
  refine LWp.stepC i85_L0.eq_1 ?_
  refine Wp.seq (Wp.seq (regP (seqN ?_)))
  replace h := ifS h; rcases h with ⟨g2, h⟩ | ⟨g2, h⟩
  · refine condTP (Wp.skip (seqN (Wp.seq (Wp.block (Wp.seq ?_)))))
    replace h := bndS h; obtain ⟨e, g3, h⟩ := h
    replace h := bndS h; obtain ⟨e_1, g4, h⟩ := h
    refine drawP [] mixed (clsN _) (seqN ?_)
    replace h := ifS h; rcases h with ⟨g5, h⟩ | ⟨g5, h⟩
    · refine condFP (Wp.skip (blockN (seqN ?_)))
      refine regP (loopN ?_)
      exact jumpL [.kill [14, 25], .tidy] (hrec_m_ref08_Texts_l1 h)
    · replace h := retS h; subst h
      refine condTP (Wp.seq ?_)
      refine regP (seqN (Wp.ret (blockR (seqR (loopR (blockR (seqR ?_)))))))
      exact finP
  · replace h := retS h; subst h
    refine condFP (Wp.out (seqO (loopO (blockO (seqN (Wp.seq ?_))))))
    refine regP (seqN (Wp.ret ?_))
    exact finP
theorem w_m_ref08_Texts_l1 {a b : (List ByteArray)} {r : Bool}   : ∀ (n : Nat), H_m_ref08_Texts_l1 a b (m_ref08_Texts_l1  a b n) r := by
  intro n
  induction n with
  | zero => intro i h; unfold m_ref08_Texts_l1 at h; cases h
  | succ n ih => intro i h; unfold m_ref08_Texts_l1 at h; exact w_m_ref08_Texts_l1_B  ih h
theorem w_m_ref08_Texts {a : (List ByteArray)} {b : (List ByteArray)} {r : Bool}   (h : m_ref08_Texts a b = some r) : Spec Pg 85 [sl cs a, sl cs b] [] 0 (.bool r) [] 0 := by
  refine Spec.intro Try.func85 i85_ok (le_of_ble rfl) ?_
  show Wp Pg 26 0 i85_B ⟨argEnv _ i85_V, [], _, _⟩ (qf_85 r)
  unfold m_ref08_Texts at h
  unfold i85_B
  refine weakP [] ?_
  refine Wp.seq (regP (seqN (Wp.seq (Wp.seq ?_))))
  refine regP (seqN ?_)
  replace h := ifS h; rcases h with ⟨g1, h⟩ | ⟨g1, h⟩
  · replace h := retS h; subst h
    refine condTP (Wp.seq ?_)
    refine regP (seqN (Wp.ret (seqR ?_)))
    exact finP
  · refine condFP (Wp.skip (seqN (Wp.seq (Wp.seq ?_))))
    refine regP (seqN (Wp.block (Wp.loop ?_)))
    exact jumpL [.kill [4, 10, 14, 25]] (w_m_ref08_Texts_l1 _ h)
/-! funicular/funicularref09.Same -/
noncomputable abbrev qf_64 (r : Bool) : Ex → St → Prop := FinQ 0 [.tmp 4] (.bool r) [] 0
noncomputable abbrev H_m_ref09_Same_l1 (a b : TVars) (rec0 : Int → Option Bool) (r : Bool) : Prop := ∀ {i : Int}, rec0 i = some r → LWp Pg 39 0 i64_L0 ⟨[(0, .bad), (1, .bad), (2, .ptr 0 0), (3, .ptr 1 0), (4, .bad), (5, .int .i64 i), (20, .bad), (25, .bad), (38, .bad)], [], [(0, .box [sl cs a.Names, sl (ci .i64) a.Vals]), (1, .box [sl cs b.Names, sl (ci .i64) b.Vals])], 2⟩ (blockQ 0 (seqQ Pg 39 0 (.seq (.reg none i64_R8) .ret) (qf_64 r)))
theorem w_m_ref09_Same_l1_B {a b : TVars} {r : Bool}   {rec_m_ref09_Same_l1 : Int → Option Bool} (hrec_m_ref09_Same_l1 : H_m_ref09_Same_l1 a b rec_m_ref09_Same_l1 r) {i : Int} (h : m_ref09_Same_l1_B  a b rec_m_ref09_Same_l1 i = some r) : LWp Pg 39 0 i64_L0 ⟨[(0, .bad), (1, .bad), (2, .ptr 0 0), (3, .ptr 1 0), (4, .bad), (5, .int .i64 i), (20, .bad), (25, .bad), (38, .bad)], [], [(0, .box [sl cs a.Names, sl (ci .i64) a.Vals]), (1, .box [sl cs b.Names, sl (ci .i64) b.Vals])], 2⟩ (blockQ 0 (seqQ Pg 39 0 (.seq (.reg none i64_R8) .ret) (qf_64 r))) := by
  unfold m_ref09_Same_l1_B at h
  refine LWp.stepC i64_L0.eq_1 ?_
  refine Wp.seq (Wp.seq (regP (seqN ?_)))
  replace h := ifS h; rcases h with ⟨g4, h⟩ | ⟨g4, h⟩
  · refine condTP (Wp.skip (seqN (Wp.seq (Wp.block (Wp.seq ?_)))))
    replace h := bndS h; obtain ⟨e, g5, h⟩ := h
    replace h := bndS h; obtain ⟨e_1, g6, h⟩ := h
    refine drawP [] mixed (clsN _) (seqN ?_)
    replace h := ifS h; rcases h with ⟨g7, h⟩ | ⟨g7, h⟩
    · replace h := retS h; subst h
      refine condTP (Wp.seq ?_)
      refine regP (seqN (Wp.ret (blockR (seqR (loopR (blockR (seqR ?_)))))))
      exact finP
    · refine condFP (Wp.skip (blockN (seqN ?_)))
      refine regP (loopN ?_)
      exact jumpL [.kill [25, 38], .tidy] (hrec_m_ref09_Same_l1 h)
  · replace h := retS h; subst h
    refine condFP (Wp.out (seqO (loopO (blockO (seqN (Wp.seq ?_))))))
    refine regP (seqN (Wp.ret ?_))
    exact finP
theorem w_m_ref09_Same_l1 {a b : TVars} {r : Bool}   : ∀ (n : Nat), H_m_ref09_Same_l1 a b (m_ref09_Same_l1  a b n) r := by
  intro n
  induction n with
  | zero => intro i h; unfold m_ref09_Same_l1 at h; cases h
  | succ n ih => intro i h; unfold m_ref09_Same_l1 at h; exact w_m_ref09_Same_l1_B  ih h
theorem w_m_ref09_Same_k1 {a b : TVars} {v20 : Bool} {r : Bool}   (h : m_ref09_Same_k1 a b v20 = some r) : Wp Pg 39 0 (.cond (.t 20) (.seq (.reg none i64_R2) .ret) .skip) ⟨[(0, .bad), (1, .bad), (2, .ptr 0 0), (3, .ptr 1 0), (4, .bad), (5, .bad), (20, .bool v20), (25, .bad), (38, .bad)], [], [(0, .box [sl cs a.Names, sl (ci .i64) a.Vals]), (1, .box [sl cs b.Names, sl (ci .i64) b.Vals])], 2⟩ (seqQ Pg 39 0 (.seq (.seq (.reg none i64_R3) (.block 0 (.loop i64_L0))) (.seq (.reg none i64_R8) .ret)) (qf_64 r)) := by
  unfold m_ref09_Same_k1 at h
  replace h := ifS h; rcases h with ⟨g3, h⟩ | ⟨g3, h⟩
  · replace h := retS h; subst h
    refine condTP (Wp.seq ?_)
    refine regP (seqN (Wp.ret (seqR ?_)))
    exact finP
  · refine condFP (Wp.skip (seqN (Wp.seq (Wp.seq ?_))))
    refine regP (seqN (Wp.block (Wp.loop ?_)))
    exact jumpL [.kill [20]] (w_m_ref09_Same_l1 _ h)
theorem w_m_ref09_Same {a : TVars} {b : TVars} {r : Bool}   (h : m_ref09_Same a b = some r) : Spec Pg 64 [.agg [sl cs a.Names, sl (ci .i64) a.Vals], .agg [sl cs b.Names, sl (ci .i64) b.Vals]] [] 0 (.bool r) [] 0 := by
  refine Spec.intro Try.func64 i64_ok (le_of_ble rfl) ?_
  show Wp Pg 39 0 i64_B ⟨argEnv _ i64_V, [], _, _⟩ (qf_64 r)
  unfold m_ref09_Same at h
  unfold i64_B
  refine weakP [] ?_
  refine Wp.seq (regP (seqN (Wp.seq (Wp.seq (Wp.reg ?_)))))
  replace h := bndS h; obtain ⟨r0, g1, h⟩ := h
  refine chunkT 5 (tab_cons (w_m_ref08_Texts g1) (tab_nil _)) ?_
  replace h := ifS h; rcases h with ⟨g2, h⟩ | ⟨g2, h⟩
  · refine lastT (tab_nil _) (seqN ?_)
    exact jumpK [.kill [0, 1, 4, 5, 25, 38], .tidy] (w_m_ref09_Same_k1 h)
  · refine lastT (tab_nil _) (seqN ?_)
    exact jumpK [.kill [0, 1, 4, 5, 25, 38], .tidy] (w_m_ref09_Same_k1 h)
end Go.Proofs.Ytefjblgmnoheiaa.R
