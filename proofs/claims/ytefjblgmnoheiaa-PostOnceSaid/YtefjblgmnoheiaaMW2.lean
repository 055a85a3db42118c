/- The program's functions answer what the models answer: 2. -/
import Derived.Test.YtefjblgmnoheiaaMW0
import Derived.Test.YtefjblgmnoheiaaMW1
set_option maxRecDepth 100000
set_option maxHeartbeats 1600000
set_option linter.unusedVariables false
set_option linter.unusedSimpArgs false
set_option linter.defProp false
noncomputable section
namespace Go.Proofs.Ytefjblgmnoheiaa.R
open Go Nat
/-! funicular/vars.Check -/
noncomputable abbrev qf_56 (r : Int) : Ex → St → Prop := FinQ 0 [.tmp 2] (.int .i64 r) [] 0
noncomputable abbrev H_m_vars_Check_l1 (v : TVars) (rec0 : Int → Option Int) (r : Int) : Prop := ∀ {v21 : Int}, rec0 v21 = some r → LWp Pg 50 0 i56_L0 ⟨[(0, .bad), (1, .ptr 0 0), (2, .bad), (3, .bad), (4, .bad), (5, .bad), (13, .bad), (19, sl cs v.Names), (20, .int .i64 (v.Names.length : Int)), (21, .int .i64 v21), (22, .bad), (36, .bad), (48, .bad)], [], [(0, .box [sl cs v.Names, sl (ci .i64) v.Vals])], 1⟩ (blockQ 1 (seqQ Pg 50 0 (.seq (.reg none i56_R13) .ret) (qf_56 r)))
theorem w_m_vars_Check_k2 {v : TVars} {v21 : Int} {v48 : Bool} {r : Int} {rec_m_vars_Check_l1 : Int → Option Int} (hrec_m_vars_Check_l1 : H_m_vars_Check_l1 v rec_m_vars_Check_l1 r) (h : m_vars_Check_k2 rec_m_vars_Check_l1 v21 v48 = some r) : Wp Pg 50 0 (.cond (.t 48) (.seq (.reg none i56_R11) .ret) .skip) ⟨[(0, .bad), (1, .ptr 0 0), (2, .bad), (3, .bad), (4, .bad), (5, .bad), (13, .bad), (19, sl cs v.Names), (20, .int .i64 (v.Names.length : Int)), (21, .int .i64 v21), (22, .bad), (36, .bad), (48, .bool v48)], [], [(0, .box [sl cs v.Names, sl (ci .i64) v.Vals])], 1⟩ (blockQ 2 (seqQ Pg 50 0 (.reg none i56_R12) (loopQ Pg 50 0 i56_L0 (blockQ 1 (seqQ Pg 50 0 (.seq (.reg none i56_R13) .ret) (qf_56 r)))))) := by
  unfold m_vars_Check_k2 at h
  replace h := ifS h; rcases h with ⟨g11, h⟩ | ⟨g11, h⟩
  · replace h := retS h; subst h
    refine condTP (Wp.seq ?_)
    refine regP (seqN (Wp.ret (blockR (seqR (loopR (blockR (seqR ?_)))))))
    exact finP
  · refine condFP (Wp.skip (blockN (seqN ?_)))
    refine regP (loopN ?_)
    exact jumpL [.kill [48]] (hrec_m_vars_Check_l1 h)
theorem w_m_vars_Check_k1 {v : TVars} {v21 : Int} {e : ByteArray} {v36 : Bool} {r : Int} {rec_m_vars_Check_l1 : Int → Option Int} (hrec_m_vars_Check_l1 : H_m_vars_Check_l1 v rec_m_vars_Check_l1 r) (h : m_vars_Check_k1 rec_m_vars_Check_l1 v v21 e v36 = some r) : Wp Pg 50 0 (.cond (.t 36) (.seq (.reg none i56_R9) .ret) .skip) ⟨[(0, .bad), (1, .ptr 0 0), (2, .bad), (3, .int .i64 v21), (4, .str e), (5, .bad), (13, .bad), (19, sl cs v.Names), (20, .int .i64 (v.Names.length : Int)), (21, .int .i64 v21), (22, .bad), (36, .bool v36), (48, .bad)], [], [(0, .box [sl cs v.Names, sl (ci .i64) v.Vals])], 1⟩ (seqQ Pg 50 0 (.seq (.reg none i56_R10) (.cond (.t 48) (.seq (.reg none i56_R11) .ret) .skip)) (blockQ 2 (seqQ Pg 50 0 (.reg none i56_R12) (loopQ Pg 50 0 i56_L0 (blockQ 1 (seqQ Pg 50 0 (.seq (.reg none i56_R13) .ret) (qf_56 r))))))) := by
  unfold m_vars_Check_k1 at h
  replace h := ifS h; rcases h with ⟨g8, h⟩ | ⟨g8, h⟩
  · replace h := retS h; subst h
    refine condTP (Wp.seq ?_)
    refine regP (seqN (Wp.ret (seqR (blockR (seqR (loopR (blockR (seqR ?_))))))))
    exact finP
  · refine condFP (Wp.skip (seqN (Wp.seq ?_)))
    replace h := ifS h; rcases h with ⟨g9, h⟩ | ⟨g9, h⟩
    · replace h := bndS h; obtain ⟨e_1, g10, h⟩ := h
      refine regP (seqN ?_)
      exact jumpK [.kill [3, 4, 36]] (w_m_vars_Check_k2 (v := v) hrec_m_vars_Check_l1 h)
    · refine regP (seqN ?_)
      exact jumpK [.kill [3, 4, 36]] (w_m_vars_Check_k2 (v := v) hrec_m_vars_Check_l1 h)
theorem w_m_vars_Check_l1_B {v : TVars} {r : Int}   {rec_m_vars_Check_l1 : Int → Option Int} (hrec_m_vars_Check_l1 : H_m_vars_Check_l1 v rec_m_vars_Check_l1 r) {v21 : Int} (h : m_vars_Check_l1_B  v rec_m_vars_Check_l1 v21 = some r) : LWp Pg 50 0 i56_L0 ⟨[(0, .bad), (1, .ptr 0 0), (2, .bad), (3, .bad), (4, .bad), (5, .bad), (13, .bad), (19, sl cs v.Names), (20, .int .i64 (v.Names.length : Int)), (21, .int .i64 v21), (22, .bad), (36, .bad), (48, .bad)], [], [(0, .box [sl cs v.Names, sl (ci .i64) v.Vals])], 1⟩ (blockQ 1 (seqQ Pg 50 0 (.seq (.reg none i56_R13) .ret) (qf_56 r))) := by
  unfold m_vars_Check_l1_B at h
  refine LWp.stepC i56_L0.eq_1 ?_
  refine Wp.seq (regP (seqN (Wp.seq ?_)))
  replace h := ifS h; rcases h with ⟨g3, h⟩ | ⟨g3, h⟩
  · refine condTP (Wp.skip (seqN (Wp.seq (Wp.block (Wp.seq ?_)))))
    replace h := bndS h; obtain ⟨e, g4, h⟩ := h
    refine regP (seqN (Wp.seq (Wp.seq (Wp.reg ?_))))
    replace h := bndS h; obtain ⟨r0, g5, h⟩ := h
    refine chunkT 2 (tab_cons (w_m_pack_Name g5) (tab_nil _)) ?_
    replace h := ifS h; rcases h with ⟨g6, h⟩ | ⟨g6, h⟩
    · replace h := ifS h; rcases h with ⟨g7, h⟩ | ⟨g7, h⟩
      · refine lastT (tab_nil _) (seqN ?_)
        exact jumpK [.kill [22]] (w_m_vars_Check_k1 hrec_m_vars_Check_l1 h)
      · refine lastT (tab_nil _) (seqN ?_)
        exact jumpK [.kill [22]] (w_m_vars_Check_k1 hrec_m_vars_Check_l1 h)
    · refine lastT (tab_nil _) (seqN ?_)
      exact jumpK [.kill [22]] (w_m_vars_Check_k1 hrec_m_vars_Check_l1 h)
  · replace h := retS h; subst h
    refine condFP (Wp.out (seqO (loopO (blockO (seqN (Wp.seq ?_))))))
    refine regP (seqN (Wp.ret ?_))
    exact finP
theorem w_m_vars_Check_l1 {v : TVars} {r : Int}   : ∀ (n : Nat), H_m_vars_Check_l1 v (m_vars_Check_l1  v n) r := by
  intro n
  induction n with
  | zero => intro v21 h; unfold m_vars_Check_l1 at h; cases h
  | succ n ih => intro v21 h; unfold m_vars_Check_l1 at h; exact w_m_vars_Check_l1_B  ih h
theorem w_m_vars_Check {v : TVars} {r : Int}   (h : m_vars_Check v = some r) : Spec Pg 56 [.agg [sl cs v.Names, sl (ci .i64) v.Vals]] [] 0 (.int .i64 r) [] 0 := by
  refine Spec.intro Try.func56 i56_ok (le_of_ble rfl) ?_
  show Wp Pg 50 0 i56_B ⟨argEnv _ i56_V, [], _, _⟩ (qf_56 r)
  unfold m_vars_Check at h
  unfold i56_B
  refine weakP [] ?_
  refine Wp.seq (regP (seqN (Wp.seq (Wp.block (Wp.seq ?_)))))
  refine regP (seqN ?_)
  replace h := ifS h; rcases h with ⟨g1, h⟩ | ⟨g1, h⟩
  · replace h := retS h; subst h
    refine condTP (Wp.seq ?_)
    refine regP (seqN (Wp.ret (blockR (seqR ?_))))
    exact finP
  · refine condFP (Wp.seq ?_)
    refine regP (seqN ?_)
    replace h := ifS h; rcases h with ⟨g2, h⟩ | ⟨g2, h⟩
    · replace h := retS h; subst h
      refine condTP (Wp.seq ?_)
      refine regP (seqN (Wp.ret (blockR (seqR ?_))))
      exact finP
    · refine condFP (Wp.skip (blockN (seqN (Wp.seq (Wp.seq ?_)))))
      refine regP (seqN (Wp.block (Wp.loop ?_)))
      exact jumpL [.kill [0, 2, 3, 4, 5, 13, 22, 36, 48]] (w_m_vars_Check_l1 _ h)
/-! funicular/post.part -/
noncomputable abbrev qf_78 (r : Bool) : Ex → St → Prop := FinQ 0 [.tmp 2] (.bool r) [] 0
theorem w_m_post_part {n0 : Int} {r : Bool}   (h : m_post_part n0 = some r) : Spec Pg 78 [.int .i64 n0] [] 0 (.bool r) [] 0 := by
  refine Spec.intro Try.func78 i78_ok (le_of_ble rfl) ?_
  show Wp Pg 9 0 i78_B ⟨argEnv _ i78_V, [], _, _⟩ (qf_78 r)
  unfold m_post_part at h
  unfold i78_B
  refine weakP [] ?_
  refine Wp.seq (regP (seqN (Wp.seq ?_)))
  replace h := ifS h; rcases h with ⟨g1, h⟩ | ⟨g1, h⟩
  · replace h := retS h; subst h
    refine regP (seqN (Wp.ret ?_))
    exact finP
  · replace h := retS h; subst h
    refine regP (seqN (Wp.ret ?_))
    exact finP
/-! slices.Index[[]funicular/api.Who,funicular/api.Who] -/
noncomputable abbrev qf_97 (r : Int) : Ex → St → Prop := FinQ 0 [.tmp 4] (.int .i64 r) [] 0
noncomputable abbrev H_m_slices_Index_api_Who_api_Who_l1 (s : (List TWho)) (v : TWho) (rec0 : Int → Option Int) (r : Int) : Prop := ∀ {v8 : Int}, rec0 v8 = some r → LWp Pg 19 0 i97_L0 ⟨[(0, sl TWho.c s), (1, .bad), (3, .ptr 0 0), (4, .bad), (5, .bad), (7, .int .i64 (s.length : Int)), (8, .int .i64 v8), (9, .bad), (16, .bad)], [], [(0, .box [.int .i64 v.Part, .int .i64 v.Inst])], 1⟩ (blockQ 0 (seqQ Pg 19 0 (.seq (.reg none i97_R7) .ret) (qf_97 r)))
theorem w_m_slices_Index_api_Who_api_Who_l1_B {s : (List TWho)} {v : TWho} {r : Int}   {rec_m_slices_Index_api_Who_api_Who_l1 : Int → Option Int} (hrec_m_slices_Index_api_Who_api_Who_l1 : H_m_slices_Index_api_Who_api_Who_l1 s v rec_m_slices_Index_api_Who_api_Who_l1 r) {v8 : Int} (h : m_slices_Index_api_Who_api_Who_l1_B  s v rec_m_slices_Index_api_Who_api_Who_l1 v8 = some r) : LWp Pg 19 0 i97_L0 ⟨[(0, sl TWho.c s), (1, .bad), (3, .ptr 0 0), (4, .bad), (5, .bad), (7, .int .i64 (s.length : Int)), (8, .int .i64 v8), (9, .bad), (16, .bad)], [], [(0, .box [.int .i64 v.Part, .int .i64 v.Inst])], 1⟩ (blockQ 0 (seqQ Pg 19 0 (.seq (.reg none i97_R7) .ret) (qf_97 r))) := by
  unfold m_slices_Index_api_Who_api_Who_l1_B at h
  refine LWp.stepC i97_L0.eq_1 ?_
  refine Wp.seq (regP (seqN (Wp.seq ?_)))
  replace h := ifS h; rcases h with ⟨g1, h⟩ | ⟨g1, h⟩
  · refine condTP (Wp.skip (seqN (Wp.seq (Wp.block (Wp.seq ?_)))))
    refine regP (seqN (Wp.seq ?_))
    replace h := bndS h; obtain ⟨e, g2, h⟩ := h
    refine drawP [] mixed (clsN _) (seqN ?_)
    replace h := ifS h; rcases h with ⟨g3, h⟩ | ⟨g3, h⟩
    · replace h := retS h; subst h
      refine condTP (Wp.seq ?_)
      refine regP (seqN (Wp.ret (blockR (seqR (loopR (blockR (seqR ?_)))))))
      exact finP
    · refine condFP (Wp.skip (blockN (seqN ?_)))
      refine regP (loopN ?_)
      exact jumpL [.kill [5, 9, 16], .tidy] (hrec_m_slices_Index_api_Who_api_Who_l1 h)
  · replace h := retS h; subst h
    refine condFP (Wp.out (seqO (loopO (blockO (seqN (Wp.seq ?_))))))
    refine regP (seqN (Wp.ret ?_))
    exact finP
theorem w_m_slices_Index_api_Who_api_Who_l1 {s : (List TWho)} {v : TWho} {r : Int}   : ∀ (n : Nat), H_m_slices_Index_api_Who_api_Who_l1 s v (m_slices_Index_api_Who_api_Who_l1  s v n) r := by
  intro n
  induction n with
  | zero => intro v8 h; unfold m_slices_Index_api_Who_api_Who_l1 at h; cases h
  | succ n ih => intro v8 h; unfold m_slices_Index_api_Who_api_Who_l1 at h; exact w_m_slices_Index_api_Who_api_Who_l1_B  ih h
theorem w_m_slices_Index_api_Who_api_Who {s : (List TWho)} {v : TWho} {r : Int}   (h : m_slices_Index_api_Who_api_Who s v = some r) : Spec Pg 97 [sl TWho.c s, .agg [.int .i64 v.Part, .int .i64 v.Inst]] [] 0 (.int .i64 r) [] 0 := by
  refine Spec.intro Try.func97 i97_ok (le_of_ble rfl) ?_
  show Wp Pg 19 0 i97_B ⟨argEnv _ i97_V, [], _, _⟩ (qf_97 r)
  unfold m_slices_Index_api_Who_api_Who at h
  unfold i97_B
  refine weakP [] ?_
  refine Wp.seq (regP (seqN (Wp.seq (Wp.seq ?_))))
  refine regP (seqN (Wp.block (Wp.loop ?_)))
  exact jumpL [.kill [1, 4, 5, 9, 16]] (w_m_slices_Index_api_Who_api_Who_l1 _ h)
/-! slices.Contains[[]funicular/api.Who,funicular/api.Who] -/
noncomputable abbrev qf_79 (r : Bool) : Ex → St → Prop := FinQ 0 [.tmp 4] (.bool r) [] 0
theorem w_m_slices_Contains_api_Who_api_Who {s : (List TWho)} {v : TWho} {r : Bool}   (h : m_slices_Contains_api_Who_api_Who s v = some r) : Spec Pg 79 [sl TWho.c s, .agg [.int .i64 v.Part, .int .i64 v.Inst]] [] 0 (.bool r) [] 0 := by
  refine Spec.intro Try.func79 i79_ok (le_of_ble rfl) ?_
  show Wp Pg 9 0 i79_B ⟨argEnv _ i79_V, [], _, _⟩ (qf_79 r)
  unfold m_slices_Contains_api_Who_api_Who at h
  unfold i79_B
  refine weakP [] ?_
  refine Wp.seq (regP (seqN (Wp.seq (Wp.reg ?_))))
  replace h := bndS h; obtain ⟨r0, g1, h⟩ := h
  replace h := retS h; subst h
  refine chunkT 3 (tab_cons (w_m_slices_Index_api_Who_api_Who g1) (tab_nil _)) ?_
  refine lastT (tab_nil _) (seqN (Wp.ret ?_))
  exact finP
/-! funicular/post.mail -/
noncomputable abbrev qf_36 (r : Int) : Ex → St → Prop := FinQ 0 [.tmp 2] (.int .i64 r) [] 0
noncomputable abbrev H_m_post_mail_l1 (m : TMail) (rec0 : Int → Option Int) (r : Int) : Prop := ∀ {v35 : Int}, rec0 v35 = some r → LWp Pg 59 0 i36_L0 ⟨[(0, .bad), (1, .ptr 0 0), (2, .bad), (3, .bad), (4, .bad), (5, .bad), (25, .bad), (30, .bad), (33, sl TWho.c m.Took), (34, .int .i64 (m.Took.length : Int)), (35, .int .i64 v35), (36, .bad), (57, .bad)], [], (hs7 m), 1⟩ (blockQ 0 (seqQ Pg 59 0 (.seq (.reg none i36_R12) .ret) (qf_36 r)))
theorem w_m_post_mail_k2 {m : TMail} {v35 : Int} {v57 : Bool} {r : Int} {rec_m_post_mail_l1 : Int → Option Int} (hrec_m_post_mail_l1 : H_m_post_mail_l1 m rec_m_post_mail_l1 r) (h : m_post_mail_k2 rec_m_post_mail_l1 v35 v57 = some r) : Wp Pg 59 0 (.cond (.t 57) (.seq (.reg none i36_R10) .ret) .skip) ⟨[(0, .bad), (1, .ptr 0 0), (2, .bad), (3, .bad), (4, .bad), (5, .bad), (25, .bad), (30, .bad), (33, sl TWho.c m.Took), (34, .int .i64 (m.Took.length : Int)), (35, .int .i64 v35), (36, .bad), (57, .bool v57)], [], (hs7 m), 1⟩ (blockQ 1 (seqQ Pg 59 0 (.reg none i36_R11) (loopQ Pg 59 0 i36_L0 (blockQ 0 (seqQ Pg 59 0 (.seq (.reg none i36_R12) .ret) (qf_36 r)))))) := by
  unfold m_post_mail_k2 at h
  replace h := ifS h; rcases h with ⟨g17, h⟩ | ⟨g17, h⟩
  · replace h := retS h; subst h
    refine condTP (Wp.seq ?_)
    refine regP (seqN (Wp.ret (blockR (seqR (loopR (blockR (seqR ?_)))))))
    exact finP
  · refine condFP (Wp.skip (blockN (seqN ?_)))
    refine regP (loopN ?_)
    exact jumpL [.kill [57]] (hrec_m_post_mail_l1 h)
theorem w_m_post_mail_l1_B {m : TMail} {r : Int}   {rec_m_post_mail_l1 : Int → Option Int} (hrec_m_post_mail_l1 : H_m_post_mail_l1 m rec_m_post_mail_l1 r) {v35 : Int} (h : m_post_mail_l1_B  m rec_m_post_mail_l1 v35 = some r) : LWp Pg 59 0 i36_L0 ⟨[(0, .bad), (1, .ptr 0 0), (2, .bad), (3, .bad), (4, .bad), (5, .bad), (25, .bad), (30, .bad), (33, sl TWho.c m.Took), (34, .int .i64 (m.Took.length : Int)), (35, .int .i64 v35), (36, .bad), (57, .bad)], [], (hs7 m), 1⟩ (blockQ 0 (seqQ Pg 59 0 (.seq (.reg none i36_R12) .ret) (qf_36 r))) := by
  unfold m_post_mail_l1_B at h
  refine LWp.stepC i36_L0.eq_1 ?_
  refine Wp.seq (regP (seqN (Wp.seq ?_)))
  replace h := ifS h; rcases h with ⟨g9, h⟩ | ⟨g9, h⟩
  · refine condTP (Wp.skip (seqN (Wp.seq (Wp.block (Wp.seq ?_)))))
    replace h := bndS h; obtain ⟨e, g10, h⟩ := h
    refine regP (seqN (Wp.seq ?_))
    replace h := bndS h; obtain ⟨r0_3, g11, h⟩ := h
    replace h := ifS h; rcases h with ⟨g12, h⟩ | ⟨g12, h⟩
    · replace h := bndS h; obtain ⟨r0_4, g13, h⟩ := h
      replace h := ifS h; rcases h with ⟨g14, h⟩ | ⟨g14, h⟩
      · replace h := bndS h; obtain ⟨l, g15, h⟩ := h
        replace h := bndS h; obtain ⟨r0_5, g16, h⟩ := h
        refine drawP [] mixed (clsC 2 (tab_cons (w_m_post_part g11) (tab_nil _)) (clsC 7 (tab_cons (w_m_post_wide g13) (tab_nil _)) (clsC 16 (tab_cons (w_m_slices_Contains_api_Who_api_Who g16) (tab_nil _)) (clsN _)))) (seqN ?_)
        exact jumpK [.kill [4, 5, 36], .tidy] (w_m_post_mail_k2 (m := m) hrec_m_post_mail_l1 h)
      · refine drawP [] mixed (clsC 2 (tab_cons (w_m_post_part g11) (tab_nil _)) (clsC 7 (tab_cons (w_m_post_wide g13) (tab_nil _)) (clsN _))) (seqN ?_)
        exact jumpK [.kill [4, 5, 36], .tidy] (w_m_post_mail_k2 (m := m) hrec_m_post_mail_l1 h)
    · refine drawP [] mixed (clsC 2 (tab_cons (w_m_post_part g11) (tab_nil _)) (clsN _)) (seqN ?_)
      exact jumpK [.kill [4, 5, 36], .tidy] (w_m_post_mail_k2 (m := m) hrec_m_post_mail_l1 h)
  · replace h := retS h; subst h
    refine condFP (Wp.out (seqO (loopO (blockO (seqN (Wp.seq ?_))))))
    refine regP (seqN (Wp.ret ?_))
    exact finP
theorem w_m_post_mail_l1 {m : TMail} {r : Int}   : ∀ (n : Nat), H_m_post_mail_l1 m (m_post_mail_l1  m n) r := by
  intro n
  induction n with
  | zero => intro v35 h; unfold m_post_mail_l1 at h; cases h
  | succ n ih => intro v35 h; unfold m_post_mail_l1 at h; exact w_m_post_mail_l1_B  ih h
theorem w_m_post_mail_k1 {m : TMail} {v25 : Bool} {r : Int}   (h : m_post_mail_k1 m v25 = some r) : Wp Pg 59 0 (.cond (.t 25) (.seq (.reg none i36_R2) .ret) .skip) ⟨[(0, .bad), (1, .ptr 0 0), (2, .bad), (3, .bad), (4, .bad), (5, .bad), (25, .bool v25), (30, .bad), (33, .bad), (34, .bad), (35, .bad), (36, .bad), (57, .bad)], [], (hs7 m), 1⟩ (seqQ Pg 59 0 (.seq (.seq (.reg none i36_R3) (.seq (.reg none i36_R4) (.cond (.t 30) (.seq (.reg none i36_R5) .ret) .skip))) (.seq (.seq (.reg none i36_R6) (.block 0 (.loop i36_L0))) (.seq (.reg none i36_R12) .ret))) (qf_36 r)) := by
  unfold m_post_mail_k1 at h
  replace h := ifS h; rcases h with ⟨g6, h⟩ | ⟨g6, h⟩
  · replace h := retS h; subst h
    refine condTP (Wp.seq ?_)
    refine regP (seqN (Wp.ret (seqR ?_)))
    exact finP
  · refine condFP (Wp.skip (seqN (Wp.seq (Wp.seq (Wp.reg ?_)))))
    replace h := bndS h; obtain ⟨r0_2, g7, h⟩ := h
    refine chunkT 3 (tab_cons (w_m_vars_Check g7) (tab_nil _)) ?_
    refine lastT (tab_nil _) (seqN (Wp.seq ?_))
    refine regP (seqN ?_)
    replace h := ifS h; rcases h with ⟨g8, h⟩ | ⟨g8, h⟩
    · replace h := retS h; subst h
      refine condTP (Wp.seq ?_)
      refine regP (seqN (Wp.ret (seqR ?_)))
      exact finP
    · refine condFP (Wp.skip (seqN (Wp.seq (Wp.seq ?_))))
      refine regP (seqN (Wp.block (Wp.loop ?_)))
      exact jumpL [.kill [3, 25, 30]] (w_m_post_mail_l1 _ h)
theorem w_m_post_mail {m : TMail} {r : Int}   (h : m_post_mail m = some r) : Spec Pg 36 [.agg [.int .i64 m.Id, .str m.Name, .int .i64 m.Key, sl cs m.Vars.Names, sl (ci .i64) m.Vars.Vals, .int .i64 m.Until, sl TWho.c m.Took]] [] 0 (.int .i64 r) [] 0 := by
  refine Spec.intro Try.func36 i36_ok (le_of_ble rfl) ?_
  show Wp Pg 59 0 i36_B ⟨argEnv _ i36_V, [], _, _⟩ (qf_36 r)
  unfold m_post_mail at h
  unfold i36_B
  refine weakP [] ?_
  refine Wp.seq (regP (seqN (Wp.seq (Wp.seq (Wp.reg ?_)))))
  replace h := bndS h; obtain ⟨r0, g1, h⟩ := h
  refine chunkT 3 (tab_cons (w_m_post_wide g1) (tab_nil _)) ?_
  replace h := ifS h; rcases h with ⟨g2, h⟩ | ⟨g2, h⟩
  · replace h := bndS h; obtain ⟨r0_1, g3, h⟩ := h
    refine chunkT 5 (tab_cons (w_m_pack_Name g3) (tab_nil _)) ?_
    replace h := ifS h; rcases h with ⟨g4, h⟩ | ⟨g4, h⟩
    · replace h := ifS h; rcases h with ⟨g5, h⟩ | ⟨g5, h⟩
      · refine lastT (tab_nil _) (seqN ?_)
        exact jumpK [.kill [0, 2, 3, 4, 5, 30, 33, 34, 35, 36, 57]] (w_m_post_mail_k1 h)
      · refine lastT (tab_nil _) (seqN ?_)
        exact jumpK [.kill [0, 2, 3, 4, 5, 30, 33, 34, 35, 36, 57]] (w_m_post_mail_k1 h)
    · refine lastT (tab_nil _) (seqN ?_)
      exact jumpK [.kill [0, 2, 3, 4, 5, 30, 33, 34, 35, 36, 57]] (w_m_post_mail_k1 h)
  · refine lastT (tab_nil _) (seqN ?_)
    exact jumpK [.kill [0, 2, 3, 4, 5, 30, 33, 34, 35, 36, 57]] (w_m_post_mail_k1 h)
/-! funicular/post.sub -/
noncomputable abbrev qf_37 (r : Bool) : Ex → St → Prop := FinQ 0 [.tmp 2] (.bool r) [] 0
theorem w_m_post_sub {s : TSub} {r : Bool}   (h : m_post_sub s = some r) : Spec Pg 37 [.agg [.int .i64 s.Part, .int .i64 s.Id, .int .i64 s.Inst, .str s.Name, .int .i64 s.Key, .int .i64 s.Mail]] [] 0 (.bool r) [] 0 := by
  refine Spec.intro Try.func37 i37_ok (le_of_ble rfl) ?_
  show Wp Pg 31 0 i37_B ⟨argEnv _ i37_V, [], _, _⟩ (qf_37 r)
  unfold m_post_sub at h
  unfold i37_B
  refine weakP [] ?_
  refine Wp.seq (regP (seqN (Wp.seq (Wp.reg ?_))))
  replace h := bndS h; obtain ⟨r0, g1, h⟩ := h
  refine chunkT 3 (tab_cons (w_m_post_part g1) (tab_nil _)) ?_
  replace h := ifS h; rcases h with ⟨g2, h⟩ | ⟨g2, h⟩
  · replace h := bndS h; obtain ⟨r0_1, g3, h⟩ := h
    refine chunkT 4 (tab_cons (w_m_post_wide g3) (tab_nil _)) ?_
    replace h := ifS h; rcases h with ⟨g4, h⟩ | ⟨g4, h⟩
    · replace h := bndS h; obtain ⟨r0_2, g5, h⟩ := h
      refine chunkT 5 (tab_cons (w_m_post_wide g5) (tab_nil _)) ?_
      replace h := ifS h; rcases h with ⟨g6, h⟩ | ⟨g6, h⟩
      · replace h := bndS h; obtain ⟨r0_3, g7, h⟩ := h
        refine chunkT 5 (tab_cons (w_m_pack_Name g7) (tab_nil _)) ?_
        replace h := ifS h; rcases h with ⟨g8, h⟩ | ⟨g8, h⟩
        · replace h := ifS h; rcases h with ⟨g9, h⟩ | ⟨g9, h⟩
          · replace h := retS h; subst h
            refine lastT (tab_nil _) (seqN (Wp.ret ?_))
            exact finP
          · replace h := retS h; subst h
            refine lastT (tab_nil _) (seqN (Wp.ret ?_))
            exact finP
        · replace h := retS h; subst h
          refine lastT (tab_nil _) (seqN (Wp.ret ?_))
          exact finP
      · replace h := retS h; subst h
        refine lastT (tab_nil _) (seqN (Wp.ret ?_))
        exact finP
    · replace h := retS h; subst h
      refine lastT (tab_nil _) (seqN (Wp.ret ?_))
      exact finP
  · replace h := retS h; subst h
    refine lastT (tab_nil _) (seqN (Wp.ret ?_))
    exact finP
/-! funicular/post.Check -/
noncomputable abbrev qf_10 (r : Int) : Ex → St → Prop := FinQ 0 [.tmp 2] (.int .i64 r) [] 0
noncomputable abbrev H_m_post_Check_l1 (p : TPost) (rec0 : Int → Int → Option Int) (r : Int) : Prop := ∀ {last v28 : Int}, rec0 last v28 = some r → LWp Pg 87 0 i10_L0 ⟨[(0, .bad), (1, .ptr 0 0), (2, .bad), (3, .int .i64 last), (5, .bad), (6, .bad), (7, .bad), (8, .bad), (9, .bad), (14, .bad), (26, sl TMail.c p.Mails), (27, .int .i64 (p.Mails.length : Int)), (28, .int .i64 v28), (29, .bad), (35, .bad), (47, .bad), (52, .bad), (53, .bad), (54, .bad), (55, .bad), (85, .bad)], [], [(0, .box [.int .i64 p.Next, sl TMail.c p.Mails, sl TSub.c p.Subs])], 1⟩ (blockQ 1 (seqQ Pg 87 0 (.seq (.seq (.reg none i10_R16) (.block 3 (.loop i10_L1))) (.seq (.reg none i10_R22) .ret)) (qf_10 r)))
noncomputable abbrev H_m_post_Check_l2 (p : TPost) (rec0 : Int → Option Int) (r : Int) : Prop := ∀ {v54 : Int}, rec0 v54 = some r → LWp Pg 87 0 i10_L1 ⟨[(0, .bad), (1, .ptr 0 0), (2, .bad), (3, .bad), (5, .bad), (6, .bad), (7, .bad), (8, .bad), (9, .bad), (14, .bad), (26, .bad), (27, .bad), (28, .bad), (29, .bad), (35, .bad), (47, .bad), (52, sl TSub.c p.Subs), (53, .int .i64 (p.Subs.length : Int)), (54, .int .i64 v54), (55, .bad), (85, .bad)], [], [(0, .box [.int .i64 p.Next, sl TMail.c p.Mails, sl TSub.c p.Subs])], 1⟩ (blockQ 3 (seqQ Pg 87 0 (.seq (.reg none i10_R22) .ret) (qf_10 r)))
theorem w_m_post_Check_k4 {p : TPost} {v54 : Int} {v85 : Bool} {r : Int} {rec_m_post_Check_l2 : Int → Option Int} (hrec_m_post_Check_l2 : H_m_post_Check_l2 p rec_m_post_Check_l2 r) (h : m_post_Check_k4 rec_m_post_Check_l2 v54 v85 = some r) : Wp Pg 87 0 (.cond (.t 85) (.seq (.reg none i10_R20) .ret) .skip) ⟨[(0, .bad), (1, .ptr 0 0), (2, .bad), (3, .bad), (5, .bad), (6, .bad), (7, .bad), (8, .bad), (9, .bad), (14, .bad), (26, .bad), (27, .bad), (28, .bad), (29, .bad), (35, .bad), (47, .bad), (52, sl TSub.c p.Subs), (53, .int .i64 (p.Subs.length : Int)), (54, .int .i64 v54), (55, .bad), (85, .bool v85)], [], [(0, .box [.int .i64 p.Next, sl TMail.c p.Mails, sl TSub.c p.Subs])], 1⟩ (blockQ 4 (seqQ Pg 87 0 (.reg none i10_R21) (loopQ Pg 87 0 i10_L1 (blockQ 3 (seqQ Pg 87 0 (.seq (.reg none i10_R22) .ret) (qf_10 r)))))) := by
  unfold m_post_Check_k4 at h
  replace h := ifS h; rcases h with ⟨g21, h⟩ | ⟨g21, h⟩
  · replace h := retS h; subst h
    refine condTP (Wp.seq ?_)
    refine regP (seqN (Wp.ret (blockR (seqR (loopR (blockR (seqR ?_)))))))
    exact finP
  · refine condFP (Wp.skip (blockN (seqN ?_)))
    refine regP (loopN ?_)
    exact jumpL [.kill [85]] (hrec_m_post_Check_l2 h)
theorem w_m_post_Check_l2_B {p : TPost} {r : Int}   {rec_m_post_Check_l2 : Int → Option Int} (hrec_m_post_Check_l2 : H_m_post_Check_l2 p rec_m_post_Check_l2 r) {v54 : Int} (h : m_post_Check_l2_B  p rec_m_post_Check_l2 v54 = some r) : LWp Pg 87 0 i10_L1 ⟨[(0, .bad), (1, .ptr 0 0), (2, .bad), (3, .bad), (5, .bad), (6, .bad), (7, .bad), (8, .bad), (9, .bad), (14, .bad), (26, .bad), (27, .bad), (28, .bad), (29, .bad), (35, .bad), (47, .bad), (52, sl TSub.c p.Subs), (53, .int .i64 (p.Subs.length : Int)), (54, .int .i64 v54), (55, .bad), (85, .bad)], [], [(0, .box [.int .i64 p.Next, sl TMail.c p.Mails, sl TSub.c p.Subs])], 1⟩ (blockQ 3 (seqQ Pg 87 0 (.seq (.reg none i10_R22) .ret) (qf_10 r))) := by
  unfold m_post_Check_l2_B at h
  refine LWp.stepC i10_L1.eq_1 ?_
  refine Wp.seq (regP (seqN (Wp.seq ?_)))
  replace h := ifS h; rcases h with ⟨g11, h⟩ | ⟨g11, h⟩
  · refine condTP (Wp.skip (seqN (Wp.seq (Wp.block (Wp.seq ?_)))))
    replace h := bndS h; obtain ⟨e_1, g12, h⟩ := h
    refine regP (seqN (Wp.seq ?_))
    replace h := bndS h; obtain ⟨r0_2, g13, h⟩ := h
    replace h := ifS h; rcases h with ⟨g14, h⟩ | ⟨g14, h⟩
    · replace h := ifS h; rcases h with ⟨g15, h⟩ | ⟨g15, h⟩
      · refine drawP [] mixed (clsC 1 (tab_cons (w_m_post_sub g13) (tab_nil _)) (clsN _)) (seqN ?_)
        exact jumpK [.kill [7, 8, 55], .tidy] (w_m_post_Check_k4 (p := p) hrec_m_post_Check_l2 h)
      · replace h := ifS h; rcases h with ⟨g16, h⟩ | ⟨g16, h⟩
        · replace h := bndS h; obtain ⟨e_2, g17, h⟩ := h
          replace h := bndS h; obtain ⟨r0_3, g18, h⟩ := h
          replace h := bndS h; obtain ⟨r0_4, g19, h⟩ := h
          replace h := bndS h; obtain ⟨r0_5, g20, h⟩ := h
          refine drawP [] mixed (clsC 1 (tab_cons (w_m_post_sub g13) (tab_nil _)) (clsC 20 (tab_cons (w_m_post_of g18) (tab_nil _)) (clsC 22 (tab_cons (w_m_post_of g19) (tab_nil _)) (clsC 23 (tab_cons (w_m_post_key_order g20) (tab_nil _)) (clsN _))))) (seqN ?_)
          exact jumpK [.kill [7, 8, 55], .tidy] (w_m_post_Check_k4 (p := p) hrec_m_post_Check_l2 h)
        · refine drawP [] mixed (clsC 1 (tab_cons (w_m_post_sub g13) (tab_nil _)) (clsN _)) (seqN ?_)
          exact jumpK [.kill [7, 8, 55], .tidy] (w_m_post_Check_k4 (p := p) hrec_m_post_Check_l2 h)
    · refine drawP [] mixed (clsC 1 (tab_cons (w_m_post_sub g13) (tab_nil _)) (clsN _)) (seqN ?_)
      exact jumpK [.kill [7, 8, 55], .tidy] (w_m_post_Check_k4 (p := p) hrec_m_post_Check_l2 h)
  · replace h := retS h; subst h
    refine condFP (Wp.out (seqO (loopO (blockO (seqN (Wp.seq ?_))))))
    refine regP (seqN (Wp.ret ?_))
    exact finP
theorem w_m_post_Check_l2 {p : TPost} {r : Int}   : ∀ (n : Nat), H_m_post_Check_l2 p (m_post_Check_l2  p n) r := by
  intro n
  induction n with
  | zero => intro v54 h; unfold m_post_Check_l2 at h; cases h
  | succ n ih => intro v54 h; unfold m_post_Check_l2 at h; exact w_m_post_Check_l2_B  ih h
theorem w_m_post_Check_k3 {p : TPost} {r : Int}   (h : m_post_Check_k3 p = some r) : Wp Pg 87 0 (.seq (.seq (.reg none i10_R16) (.block 3 (.loop i10_L1))) (.seq (.reg none i10_R22) .ret)) ⟨[(0, .bad), (1, .ptr 0 0), (2, .bad), (3, .bad), (5, .bad), (6, .bad), (7, .bad), (8, .bad), (9, .bad), (14, .bad), (26, .bad), (27, .bad), (28, .bad), (29, .bad), (35, .bad), (47, .bad), (52, .bad), (53, .bad), (54, .bad), (55, .bad), (85, .bad)], [], [(0, .box [.int .i64 p.Next, sl TMail.c p.Mails, sl TSub.c p.Subs])], 1⟩ (qf_10 r) := by
  unfold m_post_Check_k3 at h
  refine Wp.seq (Wp.seq (regP (seqN (Wp.block (Wp.loop ?_)))))
  exact jumpL [] (w_m_post_Check_l2 _ h)
theorem w_m_post_Check_k2 {p : TPost} {v28 : Int} {e : TMail} {v47 : Bool} {r : Int} {rec_m_post_Check_l1 : Int → Int → Option Int} (hrec_m_post_Check_l1 : H_m_post_Check_l1 p rec_m_post_Check_l1 r) (h : m_post_Check_k2 rec_m_post_Check_l1 v28 e v47 = some r) : Wp Pg 87 0 (.cond (.t 47) (.seq (.reg none i10_R13) .ret) .skip) ⟨[(0, .bad), (1, .ptr 0 0), (2, .bad), (3, .bad), (5, .ptr 1 0), (6, .bad), (7, .bad), (8, .bad), (9, .bad), (14, .bad), (26, sl TMail.c p.Mails), (27, .int .i64 (p.Mails.length : Int)), (28, .int .i64 v28), (29, .bad), (35, .bad), (47, .bool v47), (52, .bad), (53, .bad), (54, .bad), (55, .bad), (85, .bad)], [], (hs9 e p.Next p.Mails p.Subs), 2⟩ (seqQ Pg 87 0 (.reg none i10_R14) (blockQ 2 (seqQ Pg 87 0 (.reg none i10_R15) (loopQ Pg 87 0 i10_L0 (blockQ 1 (seqQ Pg 87 0 (.seq (.seq (.reg none i10_R16) (.block 3 (.loop i10_L1))) (.seq (.reg none i10_R22) .ret)) (qf_10 r))))))) := by
  unfold m_post_Check_k2 at h
  replace h := ifS h; rcases h with ⟨g10, h⟩ | ⟨g10, h⟩
  · replace h := retS h; subst h
    refine condTP (Wp.seq ?_)
    refine regP (seqN (Wp.ret (seqR (blockR (seqR (loopR (blockR (seqR ?_))))))))
    exact finP
  · refine condFP (Wp.skip (seqN ?_))
    refine regP (blockN (seqN ?_))
    refine regP (loopN ?_)
    exact jumpL [.kill [5, 47], .tidy] (hrec_m_post_Check_l1 h)
theorem w_m_post_Check_l1_B {p : TPost} {r : Int}   {rec_m_post_Check_l1 : Int → Int → Option Int} (hrec_m_post_Check_l1 : H_m_post_Check_l1 p rec_m_post_Check_l1 r) {last v28 : Int} (h : m_post_Check_l1_B  p rec_m_post_Check_l1 last v28 = some r) : LWp Pg 87 0 i10_L0 ⟨[(0, .bad), (1, .ptr 0 0), (2, .bad), (3, .int .i64 last), (5, .bad), (6, .bad), (7, .bad), (8, .bad), (9, .bad), (14, .bad), (26, sl TMail.c p.Mails), (27, .int .i64 (p.Mails.length : Int)), (28, .int .i64 v28), (29, .bad), (35, .bad), (47, .bad), (52, .bad), (53, .bad), (54, .bad), (55, .bad), (85, .bad)], [], [(0, .box [.int .i64 p.Next, sl TMail.c p.Mails, sl TSub.c p.Subs])], 1⟩ (blockQ 1 (seqQ Pg 87 0 (.seq (.seq (.reg none i10_R16) (.block 3 (.loop i10_L1))) (.seq (.reg none i10_R22) .ret)) (qf_10 r))) := by
  unfold m_post_Check_l1_B at h
  refine LWp.stepC i10_L0.eq_1 ?_
  refine Wp.seq (regP (seqN (Wp.seq ?_)))
  replace h := ifS h; rcases h with ⟨g5, h⟩ | ⟨g5, h⟩
  · refine condTP (Wp.skip (seqN (Wp.seq (Wp.block (Wp.seq ?_)))))
    replace h := bndS h; obtain ⟨e, g6, h⟩ := h
    refine regP (seqN (Wp.seq (Wp.seq (Wp.reg ?_))))
    replace h := bndS h; obtain ⟨r0_1, g7, h⟩ := h
    refine chunkT 2 (tab_cons (w_m_post_mail g7) (tab_nil _)) ?_
    refine lastT (tab_nil _) (seqN (Wp.seq ?_))
    refine regP (seqN ?_)
    replace h := ifS h; rcases h with ⟨g8, h⟩ | ⟨g8, h⟩
    · replace h := retS h; subst h
      refine condTP (Wp.seq ?_)
      refine regP (seqN (Wp.ret (seqR (blockR (seqR (loopR (blockR (seqR ?_))))))))
      exact finP
    · refine condFP (Wp.skip (seqN (Wp.seq (Wp.seq ?_))))
      replace h := ifS h; rcases h with ⟨g9, h⟩ | ⟨g9, h⟩
      · refine regP (seqN ?_)
        exact jumpK [.kill [3, 6, 29, 35], .tidy] (w_m_post_Check_k2 (p := p) hrec_m_post_Check_l1 h)
      · refine regP (seqN ?_)
        exact jumpK [.kill [3, 6, 29, 35], .tidy] (w_m_post_Check_k2 (p := p) hrec_m_post_Check_l1 h)
  · refine condFP (Wp.out (seqO (loopO (blockO (seqN ?_)))))
    exact jumpK [.kill [3, 26, 27, 28, 29]] (w_m_post_Check_k3 h)
theorem w_m_post_Check_l1 {p : TPost} {r : Int}   : ∀ (n : Nat), H_m_post_Check_l1 p (m_post_Check_l1  p n) r := by
  intro n
  induction n with
  | zero => intro last v28 h; unfold m_post_Check_l1 at h; cases h
  | succ n ih => intro last v28 h; unfold m_post_Check_l1 at h; exact w_m_post_Check_l1_B  ih h
theorem w_m_post_Check_k1 {p : TPost} {v14 : Bool} {r : Int}   (h : m_post_Check_k1 p v14 = some r) : Wp Pg 87 0 (.cond (.t 14) (.seq (.reg none i10_R4) .ret) .skip) ⟨[(0, .bad), (1, .ptr 0 0), (2, .bad), (3, .bad), (5, .bad), (6, .bad), (7, .bad), (8, .bad), (9, .bad), (14, .bool v14), (26, .bad), (27, .bad), (28, .bad), (29, .bad), (35, .bad), (47, .bad), (52, .bad), (53, .bad), (54, .bad), (55, .bad), (85, .bad)], [], [(0, .box [.int .i64 p.Next, sl TMail.c p.Mails, sl TSub.c p.Subs])], 1⟩ (blockQ 0 (seqQ Pg 87 0 (.seq (.reg none i10_R5) (.seq (.seq (.reg none i10_R6) (.block 1 (.loop i10_L0))) (.seq (.seq (.reg none i10_R16) (.block 3 (.loop i10_L1))) (.seq (.reg none i10_R22) .ret)))) (qf_10 r))) := by
  unfold m_post_Check_k1 at h
  replace h := ifS h; rcases h with ⟨g4, h⟩ | ⟨g4, h⟩
  · replace h := retS h; subst h
    refine condTP (Wp.seq ?_)
    refine regP (seqN (Wp.ret (blockR (seqR ?_))))
    exact finP
  · refine condFP (Wp.skip (blockN (seqN (Wp.seq ?_))))
    refine regP (seqN (Wp.seq (Wp.seq ?_)))
    refine regP (seqN (Wp.block (Wp.loop ?_)))
    exact jumpL [.kill [14]] (w_m_post_Check_l1 _ h)
theorem w_m_post_Check {p : TPost} {r : Int}   (h : m_post_Check p = some r) : Spec Pg 10 [.agg [.int .i64 p.Next, sl TMail.c p.Mails, sl TSub.c p.Subs]] [] 0 (.int .i64 r) [] 0 := by
  refine Spec.intro Try.func10 i10_ok (le_of_ble rfl) ?_
  show Wp Pg 87 0 i10_B ⟨argEnv _ i10_V, [], _, _⟩ (qf_10 r)
  unfold m_post_Check at h
  unfold i10_B
  refine weakP [] ?_
  refine Wp.seq (regP (seqN (Wp.seq (Wp.block (Wp.seq (Wp.reg ?_))))))
  replace h := bndS h; obtain ⟨r0, g1, h⟩ := h
  refine chunkT 3 (tab_cons (w_m_post_wide g1) (tab_nil _)) ?_
  refine lastT (tab_nil _) (seqN ?_)
  replace h := ifS h; rcases h with ⟨g2, h⟩ | ⟨g2, h⟩
  · refine condFP (Wp.seq ?_)
    replace h := ifS h; rcases h with ⟨g3, h⟩ | ⟨g3, h⟩
    · refine regP (seqN ?_)
      exact jumpK [.kill [0, 2, 3, 5, 6, 7, 8, 9, 26, 27, 28, 29, 35, 47, 52, 53, 54, 55, 85]] (w_m_post_Check_k1 h)
    · refine regP (seqN ?_)
      exact jumpK [.kill [0, 2, 3, 5, 6, 7, 8, 9, 26, 27, 28, 29, 35, 47, 52, 53, 54, 55, 85]] (w_m_post_Check_k1 h)
  · replace h := retS h; subst h
    refine condTP (Wp.seq ?_)
    refine regP (seqN (Wp.ret (blockR (seqR ?_))))
    exact finP
/-! funicular/funicularref22.in -/
/-! funicular/funicularref02.Name -/
end Go.Proofs.Ytefjblgmnoheiaa.R
