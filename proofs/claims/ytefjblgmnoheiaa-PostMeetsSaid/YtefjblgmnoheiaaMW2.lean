/- The program's functions answer what the models answer: 2. -/
import Derived.Test.YtefjblgmnoheiaaMW0
import Derived.Test.YtefjblgmnoheiaaMW1
set_option maxRecDepth 100000
set_option maxHeartbeats 1600000
set_option linter.unusedVariables false
set_option linter.unusedSimpArgs false
set_option linter.defProp false
noncomputable section
namespace Go.Proofs.Ytefjblgmnoheiaa.R
open Go Nat
/-! funicular/vars.Check -/
noncomputable abbrev qf_56 (r : Int) : Ex → St → Prop := FinQ 0 [.tmp 2] (.int .i64 r) [] 0
noncomputable abbrev H_m_vars_Check_l1 (v : TVars) (rec0 : Int → Option Int) (r : Int) : Prop := ∀ {v21 : Int}, rec0 v21 = some r → LWp Pg 50 0 i56_L0 ⟨[(0, .bad), (1, .ptr 0 0), (2, .bad), (3, .bad), (4, .bad), (5, .bad), (13, .bad), (19, sl cs v.Names), (20, .int .i64 (v.Names.length : Int)), (21, .int .i64 v21), (22, .bad), (36, .bad), (48, .bad)], [], [(0, .box [sl cs v.Names, sl (ci .i64) v.Vals])], 1⟩ (blockQ 1 (seqQ Pg 50 0 (.seq (.reg none i56_R13) .ret) (qf_56 r)))
theorem w_m_vars_Check_k2 {v : TVars} {v21 : Int} {v48 : Bool} {r : Int} {rec_m_vars_Check_l1 : Int → Option Int} (hrec_m_vars_Check_l1 : H_m_vars_Check_l1 v rec_m_vars_Check_l1 r) (h : m_vars_Check_k2 rec_m_vars_Check_l1 v21 v48 = some r) : Wp Pg 50 0 (.cond (.t 48) (.seq (.reg none i56_R11) .ret) .skip) ⟨[(0, .bad), (1, .ptr 0 0), (2, .bad), (3, .bad), (4, .bad), (5, .bad), (13, .bad), (19, sl cs v.Names), (20, .int .i64 (v.Names.length : Int)), (21, .int .i64 v21), (22, .bad), (36, .bad), (48, .bool v48)], [], [(0, .box [sl cs v.Names, sl (ci .i64) v.Vals])], 1⟩ (blockQ 2 (seqQ Pg 50 0 (.reg none i56_R12) (loopQ Pg 50 0 i56_L0 (blockQ 1 (seqQ Pg 50 0 (.seq (.reg none i56_R13) .ret) (qf_56 r)))))) := by
  unfold m_vars_Check_k2 at h
  replace h := ifS h; rcases h with ⟨g11, h⟩ | ⟨g11, h⟩
  · replace h := retS h; subst h
    refine condTP (Wp.seq ?_)
    refine regP (seqN (Wp.ret (blockR (seqR (loopR (blockR (seqR ?_)))))))
    exact finP
  · refine condFP (Wp.skip (blockN (seqN ?_)))
    refine regP (loopN ?_)
    exact jumpL [.kill [48]] (hrec_m_vars_Check_l1 h)
theorem w_m_vars_Check_k1 {v : TVars} {v21 : Int} {e : ByteArray} {v36 : Bool} {r : Int} {rec_m_vars_Check_l1 : Int → Option Int} (hrec_m_vars_Check_l1 : H_m_vars_Check_l1 v rec_m_vars_Check_l1 r) (h : m_vars_Check_k1 rec_m_vars_Check_l1 v v21 e v36 = some r) : Wp Pg 50 0 (.cond (.t 36) (.seq (.reg none i56_R9) .ret) .skip) ⟨[(0, .bad), (1, .ptr 0 0), (2, .bad), (3, .int .i64 v21), (4, .str e), (5, .bad), (13, .bad), (19, sl cs v.Names), (20, .int .i64 (v.Names.length : Int)), (21, .int .i64 v21), (22, .bad), (36, .bool v36), (48, .bad)], [], [(0, .box [sl cs v.Names, sl (ci .i64) v.Vals])], 1⟩ (seqQ Pg 50 0 (.seq (.reg none i56_R10) (.cond (.t 48) (.seq (.reg none i56_R11) .ret) .skip)) (blockQ 2 (seqQ Pg 50 0 (.reg none i56_R12) (loopQ Pg 50 0 i56_L0 (blockQ 1 (seqQ Pg 50 0 (.seq (.reg none i56_R13) .ret) (qf_56 r))))))) := by
  unfold m_vars_Check_k1 at h
  replace h := ifS h; rcases h with ⟨g8, h⟩ | ⟨g8, h⟩
  · replace h := retS h; subst h
    refine condTP (Wp.seq ?_)
    refine regP (seqN (Wp.ret (seqR (blockR (seqR (loopR (blockR (seqR ?_))))))))
    exact finP
  · refine condFP (Wp.skip (seqN (Wp.seq ?_)))
    replace h := ifS h; rcases h with ⟨g9, h⟩ | ⟨g9, h⟩
    · replace h := bndS h; obtain ⟨e_1, g10, h⟩ := h
      refine regP (seqN ?_)
      exact jumpK [.kill [3, 4, 36]] (w_m_vars_Check_k2 (v := v) hrec_m_vars_Check_l1 h)
    · refine regP (seqN ?_)
      exact jumpK [.kill [3, 4, 36]] (w_m_vars_Check_k2 (v := v) hrec_m_vars_Check_l1 h)
theorem w_m_vars_Check_l1_B {v : TVars} {r : Int}   {rec_m_vars_Check_l1 : Int → Option Int} (hrec_m_vars_Check_l1 : H_m_vars_Check_l1 v rec_m_vars_Check_l1 r) {v21 : Int} (h : m_vars_Check_l1_B  v rec_m_vars_Check_l1 v21 = some r) : LWp Pg 50 0 i56_L0 ⟨[(0, .bad), (1, .ptr 0 0), (2, .bad), (3, .bad), (4, .bad), (5, .bad), (13, .bad), (19, sl cs v.Names), (20, .int .i64 (v.Names.length : Int)), (21, .int .i64 v21), (22, .bad), (36, .bad), (48, .bad)], [], [(0, .box [sl cs v.Names, sl (ci .i64) v.Vals])], 1⟩ (blockQ 1 (seqQ Pg 50 0 (.seq (.reg none i56_R13) .ret) (qf_56 r))) := by
  unfold m_vars_Check_l1_B at h
  refine LWp.stepC i56_L0.eq_1 ?_
  refine Wp.seq (regP (seqN (Wp.seq ?_)))
  replace h := ifS h; rcases h with ⟨g3, h⟩ | ⟨g3, h⟩
  · refine condTP (Wp.skip (seqN (Wp.seq (Wp.block (Wp.seq ?_)))))
    replace h := bndS h; obtain ⟨e, g4, h⟩ := h
    refine regP (seqN (Wp.seq (Wp.seq (Wp.reg ?_))))
    replace h := bndS h; obtain ⟨r0, g5, h⟩ := h
    refine chunkT 2 (tab_cons (w_m_pack_Name g5) (tab_nil _)) ?_
    replace h := ifS h; rcases h with ⟨g6, h⟩ | ⟨g6, h⟩
    · replace h := ifS h; rcases h with ⟨g7, h⟩ | ⟨g7, h⟩
      · refine lastT (tab_nil _) (seqN ?_)
        exact jumpK [.kill [22]] (w_m_vars_Check_k1 hrec_m_vars_Check_l1 h)
      · refine lastT (tab_nil _) (seqN ?_)
        exact jumpK [.kill [22]] (w_m_vars_Check_k1 hrec_m_vars_Check_l1 h)
    · refine lastT (tab_nil _) (seqN ?_)
      exact jumpK [.kill [22]] (w_m_vars_Check_k1 hrec_m_vars_Check_l1 h)
  · replace h := retS h; subst h
    refine condFP (Wp.out (seqO (loopO (blockO (seqN (Wp.seq ?_))))))
    refine regP (seqN (Wp.ret ?_))
    exact finP
theorem w_m_vars_Check_l1 {v : TVars} {r : Int}   : ∀ (n : Nat), H_m_vars_Check_l1 v (m_vars_Check_l1  v n) r := by
  intro n
  induction n with
  | zero => intro v21 h; unfold m_vars_Check_l1 at h; cases h
  | succ n ih => intro v21 h; unfold m_vars_Check_l1 at h; exact w_m_vars_Check_l1_B  ih h
theorem w_m_vars_Check {v : TVars} {r : Int}   (h : m_vars_Check v = some r) : Spec Pg 56 [.agg [sl cs v.Names, sl (ci .i64) v.Vals]] [] 0 (.int .i64 r) [] 0 := by
  refine Spec.intro Try.func56 i56_ok (le_of_ble rfl) ?_
  show Wp Pg 50 0 i56_B ⟨argEnv _ i56_V, [], _, _⟩ (qf_56 r)
  unfold m_vars_Check at h
  unfold i56_B
  refine weakP [] ?_
  refine Wp.seq (regP (seqN (Wp.seq (Wp.block (Wp.seq ?_)))))
  refine regP (seqN ?_)
  replace h := ifS h; rcases h with ⟨g1, h⟩ | ⟨g1, h⟩
  · replace h := retS h; subst h
    refine condTP (Wp.seq ?_)
    refine regP (seqN (Wp.ret (blockR (seqR ?_))))
    exact finP
  · refine condFP (Wp.seq ?_)
    refine regP (seqN ?_)
    replace h := ifS h; rcases h with ⟨g2, h⟩ | ⟨g2, h⟩
    · replace h := retS h; subst h
      refine condTP (Wp.seq ?_)
      refine regP (seqN (Wp.ret (blockR (seqR ?_))))
      exact finP
    · refine condFP (Wp.skip (blockN (seqN (Wp.seq (Wp.seq ?_)))))
      refine regP (seqN (Wp.block (Wp.loop ?_)))
      exact jumpL [.kill [0, 2, 3, 4, 5, 13, 22, 36, 48]] (w_m_vars_Check_l1 _ h)
/-! funicular/post.part -/
noncomputable abbrev qf_78 (r : Bool) : Ex → St → Prop := FinQ 0 [.tmp 2] (.bool r) [] 0
theorem w_m_post_part {n0 : Int} {r : Bool}   (h : m_post_part n0 = some r) : Spec Pg 78 [.int .i64 n0] [] 0 (.bool r) [] 0 := by
  refine Spec.intro Try.func78 i78_ok (le_of_ble rfl) ?_
  show Wp Pg 9 0 i78_B ⟨argEnv _ i78_V, [], _, _⟩ (qf_78 r)
  unfold m_post_part at h
  unfold i78_B
  refine weakP [] ?_
  refine Wp.seq (regP (seqN (Wp.seq ?_)))
  replace h := ifS h; rcases h with ⟨g1, h⟩ | ⟨g1, h⟩
  · replace h := retS h; subst h
    refine regP (seqN (Wp.ret ?_))
    exact finP
  · replace h := retS h; subst h
    refine regP (seqN (Wp.ret ?_))
    exact finP
/-! slices.Index[[]funicular/api.Who,funicular/api.Who] -/
noncomputable abbrev qf_97 (r : Int) : Ex → St → Prop := FinQ 0 [.tmp 4] (.int .i64 r) [] 0
noncomputable abbrev H_m_slices_Index_api_Who_api_Who_l1 (s : (List TWho)) (v : TWho) (rec0 : Int → Option Int) (r : Int) : Prop := ∀ {v8 : Int}, rec0 v8 = some r → LWp Pg 19 0 i97_L0 ⟨[(0, sl TWho.c s), (1, .bad), (3, .ptr 0 0), (4, .bad), (5, .bad), (7, .int .i64 (s.length : Int)), (8, .int .i64 v8), (9, .bad), (16, .bad)], [], [(0, .box [.int .i64 v.Part, .int .i64 v.Inst])], 1⟩ (blockQ 0 (seqQ Pg 19 0 (.seq (.reg none i97_R7) .ret) (qf_97 r)))
theorem w_m_slices_Index_api_Who_api_Who_l1_B {s : (List TWho)} {v : TWho} {r : Int}   {rec_m_slices_Index_api_Who_api_Who_l1 : Int → Option Int} (hrec_m_slices_Index_api_Who_api_Who_l1 : H_m_slices_Index_api_Who_api_Who_l1 s v rec_m_slices_Index_api_Who_api_Who_l1 r) {v8 : Int} (h : m_slices_Index_api_Who_api_Who_l1_B  s v rec_m_slices_Index_api_Who_api_Who_l1 v8 = some r) : LWp Pg 19 0 i97_L0 ⟨[(0, sl TWho.c s), (1, .bad), (3, .ptr 0 0), (4, .bad), (5, .bad), (7, .int .i64 (s.length : Int)), (8, .int .i64 v8), (9, .bad), (16, .bad)], [], [(0, .box [.int .i64 v.Part, .int .i64 v.Inst])], 1⟩ (blockQ 0 (seqQ Pg 19 0 (.seq (.reg none i97_R7) .ret) (qf_97 r))) := by
  unfold m_slices_Index_api_Who_api_Who_l1_B at h
  refine LWp.stepC i97_L0.eq_1 ?_
  refine Wp.seq (regP (seqN (Wp.seq ?_)))
  replace h := ifS h; rcases h with ⟨g1, h⟩ | ⟨g1, h⟩
  · refine condTP (Wp.skip (seqN (Wp.seq (Wp.block (Wp.seq ?_)))))
    refine regP (seqN (Wp.seq ?_))
    replace h := bndS h; obtain ⟨e, g2, h⟩ := h
    refine drawP [] mixed (clsN _) (seqN ?_)
    replace h := ifS h; rcases h with ⟨g3, h⟩ | ⟨g3, h⟩
    · replace h := retS h; subst h
      refine condTP (Wp.seq ?_)
      refine regP (seqN (Wp.ret (blockR (seqR (loopR (blockR (seqR ?_)))))))
      exact finP
    · refine condFP (Wp.skip (blockN (seqN ?_)))
      refine regP (loopN ?_)
      exact jumpL [.kill [5, 9, 16], .tidy] (hrec_m_slices_Index_api_Who_api_Who_l1 h)
  · replace h := retS h; subst h
    refine condFP (Wp.out (seqO (loopO (blockO (seqN (Wp.seq ?_))))))
    refine regP (seqN (Wp.ret ?_))
    exact finP
theorem w_m_slices_Index_api_Who_api_Who_l1 {s : (List TWho)} {v : TWho} {r : Int}   : ∀ (n : Nat), H_m_slices_Index_api_Who_api_Who_l1 s v (m_slices_Index_api_Who_api_Who_l1  s v n) r := by
  intro n
  induction n with
  | zero => intro v8 h; unfold m_slices_Index_api_Who_api_Who_l1 at h; cases h
  | succ n ih => intro v8 h; unfold m_slices_Index_api_Who_api_Who_l1 at h; exact w_m_slices_Index_api_Who_api_Who_l1_B  ih h
theorem w_m_slices_Index_api_Who_api_Who {s : (List TWho)} {v : TWho} {r : Int}   (h : m_slices_Index_api_Who_api_Who s v = some r) : Spec Pg 97 [sl TWho.c s, .agg [.int .i64 v.Part, .int .i64 v.Inst]] [] 0 (.int .i64 r) [] 0 := by
  refine Spec.intro Try.func97 i97_ok (le_of_ble rfl) ?_
  show Wp Pg 19 0 i97_B ⟨argEnv _ i97_V, [], _, _⟩ (qf_97 r)
  unfold m_slices_Index_api_Who_api_Who at h
  unfold i97_B
  refine weakP [] ?_
  refine Wp.seq (regP (seqN (Wp.seq (Wp.seq ?_))))
  refine regP (seqN (Wp.block (Wp.loop ?_)))
  exact jumpL [.kill [1, 4, 5, 9, 16]] (w_m_slices_Index_api_Who_api_Who_l1 _ h)
/-! slices.Contains[[]funicular/api.Who,funicular/api.Who] -/
noncomputable abbrev qf_79 (r : Bool) : Ex → St → Prop := FinQ 0 [.tmp 4] (.bool r) [] 0
theorem w_m_slices_Contains_api_Who_api_Who {s : (List TWho)} {v : TWho} {r : Bool}   (h : m_slices_Contains_api_Who_api_Who s v = some r) : Spec Pg 79 [sl TWho.c s, .agg [.int .i64 v.Part, .int .i64 v.Inst]] [] 0 (.bool r) [] 0 := by
  refine Spec.intro Try.func79 i79_ok (le_of_ble rfl) ?_
  show Wp Pg 9 0 i79_B ⟨argEnv _ i79_V, [], _, _⟩ (qf_79 r)
  unfold m_slices_Contains_api_Who_api_Who at h
  unfold i79_B
  refine weakP [] ?_
  refine Wp.seq (regP (seqN (Wp.seq (Wp.reg ?_))))
  replace h := bndS h; obtain ⟨r0, g1, h⟩ := h
  replace h := retS h; subst h
  refine chunkT 3 (tab_cons (w_m_slices_Index_api_Who_api_Who g1) (tab_nil _)) ?_
  refine lastT (tab_nil _) (seqN (Wp.ret ?_))
  exact finP
/-! funicular/post.mail -/
/-! funicular/post.sub -/
noncomputable abbrev qf_37 (r : Bool) : Ex → St → Prop := FinQ 0 [.tmp 2] (.bool r) [] 0
theorem w_m_post_sub {s : TSub} {r : Bool}   (h : m_post_sub s = some r) : Spec Pg 37 [.agg [.int .i64 s.Part, .int .i64 s.Id, .int .i64 s.Inst, .str s.Name, .int .i64 s.Key, .int .i64 s.Mail]] [] 0 (.bool r) [] 0 := by
  refine Spec.intro Try.func37 i37_ok (le_of_ble rfl) ?_
  show Wp Pg 31 0 i37_B ⟨argEnv _ i37_V, [], _, _⟩ (qf_37 r)
  unfold m_post_sub at h
  unfold i37_B
  refine weakP [] ?_
  refine Wp.seq (regP (seqN (Wp.seq (Wp.reg ?_))))
  replace h := bndS h; obtain ⟨r0, g1, h⟩ := h
  refine chunkT 3 (tab_cons (w_m_post_part g1) (tab_nil _)) ?_
  replace h := ifS h; rcases h with ⟨g2, h⟩ | ⟨g2, h⟩
  · replace h := bndS h; obtain ⟨r0_1, g3, h⟩ := h
    refine chunkT 4 (tab_cons (w_m_post_wide g3) (tab_nil _)) ?_
    replace h := ifS h; rcases h with ⟨g4, h⟩ | ⟨g4, h⟩
    · replace h := bndS h; obtain ⟨r0_2, g5, h⟩ := h
      refine chunkT 5 (tab_cons (w_m_post_wide g5) (tab_nil _)) ?_
      replace h := ifS h; rcases h with ⟨g6, h⟩ | ⟨g6, h⟩
      · replace h := bndS h; obtain ⟨r0_3, g7, h⟩ := h
        refine chunkT 5 (tab_cons (w_m_pack_Name g7) (tab_nil _)) ?_
        replace h := ifS h; rcases h with ⟨g8, h⟩ | ⟨g8, h⟩
        · replace h := ifS h; rcases h with ⟨g9, h⟩ | ⟨g9, h⟩
          · replace h := retS h; subst h
            refine lastT (tab_nil _) (seqN (Wp.ret ?_))
            exact finP
          · replace h := retS h; subst h
            refine lastT (tab_nil _) (seqN (Wp.ret ?_))
            exact finP
        · replace h := retS h; subst h
          refine lastT (tab_nil _) (seqN (Wp.ret ?_))
          exact finP
      · replace h := retS h; subst h
        refine lastT (tab_nil _) (seqN (Wp.ret ?_))
        exact finP
    · replace h := retS h; subst h
      refine lastT (tab_nil _) (seqN (Wp.ret ?_))
      exact finP
  · replace h := retS h; subst h
    refine lastT (tab_nil _) (seqN (Wp.ret ?_))
    exact finP
/-! funicular/post.Check -/
/-! funicular/funicularref22.in -/
/-! funicular/funicularref02.Name -/
end Go.Proofs.Ytefjblgmnoheiaa.R
