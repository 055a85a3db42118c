/- The program's functions answer what the models answer: 7. -/
import Derived.Test.YtefjblgmnoheiaaMW0
import Derived.Test.YtefjblgmnoheiaaMO
import Derived.Test.YtefjblgmnoheiaaMW4
import Derived.Test.YtefjblgmnoheiaaMW5
import Derived.Test.YtefjblgmnoheiaaMW6
set_option maxRecDepth 100000
set_option maxHeartbeats 1600000
set_option linter.unusedVariables false
set_option linter.unusedSimpArgs false
set_option linter.defProp false
noncomputable section
namespace Go.Proofs.Ytefjblgmnoheiaa.R
open Go Nat
/-! funicular/funicularlaw22.lightOps -/
noncomputable abbrev qf_29 (r : Bool) : Ex → St → Prop := FinQ 0 [.tmp 2] (.bool r) [] 0
noncomputable abbrev H_m_law22_lightOps_l1 (l : (List TOp)) (rec0 : Int → Option Bool) (r : Bool) : Prop := ∀ {i : Int}, rec0 i = some r → LWp Pg 40 0 i29_L0 ⟨[(0, sl TOp.c l), (2, .bad), (3, .int .i64 i), (6, .bad), (10, .bad), (39, .bad)], [], [], 0⟩ (blockQ 0 (seqQ Pg 40 0 (.seq (.reg none i29_R8) .ret) (qf_29 r)))
theorem w_m_law22_lightOps_k1 {l : (List TOp)} {i : Int} {v39 : Bool} {r : Bool} {rec_m_law22_lightOps_l1 : Int → Option Bool} (hrec_m_law22_lightOps_l1 : H_m_law22_lightOps_l1 l rec_m_law22_lightOps_l1 r) (h : m_law22_lightOps_k1 rec_m_law22_lightOps_l1 i v39 = some r) : Wp Pg 40 0 (.cond (.t 39) (.seq (.reg none i29_R6) .ret) .skip) ⟨[(0, sl TOp.c l), (2, .bad), (3, .int .i64 i), (6, .bad), (10, .bad), (39, .bool v39)], [], [], 0⟩ (blockQ 1 (seqQ Pg 40 0 (.reg none i29_R7) (loopQ Pg 40 0 i29_L0 (blockQ 0 (seqQ Pg 40 0 (.seq (.reg none i29_R8) .ret) (qf_29 r)))))) := by
  unfold m_law22_lightOps_k1 at h
  replace h := ifS h; rcases h with ⟨g6, h⟩ | ⟨g6, h⟩
  · replace h := retS h; subst h
    refine condTP (Wp.seq ?_)
    refine regP (seqN (Wp.ret (blockR (seqR (loopR (blockR (seqR ?_)))))))
    exact finP
  · refine condFP (Wp.skip (blockN (seqN ?_)))
    refine regP (loopN ?_)
    exact jumpL [.kill [39]] (hrec_m_law22_lightOps_l1 h)
theorem w_m_law22_lightOps_l1_B {l : (List TOp)} {r : Bool}   {rec_m_law22_lightOps_l1 : Int → Option Bool} (hrec_m_law22_lightOps_l1 : H_m_law22_lightOps_l1 l rec_m_law22_lightOps_l1 r) {i : Int} (h : m_law22_lightOps_l1_B  l rec_m_law22_lightOps_l1 i = some r) : LWp Pg 40 0 i29_L0 ⟨[(0, sl TOp.c l), (2, .bad), (3, .int .i64 i), (6, .bad), (10, .bad), (39, .bad)], [], [], 0⟩ (blockQ 0 (seqQ Pg 40 0 (.seq (.reg none i29_R8) .ret) (qf_29 r))) := by
  unfold m_law22_lightOps_l1_B at h
  refine LWp.stepC i29_L0.eq_1 ?_
  refine Wp.seq (Wp.seq (regP (seqN ?_)))
  replace h := ifS h; rcases h with ⟨g2, h⟩ | ⟨g2, h⟩
  · refine condTP (Wp.skip (seqN (Wp.seq (Wp.block (Wp.seq ?_)))))
    replace h := bndS h; obtain ⟨e, g3, h⟩ := h
    replace h := ifS h; rcases h with ⟨g4, h⟩ | ⟨g4, h⟩
    · refine regP (seqN ?_)
      exact jumpK [.kill [10]] (w_m_law22_lightOps_k1 (l := l) hrec_m_law22_lightOps_l1 h)
    · replace h := ifS h; rcases h with ⟨g5, h⟩ | ⟨g5, h⟩
      · refine regP (seqN ?_)
        exact jumpK [.kill [10]] (w_m_law22_lightOps_k1 (l := l) hrec_m_law22_lightOps_l1 h)
      · refine regP (seqN ?_)
        exact jumpK [.kill [10]] (w_m_law22_lightOps_k1 (l := l) hrec_m_law22_lightOps_l1 h)
  · replace h := retS h; subst h
    refine condFP (Wp.out (seqO (loopO (blockO (seqN (Wp.seq ?_))))))
    refine regP (seqN (Wp.ret ?_))
    exact finP
theorem w_m_law22_lightOps_l1 {l : (List TOp)} {r : Bool}   : ∀ (n : Nat), H_m_law22_lightOps_l1 l (m_law22_lightOps_l1  l n) r := by
  intro n
  induction n with
  | zero => intro i h; unfold m_law22_lightOps_l1 at h; cases h
  | succ n ih => intro i h; unfold m_law22_lightOps_l1 at h; exact w_m_law22_lightOps_l1_B  ih h
theorem w_m_law22_lightOps {l : (List TOp)} {r : Bool}   (h : m_law22_lightOps l = some r) : Spec Pg 29 [sl TOp.c l] [] 0 (.bool r) [] 0 := by
  refine Spec.intro Try.func29 i29_ok (le_of_ble rfl) ?_
  show Wp Pg 40 0 i29_B ⟨argEnv _ i29_V, [], _, _⟩ (qf_29 r)
  unfold m_law22_lightOps at h
  unfold i29_B
  refine weakP [] ?_
  refine Wp.seq (regP (seqN (Wp.seq (Wp.seq ?_))))
  refine regP (seqN ?_)
  replace h := ifS h; rcases h with ⟨g1, h⟩ | ⟨g1, h⟩
  · replace h := retS h; subst h
    refine condTP (Wp.seq ?_)
    refine regP (seqN (Wp.ret (seqR ?_)))
    exact finP
  · refine condFP (Wp.skip (seqN (Wp.seq (Wp.seq ?_))))
    refine regP (seqN (Wp.block (Wp.loop ?_)))
    exact jumpL [.kill [2, 6, 10, 39]] (w_m_law22_lightOps_l1 _ h)
/-! funicular/post.New -/
noncomputable abbrev qf_30 (r : TPost) : Ex → St → Prop := FinQ 0 [.cell 0 true 3] (.agg [.int .i64 r.Next, sl TMail.c r.Mails, sl TSub.c r.Subs]) [] 0
theorem w_m_post_New  {r : TPost}   (h : m_post_New  = some r) : Spec Pg 30 [] [] 0 (.agg [.int .i64 r.Next, sl TMail.c r.Mails, sl TSub.c r.Subs]) [] 0 := by
  refine Spec.intro Try.func30 i30_ok (le_of_ble rfl) ?_
  show Wp Pg 2 0 i30_B ⟨argEnv _ i30_V, [], _, _⟩ (qf_30 r)
  unfold m_post_New at h
  unfold i30_B
  refine weakP [] ?_
  replace h := retS h; subst h
  refine Wp.seq (regP (seqN (Wp.seq ?_)))
  refine regP (seqN ?_)
  refine weakP [.cell 0 1 .frz, .cell 0 2 .frz] (Wp.ret ?_)
  exact finP
/-! funicular/funicularlaw22.step -/
noncomputable abbrev qf_31 (r : (TPost × (List THit))) : Ex → St → Prop := FinQ 0 [.cell 4 true 3, .tmp 5] (.tup [.agg [.int .i64 r.1.Next, sl TMail.c r.1.Mails, sl TSub.c r.1.Subs], sl THit.c r.2]) [] 0
theorem w_m_law22_step_k1 {p : TPost} {r : (TPost × (List THit))}   (h : m_law22_step_k1 p = some r) : Wp Pg 75 0 (.seq (.reg none i31_R16) .ret) ⟨[(0, .bad), (1, .bad), (2, .ptr 0 0), (3, .bad), (4, .ptr 1 0), (5, .bad), (6, .bad), (8, .bad), (9, .bad), (10, .bad), (11, .bad), (12, .bad), (13, .bad), (14, .bad), (16, .bad), (17, .bad), (37, .bad), (40, .bad), (51, .bad), (54, .bad), (66, .bad), (68, .bad)], [], [(0, .box [.int .i64 p.Next, sl TMail.c p.Mails, sl TSub.c p.Subs]), (1, .box [.int .i64 (0 : Int), .nil, .nil])], 2⟩ (qf_31 r) := by
  unfold m_law22_step_k1 at h
  replace h := retS h; subst h
  refine Wp.seq (regP (seqN ?_))
  refine weakP [.at 5 .frz] (Wp.ret ?_)
  exact finP
theorem w_m_law22_step {p : TPost} {o : TOp} {r : (TPost × (List THit))}   (h : m_law22_step p o = some r) : Spec Pg 31 [.agg [.int .i64 p.Next, sl TMail.c p.Mails, sl TSub.c p.Subs], .agg [.int .i64 o.Kind, .str o.Name, .int .i64 o.Key, sl cs o.Vars.Names, sl (ci .i64) o.Vars.Vals, .int .i64 o.Now, .int .i64 o.Keep, .int .i64 o.Part, .int .i64 o.Id, .int .i64 o.Inst]] [] 0 (.tup [.agg [.int .i64 r.1.Next, sl TMail.c r.1.Mails, sl TSub.c r.1.Subs], sl THit.c r.2]) [] 0 := by
  refine Spec.intro Try.func31 i31_ok (le_of_ble rfl) ?_
  show Wp Pg 75 0 i31_B ⟨argEnv _ i31_V, [], _, _⟩ (qf_31 r)
  unfold m_law22_step at h
  unfold i31_B
  refine weakP [] ?_
  refine Wp.seq (regP (seqN (Wp.seq (Wp.seq ?_))))
  refine regP (seqN (Wp.block (Wp.seq ?_)))
  refine regP (seqN ?_)
  replace h := ifS h; rcases h with ⟨g1, h⟩ | ⟨g1, h⟩
  · refine condTP (Wp.seq (Wp.reg ?_))
    replace h := bndS h; obtain ⟨r0, g2, h⟩ := h
    refine chunkT 12 (tab_cons (w_m_post_Publish g2) (tab_nil _)) ?_
    refine lastT (tab_nil _) (seqN (Wp.seq ?_))
    refine regP (seqN ?_)
    replace h := ifS h; rcases h with ⟨g3, h⟩ | ⟨g3, h⟩
    · replace h := retS h; subst h
      refine condTP (Wp.seq ?_)
      refine regP (seqN (Wp.ret (blockR (seqR ?_))))
      exact finP
    · refine condFP (Wp.skip (blockN (seqN ?_)))
      exact jumpK [.kill [0, 1, 3, 5, 6, 8, 9, 10, 11, 12, 13, 14, 16, 17, 37, 40, 51, 54, 66, 68], .tidy] (w_m_law22_step_k1 h)
  · refine condFP (Wp.seq ?_)
    refine regP (seqN ?_)
    replace h := ifS h; rcases h with ⟨g4, h⟩ | ⟨g4, h⟩
    · refine condTP (Wp.seq ?_)
      replace h := bndS h; obtain ⟨r0_1, g5, h⟩ := h
      replace h := bndS h; obtain ⟨r0_2, g6, h⟩ := h
      refine drawP [] mixed (clsC 2 (tab_cons (w_m_law22_Op_Sub g5) (tab_nil _)) (clsC 3 (tab_cons (w_m_post_Open g6) (tab_nil _)) (clsN _))) (seqN (Wp.seq ?_))
      refine regP (seqN ?_)
      replace h := ifS h; rcases h with ⟨g7, h⟩ | ⟨g7, h⟩
      · replace h := retS h; subst h
        refine condTP (Wp.seq ?_)
        refine regP (seqN (Wp.ret (blockR (seqR ?_))))
        exact finP
      · refine condFP (Wp.skip (blockN (seqN ?_)))
        exact jumpK [.kill [0, 1, 3, 5, 6, 8, 9, 10, 11, 12, 13, 14, 16, 17, 37, 40, 51, 54, 66, 68], .tidy] (w_m_law22_step_k1 h)
    · refine condFP (Wp.seq ?_)
      refine regP (seqN ?_)
      replace h := ifS h; rcases h with ⟨g8, h⟩ | ⟨g8, h⟩
      · refine condTP (Wp.seq (Wp.reg ?_))
        replace h := bndS h; obtain ⟨r0_3, g9, h⟩ := h
        refine chunkT 6 (tab_cons (w_m_post_Close g9) (tab_nil _)) ?_
        refine lastT (tab_nil _) (seqN (Wp.seq ?_))
        refine regP (seqN ?_)
        replace h := ifS h; rcases h with ⟨g10, h⟩ | ⟨g10, h⟩
        · replace h := retS h; subst h
          refine condTP (Wp.seq ?_)
          refine regP (seqN ?_)
          refine weakP [.at 5 .frz] (Wp.ret (blockR (seqR ?_)))
          exact finP
        · refine condFP (Wp.skip (blockN (seqN ?_)))
          exact jumpK [.kill [0, 1, 3, 5, 6, 8, 9, 10, 11, 12, 13, 14, 16, 17, 37, 40, 51, 54, 66, 68], .tidy] (w_m_law22_step_k1 h)
      · refine condFP (Wp.seq ?_)
        refine regP (seqN ?_)
        replace h := ifS h; rcases h with ⟨g11, h⟩ | ⟨g11, h⟩
        · refine condTP (Wp.seq (Wp.reg ?_))
          replace h := bndS h; obtain ⟨r0_4, g12, h⟩ := h
          replace h := retS h; subst h
          refine chunkT 4 (tab_cons (w_m_post_Expire g12) (tab_nil _)) ?_
          refine lastT (tab_nil _) (seqN ?_)
          refine weakP [.at 5 .frz] (Wp.ret (blockR (seqR ?_)))
          exact finP
        · refine condFP (Wp.skip (blockN (seqN ?_)))
          exact jumpK [.kill [0, 1, 3, 5, 6, 8, 9, 10, 11, 12, 13, 14, 16, 17, 37, 40, 51, 54, 66, 68], .tidy] (w_m_law22_step_k1 h)
theorem w_m_law22_works {r : Bool} (h : m_law22_works = some r) : Spec Pg 9 [] [] 0 (.bool r) [] 0 := by
  obtain rfl := retS h
  exact m_law22_works_spec
/-! funicular/funicularlaw22.PostDoes -/
end Go.Proofs.Ytefjblgmnoheiaa.R
