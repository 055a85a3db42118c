/- The program's functions answer what the models answer: 1. -/
import Derived.Test.YtefjblgmnoheiaaMW0
set_option maxRecDepth 100000
set_option maxHeartbeats 1600000
set_option linter.unusedVariables false
set_option linter.unusedSimpArgs false
set_option linter.defProp false
noncomputable section
namespace Go.Proofs.Ytefjblgmnoheiaa.R
open Go Nat
/-! funicular/vars.Copy -/
noncomputable abbrev qf_52 (r : TVars) : Ex → St → Prop := FinQ 0 [.cell 2 true 2] (.agg [sl cs r.Names, sl (ci .i64) r.Vals]) [] 0
theorem w_m_vars_Copy {v : TVars} {r : TVars}   (h : m_vars_Copy v = some r) : Spec Pg 52 [.agg [sl cs v.Names, sl (ci .i64) v.Vals]] [] 0 (.agg [sl cs r.Names, sl (ci .i64) r.Vals]) [] 0 := by
  refine Spec.intro Try.func52 i52_ok (le_of_ble rfl) ?_
  show Wp Pg 10 0 i52_B ⟨argEnv _ i52_V, [], _, _⟩ (qf_52 r)
  unfold m_vars_Copy at h
  unfold i52_B
  refine weakP [] ?_
  refine Wp.seq (regP (seqN (Wp.seq ?_)))
  replace h := reqS h; obtain ⟨g1, h⟩ := h
  replace h := reqS h; obtain ⟨g2, h⟩ := h
  replace h := retS h; subst h
  refine drawP [] mixed (clsN _) (seqN ?_)
  refine weakP [.cell 2 0 .frz, .cell 2 1 .frz] (Wp.ret ?_)
  exact finP
/-! funicular/post.Copy -/
noncomputable abbrev qf_14_v0 (r : TPost) : Ex → St → Prop := FinQ 0 [.cell 2 true 3] (.agg [.int .i64 r.Next, .own 7 0 0 ((r.Mails).length) false, .own 6 1 0 ((r.Subs).length) false]) [(0, .arr 7 (List.map TMail.c r.Mails) 0), (1, .arr 6 (List.map TSub.c r.Subs) 0)] 2
noncomputable abbrev H_m_post_Copy_l1 (p : TPost) (rec0 : Int → (List TMail) → Option TPost) (r : TPost) : Prop := ∀ {v16 : Int} {p_1 : (List TMail)}, rec0 v16 p_1 = some r → LWp Pg 41 0 i14_L0 ⟨[(0, .bad), (1, .ptr 0 0), (2, .ptr 3 0), (3, .bad), (4, .bad), (15, .int .i64 (((p.Mails).length : Nat) : Int)), (16, .int .i64 v16), (17, .bad)], [], [(0, .box [.int .i64 p.Next, .own 7 1 0 p_1.length false, .own 6 2 0 ((p.Subs).length) false]), (1, .arr 7 (List.map TMail.c p_1) 0), (2, .arr 6 (List.map TSub.c p.Subs) 0), (3, .box [.int .i64 (0 : Int), .nil, .nil])], 4⟩ (blockQ 0 (seqQ Pg 41 0 (.seq (.reg none i14_R9) .ret) (qf_14_v0 r)))
theorem w_m_post_Copy_l1_B {p : TPost} {r : TPost}   {rec_m_post_Copy_l1 : Int → (List TMail) → Option TPost} (hrec_m_post_Copy_l1 : H_m_post_Copy_l1 p rec_m_post_Copy_l1 r) {v16 : Int} {p_1 : (List TMail)} (h : m_post_Copy_l1_B  p rec_m_post_Copy_l1 v16 p_1 = some r) : LWp Pg 41 0 i14_L0 ⟨[(0, .bad), (1, .ptr 0 0), (2, .ptr 3 0), (3, .bad), (4, .bad), (15, .int .i64 (((p.Mails).length : Nat) : Int)), (16, .int .i64 v16), (17, .bad)], [], [(0, .box [.int .i64 p.Next, .own 7 1 0 p_1.length false, .own 6 2 0 ((p.Subs).length) false]), (1, .arr 7 (List.map TMail.c p_1) 0), (2, .arr 6 (List.map TSub.c p.Subs) 0), (3, .box [.int .i64 (0 : Int), .nil, .nil])], 4⟩ (blockQ 0 (seqQ Pg 41 0 (.seq (.reg none i14_R9) .ret) (qf_14_v0 r))) := by
  unfold m_post_Copy_l1_B at h
  refine LWp.stepC i14_L0.eq_1 ?_
  refine Wp.seq (regP (seqN (Wp.seq ?_)))
  replace h := ifS h; rcases h with ⟨g3, h⟩ | ⟨g3, h⟩
  · refine condTP (Wp.skip (seqN (Wp.seq (Wp.block (Wp.seq ?_)))))
    refine regP (seqN (Wp.seq ?_))
    replace h := bndS h; obtain ⟨e, g4, h⟩ := h
    have := ias_ownL (n := 7) (id := 1) (ex := false) (k := .i64) g4 rfl
    refine regP (seqN ?_)
    replace h := bndS h; obtain ⟨r0, g5, h⟩ := h
    replace h := reqS h; obtain ⟨g6, h⟩ := h
    have := ld_get (c := TMail.c) g4
    have := set_get TMail.c p_1 v16 (TMail.mk e.Id e.Name e.Key r0 e.Until e.Took)
    try simp only [EV, EVt, *] at this
    have := ld_get (c := TMail.c) (nthI_setI (y := (TMail.mk e.Id e.Name e.Key r0 e.Until e.Took)) g4)
    try simp only [EV, EVt, *] at this
    have := set_get TMail.c (setI p_1 v16 (TMail.mk e.Id e.Name e.Key r0 e.Until e.Took)) v16 (TMail.mk e.Id e.Name e.Key r0 e.Until e.Took)
    try simp only [EV, EVt, *] at this
    refine drawP [] mixed (clsC 6 (tab_cons (w_m_vars_Copy g5) (tab_nil _)) (clsN _)) (blockN (seqN ?_))
    refine regP (loopN ?_)
    exact jumpL [.kill [3, 4, 17], .tidy] (hrec_m_post_Copy_l1 h)
  · replace h := retS h; subst h
    refine condFP (Wp.out (seqO (loopO (blockO (seqN (Wp.seq ?_))))))
    refine regP (seqN (Wp.ret ?_))
    exact finW [.kill [1, 15, 16, 17], .tidy]
theorem w_m_post_Copy_l1 {p : TPost} {r : TPost}   : ∀ (n : Nat), H_m_post_Copy_l1 p (m_post_Copy_l1  p n) r := by
  intro n
  induction n with
  | zero => intro v16 p_1 h; unfold m_post_Copy_l1 at h; cases h
  | succ n ih => intro v16 p_1 h; unfold m_post_Copy_l1 at h; exact w_m_post_Copy_l1_B  ih h
theorem w_m_post_Copy {p : TPost} {r : TPost}   (h : m_post_Copy p = some r) : Spec Pg 14 [.agg [.int .i64 p.Next, sl TMail.c p.Mails, sl TSub.c p.Subs]] [] 0 (.agg [.int .i64 r.Next, .own 7 0 0 ((r.Mails).length) false, .own 6 1 0 ((r.Subs).length) false]) [(0, .arr 7 (List.map TMail.c r.Mails) 0), (1, .arr 6 (List.map TSub.c r.Subs) 0)] 2 := by
  refine Spec.intro Try.func14 i14_ok (le_of_ble rfl) ?_
  show Wp Pg 41 0 i14_B ⟨argEnv _ i14_V, [], _, _⟩ (qf_14_v0 r)
  unfold m_post_Copy at h
  unfold i14_B
  refine weakP [] ?_
  refine Wp.seq (regP (seqN (Wp.seq ?_)))
  replace h := reqS h; obtain ⟨g1, h⟩ := h
  refine regP (seqN (Wp.seq ?_))
  replace h := reqS h; obtain ⟨g2, h⟩ := h
  refine regP (seqN (Wp.seq (Wp.seq ?_)))
  refine regP (seqN (Wp.block (Wp.loop ?_)))
  exact jumpL [.kill [0, 3, 4, 17], .tidy] (w_m_post_Copy_l1 _ h)
/-! funicular/post.give -/
/-! funicular/post.give -/
noncomputable abbrev qf_58_v1 (r : (THit × TMail × (List TSub))) : Ex → St → Prop := FinQ 3 [.cell 4 true 5] (.agg [.int .i64 r.1.Part, .int .i64 r.1.Sub, .int .i64 r.1.Mail, sl cs r.1.Vars.Names, sl (ci .i64) r.1.Vars.Vals]) (hs71 r.2.1 r.2.2) 4
theorem w_m_post_give_v1 {s : Int} {m : TMail} {b2 : (List TSub)} {r : (THit × TMail × (List TSub))}   (h : m_post_give_v1 s m b2 = some r) : Spec Pg 58 [.ptr 0 0, .eptr 2 s.toNat 0] (hs72 m b2) 3 (.agg [.int .i64 r.1.Part, .int .i64 r.1.Sub, .int .i64 r.1.Mail, sl cs r.1.Vars.Names, sl (ci .i64) r.1.Vars.Vals]) (hs71 r.2.1 r.2.2) 4 := by
  refine Spec.intro Try.func58 i58_ok (le_of_ble rfl) ?_
  show Wp Pg 48 3 i58_B ⟨argEnv _ i58_V, [], _, _⟩ (qf_58_v1 r)
  unfold m_post_give_v1 at h
  unfold i58_B
  refine weakP [.movc 0 6] ?_
  replace h := bndS h; obtain ⟨e, g1, h⟩ := h
  refine Wp.seq (regP (seqN (Wp.seq ?_)))
  have := ld_get (c := TSub.c) g1
  have := set_get TSub.c b2 s (TSub.mk e.Part e.Id e.Inst e.Name e.Key m.Id)
  try simp only [EV, EVt, *] at this
  refine regP (seqN (Wp.seq ?_))
  replace h := reqS h; obtain ⟨g2, h⟩ := h
  have := ld_get (c := TSub.c) (nthI_setI (y := (TSub.mk e.Part e.Id e.Inst e.Name e.Key m.Id)) g1)
  try simp only [EV, EVt, *] at this
  refine drawP [] mixed (clsN _) (seqN (Wp.seq ?_))
  replace h := bndS h; obtain ⟨r0, g3, h⟩ := h
  replace h := retS h; subst h
  refine drawP [] mixed (clsC 16 (tab_cons (w_m_vars_Copy g3) (tab_nil _)) (clsN _)) (seqN (Wp.ret ?_))
  exact finW [.kill [0, 1], .tidy]
/-! funicular/post.Expire$1 -/
noncomputable abbrev qf_69_v0 (b0 : Int) (r : Bool) : Ex → St → Prop := FinQ 1 [.tmp 3] (.bool r) [(0, .box [.int .i64 b0])] 1
theorem w_m_post_Expire_1 {m : TMail} {b0 : Int} {r : Bool}   (h : m_post_Expire_1 m b0 = some r) : Spec Pg 69 [.agg [.int .i64 m.Id, .str m.Name, .int .i64 m.Key, sl cs m.Vars.Names, sl (ci .i64) m.Vars.Vals, .int .i64 m.Until, sl TWho.c m.Took], .ptr 0 0] [(0, .box [.int .i64 b0])] 1 (.bool r) [(0, .box [.int .i64 b0])] 1 := by
  refine Spec.intro Try.func69 i69_ok (le_of_ble rfl) ?_
  show Wp Pg 8 1 i69_B ⟨argEnv _ i69_V, [], _, _⟩ (qf_69_v0 b0 r)
  unfold m_post_Expire_1 at h
  unfold i69_B
  refine weakP [] ?_
  replace h := retS h; subst h
  refine Wp.seq (regP (seqN (Wp.seq ?_)))
  refine regP (seqN (Wp.ret ?_))
  exact finW [.kill [0, 1, 2], .tidy]
/-! slices.IndexFunc[[]funicular/api.Mail,funicular/api.Mail] -/
noncomputable abbrev qf_90_v0 (s : (List TMail)) (b1 : Int) (r : Int) : Ex → St → Prop := FinQ 2 [.tmp 4] (.int .i64 r) [(0, .arr 7 (List.map TMail.c s) 0), (1, .box [.int .i64 b1])] 2
noncomputable abbrev H_m_slices_IndexFunc_api_Mail_api_Mail_l1 (s : (List TMail)) (b1 : Int) (rec0 : Int → Option Int) (r : Int) : Prop := ∀ {v8 : Int}, rec0 v8 = some r → LWp Pg 19 2 i90_L0 ⟨[(0, .own 7 0 0 s.length false), (1, .fn (.func 69) [] [.ptr 1 0]), (4, .bad), (5, .bad), (7, .int .i64 ((s.length : Nat) : Int)), (8, .int .i64 v8), (9, .bad), (16, .bad)], [], [(0, .arr 7 (List.map TMail.c s) 0), (1, .box [.int .i64 b1])], 2⟩ (blockQ 0 (seqQ Pg 19 2 (.seq (.reg none i90_R7) .ret) (qf_90_v0 s b1 r)))
theorem w_m_slices_IndexFunc_api_Mail_api_Mail_l1_B {s : (List TMail)} {b1 : Int} {r : Int}   {rec_m_slices_IndexFunc_api_Mail_api_Mail_l1 : Int → Option Int} (hrec_m_slices_IndexFunc_api_Mail_api_Mail_l1 : H_m_slices_IndexFunc_api_Mail_api_Mail_l1 s b1 rec_m_slices_IndexFunc_api_Mail_api_Mail_l1 r) {v8 : Int} (h : m_slices_IndexFunc_api_Mail_api_Mail_l1_B  s b1 rec_m_slices_IndexFunc_api_Mail_api_Mail_l1 v8 = some r) : LWp Pg 19 2 i90_L0 ⟨[(0, .own 7 0 0 s.length false), (1, .fn (.func 69) [] [.ptr 1 0]), (4, .bad), (5, .bad), (7, .int .i64 ((s.length : Nat) : Int)), (8, .int .i64 v8), (9, .bad), (16, .bad)], [], [(0, .arr 7 (List.map TMail.c s) 0), (1, .box [.int .i64 b1])], 2⟩ (blockQ 0 (seqQ Pg 19 2 (.seq (.reg none i90_R7) .ret) (qf_90_v0 s b1 r))) := by
  unfold m_slices_IndexFunc_api_Mail_api_Mail_l1_B at h
  refine LWp.stepC i90_L0.eq_1 ?_
  refine Wp.seq (regP (seqN (Wp.seq ?_)))
  replace h := ifS h; rcases h with ⟨g1, h⟩ | ⟨g1, h⟩
  · refine condTP (Wp.skip (seqN (Wp.seq (Wp.block (Wp.seq ?_)))))
    refine regP (seqN (Wp.seq (Wp.reg ?_)))
    replace h := bndS h; obtain ⟨e, g2, h⟩ := h
    replace h := bndS h; obtain ⟨r0, g3, h⟩ := h
    have := ias_ownL (n := 7) (id := 0) (ex := false) (k := .i64) g2 rfl
    have := ld_get (c := TMail.c) g2
    refine lastF (tab_cons (w_m_post_Expire_1 g3) (tab_nil _)) (seqN ?_)
    replace h := ifS h; rcases h with ⟨g4, h⟩ | ⟨g4, h⟩
    · replace h := retS h; subst h
      refine condTP (Wp.seq ?_)
      refine regP (seqN (Wp.ret (blockR (seqR (loopR (blockR (seqR ?_)))))))
      exact finW [.kill [0, 1, 5, 7, 8, 9, 16], .tidy]
    · refine condFP (Wp.skip (blockN (seqN ?_)))
      refine regP (loopN ?_)
      exact jumpL [.kill [5, 9, 16], .tidy] (hrec_m_slices_IndexFunc_api_Mail_api_Mail_l1 h)
  · replace h := retS h; subst h
    refine condFP (Wp.out (seqO (loopO (blockO (seqN (Wp.seq ?_))))))
    refine regP (seqN (Wp.ret ?_))
    exact finW [.kill [0, 1, 7, 8, 9], .tidy]
theorem w_m_slices_IndexFunc_api_Mail_api_Mail_l1 {s : (List TMail)} {b1 : Int} {r : Int}   : ∀ (n : Nat), H_m_slices_IndexFunc_api_Mail_api_Mail_l1 s b1 (m_slices_IndexFunc_api_Mail_api_Mail_l1  s b1 n) r := by
  intro n
  induction n with
  | zero => intro v8 h; unfold m_slices_IndexFunc_api_Mail_api_Mail_l1 at h; cases h
  | succ n ih => intro v8 h; unfold m_slices_IndexFunc_api_Mail_api_Mail_l1 at h; exact w_m_slices_IndexFunc_api_Mail_api_Mail_l1_B  ih h
theorem w_m_slices_IndexFunc_api_Mail_api_Mail {s : (List TMail)} {b1 : Int} {r : Int}   (h : m_slices_IndexFunc_api_Mail_api_Mail s b1 = some r) : Spec Pg 90 [.own 7 0 0 s.length false, .fn (.func 69) [] [.ptr 1 0]] [(0, .arr 7 (List.map TMail.c s) 0), (1, .box [.int .i64 b1])] 2 (.int .i64 r) [(0, .arr 7 (List.map TMail.c s) 0), (1, .box [.int .i64 b1])] 2 := by
  refine Spec.intro Try.func90 i90_ok (le_of_ble rfl) ?_
  show Wp Pg 19 2 i90_B ⟨argEnv _ i90_V, [], _, _⟩ (qf_90_v0 s b1 r)
  unfold m_slices_IndexFunc_api_Mail_api_Mail at h
  unfold i90_B
  refine weakP [] ?_
  refine Wp.seq (regP (seqN (Wp.seq (Wp.seq ?_))))
  refine regP (seqN (Wp.block (Wp.loop ?_)))
  exact jumpL [.kill [4, 5, 9, 16]] (w_m_slices_IndexFunc_api_Mail_api_Mail_l1 _ h)
/-! slices.DeleteFunc[[]funicular/api.Mail,funicular/api.Mail] -/
noncomputable abbrev qf_68_v0 (b1 : Int) (r : (List TMail)) : Ex → St → Prop := FinQ 2 [.tmp 4] (.own 7 0 0 r.length false) [(0, .arr 7 (List.map TMail.c r) 0), (1, .box [.int .i64 b1])] 2
noncomputable abbrev H_m_slices_DeleteFunc_api_Mail_api_Mail_l1 (b1 : Int) (rec0 : Int → Int → (List TMail) → Option (List TMail)) (r : (List TMail)) : Prop := ∀ {i j : Int} {s_1 : (List TMail)}, rec0 i j s_1 = some r → LWp Pg 42 2 i68_L0 ⟨[(0, .own 7 0 0 s_1.length false), (1, .fn (.func 69) [] [.ptr 1 0]), (4, .bad), (5, .int .i64 i), (6, .int .i64 j), (7, .bad), (12, .bad), (19, .bad), (29, .bad)], [], [(0, .arr 7 (List.map TMail.c s_1) 0), (1, .box [.int .i64 b1])], 2⟩ (blockQ 0 (seqQ Pg 42 2 (.seq (.reg none i68_R11) (.seq (.reg none i68_R12) .ret)) (qf_68_v0 b1 r)))
theorem w_m_slices_DeleteFunc_api_Mail_api_Mail_k2 {b1 i_2 : Int} {s_3 : (List TMail)} {r : (List TMail)}   (h : m_slices_DeleteFunc_api_Mail_api_Mail_k2 i_2 s_3 = some r) : Wp Pg 42 2 (.seq (.reg none i68_R11) (.seq (.reg none i68_R12) .ret)) ⟨[(0, .own 7 0 0 s_3.length false), (1, .bad), (4, .bad), (5, .int .i64 i_2), (6, .bad), (7, .bad), (12, .bad), (19, .bad), (29, .bad)], [], [(0, .arr 7 (List.map TMail.c s_3) 0), (1, .box [.int .i64 b1])], 2⟩ (qf_68_v0 b1 r) := by
  unfold m_slices_DeleteFunc_api_Mail_api_Mail_k2 at h
  refine Wp.seq ?_
  replace h := bndS h; obtain ⟨l, g8, h⟩ := h
  have := sll_ownL (n := 7) (id := 0) (k := .i64) g8
  try simp only [EV, EVt, *] at this
  have := frzOK_S (c := TMail.c) g8
  try simp only [EV, EVt, *] at this
  have := @clr_own _ TMail.c 7 _ _ _ (TMail.mk (0 : Int) (⟨#[]⟩) (0 : Int) (TVars.mk ([]) ([])) (0 : Int) ([])) [.int .i64 (0 : Int), .str (⟨#[]⟩), .int .i64 (0 : Int), .imm 0 [] false, .imm 0 [] false, .int .i64 (0 : Int), .imm 0 [] false] rfl g8
  have := clr_len (TMail.mk (0 : Int) (⟨#[]⟩) (0 : Int) (TVars.mk ([]) ([])) (0 : Int) ([])) g8
  refine regP (seqN (Wp.seq ?_))
  replace h := bndS h; obtain ⟨l_1, g9, h⟩ := h
  replace h := (retS h).symm; subst h
  have := sll_ownH (n := 7) (id := 0) (k := .i64) g9
  try simp only [EV, EVt, *] at this
  have := cut_map (c := TMail.c) g9
  refine regP (seqN (Wp.ret ?_))
  exact finW [.cut 0 l_1.length, .kill [0, 5], .tidy]
theorem w_m_slices_DeleteFunc_api_Mail_api_Mail_k1 {b1 j i_1 : Int} {s_2 : (List TMail)} {r : (List TMail)} {rec_m_slices_DeleteFunc_api_Mail_api_Mail_l1 : Int → Int → (List TMail) → Option (List TMail)} (hrec_m_slices_DeleteFunc_api_Mail_api_Mail_l1 : H_m_slices_DeleteFunc_api_Mail_api_Mail_l1 b1 rec_m_slices_DeleteFunc_api_Mail_api_Mail_l1 r) (h : m_slices_DeleteFunc_api_Mail_api_Mail_k1 rec_m_slices_DeleteFunc_api_Mail_api_Mail_l1 j i_1 s_2 = some r) : Wp Pg 42 2 (.reg none i68_R10) ⟨[(0, .own 7 0 0 s_2.length false), (1, .fn (.func 69) [] [.ptr 1 0]), (4, .bad), (5, .int .i64 i_1), (6, .int .i64 j), (7, .bad), (12, .bad), (19, .bad), (29, .bad)], [], [(0, .arr 7 (List.map TMail.c s_2) 0), (1, .box [.int .i64 b1])], 2⟩ (loopQ Pg 42 2 i68_L0 (blockQ 0 (seqQ Pg 42 2 (.seq (.reg none i68_R11) (.seq (.reg none i68_R12) .ret)) (qf_68_v0 b1 r)))) := by
  unfold m_slices_DeleteFunc_api_Mail_api_Mail_k1 at h
  refine regP (loopN ?_)
  exact jumpL [] (hrec_m_slices_DeleteFunc_api_Mail_api_Mail_l1 h)
theorem w_m_slices_DeleteFunc_api_Mail_api_Mail_l1_B {b1 : Int} {r : (List TMail)}   {rec_m_slices_DeleteFunc_api_Mail_api_Mail_l1 : Int → Int → (List TMail) → Option (List TMail)} (hrec_m_slices_DeleteFunc_api_Mail_api_Mail_l1 : H_m_slices_DeleteFunc_api_Mail_api_Mail_l1 b1 rec_m_slices_DeleteFunc_api_Mail_api_Mail_l1 r) {i j : Int} {s_1 : (List TMail)} (h : m_slices_DeleteFunc_api_Mail_api_Mail_l1_B  b1 rec_m_slices_DeleteFunc_api_Mail_api_Mail_l1 i j s_1 = some r) : LWp Pg 42 2 i68_L0 ⟨[(0, .own 7 0 0 s_1.length false), (1, .fn (.func 69) [] [.ptr 1 0]), (4, .bad), (5, .int .i64 i), (6, .int .i64 j), (7, .bad), (12, .bad), (19, .bad), (29, .bad)], [], [(0, .arr 7 (List.map TMail.c s_1) 0), (1, .box [.int .i64 b1])], 2⟩ (blockQ 0 (seqQ Pg 42 2 (.seq (.reg none i68_R11) (.seq (.reg none i68_R12) .ret)) (qf_68_v0 b1 r))) := by
  unfold m_slices_DeleteFunc_api_Mail_api_Mail_l1_B at h
  refine LWp.stepC i68_L0.eq_1 ?_
  refine Wp.seq (Wp.seq (regP (seqN ?_)))
  replace h := ifS h; rcases h with ⟨g3, h⟩ | ⟨g3, h⟩
  · refine condTP (Wp.skip (seqN (Wp.seq (Wp.block (Wp.seq ?_)))))
    replace h := bndS h; obtain ⟨e, g4, h⟩ := h
    have := ias_ownL (n := 7) (id := 0) (ex := false) (k := .i64) g4 rfl
    have := ld_get (c := TMail.c) g4
    refine regP (seqN (Wp.seq (Wp.reg ?_)))
    replace h := bndS h; obtain ⟨r0_1, g5, h⟩ := h
    refine chunkF 3 (tab_cons (w_m_post_Expire_1 g5) (tab_nil _)) ?_
    refine lastT (tab_nil _) (seqN ?_)
    replace h := ifS h; rcases h with ⟨g6, h⟩ | ⟨g6, h⟩
    · refine condFP (Wp.skip (blockN (seqN ?_)))
      exact jumpK [.kill [7, 19, 29], .tidy] (w_m_slices_DeleteFunc_api_Mail_api_Mail_k1 (b1 := b1) hrec_m_slices_DeleteFunc_api_Mail_api_Mail_l1 h)
    · refine condTP (Wp.seq ?_)
      replace h := bndS h; obtain ⟨e_1, g7, h⟩ := h
      have := ias_ownL (n := 7) (id := 0) (ex := false) (k := .i64) g7 rfl
      have := ld_get (c := TMail.c) g7
      have := set_get TMail.c s_1 i e
      try simp only [EV, EVt, *] at this
      refine regP (seqN ?_)
      refine regP (blockN (seqN ?_))
      exact jumpK [.kill [7, 19, 29], .tidy] (w_m_slices_DeleteFunc_api_Mail_api_Mail_k1 (b1 := b1) hrec_m_slices_DeleteFunc_api_Mail_api_Mail_l1 h)
  · refine condFP (Wp.out (seqO (loopO (blockO (seqN ?_)))))
    exact jumpK [.kill [1, 6, 19]] (w_m_slices_DeleteFunc_api_Mail_api_Mail_k2 (b1 := b1) h)
theorem w_m_slices_DeleteFunc_api_Mail_api_Mail_l1 {b1 : Int} {r : (List TMail)}   : ∀ (n : Nat), H_m_slices_DeleteFunc_api_Mail_api_Mail_l1 b1 (m_slices_DeleteFunc_api_Mail_api_Mail_l1  b1 n) r := by
  intro n
  induction n with
  | zero => intro i j s_1 h; unfold m_slices_DeleteFunc_api_Mail_api_Mail_l1 at h; cases h
  | succ n ih => intro i j s_1 h; unfold m_slices_DeleteFunc_api_Mail_api_Mail_l1 at h; exact w_m_slices_DeleteFunc_api_Mail_api_Mail_l1_B  ih h
theorem w_m_slices_DeleteFunc_api_Mail_api_Mail {s : (List TMail)} {b1 : Int} {r : (List TMail)}   (h : m_slices_DeleteFunc_api_Mail_api_Mail s b1 = some r) : Spec Pg 68 [.own 7 0 0 s.length false, .fn (.func 69) [] [.ptr 1 0]] [(0, .arr 7 (List.map TMail.c s) 0), (1, .box [.int .i64 b1])] 2 (.own 7 0 0 r.length false) [(0, .arr 7 (List.map TMail.c r) 0), (1, .box [.int .i64 b1])] 2 := by
  refine Spec.intro Try.func68 i68_ok (le_of_ble rfl) ?_
  show Wp Pg 42 2 i68_B ⟨argEnv _ i68_V, [], _, _⟩ (qf_68_v0 b1 r)
  unfold m_slices_DeleteFunc_api_Mail_api_Mail at h
  unfold i68_B
  refine weakP [] ?_
  refine Wp.seq (regP (seqN (Wp.seq (Wp.reg ?_))))
  replace h := bndS h; obtain ⟨r0, g1, h⟩ := h
  refine chunkF 3 (tab_cons (w_m_slices_IndexFunc_api_Mail_api_Mail g1) (tab_nil _)) ?_
  refine lastT (tab_nil _) (seqN (Wp.seq (Wp.seq ?_)))
  refine regP (seqN ?_)
  replace h := ifS h; rcases h with ⟨g2, h⟩ | ⟨g2, h⟩
  · replace h := retS h; subst h
    refine condTP (Wp.seq ?_)
    refine regP (seqN (Wp.ret (seqR ?_)))
    exact finW [.kill [0, 1, 5, 6, 7, 12, 19, 29], .tidy]
  · refine condFP (Wp.skip (seqN (Wp.seq (Wp.seq ?_))))
    refine regP (seqN (Wp.block (Wp.loop ?_)))
    exact jumpL [.kill [4, 7, 12, 19, 29]] (w_m_slices_DeleteFunc_api_Mail_api_Mail_l1 _ h)
/-! funicular/post.of -/
noncomputable abbrev qf_38 (r : Tkey) : Ex → St → Prop := FinQ 0 [.cell 2 true 2] (.agg [.int .i64 r.f_part, .int .i64 r.f_id]) [] 0
theorem w_m_post_of {s : TSub} {r : Tkey}   (h : m_post_of s = some r) : Spec Pg 38 [.agg [.int .i64 s.Part, .int .i64 s.Id, .int .i64 s.Inst, .str s.Name, .int .i64 s.Key, .int .i64 s.Mail]] [] 0 (.agg [.int .i64 r.f_part, .int .i64 r.f_id]) [] 0 := by
  refine Spec.intro Try.func38 i38_ok (le_of_ble rfl) ?_
  show Wp Pg 8 0 i38_B ⟨argEnv _ i38_V, [], _, _⟩ (qf_38 r)
  unfold m_post_of at h
  unfold i38_B
  refine weakP [] ?_
  replace h := retS h; subst h
  refine Wp.seq (regP (seqN (Wp.seq ?_)))
  refine regP (seqN (Wp.ret ?_))
  exact finP
/-! (funicular/post.key).order -/
noncomputable abbrev qf_39 (r : Int) : Ex → St → Prop := FinQ 0 [.tmp 4] (.int .i64 r) [] 0
theorem w_m_post_key_order_k1 {v9 : Bool} {r : Int}   (h : m_post_key_order_k1 v9 = some r) : Wp Pg 29 0 (.cond (.t 9) (.seq (.reg none i39_R4) .ret) .skip) ⟨[(0, .bad), (1, .bad), (2, .bad), (3, .bad), (4, .bad), (5, .bad), (9, .bool v9)], [], [], 0⟩ (blockQ 0 (seqQ Pg 29 0 (.seq (.reg none i39_R5) .ret) (qf_39 r))) := by
  unfold m_post_key_order_k1 at h
  replace h := ifS h; rcases h with ⟨g4, h⟩ | ⟨g4, h⟩
  · replace h := retS h; subst h
    refine condTP (Wp.seq ?_)
    refine regP (seqN (Wp.ret (blockR (seqR ?_))))
    exact finP
  · replace h := retS h; subst h
    refine condFP (Wp.skip (blockN (seqN (Wp.seq ?_))))
    refine regP (seqN (Wp.ret ?_))
    exact finP
theorem w_m_post_key_order {a : Tkey} {b : Tkey} {r : Int}   (h : m_post_key_order a b = some r) : Spec Pg 39 [.agg [.int .i64 a.f_part, .int .i64 a.f_id], .agg [.int .i64 b.f_part, .int .i64 b.f_id]] [] 0 (.int .i64 r) [] 0 := by
  refine Spec.intro Try.func39 i39_ok (le_of_ble rfl) ?_
  show Wp Pg 29 0 i39_B ⟨argEnv _ i39_V, [], _, _⟩ (qf_39 r)
  unfold m_post_key_order at h
  unfold i39_B
  refine weakP [] ?_
  refine Wp.seq (regP (seqN (Wp.seq (Wp.block (Wp.seq ?_)))))
  refine regP (seqN ?_)
  replace h := ifS h; rcases h with ⟨g1, h⟩ | ⟨g1, h⟩
  · replace h := retS h; subst h
    refine condTP (Wp.seq ?_)
    refine regP (seqN (Wp.ret (blockR (seqR ?_))))
    exact finP
  · refine condFP (Wp.seq ?_)
    replace h := ifS h; rcases h with ⟨g2, h⟩ | ⟨g2, h⟩
    · refine regP (seqN ?_)
      exact jumpK [.kill [0, 1, 2, 3, 4, 5], .tidy] (w_m_post_key_order_k1 h)
    · replace h := ifS h; rcases h with ⟨g3, h⟩ | ⟨g3, h⟩
      · refine regP (seqN ?_)
        exact jumpK [.kill [0, 1, 2, 3, 4, 5], .tidy] (w_m_post_key_order_k1 h)
      · refine regP (seqN ?_)
        exact jumpK [.kill [0, 1, 2, 3, 4, 5], .tidy] (w_m_post_key_order_k1 h)
/-! funicular/post.find$1 -/
noncomputable abbrev qf_87 (r : Int) : Ex → St → Prop := FinQ 0 [.tmp 4] (.int .i64 r) [] 0
theorem w_m_post_find_1 {s : TSub} {k : Tkey} {r : Int}   (h : m_post_find_1 s k = some r) : Spec Pg 87 [.agg [.int .i64 s.Part, .int .i64 s.Id, .int .i64 s.Inst, .str s.Name, .int .i64 s.Key, .int .i64 s.Mail], .agg [.int .i64 k.f_part, .int .i64 k.f_id]] [] 0 (.int .i64 r) [] 0 := by
  refine Spec.intro Try.func87 i87_ok (le_of_ble rfl) ?_
  show Wp Pg 9 0 i87_B ⟨argEnv _ i87_V, [], _, _⟩ (qf_87 r)
  unfold m_post_find_1 at h
  unfold i87_B
  refine weakP [] ?_
  refine Wp.seq (regP (seqN (Wp.seq ?_)))
  replace h := bndS h; obtain ⟨r0, g1, h⟩ := h
  replace h := bndS h; obtain ⟨r0_1, g2, h⟩ := h
  replace h := retS h; subst h
  refine drawP [] mixed (clsC 1 (tab_cons (w_m_post_of g1) (tab_nil _)) (clsC 3 (tab_cons (w_m_post_key_order g2) (tab_nil _)) (clsN _))) (seqN (Wp.ret ?_))
  exact finP
/-! slices.BinarySearchFunc[[]funicular/api.Sub,funicular/api.Sub,funicular/post.key] -/
noncomputable abbrev qf_86_v0 (r : (Int × Bool)) : Ex → St → Prop := FinQ 0 [.tmp 6, .tmp 7] (.tup [.int .i64 r.1, .bool r.2]) [] 0
noncomputable abbrev H_m_slices_BinarySearchFunc_api_Sub_api_Sub_post_key_l1 (x0 : (List TSub)) (target : Tkey) (rec0 : Int → Int → Option (Int × Bool)) (r : (Int × Bool)) : Prop := ∀ {i j : Int}, rec0 i j = some r → LWp Pg 49 0 i86_L0 ⟨[(0, sl TSub.c x0), (1, .bad), (2, .fn (.func 87) [] []), (4, .ptr 0 0), (6, .bad), (7, .bad), (8, .int .i64 (x0.length : Int)), (9, .int .i64 i), (10, .int .i64 j), (11, .bad), (17, .bad), (31, .bad)], [], [(0, .box [.int .i64 target.f_part, .int .i64 target.f_id])], 1⟩ (blockQ 0 (seqQ Pg 49 0 (.seq (.reg (some []) i86_R8) .ret) (qf_86_v0 r)))
theorem w_m_slices_BinarySearchFunc_api_Sub_api_Sub_post_key_k1 {x0 : (List TSub)} {target : Tkey} {i_1 : Int} {r : (Int × Bool)}   (h : m_slices_BinarySearchFunc_api_Sub_api_Sub_post_key_k1 x0 target i_1 = some r) : Wp Pg 49 0 (.seq (.reg (some []) i86_R8) .ret) ⟨[(0, sl TSub.c x0), (1, .bad), (2, .fn (.func 87) [] []), (4, .ptr 0 0), (6, .bad), (7, .bad), (8, .int .i64 (x0.length : Int)), (9, .int .i64 i_1), (10, .bad), (11, .bad), (17, .bad), (31, .bad)], [], [(0, .box [.int .i64 target.f_part, .int .i64 target.f_id])], 1⟩ (qf_86_v0 r) := by
  unfold m_slices_BinarySearchFunc_api_Sub_api_Sub_post_key_k1 at h
  refine Wp.seq ?_
  replace h := ifS h; rcases h with ⟨g5, h⟩ | ⟨g5, h⟩
  · replace h := bndS h; obtain ⟨e_1, g6, h⟩ := h
    replace h := bndS h; obtain ⟨r0_1, g7, h⟩ := h
    replace h := retS h; subst h
    refine drawP [] mixed (clsC 11 (tab_cons (w_m_post_find_1 g7) (tab_nil _)) (clsN _)) (seqN (Wp.ret ?_))
    exact finW [.kill [0, 2, 4, 8, 9], .tidy]
  · replace h := retS h; subst h
    refine drawP [] mixed (clsN _) (seqN (Wp.ret ?_))
    exact finW [.kill [0, 2, 4, 8, 9], .tidy]
theorem w_m_slices_BinarySearchFunc_api_Sub_api_Sub_post_key_l1_B {x0 : (List TSub)} {target : Tkey} {r : (Int × Bool)}   {rec_m_slices_BinarySearchFunc_api_Sub_api_Sub_post_key_l1 : Int → Int → Option (Int × Bool)} (hrec_m_slices_BinarySearchFunc_api_Sub_api_Sub_post_key_l1 : H_m_slices_BinarySearchFunc_api_Sub_api_Sub_post_key_l1 x0 target rec_m_slices_BinarySearchFunc_api_Sub_api_Sub_post_key_l1 r) {i j : Int} (h : m_slices_BinarySearchFunc_api_Sub_api_Sub_post_key_l1_B  x0 target rec_m_slices_BinarySearchFunc_api_Sub_api_Sub_post_key_l1 i j = some r) : LWp Pg 49 0 i86_L0 ⟨[(0, sl TSub.c x0), (1, .bad), (2, .fn (.func 87) [] []), (4, .ptr 0 0), (6, .bad), (7, .bad), (8, .int .i64 (x0.length : Int)), (9, .int .i64 i), (10, .int .i64 j), (11, .bad), (17, .bad), (31, .bad)], [], [(0, .box [.int .i64 target.f_part, .int .i64 target.f_id])], 1⟩ (blockQ 0 (seqQ Pg 49 0 (.seq (.reg (some []) i86_R8) .ret) (qf_86_v0 r))) := by
  unfold m_slices_BinarySearchFunc_api_Sub_api_Sub_post_key_l1_B at h
  refine LWp.stepC i86_L0.eq_1 ?_
  refine Wp.seq (Wp.seq (regP (seqN ?_)))
  replace h := ifS h; rcases h with ⟨g1, h⟩ | ⟨g1, h⟩
  · refine condTP (Wp.skip (seqN (Wp.block (Wp.seq ?_))))
    refine regP (seqN (Wp.seq ?_))
    replace h := bndS h; obtain ⟨e, g2, h⟩ := h
    replace h := bndS h; obtain ⟨r0, g3, h⟩ := h
    refine drawP [] mixed (clsC 6 (tab_cons (w_m_post_find_1 g3) (tab_nil _)) (clsN _)) (seqN ?_)
    replace h := ifS h; rcases h with ⟨g4, h⟩ | ⟨g4, h⟩
    · refine condTP ?_
      refine regP (blockN (loopN ?_))
      exact jumpL [.kill [11, 17, 31], .tidy] (hrec_m_slices_BinarySearchFunc_api_Sub_api_Sub_post_key_l1 h)
    · refine condFP ?_
      refine regP (blockN (loopN ?_))
      exact jumpL [.kill [11, 17, 31], .tidy] (hrec_m_slices_BinarySearchFunc_api_Sub_api_Sub_post_key_l1 h)
  · refine condFP (Wp.out (seqO (loopO (blockO (seqN ?_)))))
    exact jumpK [.kill [10, 17]] (w_m_slices_BinarySearchFunc_api_Sub_api_Sub_post_key_k1 h)
theorem w_m_slices_BinarySearchFunc_api_Sub_api_Sub_post_key_l1 {x0 : (List TSub)} {target : Tkey} {r : (Int × Bool)}   : ∀ (n : Nat), H_m_slices_BinarySearchFunc_api_Sub_api_Sub_post_key_l1 x0 target (m_slices_BinarySearchFunc_api_Sub_api_Sub_post_key_l1  x0 target n) r := by
  intro n
  induction n with
  | zero => intro i j h; unfold m_slices_BinarySearchFunc_api_Sub_api_Sub_post_key_l1 at h; cases h
  | succ n ih => intro i j h; unfold m_slices_BinarySearchFunc_api_Sub_api_Sub_post_key_l1 at h; exact w_m_slices_BinarySearchFunc_api_Sub_api_Sub_post_key_l1_B  ih h
theorem w_m_slices_BinarySearchFunc_api_Sub_api_Sub_post_key {x0 : (List TSub)} {target : Tkey} {r : (Int × Bool)}   (h : m_slices_BinarySearchFunc_api_Sub_api_Sub_post_key x0 target = some r) : Spec Pg 86 [sl TSub.c x0, .agg [.int .i64 target.f_part, .int .i64 target.f_id], .fn (.func 87) [] []] [] 0 (.tup [.int .i64 r.1, .bool r.2]) [] 0 := by
  refine Spec.intro Try.func86 i86_ok (le_of_ble rfl) ?_
  show Wp Pg 49 0 i86_B ⟨argEnv _ i86_V, [], _, _⟩ (qf_86_v0 r)
  unfold m_slices_BinarySearchFunc_api_Sub_api_Sub_post_key at h
  unfold i86_B
  refine weakP [] ?_
  refine Wp.seq (regP (seqN (Wp.seq ?_)))
  refine regP (seqN (Wp.seq ?_))
  refine regP (seqN (Wp.seq (Wp.block (Wp.loop ?_))))
  exact jumpL [.kill [1, 6, 7, 11, 17, 31]] (w_m_slices_BinarySearchFunc_api_Sub_api_Sub_post_key_l1 _ h)
/-! funicular/post.wide -/
noncomputable abbrev qf_35 (r : Bool) : Ex → St → Prop := FinQ 0 [.tmp 2] (.bool r) [] 0
theorem w_m_post_wide {n0 : Int} {r : Bool}   (h : m_post_wide n0 = some r) : Spec Pg 35 [.int .i64 n0] [] 0 (.bool r) [] 0 := by
  refine Spec.intro Try.func35 i35_ok (le_of_ble rfl) ?_
  show Wp Pg 9 0 i35_B ⟨argEnv _ i35_V, [], _, _⟩ (qf_35 r)
  unfold m_post_wide at h
  unfold i35_B
  refine weakP [] ?_
  refine Wp.seq (regP (seqN (Wp.seq ?_)))
  replace h := ifS h; rcases h with ⟨g1, h⟩ | ⟨g1, h⟩
  · replace h := retS h; subst h
    refine regP (seqN (Wp.ret ?_))
    exact finP
  · replace h := retS h; subst h
    refine regP (seqN (Wp.ret ?_))
    exact finP
/-! funicular/pack.Name -/
noncomputable abbrev qf_55 (r : Bool) : Ex → St → Prop := FinQ 0 [.tmp 2] (.bool r) [] 0
noncomputable abbrev H_m_pack_Name_l1 (s : ByteArray) (rec0 : Int → Option Bool) (r : Bool) : Prop := ∀ {v9 : Int}, rec0 v9 = some r → LWp Pg 43 0 i55_L0 ⟨[(0, .str s), (2, .bad), (3, .bad), (4, .bad), (5, .bad), (7, sl (ci .u8) (bytesI s)), (8, .int .i64 ((bytesI s).length : Int)), (9, .int .i64 v9), (10, .bad), (33, .bad)], [], [], 0⟩ (blockQ 0 (seqQ Pg 43 0 (.seq (.reg none i55_R8) .ret) (qf_55 r)))
theorem w_m_pack_Name_k3 {s : ByteArray} {r : Bool}   (h : m_pack_Name_k3 s = some r) : Wp Pg 43 0 (.seq (.reg none i55_R8) .ret) ⟨[(0, .str s), (2, .bad), (3, .bad), (4, .bad), (5, .bad), (7, .bad), (8, .bad), (9, .bad), (10, .bad), (33, .bad)], [], [], 0⟩ (qf_55 r) := by
  unfold m_pack_Name_k3 at h
  refine Wp.seq ?_
  replace h := ifS h; rcases h with ⟨g8, h⟩ | ⟨g8, h⟩
  · replace h := retS h; subst h
    refine regP (seqN (Wp.ret ?_))
    exact finP
  · replace h := retS h; subst h
    refine regP (seqN (Wp.ret ?_))
    exact finP
theorem w_m_pack_Name_k2 {s : ByteArray} {v9 : Int} {v33 : Bool} {r : Bool} {rec_m_pack_Name_l1 : Int → Option Bool} (hrec_m_pack_Name_l1 : H_m_pack_Name_l1 s rec_m_pack_Name_l1 r) (h : m_pack_Name_k2 rec_m_pack_Name_l1 v9 v33 = some r) : Wp Pg 43 0 (.cond (.t 33) (.seq (.reg none i55_R6) .ret) .skip) ⟨[(0, .str s), (2, .bad), (3, .bad), (4, .bad), (5, .bad), (7, sl (ci .u8) (bytesI s)), (8, .int .i64 ((bytesI s).length : Int)), (9, .int .i64 v9), (10, .bad), (33, .bool v33)], [], [], 0⟩ (blockQ 1 (seqQ Pg 43 0 (.reg none i55_R7) (loopQ Pg 43 0 i55_L0 (blockQ 0 (seqQ Pg 43 0 (.seq (.reg none i55_R8) .ret) (qf_55 r)))))) := by
  unfold m_pack_Name_k2 at h
  replace h := ifS h; rcases h with ⟨g7, h⟩ | ⟨g7, h⟩
  · replace h := retS h; subst h
    refine condTP (Wp.seq ?_)
    refine regP (seqN (Wp.ret (blockR (seqR (loopR (blockR (seqR ?_)))))))
    exact finP
  · refine condFP (Wp.skip (blockN (seqN ?_)))
    refine regP (loopN ?_)
    exact jumpL [.kill [33]] (hrec_m_pack_Name_l1 h)
theorem w_m_pack_Name_k1 {s : ByteArray} {v9 e : Int} {letter : Bool} {r : Bool} {rec_m_pack_Name_l1 : Int → Option Bool} (hrec_m_pack_Name_l1 : H_m_pack_Name_l1 s rec_m_pack_Name_l1 r) (h : m_pack_Name_k1 rec_m_pack_Name_l1 v9 e letter = some r) : Wp Pg 43 0 (.seq (.reg none i55_R5) (.cond (.t 33) (.seq (.reg none i55_R6) .ret) .skip)) ⟨[(0, .str s), (2, .bad), (3, .int .i64 v9), (4, .int .u8 e), (5, .bool letter), (7, sl (ci .u8) (bytesI s)), (8, .int .i64 ((bytesI s).length : Int)), (9, .int .i64 v9), (10, .bad), (33, .bad)], [], [], 0⟩ (blockQ 1 (seqQ Pg 43 0 (.reg none i55_R7) (loopQ Pg 43 0 i55_L0 (blockQ 0 (seqQ Pg 43 0 (.seq (.reg none i55_R8) .ret) (qf_55 r)))))) := by
  unfold m_pack_Name_k1 at h
  refine Wp.seq ?_
  replace h := ifS h; rcases h with ⟨g4, h⟩ | ⟨g4, h⟩
  · refine regP (seqN ?_)
    exact jumpK [.kill [3, 4, 5]] (w_m_pack_Name_k2 (s := s) hrec_m_pack_Name_l1 h)
  · replace h := ifS h; rcases h with ⟨g5, h⟩ | ⟨g5, h⟩
    · refine regP (seqN ?_)
      exact jumpK [.kill [3, 4, 5]] (w_m_pack_Name_k2 (s := s) hrec_m_pack_Name_l1 h)
    · replace h := ifS h; rcases h with ⟨g6, h⟩ | ⟨g6, h⟩
      · refine regP (seqN ?_)
        exact jumpK [.kill [3, 4, 5]] (w_m_pack_Name_k2 (s := s) hrec_m_pack_Name_l1 h)
      · refine regP (seqN ?_)
        exact jumpK [.kill [3, 4, 5]] (w_m_pack_Name_k2 (s := s) hrec_m_pack_Name_l1 h)
theorem w_m_pack_Name_l1_B {s : ByteArray} {r : Bool}   {rec_m_pack_Name_l1 : Int → Option Bool} (hrec_m_pack_Name_l1 : H_m_pack_Name_l1 s rec_m_pack_Name_l1 r) {v9 : Int} (h : m_pack_Name_l1_B  s rec_m_pack_Name_l1 v9 = some r) : LWp Pg 43 0 i55_L0 ⟨[(0, .str s), (2, .bad), (3, .bad), (4, .bad), (5, .bad), (7, sl (ci .u8) (bytesI s)), (8, .int .i64 ((bytesI s).length : Int)), (9, .int .i64 v9), (10, .bad), (33, .bad)], [], [], 0⟩ (blockQ 0 (seqQ Pg 43 0 (.seq (.reg none i55_R8) .ret) (qf_55 r))) := by
  unfold m_pack_Name_l1_B at h
  refine LWp.stepC i55_L0.eq_1 ?_
  refine Wp.seq (regP (seqN (Wp.seq ?_)))
  replace h := ifS h; rcases h with ⟨g1, h⟩ | ⟨g1, h⟩
  · refine condTP (Wp.skip (seqN (Wp.seq (Wp.block (Wp.seq ?_)))))
    replace h := bndS h; obtain ⟨e, g2, h⟩ := h
    refine regP (seqN (Wp.seq ?_))
    replace h := ifS h; rcases h with ⟨g3, h⟩ | ⟨g3, h⟩
    · refine regP (seqN ?_)
      exact jumpK [.kill [10]] (w_m_pack_Name_k1 (s := s) hrec_m_pack_Name_l1 h)
    · refine regP (seqN ?_)
      exact jumpK [.kill [10]] (w_m_pack_Name_k1 (s := s) hrec_m_pack_Name_l1 h)
  · refine condFP (Wp.out (seqO (loopO (blockO (seqN ?_)))))
    exact jumpK [.kill [7, 8, 9, 10]] (w_m_pack_Name_k3 h)
theorem w_m_pack_Name_l1 {s : ByteArray} {r : Bool}   : ∀ (n : Nat), H_m_pack_Name_l1 s (m_pack_Name_l1  s n) r := by
  intro n
  induction n with
  | zero => intro v9 h; unfold m_pack_Name_l1 at h; cases h
  | succ n ih => intro v9 h; unfold m_pack_Name_l1 at h; exact w_m_pack_Name_l1_B  ih h
theorem w_m_pack_Name {s : ByteArray} {r : Bool}   (h : m_pack_Name s = some r) : Spec Pg 55 [.str s] [] 0 (.bool r) [] 0 := by
  refine Spec.intro Try.func55 i55_ok (le_of_ble rfl) ?_
  show Wp Pg 43 0 i55_B ⟨argEnv _ i55_V, [], _, _⟩ (qf_55 r)
  unfold m_pack_Name at h
  unfold i55_B
  refine weakP [] ?_
  refine Wp.seq (regP (seqN (Wp.seq (Wp.seq ?_))))
  refine regP (seqN (Wp.block (Wp.loop ?_)))
  exact jumpL [.kill [2, 3, 4, 5, 10, 33], .tidy] (w_m_pack_Name_l1 _ h)
end Go.Proofs.Ytefjblgmnoheiaa.R
