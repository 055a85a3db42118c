/- The program's functions answer what the models answer: 1. -/
import Derived.Test.YtefjblgmnoheiaaMW0
set_option maxRecDepth 100000
set_option maxHeartbeats 1600000
set_option linter.unusedVariables false
set_option linter.unusedSimpArgs false
set_option linter.defProp false
noncomputable section
namespace Go.Proofs.Ytefjblgmnoheiaa.R
open Go Nat
/-! funicular/vars.Copy -/
noncomputable abbrev qf_52 (r : TVars) : Ex → St → Prop := FinQ 0 [.cell 2 true 2] (.agg [sl cs r.Names, sl (ci .i64) r.Vals]) [] 0
theorem w_m_vars_Copy {v : TVars} {r : TVars}   (h : m_vars_Copy v = some r) : Spec Pg 52 [.agg [sl cs v.Names, sl (ci .i64) v.Vals]] [] 0 (.agg [sl cs r.Names, sl (ci .i64) r.Vals]) [] 0 := by
  refine Spec.intro Try.func52 i52_ok (le_of_ble rfl) ?_
  show Wp Pg 10 0 i52_B ⟨argEnv _ i52_V, [], _, _⟩ (qf_52 r)
  unfold m_vars_Copy at h
  unfold i52_B
  refine weakP [] ?_
  refine Wp.seq (regP (seqN (Wp.seq ?_)))
  replace h := reqS h; obtain ⟨g1, h⟩ := h
  replace h := reqS h; obtain ⟨g2, h⟩ := h
  replace h := retS h; subst h
  refine drawP [] mixed (clsN _) (seqN ?_)
  refine weakP [.cell 2 0 .frz, .cell 2 1 .frz] (Wp.ret ?_)
  exact finP
/-! funicular/post.Copy -/
noncomputable abbrev qf_14_v0 (r : TPost) : Ex → St → Prop := FinQ 0 [.cell 2 true 3] (.agg [.int .i64 r.Next, .own 7 0 0 ((r.Mails).length) false, .own 6 1 0 ((r.Subs).length) false]) [(0, .arr 7 (List.map TMail.c r.Mails) 0), (1, .arr 6 (List.map TSub.c r.Subs) 0)] 2
noncomputable abbrev H_m_post_Copy_l1 (p : TPost) (rec0 : Int → (List TMail) → Option TPost) (r : TPost) : Prop := ∀ {v16 : Int} {p_1 : (List TMail)}, rec0 v16 p_1 = some r → LWp Pg 41 0 i14_L0 ⟨[(0, .bad), (1, .ptr 0 0), (2, .ptr 3 0), (3, .bad), (4, .bad), (15, .int .i64 (((p.Mails).length : Nat) : Int)), (16, .int .i64 v16), (17, .bad)], [], [(0, .box [.int .i64 p.Next, .own 7 1 0 p_1.length false, .own 6 2 0 ((p.Subs).length) false]), (1, .arr 7 (List.map TMail.c p_1) 0), (2, .arr 6 (List.map TSub.c p.Subs) 0), (3, .box [.int .i64 (0 : Int), .nil, .nil])], 4⟩ (blockQ 0 (seqQ Pg 41 0 (.seq (.reg none i14_R9) .ret) (qf_14_v0 r)))
theorem w_m_post_Copy_l1_B {p : TPost} {r : TPost}   {rec_m_post_Copy_l1 : Int → (List TMail) → Option TPost} (hrec_m_post_Copy_l1 : H_m_post_Copy_l1 p rec_m_post_Copy_l1 r) {v16 : Int} {p_1 : (List TMail)} (h : m_post_Copy_l1_B  p rec_m_post_Copy_l1 v16 p_1 = some r) : LWp Pg 41 0 i14_L0 ⟨[(0, .bad), (1, .ptr 0 0), (2, .ptr 3 0), (3, .bad), (4, .bad), (15, .int .i64 (((p.Mails).length : Nat) : Int)), (16, .int .i64 v16), (17, .bad)], [], [(0, .box [.int .i64 p.Next, .own 7 1 0 p_1.length false, .own 6 2 0 ((p.Subs).length) false]), (1, .arr 7 (List.map TMail.c p_1) 0), (2, .arr 6 (List.map TSub.c p.Subs) 0), (3, .box [.int .i64 (0 : Int), .nil, .nil])], 4⟩ (blockQ 0 (seqQ Pg 41 0 (.seq (.reg none i14_R9) .ret) (qf_14_v0 r))) := by
  unfold m_post_Copy_l1_B at h
  refine LWp.stepC i14_L0.eq_1 ?_
  refine Wp.seq (regP (seqN (Wp.seq ?_)))
  replace h := ifS h; rcases h with ⟨g3, h⟩ | ⟨g3, h⟩
  · refine condTP (Wp.skip (seqN (Wp.seq (Wp.block (Wp.seq ?_)))))
    refine regP (seqN (Wp.seq ?_))
    replace h := bndS h; obtain ⟨e, g4, h⟩ := h
    have := ias_ownL (n := 7) (id := 1) (ex := false) (k := .i64) g4 rfl
    refine regP (seqN ?_)
    replace h := bndS h; obtain ⟨r0, g5, h⟩ := h
    replace h := reqS h; obtain ⟨g6, h⟩ := h
    have := ld_get (c := TMail.c) g4
    have := set_get TMail.c p_1 v16 (TMail.mk e.Id e.Name e.Key r0 e.Until e.Took)
    try simp only [EV, EVt, *] at this
    have := ld_get (c := TMail.c) (nthI_setI (y := (TMail.mk e.Id e.Name e.Key r0 e.Until e.Took)) g4)
    try simp only [EV, EVt, *] at this
    have := set_get TMail.c (setI p_1 v16 (TMail.mk e.Id e.Name e.Key r0 e.Until e.Took)) v16 (TMail.mk e.Id e.Name e.Key r0 e.Until e.Took)
    try simp only [EV, EVt, *] at this
    refine drawP [] mixed (clsC 6 (tab_cons (w_m_vars_Copy g5) (tab_nil _)) (clsN _)) (blockN (seqN ?_))
    refine regP (loopN ?_)
    exact jumpL [.kill [3, 4, 17], .tidy] (hrec_m_post_Copy_l1 h)
  · replace h := retS h; subst h
    refine condFP (Wp.out (seqO (loopO (blockO (seqN (Wp.seq ?_))))))
    refine regP (seqN (Wp.ret ?_))
    exact finW [.kill [1, 15, 16, 17], .tidy]
theorem w_m_post_Copy_l1 {p : TPost} {r : TPost}   : ∀ (n : Nat), H_m_post_Copy_l1 p (m_post_Copy_l1  p n) r := by
  intro n
  induction n with
  | zero => intro v16 p_1 h; unfold m_post_Copy_l1 at h; cases h
  | succ n ih => intro v16 p_1 h; unfold m_post_Copy_l1 at h; exact w_m_post_Copy_l1_B  ih h
theorem w_m_post_Copy {p : TPost} {r : TPost}   (h : m_post_Copy p = some r) : Spec Pg 14 [.agg [.int .i64 p.Next, sl TMail.c p.Mails, sl TSub.c p.Subs]] [] 0 (.agg [.int .i64 r.Next, .own 7 0 0 ((r.Mails).length) false, .own 6 1 0 ((r.Subs).length) false]) [(0, .arr 7 (List.map TMail.c r.Mails) 0), (1, .arr 6 (List.map TSub.c r.Subs) 0)] 2 := by
  refine Spec.intro Try.func14 i14_ok (le_of_ble rfl) ?_
  show Wp Pg 41 0 i14_B ⟨argEnv _ i14_V, [], _, _⟩ (qf_14_v0 r)
  unfold m_post_Copy at h
  unfold i14_B
  refine weakP [] ?_
  refine Wp.seq (regP (seqN (Wp.seq ?_)))
  replace h := reqS h; obtain ⟨g1, h⟩ := h
  refine regP (seqN (Wp.seq ?_))
  replace h := reqS h; obtain ⟨g2, h⟩ := h
  refine regP (seqN (Wp.seq (Wp.seq ?_)))
  refine regP (seqN (Wp.block (Wp.loop ?_)))
  exact jumpL [.kill [0, 3, 4, 17], .tidy] (w_m_post_Copy_l1 _ h)
/-! slices.Equal[[]string,string] -/
noncomputable abbrev qf_81 (r : Bool) : Ex → St → Prop := FinQ 0 [.tmp 4] (.bool r) [] 0
noncomputable abbrev H_m_slices_Equal_string_string_l1 (s1 s2 : (List ByteArray)) (rec0 : Int → Option Bool) (r : Bool) : Prop := ∀ {v13 : Int}, rec0 v13 = some r → LWp Pg 26 0 i81_L0 ⟨[(0, sl cs s1), (1, sl cs s2), (4, .bad), (5, .bad), (10, .bad), (12, .int .i64 (s1.length : Int)), (13, .int .i64 v13), (14, .bad), (24, .bad)], [], [], 0⟩ (blockQ 0 (seqQ Pg 26 0 (.seq (.reg none i81_R9) .ret) (qf_81 r)))
theorem w_m_slices_Equal_string_string_l1_B {s1 s2 : (List ByteArray)} {r : Bool}   {rec_m_slices_Equal_string_string_l1 : Int → Option Bool} (hrec_m_slices_Equal_string_string_l1 : H_m_slices_Equal_string_string_l1 s1 s2 rec_m_slices_Equal_string_string_l1 r) {v13 : Int} (h : m_slices_Equal_string_string_l1_B  s1 s2 rec_m_slices_Equal_string_string_l1 v13 = some r) : LWp Pg 26 0 i81_L0 ⟨[(0, sl cs s1), (1, sl cs s2), (4, .bad), (5, .bad), (10, .bad), (12, .int .i64 (s1.length : Int)), (13, .int .i64 v13), (14, .bad), (24, .bad)], [], [], 0⟩ (blockQ 0 (seqQ Pg 26 0 (.seq (.reg none i81_R9) .ret) (qf_81 r))) := by
  unfold m_slices_Equal_string_string_l1_B at h
  refine LWp.stepC i81_L0.eq_1 ?_
  refine Wp.seq (regP (seqN (Wp.seq ?_)))
  replace h := ifS h; rcases h with ⟨g2, h⟩ | ⟨g2, h⟩
  · refine condTP (Wp.skip (seqN (Wp.seq (Wp.block (Wp.seq ?_)))))
    refine regP (seqN (Wp.seq ?_))
    replace h := bndS h; obtain ⟨e, g3, h⟩ := h
    replace h := bndS h; obtain ⟨e_1, g4, h⟩ := h
    refine drawP [] mixed (clsN _) (seqN ?_)
    replace h := ifS h; rcases h with ⟨g5, h⟩ | ⟨g5, h⟩
    · refine condFP (Wp.skip (blockN (seqN ?_)))
      refine regP (loopN ?_)
      exact jumpL [.kill [5, 14, 24], .tidy] (hrec_m_slices_Equal_string_string_l1 h)
    · replace h := retS h; subst h
      refine condTP (Wp.seq ?_)
      refine regP (seqN (Wp.ret (blockR (seqR (loopR (blockR (seqR ?_)))))))
      exact finP
  · replace h := retS h; subst h
    refine condFP (Wp.out (seqO (loopO (blockO (seqN (Wp.seq ?_))))))
    refine regP (seqN (Wp.ret ?_))
    exact finP
theorem w_m_slices_Equal_string_string_l1 {s1 s2 : (List ByteArray)} {r : Bool}   : ∀ (n : Nat), H_m_slices_Equal_string_string_l1 s1 s2 (m_slices_Equal_string_string_l1  s1 s2 n) r := by
  intro n
  induction n with
  | zero => intro v13 h; unfold m_slices_Equal_string_string_l1 at h; cases h
  | succ n ih => intro v13 h; unfold m_slices_Equal_string_string_l1 at h; exact w_m_slices_Equal_string_string_l1_B  ih h
theorem w_m_slices_Equal_string_string {s1 : (List ByteArray)} {s2 : (List ByteArray)} {r : Bool}   (h : m_slices_Equal_string_string s1 s2 = some r) : Spec Pg 81 [sl cs s1, sl cs s2] [] 0 (.bool r) [] 0 := by
  refine Spec.intro Try.func81 i81_ok (le_of_ble rfl) ?_
  show Wp Pg 26 0 i81_B ⟨argEnv _ i81_V, [], _, _⟩ (qf_81 r)
  unfold m_slices_Equal_string_string at h
  unfold i81_B
  refine weakP [] ?_
  refine Wp.seq (regP (seqN (Wp.seq (Wp.seq ?_))))
  refine regP (seqN ?_)
  replace h := ifS h; rcases h with ⟨g1, h⟩ | ⟨g1, h⟩
  · replace h := retS h; subst h
    refine condTP (Wp.seq ?_)
    refine regP (seqN (Wp.ret (seqR ?_)))
    exact finP
  · refine condFP (Wp.skip (seqN (Wp.seq (Wp.seq ?_))))
    refine regP (seqN (Wp.block (Wp.loop ?_)))
    exact jumpL [.kill [4, 5, 10, 14, 24]] (w_m_slices_Equal_string_string_l1 _ h)
/-! slices.Equal[[]int64,int64] -/
noncomputable abbrev qf_82 (r : Bool) : Ex → St → Prop := FinQ 0 [.tmp 4] (.bool r) [] 0
noncomputable abbrev H_m_slices_Equal_int64_int64_l1 (s1 s2 : (List Int)) (rec0 : Int → Option Bool) (r : Bool) : Prop := ∀ {v13 : Int}, rec0 v13 = some r → LWp Pg 26 0 i82_L0 ⟨[(0, sl (ci .i64) s1), (1, sl (ci .i64) s2), (4, .bad), (5, .bad), (10, .bad), (12, .int .i64 (s1.length : Int)), (13, .int .i64 v13), (14, .bad), (24, .bad)], [], [], 0⟩ (blockQ 0 (seqQ Pg 26 0 (.seq (.reg none i82_R9) .ret) (qf_82 r)))
theorem w_m_slices_Equal_int64_int64_l1_B {s1 s2 : (List Int)} {r : Bool}   {rec_m_slices_Equal_int64_int64_l1 : Int → Option Bool} (hrec_m_slices_Equal_int64_int64_l1 : H_m_slices_Equal_int64_int64_l1 s1 s2 rec_m_slices_Equal_int64_int64_l1 r) {v13 : Int} (h : m_slices_Equal_int64_int64_l1_B  s1 s2 rec_m_slices_Equal_int64_int64_l1 v13 = some r) : LWp Pg 26 0 i82_L0 ⟨[(0, sl (ci .i64) s1), (1, sl (ci .i64) s2), (4, .bad), (5, .bad), (10, .bad), (12, .int .i64 (s1.length : Int)), (13, .int .i64 v13), (14, .bad), (24, .bad)], [], [], 0⟩ (blockQ 0 (seqQ Pg 26 0 (.seq (.reg none i82_R9) .ret) (qf_82 r))) := by
  unfold m_slices_Equal_int64_int64_l1_B at h
  refine LWp.stepC i82_L0.eq_1 ?_
  refine Wp.seq (regP (seqN (Wp.seq ?_)))
  replace h := ifS h; rcases h with ⟨g2, h⟩ | ⟨g2, h⟩
  · refine condTP (Wp.skip (seqN (Wp.seq (Wp.block (Wp.seq ?_)))))
    refine regP (seqN (Wp.seq ?_))
    replace h := bndS h; obtain ⟨e, g3, h⟩ := h
    replace h := bndS h; obtain ⟨e_1, g4, h⟩ := h
    refine drawP [] mixed (clsN _) (seqN ?_)
    replace h := ifS h; rcases h with ⟨g5, h⟩ | ⟨g5, h⟩
    · replace h := retS h; subst h
      refine condTP (Wp.seq ?_)
      refine regP (seqN (Wp.ret (blockR (seqR (loopR (blockR (seqR ?_)))))))
      exact finP
    · refine condFP (Wp.skip (blockN (seqN ?_)))
      refine regP (loopN ?_)
      exact jumpL [.kill [5, 14, 24], .tidy] (hrec_m_slices_Equal_int64_int64_l1 h)
  · replace h := retS h; subst h
    refine condFP (Wp.out (seqO (loopO (blockO (seqN (Wp.seq ?_))))))
    refine regP (seqN (Wp.ret ?_))
    exact finP
theorem w_m_slices_Equal_int64_int64_l1 {s1 s2 : (List Int)} {r : Bool}   : ∀ (n : Nat), H_m_slices_Equal_int64_int64_l1 s1 s2 (m_slices_Equal_int64_int64_l1  s1 s2 n) r := by
  intro n
  induction n with
  | zero => intro v13 h; unfold m_slices_Equal_int64_int64_l1 at h; cases h
  | succ n ih => intro v13 h; unfold m_slices_Equal_int64_int64_l1 at h; exact w_m_slices_Equal_int64_int64_l1_B  ih h
theorem w_m_slices_Equal_int64_int64 {s1 : (List Int)} {s2 : (List Int)} {r : Bool}   (h : m_slices_Equal_int64_int64 s1 s2 = some r) : Spec Pg 82 [sl (ci .i64) s1, sl (ci .i64) s2] [] 0 (.bool r) [] 0 := by
  refine Spec.intro Try.func82 i82_ok (le_of_ble rfl) ?_
  show Wp Pg 26 0 i82_B ⟨argEnv _ i82_V, [], _, _⟩ (qf_82 r)
  unfold m_slices_Equal_int64_int64 at h
  unfold i82_B
  refine weakP [] ?_
  refine Wp.seq (regP (seqN (Wp.seq (Wp.seq ?_))))
  refine regP (seqN ?_)
  replace h := ifS h; rcases h with ⟨g1, h⟩ | ⟨g1, h⟩
  · replace h := retS h; subst h
    refine condTP (Wp.seq ?_)
    refine regP (seqN (Wp.ret (seqR ?_)))
    exact finP
  · refine condFP (Wp.skip (seqN (Wp.seq (Wp.seq ?_))))
    refine regP (seqN (Wp.block (Wp.loop ?_)))
    exact jumpL [.kill [4, 5, 10, 14, 24]] (w_m_slices_Equal_int64_int64_l1 _ h)
/-! funicular/vars.Same -/
noncomputable abbrev qf_47 (r : Bool) : Ex → St → Prop := FinQ 0 [.tmp 4] (.bool r) [] 0
theorem w_m_vars_Same {a : TVars} {b : TVars} {r : Bool}   (h : m_vars_Same a b = some r) : Spec Pg 47 [.agg [sl cs a.Names, sl (ci .i64) a.Vals], .agg [sl cs b.Names, sl (ci .i64) b.Vals]] [] 0 (.bool r) [] 0 := by
  refine Spec.intro Try.func47 i47_ok (le_of_ble rfl) ?_
  show Wp Pg 17 0 i47_B ⟨argEnv _ i47_V, [], _, _⟩ (qf_47 r)
  unfold m_vars_Same at h
  unfold i47_B
  refine weakP [] ?_
  refine Wp.seq (regP (seqN (Wp.seq (Wp.reg ?_))))
  replace h := bndS h; obtain ⟨r0, g1, h⟩ := h
  refine chunkT 5 (tab_cons (w_m_slices_Equal_string_string g1) (tab_nil _)) ?_
  replace h := ifS h; rcases h with ⟨g2, h⟩ | ⟨g2, h⟩
  · replace h := bndS h; obtain ⟨r0_1, g3, h⟩ := h
    replace h := retS h; subst h
    refine chunkT 6 (tab_cons (w_m_slices_Equal_int64_int64 g3) (tab_nil _)) ?_
    refine lastT (tab_nil _) (seqN (Wp.ret ?_))
    exact finP
  · replace h := retS h; subst h
    refine lastT (tab_nil _) (seqN (Wp.ret ?_))
    exact finP
/-! slices.Equal[[]funicular/api.Who,funicular/api.Who] -/
noncomputable abbrev qf_48 (r : Bool) : Ex → St → Prop := FinQ 0 [.tmp 4] (.bool r) [] 0
noncomputable abbrev H_m_slices_Equal_api_Who_api_Who_l1 (s1 s2 : (List TWho)) (rec0 : Int → Option Bool) (r : Bool) : Prop := ∀ {v13 : Int}, rec0 v13 = some r → LWp Pg 26 0 i48_L0 ⟨[(0, sl TWho.c s1), (1, sl TWho.c s2), (4, .bad), (5, .bad), (10, .bad), (12, .int .i64 (s1.length : Int)), (13, .int .i64 v13), (14, .bad), (24, .bad)], [], [], 0⟩ (blockQ 0 (seqQ Pg 26 0 (.seq (.reg none i48_R9) .ret) (qf_48 r)))
theorem w_m_slices_Equal_api_Who_api_Who_l1_B {s1 s2 : (List TWho)} {r : Bool}   {rec_m_slices_Equal_api_Who_api_Who_l1 : Int → Option Bool} (hrec_m_slices_Equal_api_Who_api_Who_l1 : H_m_slices_Equal_api_Who_api_Who_l1 s1 s2 rec_m_slices_Equal_api_Who_api_Who_l1 r) {v13 : Int} (h : m_slices_Equal_api_Who_api_Who_l1_B  s1 s2 rec_m_slices_Equal_api_Who_api_Who_l1 v13 = some r) : LWp Pg 26 0 i48_L0 ⟨[(0, sl TWho.c s1), (1, sl TWho.c s2), (4, .bad), (5, .bad), (10, .bad), (12, .int .i64 (s1.length : Int)), (13, .int .i64 v13), (14, .bad), (24, .bad)], [], [], 0⟩ (blockQ 0 (seqQ Pg 26 0 (.seq (.reg none i48_R9) .ret) (qf_48 r))) := by
  unfold m_slices_Equal_api_Who_api_Who_l1_B at h
  refine LWp.stepC i48_L0.eq_1 ?_
  refine Wp.seq (regP (seqN (Wp.seq ?_)))
  replace h := ifS h; rcases h with ⟨g2, h⟩ | ⟨g2, h⟩
  · refine condTP (Wp.skip (seqN (Wp.seq (Wp.block (Wp.seq ?_)))))
    refine regP (seqN (Wp.seq ?_))
    replace h := bndS h; obtain ⟨e, g3, h⟩ := h
    replace h := bndS h; obtain ⟨e_1, g4, h⟩ := h
    refine drawP [] mixed (clsN _) (seqN ?_)
    replace h := ifS h; rcases h with ⟨g5, h⟩ | ⟨g5, h⟩
    · refine condFP (Wp.skip (blockN (seqN ?_)))
      refine regP (loopN ?_)
      exact jumpL [.kill [5, 14, 24], .tidy] (hrec_m_slices_Equal_api_Who_api_Who_l1 h)
    · replace h := retS h; subst h
      refine condTP (Wp.seq ?_)
      refine regP (seqN (Wp.ret (blockR (seqR (loopR (blockR (seqR ?_)))))))
      exact finP
  · replace h := retS h; subst h
    refine condFP (Wp.out (seqO (loopO (blockO (seqN (Wp.seq ?_))))))
    refine regP (seqN (Wp.ret ?_))
    exact finP
theorem w_m_slices_Equal_api_Who_api_Who_l1 {s1 s2 : (List TWho)} {r : Bool}   : ∀ (n : Nat), H_m_slices_Equal_api_Who_api_Who_l1 s1 s2 (m_slices_Equal_api_Who_api_Who_l1  s1 s2 n) r := by
  intro n
  induction n with
  | zero => intro v13 h; unfold m_slices_Equal_api_Who_api_Who_l1 at h; cases h
  | succ n ih => intro v13 h; unfold m_slices_Equal_api_Who_api_Who_l1 at h; exact w_m_slices_Equal_api_Who_api_Who_l1_B  ih h
theorem w_m_slices_Equal_api_Who_api_Who {s1 : (List TWho)} {s2 : (List TWho)} {r : Bool}   (h : m_slices_Equal_api_Who_api_Who s1 s2 = some r) : Spec Pg 48 [sl TWho.c s1, sl TWho.c s2] [] 0 (.bool r) [] 0 := by
  refine Spec.intro Try.func48 i48_ok (le_of_ble rfl) ?_
  show Wp Pg 26 0 i48_B ⟨argEnv _ i48_V, [], _, _⟩ (qf_48 r)
  unfold m_slices_Equal_api_Who_api_Who at h
  unfold i48_B
  refine weakP [] ?_
  refine Wp.seq (regP (seqN (Wp.seq (Wp.seq ?_))))
  refine regP (seqN ?_)
  replace h := ifS h; rcases h with ⟨g1, h⟩ | ⟨g1, h⟩
  · replace h := retS h; subst h
    refine condTP (Wp.seq ?_)
    refine regP (seqN (Wp.ret (seqR ?_)))
    exact finP
  · refine condFP (Wp.skip (seqN (Wp.seq (Wp.seq ?_))))
    refine regP (seqN (Wp.block (Wp.loop ?_)))
    exact jumpL [.kill [4, 5, 10, 14, 24]] (w_m_slices_Equal_api_Who_api_Who_l1 _ h)
/-! funicular/post.Same$1 -/
noncomputable abbrev qf_46 (r : Bool) : Ex → St → Prop := FinQ 0 [.tmp 4] (.bool r) [] 0
theorem w_m_post_Same_1 {x0 : TMail} {y : TMail} {r : Bool}   (h : m_post_Same_1 x0 y = some r) : Spec Pg 46 [.agg [.int .i64 x0.Id, .str x0.Name, .int .i64 x0.Key, sl cs x0.Vars.Names, sl (ci .i64) x0.Vars.Vals, .int .i64 x0.Until, sl TWho.c x0.Took], .agg [.int .i64 y.Id, .str y.Name, .int .i64 y.Key, sl cs y.Vars.Names, sl (ci .i64) y.Vars.Vals, .int .i64 y.Until, sl TWho.c y.Took]] [] 0 (.bool r) [] 0 := by
  refine Spec.intro Try.func46 i46_ok (le_of_ble rfl) ?_
  show Wp Pg 45 0 i46_B ⟨argEnv _ i46_V, [], _, _⟩ (qf_46 r)
  unfold m_post_Same_1 at h
  unfold i46_B
  refine weakP [] ?_
  refine Wp.seq (regP (seqN (Wp.seq (Wp.reg ?_))))
  replace h := ifS h; rcases h with ⟨g1, h⟩ | ⟨g1, h⟩
  · replace h := ifS h; rcases h with ⟨g2, h⟩ | ⟨g2, h⟩
    · replace h := ifS h; rcases h with ⟨g3, h⟩ | ⟨g3, h⟩
      · replace h := ifS h; rcases h with ⟨g4, h⟩ | ⟨g4, h⟩
        · replace h := bndS h; obtain ⟨r0, g5, h⟩ := h
          refine chunkT 32 (tab_cons (w_m_vars_Same g5) (tab_nil _)) ?_
          replace h := ifS h; rcases h with ⟨g6, h⟩ | ⟨g6, h⟩
          · replace h := bndS h; obtain ⟨r0_1, g7, h⟩ := h
            replace h := retS h; subst h
            refine chunkT 7 (tab_cons (w_m_slices_Equal_api_Who_api_Who g7) (tab_nil _)) ?_
            refine lastT (tab_nil _) (seqN (Wp.ret ?_))
            exact finP
          · replace h := retS h; subst h
            refine lastT (tab_nil _) (seqN (Wp.ret ?_))
            exact finP
        · replace h := retS h; subst h
          refine lastT (tab_nil _) (seqN (Wp.ret ?_))
          exact finP
      · replace h := retS h; subst h
        refine lastT (tab_nil _) (seqN (Wp.ret ?_))
        exact finP
    · replace h := retS h; subst h
      refine lastT (tab_nil _) (seqN (Wp.ret ?_))
      exact finP
  · replace h := retS h; subst h
    refine lastT (tab_nil _) (seqN (Wp.ret ?_))
    exact finP
/-! slices.EqualFunc[[]funicular/api.Mail,[]funicular/api.Mail,funicular/api.Mail,funicular/api.Mail] -/
noncomputable abbrev qf_45_v0 (r : Bool) : Ex → St → Prop := FinQ 0 [.tmp 6] (.bool r) [] 0
noncomputable abbrev H_m_slices_EqualFunc_api_Mail_api_Mail_api_Mail_api_Mail_l1 (s1 s2 : (List TMail)) (rec0 : Int → Option Bool) (r : Bool) : Prop := ∀ {v17 : Int}, rec0 v17 = some r → LWp Pg 32 0 i45_L0 ⟨[(0, .bad), (1, sl TMail.c s2), (2, .fn (.func 46) [] []), (6, .bad), (7, .bad), (8, .bad), (9, .bad), (14, .bad), (15, sl TMail.c s1), (16, .int .i64 (s1.length : Int)), (17, .int .i64 v17), (18, .bad), (30, .bad)], [], [], 0⟩ (blockQ 0 (seqQ Pg 32 0 (.seq (.reg none i45_R10) .ret) (qf_45_v0 r)))
theorem w_m_slices_EqualFunc_api_Mail_api_Mail_api_Mail_api_Mail_l1_B {s1 s2 : (List TMail)} {r : Bool}   {rec_m_slices_EqualFunc_api_Mail_api_Mail_api_Mail_api_Mail_l1 : Int → Option Bool} (hrec_m_slices_EqualFunc_api_Mail_api_Mail_api_Mail_api_Mail_l1 : H_m_slices_EqualFunc_api_Mail_api_Mail_api_Mail_api_Mail_l1 s1 s2 rec_m_slices_EqualFunc_api_Mail_api_Mail_api_Mail_api_Mail_l1 r) {v17 : Int} (h : m_slices_EqualFunc_api_Mail_api_Mail_api_Mail_api_Mail_l1_B  s1 s2 rec_m_slices_EqualFunc_api_Mail_api_Mail_api_Mail_api_Mail_l1 v17 = some r) : LWp Pg 32 0 i45_L0 ⟨[(0, .bad), (1, sl TMail.c s2), (2, .fn (.func 46) [] []), (6, .bad), (7, .bad), (8, .bad), (9, .bad), (14, .bad), (15, sl TMail.c s1), (16, .int .i64 (s1.length : Int)), (17, .int .i64 v17), (18, .bad), (30, .bad)], [], [], 0⟩ (blockQ 0 (seqQ Pg 32 0 (.seq (.reg none i45_R10) .ret) (qf_45_v0 r))) := by
  unfold m_slices_EqualFunc_api_Mail_api_Mail_api_Mail_api_Mail_l1_B at h
  refine LWp.stepC i45_L0.eq_1 ?_
  refine Wp.seq (regP (seqN (Wp.seq ?_)))
  replace h := ifS h; rcases h with ⟨g2, h⟩ | ⟨g2, h⟩
  · refine condTP (Wp.skip (seqN (Wp.seq (Wp.block (Wp.seq ?_)))))
    replace h := bndS h; obtain ⟨e, g3, h⟩ := h
    refine regP (seqN (Wp.seq ?_))
    replace h := bndS h; obtain ⟨e_1, g4, h⟩ := h
    refine regP (seqN (Wp.seq (Wp.reg ?_)))
    replace h := bndS h; obtain ⟨r0, g5, h⟩ := h
    refine chunkT 4 (tab_cons (w_m_post_Same_1 g5) (tab_nil _)) ?_
    refine lastT (tab_nil _) (seqN ?_)
    replace h := ifS h; rcases h with ⟨g6, h⟩ | ⟨g6, h⟩
    · refine condFP (Wp.skip (blockN (seqN ?_)))
      refine regP (loopN ?_)
      exact jumpL [.kill [7, 8, 9, 18, 30], .tidy] (hrec_m_slices_EqualFunc_api_Mail_api_Mail_api_Mail_api_Mail_l1 h)
    · replace h := retS h; subst h
      refine condTP (Wp.seq ?_)
      refine regP (seqN (Wp.ret (blockR (seqR (loopR (blockR (seqR ?_)))))))
      exact finW [.kill [1, 2, 7, 8, 9, 15, 16, 17, 18, 30], .tidy]
  · replace h := retS h; subst h
    refine condFP (Wp.out (seqO (loopO (blockO (seqN (Wp.seq ?_))))))
    refine regP (seqN (Wp.ret ?_))
    exact finW [.kill [1, 2, 15, 16, 17, 18], .tidy]
theorem w_m_slices_EqualFunc_api_Mail_api_Mail_api_Mail_api_Mail_l1 {s1 s2 : (List TMail)} {r : Bool}   : ∀ (n : Nat), H_m_slices_EqualFunc_api_Mail_api_Mail_api_Mail_api_Mail_l1 s1 s2 (m_slices_EqualFunc_api_Mail_api_Mail_api_Mail_api_Mail_l1  s1 s2 n) r := by
  intro n
  induction n with
  | zero => intro v17 h; unfold m_slices_EqualFunc_api_Mail_api_Mail_api_Mail_api_Mail_l1 at h; cases h
  | succ n ih => intro v17 h; unfold m_slices_EqualFunc_api_Mail_api_Mail_api_Mail_api_Mail_l1 at h; exact w_m_slices_EqualFunc_api_Mail_api_Mail_api_Mail_api_Mail_l1_B  ih h
theorem w_m_slices_EqualFunc_api_Mail_api_Mail_api_Mail_api_Mail {s1 : (List TMail)} {s2 : (List TMail)} {r : Bool}   (h : m_slices_EqualFunc_api_Mail_api_Mail_api_Mail_api_Mail s1 s2 = some r) : Spec Pg 45 [sl TMail.c s1, sl TMail.c s2, .fn (.func 46) [] []] [] 0 (.bool r) [] 0 := by
  refine Spec.intro Try.func45 i45_ok (le_of_ble rfl) ?_
  show Wp Pg 32 0 i45_B ⟨argEnv _ i45_V, [], _, _⟩ (qf_45_v0 r)
  unfold m_slices_EqualFunc_api_Mail_api_Mail_api_Mail_api_Mail at h
  unfold i45_B
  refine weakP [] ?_
  refine Wp.seq (regP (seqN (Wp.seq (Wp.seq ?_))))
  refine regP (seqN ?_)
  replace h := ifS h; rcases h with ⟨g1, h⟩ | ⟨g1, h⟩
  · replace h := retS h; subst h
    refine condTP (Wp.seq ?_)
    refine regP (seqN (Wp.ret (seqR ?_)))
    exact finW [.kill [0, 1, 2, 7, 8, 9, 14, 15, 16, 17, 18, 30], .tidy]
  · refine condFP (Wp.skip (seqN (Wp.seq (Wp.seq ?_))))
    refine regP (seqN (Wp.block (Wp.loop ?_)))
    exact jumpL [.kill [0, 6, 7, 8, 9, 14, 18, 30]] (w_m_slices_EqualFunc_api_Mail_api_Mail_api_Mail_api_Mail_l1 _ h)
/-! funicular/post.wide -/
noncomputable abbrev qf_35 (r : Bool) : Ex → St → Prop := FinQ 0 [.tmp 2] (.bool r) [] 0
theorem w_m_post_wide {n0 : Int} {r : Bool}   (h : m_post_wide n0 = some r) : Spec Pg 35 [.int .i64 n0] [] 0 (.bool r) [] 0 := by
  refine Spec.intro Try.func35 i35_ok (le_of_ble rfl) ?_
  show Wp Pg 9 0 i35_B ⟨argEnv _ i35_V, [], _, _⟩ (qf_35 r)
  unfold m_post_wide at h
  unfold i35_B
  refine weakP [] ?_
  refine Wp.seq (regP (seqN (Wp.seq ?_)))
  replace h := ifS h; rcases h with ⟨g1, h⟩ | ⟨g1, h⟩
  · replace h := retS h; subst h
    refine regP (seqN (Wp.ret ?_))
    exact finP
  · replace h := retS h; subst h
    refine regP (seqN (Wp.ret ?_))
    exact finP
/-! funicular/pack.Name -/
noncomputable abbrev qf_55 (r : Bool) : Ex → St → Prop := FinQ 0 [.tmp 2] (.bool r) [] 0
noncomputable abbrev H_m_pack_Name_l1 (s : ByteArray) (rec0 : Int → Option Bool) (r : Bool) : Prop := ∀ {v9 : Int}, rec0 v9 = some r → LWp Pg 43 0 i55_L0 ⟨[(0, .str s), (2, .bad), (3, .bad), (4, .bad), (5, .bad), (7, sl (ci .u8) (bytesI s)), (8, .int .i64 ((bytesI s).length : Int)), (9, .int .i64 v9), (10, .bad), (33, .bad)], [], [], 0⟩ (blockQ 0 (seqQ Pg 43 0 (.seq (.reg none i55_R8) .ret) (qf_55 r)))
theorem w_m_pack_Name_k3 {s : ByteArray} {r : Bool}   (h : m_pack_Name_k3 s = some r) : Wp Pg 43 0 (.seq (.reg none i55_R8) .ret) ⟨[(0, .str s), (2, .bad), (3, .bad), (4, .bad), (5, .bad), (7, .bad), (8, .bad), (9, .bad), (10, .bad), (33, .bad)], [], [], 0⟩ (qf_55 r) := by
  unfold m_pack_Name_k3 at h
  refine Wp.seq ?_
  replace h := ifS h; rcases h with ⟨g8, h⟩ | ⟨g8, h⟩
  · replace h := retS h; subst h
    refine regP (seqN (Wp.ret ?_))
    exact finP
  · replace h := retS h; subst h
    refine regP (seqN (Wp.ret ?_))
    exact finP
theorem w_m_pack_Name_k2 {s : ByteArray} {v9 : Int} {v33 : Bool} {r : Bool} {rec_m_pack_Name_l1 : Int → Option Bool} (hrec_m_pack_Name_l1 : H_m_pack_Name_l1 s rec_m_pack_Name_l1 r) (h : m_pack_Name_k2 rec_m_pack_Name_l1 v9 v33 = some r) : Wp Pg 43 0 (.cond (.t 33) (.seq (.reg none i55_R6) .ret) .skip) ⟨[(0, .str s), (2, .bad), (3, .bad), (4, .bad), (5, .bad), (7, sl (ci .u8) (bytesI s)), (8, .int .i64 ((bytesI s).length : Int)), (9, .int .i64 v9), (10, .bad), (33, .bool v33)], [], [], 0⟩ (blockQ 1 (seqQ Pg 43 0 (.reg none i55_R7) (loopQ Pg 43 0 i55_L0 (blockQ 0 (seqQ Pg 43 0 (.seq (.reg none i55_R8) .ret) (qf_55 r)))))) := by
  unfold m_pack_Name_k2 at h
  replace h := ifS h; rcases h with ⟨g7, h⟩ | ⟨g7, h⟩
  · replace h := retS h; subst h
    refine condTP (Wp.seq ?_)
    refine regP (seqN (Wp.ret (blockR (seqR (loopR (blockR (seqR ?_)))))))
    exact finP
  · refine condFP (Wp.skip (blockN (seqN ?_)))
    refine regP (loopN ?_)
    exact jumpL [.kill [33]] (hrec_m_pack_Name_l1 h)
theorem w_m_pack_Name_k1 {s : ByteArray} {v9 e : Int} {letter : Bool} {r : Bool} {rec_m_pack_Name_l1 : Int → Option Bool} (hrec_m_pack_Name_l1 : H_m_pack_Name_l1 s rec_m_pack_Name_l1 r) (h : m_pack_Name_k1 rec_m_pack_Name_l1 v9 e letter = some r) : Wp Pg 43 0 (.seq (.reg none i55_R5) (.cond (.t 33) (.seq (.reg none i55_R6) .ret) .skip)) ⟨[(0, .str s), (2, .bad), (3, .int .i64 v9), (4, .int .u8 e), (5, .bool letter), (7, sl (ci .u8) (bytesI s)), (8, .int .i64 ((bytesI s).length : Int)), (9, .int .i64 v9), (10, .bad), (33, .bad)], [], [], 0⟩ (blockQ 1 (seqQ Pg 43 0 (.reg none i55_R7) (loopQ Pg 43 0 i55_L0 (blockQ 0 (seqQ Pg 43 0 (.seq (.reg none i55_R8) .ret) (qf_55 r)))))) := by
  unfold m_pack_Name_k1 at h
  refine Wp.seq ?_
  replace h := ifS h; rcases h with ⟨g4, h⟩ | ⟨g4, h⟩
  · refine regP (seqN ?_)
    exact jumpK [.kill [3, 4, 5]] (w_m_pack_Name_k2 (s := s) hrec_m_pack_Name_l1 h)
  · replace h := ifS h; rcases h with ⟨g5, h⟩ | ⟨g5, h⟩
    · refine regP (seqN ?_)
      exact jumpK [.kill [3, 4, 5]] (w_m_pack_Name_k2 (s := s) hrec_m_pack_Name_l1 h)
    · replace h := ifS h; rcases h with ⟨g6, h⟩ | ⟨g6, h⟩
      · refine regP (seqN ?_)
        exact jumpK [.kill [3, 4, 5]] (w_m_pack_Name_k2 (s := s) hrec_m_pack_Name_l1 h)
      · refine regP (seqN ?_)
        exact jumpK [.kill [3, 4, 5]] (w_m_pack_Name_k2 (s := s) hrec_m_pack_Name_l1 h)
theorem w_m_pack_Name_l1_B {s : ByteArray} {r : Bool}   {rec_m_pack_Name_l1 : Int → Option Bool} (hrec_m_pack_Name_l1 : H_m_pack_Name_l1 s rec_m_pack_Name_l1 r) {v9 : Int} (h : m_pack_Name_l1_B  s rec_m_pack_Name_l1 v9 = some r) : LWp Pg 43 0 i55_L0 ⟨[(0, .str s), (2, .bad), (3, .bad), (4, .bad), (5, .bad), (7, sl (ci .u8) (bytesI s)), (8, .int .i64 ((bytesI s).length : Int)), (9, .int .i64 v9), (10, .bad), (33, .bad)], [], [], 0⟩ (blockQ 0 (seqQ Pg 43 0 (.seq (.reg none i55_R8) .ret) (qf_55 r))) := by
  unfold m_pack_Name_l1_B at h
  refine LWp.stepC i55_L0.eq_1 ?_
  refine Wp.seq (regP (seqN (Wp.seq ?_)))
  replace h := ifS h; rcases h with ⟨g1, h⟩ | ⟨g1, h⟩
  · refine condTP (Wp.skip (seqN (Wp.seq (Wp.block (Wp.seq ?_)))))
    replace h := bndS h; obtain ⟨e, g2, h⟩ := h
    refine regP (seqN (Wp.seq ?_))
    replace h := ifS h; rcases h with ⟨g3, h⟩ | ⟨g3, h⟩
    · refine regP (seqN ?_)
      exact jumpK [.kill [10]] (w_m_pack_Name_k1 (s := s) hrec_m_pack_Name_l1 h)
    · refine regP (seqN ?_)
      exact jumpK [.kill [10]] (w_m_pack_Name_k1 (s := s) hrec_m_pack_Name_l1 h)
  · refine condFP (Wp.out (seqO (loopO (blockO (seqN ?_)))))
    exact jumpK [.kill [7, 8, 9, 10]] (w_m_pack_Name_k3 h)
theorem w_m_pack_Name_l1 {s : ByteArray} {r : Bool}   : ∀ (n : Nat), H_m_pack_Name_l1 s (m_pack_Name_l1  s n) r := by
  intro n
  induction n with
  | zero => intro v9 h; unfold m_pack_Name_l1 at h; cases h
  | succ n ih => intro v9 h; unfold m_pack_Name_l1 at h; exact w_m_pack_Name_l1_B  ih h
theorem w_m_pack_Name {s : ByteArray} {r : Bool}   (h : m_pack_Name s = some r) : Spec Pg 55 [.str s] [] 0 (.bool r) [] 0 := by
  refine Spec.intro Try.func55 i55_ok (le_of_ble rfl) ?_
  show Wp Pg 43 0 i55_B ⟨argEnv _ i55_V, [], _, _⟩ (qf_55 r)
  unfold m_pack_Name at h
  unfold i55_B
  refine weakP [] ?_
  refine Wp.seq (regP (seqN (Wp.seq (Wp.seq ?_))))
  refine regP (seqN (Wp.block (Wp.loop ?_)))
  exact jumpL [.kill [2, 3, 4, 5, 10, 33], .tidy] (w_m_pack_Name_l1 _ h)
/-! funicular/vars.Check -/
noncomputable abbrev qf_56 (r : Int) : Ex → St → Prop := FinQ 0 [.tmp 2] (.int .i64 r) [] 0
noncomputable abbrev H_m_vars_Check_l1 (v : TVars) (rec0 : Int → Option Int) (r : Int) : Prop := ∀ {v21 : Int}, rec0 v21 = some r → LWp Pg 50 0 i56_L0 ⟨[(0, .bad), (1, .ptr 0 0), (2, .bad), (3, .bad), (4, .bad), (5, .bad), (13, .bad), (19, sl cs v.Names), (20, .int .i64 (v.Names.length : Int)), (21, .int .i64 v21), (22, .bad), (36, .bad), (48, .bad)], [], [(0, .box [sl cs v.Names, sl (ci .i64) v.Vals])], 1⟩ (blockQ 1 (seqQ Pg 50 0 (.seq (.reg none i56_R13) .ret) (qf_56 r)))
theorem w_m_vars_Check_k2 {v : TVars} {v21 : Int} {v48 : Bool} {r : Int} {rec_m_vars_Check_l1 : Int → Option Int} (hrec_m_vars_Check_l1 : H_m_vars_Check_l1 v rec_m_vars_Check_l1 r) (h : m_vars_Check_k2 rec_m_vars_Check_l1 v21 v48 = some r) : Wp Pg 50 0 (.cond (.t 48) (.seq (.reg none i56_R11) .ret) .skip) ⟨[(0, .bad), (1, .ptr 0 0), (2, .bad), (3, .bad), (4, .bad), (5, .bad), (13, .bad), (19, sl cs v.Names), (20, .int .i64 (v.Names.length : Int)), (21, .int .i64 v21), (22, .bad), (36, .bad), (48, .bool v48)], [], [(0, .box [sl cs v.Names, sl (ci .i64) v.Vals])], 1⟩ (blockQ 2 (seqQ Pg 50 0 (.reg none i56_R12) (loopQ Pg 50 0 i56_L0 (blockQ 1 (seqQ Pg 50 0 (.seq (.reg none i56_R13) .ret) (qf_56 r)))))) := by
  unfold m_vars_Check_k2 at h
  replace h := ifS h; rcases h with ⟨g11, h⟩ | ⟨g11, h⟩
  · replace h := retS h; subst h
    refine condTP (Wp.seq ?_)
    refine regP (seqN (Wp.ret (blockR (seqR (loopR (blockR (seqR ?_)))))))
    exact finP
  · refine condFP (Wp.skip (blockN (seqN ?_)))
    refine regP (loopN ?_)
    exact jumpL [.kill [48]] (hrec_m_vars_Check_l1 h)
theorem w_m_vars_Check_k1 {v : TVars} {v21 : Int} {e : ByteArray} {v36 : Bool} {r : Int} {rec_m_vars_Check_l1 : Int → Option Int} (hrec_m_vars_Check_l1 : H_m_vars_Check_l1 v rec_m_vars_Check_l1 r) (h : m_vars_Check_k1 rec_m_vars_Check_l1 v v21 e v36 = some r) : Wp Pg 50 0 (.cond (.t 36) (.seq (.reg none i56_R9) .ret) .skip) ⟨[(0, .bad), (1, .ptr 0 0), (2, .bad), (3, .int .i64 v21), (4, .str e), (5, .bad), (13, .bad), (19, sl cs v.Names), (20, .int .i64 (v.Names.length : Int)), (21, .int .i64 v21), (22, .bad), (36, .bool v36), (48, .bad)], [], [(0, .box [sl cs v.Names, sl (ci .i64) v.Vals])], 1⟩ (seqQ Pg 50 0 (.seq (.reg none i56_R10) (.cond (.t 48) (.seq (.reg none i56_R11) .ret) .skip)) (blockQ 2 (seqQ Pg 50 0 (.reg none i56_R12) (loopQ Pg 50 0 i56_L0 (blockQ 1 (seqQ Pg 50 0 (.seq (.reg none i56_R13) .ret) (qf_56 r))))))) := by
  unfold m_vars_Check_k1 at h
  replace h := ifS h; rcases h with ⟨g8, h⟩ | ⟨g8, h⟩
  · replace h := retS h; subst h
    refine condTP (Wp.seq ?_)
    refine regP (seqN (Wp.ret (seqR (blockR (seqR (loopR (blockR (seqR ?_))))))))
    exact finP
  · refine condFP (Wp.skip (seqN (Wp.seq ?_)))
    replace h := ifS h; rcases h with ⟨g9, h⟩ | ⟨g9, h⟩
    · replace h := bndS h; obtain ⟨e_1, g10, h⟩ := h
      refine regP (seqN ?_)
      exact jumpK [.kill [3, 4, 36]] (w_m_vars_Check_k2 (v := v) hrec_m_vars_Check_l1 h)
    · refine regP (seqN ?_)
      exact jumpK [.kill [3, 4, 36]] (w_m_vars_Check_k2 (v := v) hrec_m_vars_Check_l1 h)
theorem w_m_vars_Check_l1_B {v : TVars} {r : Int}   {rec_m_vars_Check_l1 : Int → Option Int} (hrec_m_vars_Check_l1 : H_m_vars_Check_l1 v rec_m_vars_Check_l1 r) {v21 : Int} (h : m_vars_Check_l1_B  v rec_m_vars_Check_l1 v21 = some r) : LWp Pg 50 0 i56_L0 ⟨[(0, .bad), (1, .ptr 0 0), (2, .bad), (3, .bad), (4, .bad), (5, .bad), (13, .bad), (19, sl cs v.Names), (20, .int .i64 (v.Names.length : Int)), (21, .int .i64 v21), (22, .bad), (36, .bad), (48, .bad)], [], [(0, .box [sl cs v.Names, sl (ci .i64) v.Vals])], 1⟩ (blockQ 1 (seqQ Pg 50 0 (.seq (.reg none i56_R13) .ret) (qf_56 r))) := by
  unfold m_vars_Check_l1_B at h
  refine LWp.stepC i56_L0.eq_1 ?_
  refine Wp.seq (regP (seqN (Wp.seq ?_)))
  replace h := ifS h; rcases h with ⟨g3, h⟩ | ⟨g3, h⟩
  · refine condTP (Wp.skip (seqN (Wp.seq (Wp.block (Wp.seq ?_)))))
    replace h := bndS h; obtain ⟨e, g4, h⟩ := h
    refine regP (seqN (Wp.seq (Wp.seq (Wp.reg ?_))))
    replace h := bndS h; obtain ⟨r0, g5, h⟩ := h
    refine chunkT 2 (tab_cons (w_m_pack_Name g5) (tab_nil _)) ?_
    replace h := ifS h; rcases h with ⟨g6, h⟩ | ⟨g6, h⟩
    · replace h := ifS h; rcases h with ⟨g7, h⟩ | ⟨g7, h⟩
      · refine lastT (tab_nil _) (seqN ?_)
        exact jumpK [.kill [22]] (w_m_vars_Check_k1 hrec_m_vars_Check_l1 h)
      · refine lastT (tab_nil _) (seqN ?_)
        exact jumpK [.kill [22]] (w_m_vars_Check_k1 hrec_m_vars_Check_l1 h)
    · refine lastT (tab_nil _) (seqN ?_)
      exact jumpK [.kill [22]] (w_m_vars_Check_k1 hrec_m_vars_Check_l1 h)
  · replace h := retS h; subst h
    refine condFP (Wp.out (seqO (loopO (blockO (seqN (Wp.seq ?_))))))
    refine regP (seqN (Wp.ret ?_))
    exact finP
theorem w_m_vars_Check_l1 {v : TVars} {r : Int}   : ∀ (n : Nat), H_m_vars_Check_l1 v (m_vars_Check_l1  v n) r := by
  intro n
  induction n with
  | zero => intro v21 h; unfold m_vars_Check_l1 at h; cases h
  | succ n ih => intro v21 h; unfold m_vars_Check_l1 at h; exact w_m_vars_Check_l1_B  ih h
theorem w_m_vars_Check {v : TVars} {r : Int}   (h : m_vars_Check v = some r) : Spec Pg 56 [.agg [sl cs v.Names, sl (ci .i64) v.Vals]] [] 0 (.int .i64 r) [] 0 := by
  refine Spec.intro Try.func56 i56_ok (le_of_ble rfl) ?_
  show Wp Pg 50 0 i56_B ⟨argEnv _ i56_V, [], _, _⟩ (qf_56 r)
  unfold m_vars_Check at h
  unfold i56_B
  refine weakP [] ?_
  refine Wp.seq (regP (seqN (Wp.seq (Wp.block (Wp.seq ?_)))))
  refine regP (seqN ?_)
  replace h := ifS h; rcases h with ⟨g1, h⟩ | ⟨g1, h⟩
  · replace h := retS h; subst h
    refine condTP (Wp.seq ?_)
    refine regP (seqN (Wp.ret (blockR (seqR ?_))))
    exact finP
  · refine condFP (Wp.seq ?_)
    refine regP (seqN ?_)
    replace h := ifS h; rcases h with ⟨g2, h⟩ | ⟨g2, h⟩
    · replace h := retS h; subst h
      refine condTP (Wp.seq ?_)
      refine regP (seqN (Wp.ret (blockR (seqR ?_))))
      exact finP
    · refine condFP (Wp.skip (blockN (seqN (Wp.seq (Wp.seq ?_)))))
      refine regP (seqN (Wp.block (Wp.loop ?_)))
      exact jumpL [.kill [0, 2, 3, 4, 5, 13, 22, 36, 48]] (w_m_vars_Check_l1 _ h)
/-! funicular/post.part -/
noncomputable abbrev qf_78 (r : Bool) : Ex → St → Prop := FinQ 0 [.tmp 2] (.bool r) [] 0
theorem w_m_post_part {n0 : Int} {r : Bool}   (h : m_post_part n0 = some r) : Spec Pg 78 [.int .i64 n0] [] 0 (.bool r) [] 0 := by
  refine Spec.intro Try.func78 i78_ok (le_of_ble rfl) ?_
  show Wp Pg 9 0 i78_B ⟨argEnv _ i78_V, [], _, _⟩ (qf_78 r)
  unfold m_post_part at h
  unfold i78_B
  refine weakP [] ?_
  refine Wp.seq (regP (seqN (Wp.seq ?_)))
  replace h := ifS h; rcases h with ⟨g1, h⟩ | ⟨g1, h⟩
  · replace h := retS h; subst h
    refine regP (seqN (Wp.ret ?_))
    exact finP
  · replace h := retS h; subst h
    refine regP (seqN (Wp.ret ?_))
    exact finP
/-! slices.Index[[]funicular/api.Who,funicular/api.Who] -/
noncomputable abbrev qf_97 (r : Int) : Ex → St → Prop := FinQ 0 [.tmp 4] (.int .i64 r) [] 0
noncomputable abbrev H_m_slices_Index_api_Who_api_Who_l1 (s : (List TWho)) (v : TWho) (rec0 : Int → Option Int) (r : Int) : Prop := ∀ {v8 : Int}, rec0 v8 = some r → LWp Pg 19 0 i97_L0 ⟨[(0, sl TWho.c s), (1, .bad), (3, .ptr 0 0), (4, .bad), (5, .bad), (7, .int .i64 (s.length : Int)), (8, .int .i64 v8), (9, .bad), (16, .bad)], [], [(0, .box [.int .i64 v.Part, .int .i64 v.Inst])], 1⟩ (blockQ 0 (seqQ Pg 19 0 (.seq (.reg none i97_R7) .ret) (qf_97 r)))
theorem w_m_slices_Index_api_Who_api_Who_l1_B {s : (List TWho)} {v : TWho} {r : Int}   {rec_m_slices_Index_api_Who_api_Who_l1 : Int → Option Int} (hrec_m_slices_Index_api_Who_api_Who_l1 : H_m_slices_Index_api_Who_api_Who_l1 s v rec_m_slices_Index_api_Who_api_Who_l1 r) {v8 : Int} (h : m_slices_Index_api_Who_api_Who_l1_B  s v rec_m_slices_Index_api_Who_api_Who_l1 v8 = some r) : LWp Pg 19 0 i97_L0 ⟨[(0, sl TWho.c s), (1, .bad), (3, .ptr 0 0), (4, .bad), (5, .bad), (7, .int .i64 (s.length : Int)), (8, .int .i64 v8), (9, .bad), (16, .bad)], [], [(0, .box [.int .i64 v.Part, .int .i64 v.Inst])], 1⟩ (blockQ 0 (seqQ Pg 19 0 (.seq (.reg none i97_R7) .ret) (qf_97 r))) := by
  unfold m_slices_Index_api_Who_api_Who_l1_B at h
  refine LWp.stepC i97_L0.eq_1 ?_
  refine Wp.seq (regP (seqN (Wp.seq ?_)))
  replace h := ifS h; rcases h with ⟨g1, h⟩ | ⟨g1, h⟩
  · refine condTP (Wp.skip (seqN (Wp.seq (Wp.block (Wp.seq ?_)))))
    refine regP (seqN (Wp.seq ?_))
    replace h := bndS h; obtain ⟨e, g2, h⟩ := h
    refine drawP [] mixed (clsN _) (seqN ?_)
    replace h := ifS h; rcases h with ⟨g3, h⟩ | ⟨g3, h⟩
    · replace h := retS h; subst h
      refine condTP (Wp.seq ?_)
      refine regP (seqN (Wp.ret (blockR (seqR (loopR (blockR (seqR ?_)))))))
      exact finP
    · refine condFP (Wp.skip (blockN (seqN ?_)))
      refine regP (loopN ?_)
      exact jumpL [.kill [5, 9, 16], .tidy] (hrec_m_slices_Index_api_Who_api_Who_l1 h)
  · replace h := retS h; subst h
    refine condFP (Wp.out (seqO (loopO (blockO (seqN (Wp.seq ?_))))))
    refine regP (seqN (Wp.ret ?_))
    exact finP
theorem w_m_slices_Index_api_Who_api_Who_l1 {s : (List TWho)} {v : TWho} {r : Int}   : ∀ (n : Nat), H_m_slices_Index_api_Who_api_Who_l1 s v (m_slices_Index_api_Who_api_Who_l1  s v n) r := by
  intro n
  induction n with
  | zero => intro v8 h; unfold m_slices_Index_api_Who_api_Who_l1 at h; cases h
  | succ n ih => intro v8 h; unfold m_slices_Index_api_Who_api_Who_l1 at h; exact w_m_slices_Index_api_Who_api_Who_l1_B  ih h
theorem w_m_slices_Index_api_Who_api_Who {s : (List TWho)} {v : TWho} {r : Int}   (h : m_slices_Index_api_Who_api_Who s v = some r) : Spec Pg 97 [sl TWho.c s, .agg [.int .i64 v.Part, .int .i64 v.Inst]] [] 0 (.int .i64 r) [] 0 := by
  refine Spec.intro Try.func97 i97_ok (le_of_ble rfl) ?_
  show Wp Pg 19 0 i97_B ⟨argEnv _ i97_V, [], _, _⟩ (qf_97 r)
  unfold m_slices_Index_api_Who_api_Who at h
  unfold i97_B
  refine weakP [] ?_
  refine Wp.seq (regP (seqN (Wp.seq (Wp.seq ?_))))
  refine regP (seqN (Wp.block (Wp.loop ?_)))
  exact jumpL [.kill [1, 4, 5, 9, 16]] (w_m_slices_Index_api_Who_api_Who_l1 _ h)
end Go.Proofs.Ytefjblgmnoheiaa.R
