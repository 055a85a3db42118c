/- The program's functions answer what the models answer: 3. -/
import Derived.Test.YtefjblgmnoheiaaMW0
import Derived.Test.YtefjblgmnoheiaaMW2
set_option maxRecDepth 100000
set_option maxHeartbeats 1600000
set_option linter.unusedVariables false
set_option linter.unusedSimpArgs false
set_option linter.defProp false
noncomputable section
namespace Go.Proofs.Ytefjblgmnoheiaa.R
open Go Nat
/-! funicular/funicularref22.sameMail -/
noncomputable abbrev qf_49 (r : Bool) : Ex → St → Prop := FinQ 0 [.tmp 4] (.bool r) [] 0
noncomputable abbrev H_m_ref22_sameMail_l1 (a b : TMail) (rec0 : Int → Option Bool) (r : Bool) : Prop := ∀ {i : Int}, rec0 i = some r → LWp Pg 67 0 i49_L0 ⟨[(0, .bad), (1, .bad), (2, .ptr 0 0), (3, .ptr 1 0), (4, .bad), (5, .int .i64 i), (48, .bad), (53, .bad), (66, .bad)], [], (hs5 a b), 2⟩ (blockQ 0 (seqQ Pg 67 0 (.seq (.reg none i49_R8) .ret) (qf_49 r)))
theorem w_m_ref22_sameMail_l1_B {a b : TMail} {r : Bool}   {rec_m_ref22_sameMail_l1 : Int → Option Bool} (hrec_m_ref22_sameMail_l1 : H_m_ref22_sameMail_l1 a b rec_m_ref22_sameMail_l1 r) {i : Int} (h : m_ref22_sameMail_l1_B  a b rec_m_ref22_sameMail_l1 i = some r) : LWp Pg 67 0 i49_L0 ⟨[(0, .bad), (1, .bad), (2, .ptr 0 0), (3, .ptr 1 0), (4, .bad), (5, .int .i64 i), (48, .bad), (53, .bad), (66, .bad)], [], (hs5 a b), 2⟩ (blockQ 0 (seqQ Pg 67 0 (.seq (.reg none i49_R8) .ret) (qf_49 r))) := by
  unfold m_ref22_sameMail_l1_B at h
  refine LWp.stepC i49_L0.eq_1 ?_
  refine Wp.seq (Wp.seq (regP (seqN ?_)))
  replace h := ifS h; rcases h with ⟨g8, h⟩ | ⟨g8, h⟩
  · refine condTP (Wp.skip (seqN (Wp.seq (Wp.block (Wp.seq ?_)))))
    replace h := bndS h; obtain ⟨e, g9, h⟩ := h
    replace h := bndS h; obtain ⟨e_1, g10, h⟩ := h
    refine drawP [] mixed (clsN _) (seqN ?_)
    replace h := ifS h; rcases h with ⟨g11, h⟩ | ⟨g11, h⟩
    · refine condFP (Wp.skip (blockN (seqN ?_)))
      refine regP (loopN ?_)
      exact jumpL [.kill [53, 66], .tidy] (hrec_m_ref22_sameMail_l1 h)
    · replace h := retS h; subst h
      refine condTP (Wp.seq ?_)
      refine regP (seqN (Wp.ret (blockR (seqR (loopR (blockR (seqR ?_)))))))
      exact finP
  · replace h := retS h; subst h
    refine condFP (Wp.out (seqO (loopO (blockO (seqN (Wp.seq ?_))))))
    refine regP (seqN (Wp.ret ?_))
    exact finP
theorem w_m_ref22_sameMail_l1 {a b : TMail} {r : Bool}   : ∀ (n : Nat), H_m_ref22_sameMail_l1 a b (m_ref22_sameMail_l1  a b n) r := by
  intro n
  induction n with
  | zero => intro i h; unfold m_ref22_sameMail_l1 at h; cases h
  | succ n ih => intro i h; unfold m_ref22_sameMail_l1 at h; exact w_m_ref22_sameMail_l1_B  ih h
theorem w_m_ref22_sameMail_k1 {a b : TMail} {v48 : Bool} {r : Bool}   (h : m_ref22_sameMail_k1 a b v48 = some r) : Wp Pg 67 0 (.cond (.t 48) (.seq (.reg none i49_R2) .ret) .skip) ⟨[(0, .bad), (1, .bad), (2, .ptr 0 0), (3, .ptr 1 0), (4, .bad), (5, .bad), (48, .bool v48), (53, .bad), (66, .bad)], [], (hs5 a b), 2⟩ (seqQ Pg 67 0 (.seq (.seq (.reg none i49_R3) (.block 0 (.loop i49_L0))) (.seq (.reg none i49_R8) .ret)) (qf_49 r)) := by
  unfold m_ref22_sameMail_k1 at h
  replace h := ifS h; rcases h with ⟨g7, h⟩ | ⟨g7, h⟩
  · replace h := retS h; subst h
    refine condTP (Wp.seq ?_)
    refine regP (seqN (Wp.ret (seqR ?_)))
    exact finP
  · refine condFP (Wp.skip (seqN (Wp.seq (Wp.seq ?_))))
    refine regP (seqN (Wp.block (Wp.loop ?_)))
    exact jumpL [.kill [48]] (w_m_ref22_sameMail_l1 _ h)
theorem w_m_ref22_sameMail {a : TMail} {b : TMail} {r : Bool}   (h : m_ref22_sameMail a b = some r) : Spec Pg 49 [.agg [.int .i64 a.Id, .str a.Name, .int .i64 a.Key, sl cs a.Vars.Names, sl (ci .i64) a.Vars.Vals, .int .i64 a.Until, sl TWho.c a.Took], .agg [.int .i64 b.Id, .str b.Name, .int .i64 b.Key, sl cs b.Vars.Names, sl (ci .i64) b.Vars.Vals, .int .i64 b.Until, sl TWho.c b.Took]] [] 0 (.bool r) [] 0 := by
  refine Spec.intro Try.func49 i49_ok (le_of_ble rfl) ?_
  show Wp Pg 67 0 i49_B ⟨argEnv _ i49_V, [], _, _⟩ (qf_49 r)
  unfold m_ref22_sameMail at h
  unfold i49_B
  refine weakP [] ?_
  refine Wp.seq (regP (seqN (Wp.seq (Wp.seq (Wp.reg ?_)))))
  replace h := ifS h; rcases h with ⟨g1, h⟩ | ⟨g1, h⟩
  · refine lastT (tab_nil _) (seqN ?_)
    exact jumpK [.kill [0, 1, 4, 5, 53, 66], .tidy] (w_m_ref22_sameMail_k1 h)
  · replace h := ifS h; rcases h with ⟨g2, h⟩ | ⟨g2, h⟩
    · replace h := ifS h; rcases h with ⟨g3, h⟩ | ⟨g3, h⟩
      · refine lastT (tab_nil _) (seqN ?_)
        exact jumpK [.kill [0, 1, 4, 5, 53, 66], .tidy] (w_m_ref22_sameMail_k1 h)
      · replace h := ifS h; rcases h with ⟨g4, h⟩ | ⟨g4, h⟩
        · refine lastT (tab_nil _) (seqN ?_)
          exact jumpK [.kill [0, 1, 4, 5, 53, 66], .tidy] (w_m_ref22_sameMail_k1 h)
        · replace h := bndS h; obtain ⟨r0, g5, h⟩ := h
          refine chunkT 32 (tab_cons (w_m_ref09_Same g5) (tab_nil _)) ?_
          replace h := ifS h; rcases h with ⟨g6, h⟩ | ⟨g6, h⟩
          · refine lastT (tab_nil _) (seqN ?_)
            exact jumpK [.kill [0, 1, 4, 5, 53, 66], .tidy] (w_m_ref22_sameMail_k1 h)
          · refine lastT (tab_nil _) (seqN ?_)
            exact jumpK [.kill [0, 1, 4, 5, 53, 66], .tidy] (w_m_ref22_sameMail_k1 h)
    · refine lastT (tab_nil _) (seqN ?_)
      exact jumpK [.kill [0, 1, 4, 5, 53, 66], .tidy] (w_m_ref22_sameMail_k1 h)
/-! funicular/funicularref22.Same -/
noncomputable abbrev qf_13 (r : Bool) : Ex → St → Prop := FinQ 0 [.tmp 4] (.bool r) [] 0
noncomputable abbrev H_m_ref22_Same_l1 (a b : TPost) (rec0 : Int → Option Bool) (r : Bool) : Prop := ∀ {i : Int}, rec0 i = some r → LWp Pg 67 0 i13_L0 ⟨[(0, .bad), (1, .bad), (2, .ptr 0 0), (3, .ptr 1 0), (4, .bad), (5, .int .i64 i), (6, .bad), (29, .bad), (34, .bad), (48, .bad), (53, .bad), (66, .bad)], [], [(0, .box [.int .i64 a.Next, sl TMail.c a.Mails, sl TSub.c a.Subs]), (1, .box [.int .i64 b.Next, sl TMail.c b.Mails, sl TSub.c b.Subs])], 2⟩ (blockQ 0 (seqQ Pg 67 0 (.seq (.seq (.reg none i13_R8) (.block 2 (.loop i13_L1))) (.seq (.reg none i13_R13) .ret)) (qf_13 r)))
noncomputable abbrev H_m_ref22_Same_l2 (a b : TPost) (rec0 : Int → Option Bool) (r : Bool) : Prop := ∀ {i_1 : Int}, rec0 i_1 = some r → LWp Pg 67 0 i13_L1 ⟨[(0, .bad), (1, .bad), (2, .ptr 0 0), (3, .ptr 1 0), (4, .bad), (5, .bad), (6, .int .i64 i_1), (29, .bad), (34, .bad), (48, .bad), (53, .bad), (66, .bad)], [], [(0, .box [.int .i64 a.Next, sl TMail.c a.Mails, sl TSub.c a.Subs]), (1, .box [.int .i64 b.Next, sl TMail.c b.Mails, sl TSub.c b.Subs])], 2⟩ (blockQ 2 (seqQ Pg 67 0 (.seq (.reg none i13_R13) .ret) (qf_13 r)))
theorem w_m_ref22_Same_l2_B {a b : TPost} {r : Bool}   {rec_m_ref22_Same_l2 : Int → Option Bool} (hrec_m_ref22_Same_l2 : H_m_ref22_Same_l2 a b rec_m_ref22_Same_l2 r) {i_1 : Int} (h : m_ref22_Same_l2_B  a b rec_m_ref22_Same_l2 i_1 = some r) : LWp Pg 67 0 i13_L1 ⟨[(0, .bad), (1, .bad), (2, .ptr 0 0), (3, .ptr 1 0), (4, .bad), (5, .bad), (6, .int .i64 i_1), (29, .bad), (34, .bad), (48, .bad), (53, .bad), (66, .bad)], [], [(0, .box [.int .i64 a.Next, sl TMail.c a.Mails, sl TSub.c a.Subs]), (1, .box [.int .i64 b.Next, sl TMail.c b.Mails, sl TSub.c b.Subs])], 2⟩ (blockQ 2 (seqQ Pg 67 0 (.seq (.reg none i13_R13) .ret) (qf_13 r))) := by
  unfold m_ref22_Same_l2_B at h
  refine LWp.stepC i13_L1.eq_1 ?_
  refine Wp.seq (Wp.seq (regP (seqN ?_)))
  replace h := ifS h; rcases h with ⟨g9, h⟩ | ⟨g9, h⟩
  · refine condTP (Wp.skip (seqN (Wp.seq (Wp.block (Wp.seq ?_)))))
    replace h := bndS h; obtain ⟨e_2, g10, h⟩ := h
    replace h := bndS h; obtain ⟨e_3, g11, h⟩ := h
    refine drawP [] mixed (clsN _) (seqN ?_)
    replace h := ifS h; rcases h with ⟨g12, h⟩ | ⟨g12, h⟩
    · refine condFP (Wp.skip (blockN (seqN ?_)))
      refine regP (loopN ?_)
      exact jumpL [.kill [53, 66], .tidy] (hrec_m_ref22_Same_l2 h)
    · replace h := retS h; subst h
      refine condTP (Wp.seq ?_)
      refine regP (seqN (Wp.ret (blockR (seqR (loopR (blockR (seqR ?_)))))))
      exact finP
  · replace h := retS h; subst h
    refine condFP (Wp.out (seqO (loopO (blockO (seqN (Wp.seq ?_))))))
    refine regP (seqN (Wp.ret ?_))
    exact finP
theorem w_m_ref22_Same_l2 {a b : TPost} {r : Bool}   : ∀ (n : Nat), H_m_ref22_Same_l2 a b (m_ref22_Same_l2  a b n) r := by
  intro n
  induction n with
  | zero => intro i_1 h; unfold m_ref22_Same_l2 at h; cases h
  | succ n ih => intro i_1 h; unfold m_ref22_Same_l2 at h; exact w_m_ref22_Same_l2_B  ih h
theorem w_m_ref22_Same_k2 {a b : TPost} {r : Bool}   (h : m_ref22_Same_k2 a b = some r) : Wp Pg 67 0 (.seq (.seq (.reg none i13_R8) (.block 2 (.loop i13_L1))) (.seq (.reg none i13_R13) .ret)) ⟨[(0, .bad), (1, .bad), (2, .ptr 0 0), (3, .ptr 1 0), (4, .bad), (5, .bad), (6, .bad), (29, .bad), (34, .bad), (48, .bad), (53, .bad), (66, .bad)], [], [(0, .box [.int .i64 a.Next, sl TMail.c a.Mails, sl TSub.c a.Subs]), (1, .box [.int .i64 b.Next, sl TMail.c b.Mails, sl TSub.c b.Subs])], 2⟩ (qf_13 r) := by
  unfold m_ref22_Same_k2 at h
  refine Wp.seq (Wp.seq (regP (seqN (Wp.block (Wp.loop ?_)))))
  exact jumpL [] (w_m_ref22_Same_l2 _ h)
theorem w_m_ref22_Same_l1_B {a b : TPost} {r : Bool}   {rec_m_ref22_Same_l1 : Int → Option Bool} (hrec_m_ref22_Same_l1 : H_m_ref22_Same_l1 a b rec_m_ref22_Same_l1 r) {i : Int} (h : m_ref22_Same_l1_B  a b rec_m_ref22_Same_l1 i = some r) : LWp Pg 67 0 i13_L0 ⟨[(0, .bad), (1, .bad), (2, .ptr 0 0), (3, .ptr 1 0), (4, .bad), (5, .int .i64 i), (6, .bad), (29, .bad), (34, .bad), (48, .bad), (53, .bad), (66, .bad)], [], [(0, .box [.int .i64 a.Next, sl TMail.c a.Mails, sl TSub.c a.Subs]), (1, .box [.int .i64 b.Next, sl TMail.c b.Mails, sl TSub.c b.Subs])], 2⟩ (blockQ 0 (seqQ Pg 67 0 (.seq (.seq (.reg none i13_R8) (.block 2 (.loop i13_L1))) (.seq (.reg none i13_R13) .ret)) (qf_13 r))) := by
  unfold m_ref22_Same_l1_B at h
  refine LWp.stepC i13_L0.eq_1 ?_
  refine Wp.seq (Wp.seq (regP (seqN ?_)))
  replace h := ifS h; rcases h with ⟨g4, h⟩ | ⟨g4, h⟩
  · refine condTP (Wp.skip (seqN (Wp.seq (Wp.block (Wp.seq ?_)))))
    replace h := bndS h; obtain ⟨e, g5, h⟩ := h
    replace h := bndS h; obtain ⟨e_1, g6, h⟩ := h
    replace h := bndS h; obtain ⟨r0, g7, h⟩ := h
    refine drawP [] mixed (clsC 10 (tab_cons (w_m_ref22_sameMail g7) (tab_nil _)) (clsN _)) (seqN ?_)
    replace h := ifS h; rcases h with ⟨g8, h⟩ | ⟨g8, h⟩
    · refine condFP (Wp.skip (blockN (seqN ?_)))
      refine regP (loopN ?_)
      exact jumpL [.kill [34, 48], .tidy] (hrec_m_ref22_Same_l1 h)
    · replace h := retS h; subst h
      refine condTP (Wp.seq ?_)
      refine regP (seqN (Wp.ret (blockR (seqR (loopR (blockR (seqR ?_)))))))
      exact finP
  · refine condFP (Wp.out (seqO (loopO (blockO (seqN ?_)))))
    exact jumpK [.kill [5, 34]] (w_m_ref22_Same_k2 h)
theorem w_m_ref22_Same_l1 {a b : TPost} {r : Bool}   : ∀ (n : Nat), H_m_ref22_Same_l1 a b (m_ref22_Same_l1  a b n) r := by
  intro n
  induction n with
  | zero => intro i h; unfold m_ref22_Same_l1 at h; cases h
  | succ n ih => intro i h; unfold m_ref22_Same_l1 at h; exact w_m_ref22_Same_l1_B  ih h
theorem w_m_ref22_Same_k1 {a b : TPost} {v29 : Bool} {r : Bool}   (h : m_ref22_Same_k1 a b v29 = some r) : Wp Pg 67 0 (.cond (.t 29) (.seq (.reg none i13_R2) .ret) .skip) ⟨[(0, .bad), (1, .bad), (2, .ptr 0 0), (3, .ptr 1 0), (4, .bad), (5, .bad), (6, .bad), (29, .bool v29), (34, .bad), (48, .bad), (53, .bad), (66, .bad)], [], [(0, .box [.int .i64 a.Next, sl TMail.c a.Mails, sl TSub.c a.Subs]), (1, .box [.int .i64 b.Next, sl TMail.c b.Mails, sl TSub.c b.Subs])], 2⟩ (seqQ Pg 67 0 (.seq (.seq (.reg none i13_R3) (.block 0 (.loop i13_L0))) (.seq (.seq (.reg none i13_R8) (.block 2 (.loop i13_L1))) (.seq (.reg none i13_R13) .ret))) (qf_13 r)) := by
  unfold m_ref22_Same_k1 at h
  replace h := ifS h; rcases h with ⟨g3, h⟩ | ⟨g3, h⟩
  · replace h := retS h; subst h
    refine condTP (Wp.seq ?_)
    refine regP (seqN (Wp.ret (seqR ?_)))
    exact finP
  · refine condFP (Wp.skip (seqN (Wp.seq (Wp.seq ?_))))
    refine regP (seqN (Wp.block (Wp.loop ?_)))
    exact jumpL [.kill [29]] (w_m_ref22_Same_l1 _ h)
theorem w_m_ref22_Same {a : TPost} {b : TPost} {r : Bool}   (h : m_ref22_Same a b = some r) : Spec Pg 13 [.agg [.int .i64 a.Next, sl TMail.c a.Mails, sl TSub.c a.Subs], .agg [.int .i64 b.Next, sl TMail.c b.Mails, sl TSub.c b.Subs]] [] 0 (.bool r) [] 0 := by
  refine Spec.intro Try.func13 i13_ok (le_of_ble rfl) ?_
  show Wp Pg 67 0 i13_B ⟨argEnv _ i13_V, [], _, _⟩ (qf_13 r)
  unfold m_ref22_Same at h
  unfold i13_B
  refine weakP [] ?_
  refine Wp.seq (regP (seqN (Wp.seq (Wp.seq ?_))))
  replace h := ifS h; rcases h with ⟨g1, h⟩ | ⟨g1, h⟩
  · refine regP (seqN ?_)
    exact jumpK [.kill [0, 1, 4, 5, 6, 34, 48, 53, 66], .tidy] (w_m_ref22_Same_k1 h)
  · replace h := ifS h; rcases h with ⟨g2, h⟩ | ⟨g2, h⟩
    · refine regP (seqN ?_)
      exact jumpK [.kill [0, 1, 4, 5, 6, 34, 48, 53, 66], .tidy] (w_m_ref22_Same_k1 h)
    · refine regP (seqN ?_)
      exact jumpK [.kill [0, 1, 4, 5, 6, 34, 48, 53, 66], .tidy] (w_m_ref22_Same_k1 h)
/-! funicular/funicularref22.Weight -/
noncomputable abbrev qf_33 (r : Int) : Ex → St → Prop := FinQ 0 [.tmp 4] (.int .i64 r) [] 0
noncomputable abbrev H_m_ref22_Weight_l1 (p : TPost) (top : Int) (rec0 : Int → Int → Option Int) (r : Int) : Prop := ∀ {n0 i : Int}, rec0 n0 i = some r → LWp Pg 97 0 i33_L0 ⟨[(0, .bad), (1, .int .i64 top), (2, .ptr 0 0), (4, .bad), (5, .int .i64 n0), (6, .int .i64 i), (7, .bad), (8, .bad), (9, .bad), (22, .bad), (44, .bad), (83, .bad)], [], [(0, .box [.int .i64 p.Next, sl TMail.c p.Mails, sl TSub.c p.Subs])], 1⟩ (blockQ 0 (seqQ Pg 97 0 (.seq (.seq (.reg none i33_R6) (.block 2 (.loop i33_L2))) (.seq (.reg none i33_R15) .ret)) (qf_33 r)))
noncomputable abbrev H_m_ref22_Weight_l2 (p : TPost) (top : Int) (rec0 : Int → Int → Option Int) (r : Int) : Prop := ∀ {n0_2 i_1 : Int}, rec0 n0_2 i_1 = some r → LWp Pg 97 0 i33_L2 ⟨[(0, .bad), (1, .int .i64 top), (2, .ptr 0 0), (4, .bad), (5, .int .i64 n0_2), (6, .bad), (7, .int .i64 i_1), (8, .bad), (9, .bad), (22, .bad), (44, .bad), (83, .bad)], [], [(0, .box [.int .i64 p.Next, sl TMail.c p.Mails, sl TSub.c p.Subs])], 1⟩ (blockQ 2 (seqQ Pg 97 0 (.seq (.reg none i33_R15) .ret) (qf_33 r)))
noncomputable abbrev H_m_ref22_Weight_l3 (p : TPost) (top i_1 : Int) (e_1 : TMail) (rec0 : Int → Int → Option Int) (r : Int) : Prop := ∀ {n0_3 k : Int}, rec0 n0_3 k = some r → LWp Pg 97 0 i33_L1 ⟨[(0, .bad), (1, .int .i64 top), (2, .ptr 0 0), (4, .bad), (5, .int .i64 n0_3), (6, .bad), (7, .int .i64 i_1), (8, .ptr 1 0), (9, .int .i64 k), (22, .bad), (44, .bad), (83, .bad)], [], (hs9 e_1 p.Next p.Mails p.Subs), 2⟩ (blockQ 4 (blockQ 3 (seqQ Pg 97 0 (.reg none i33_R14) (loopQ Pg 97 0 i33_L2 (blockQ 2 (seqQ Pg 97 0 (.seq (.reg none i33_R15) .ret) (qf_33 r)))))))
theorem w_m_ref22_Weight_k5 {p : TPost} {top i_1 n0_4 : Int} {r : Int} {rec_m_ref22_Weight_l2 : Int → Int → Option Int} (hrec_m_ref22_Weight_l2 : H_m_ref22_Weight_l2 p top rec_m_ref22_Weight_l2 r) (h : m_ref22_Weight_k5 rec_m_ref22_Weight_l2 i_1 n0_4 = some r) : Wp Pg 97 0 (.reg none i33_R14) ⟨[(0, .bad), (1, .int .i64 top), (2, .ptr 0 0), (4, .bad), (5, .int .i64 n0_4), (6, .bad), (7, .int .i64 i_1), (8, .bad), (9, .bad), (22, .bad), (44, .bad), (83, .bad)], [], [(0, .box [.int .i64 p.Next, sl TMail.c p.Mails, sl TSub.c p.Subs])], 1⟩ (loopQ Pg 97 0 i33_L2 (blockQ 2 (seqQ Pg 97 0 (.seq (.reg none i33_R15) .ret) (qf_33 r)))) := by
  unfold m_ref22_Weight_k5 at h
  refine regP (loopN ?_)
  exact jumpL [] (hrec_m_ref22_Weight_l2 h)
theorem w_m_ref22_Weight_k4 {p : TPost} {top i_1 : Int} {e_1 : TMail} {n0_3 k : Int} {v83 : Bool} {r : Int} {rec_m_ref22_Weight_l3 : Int → Int → Option Int} {rec_m_ref22_Weight_l2 : Int → Int → Option Int} (hrec_m_ref22_Weight_l3 : H_m_ref22_Weight_l3 p top i_1 e_1 rec_m_ref22_Weight_l3 r) (hrec_m_ref22_Weight_l2 : H_m_ref22_Weight_l2 p top rec_m_ref22_Weight_l2 r) (h : m_ref22_Weight_k4 rec_m_ref22_Weight_l3 rec_m_ref22_Weight_l2 i_1 e_1 n0_3 k v83 = some r) : Wp Pg 97 0 (.cond (.t 83) .skip (.out 4)) ⟨[(0, .bad), (1, .int .i64 top), (2, .ptr 0 0), (4, .bad), (5, .int .i64 n0_3), (6, .bad), (7, .int .i64 i_1), (8, .ptr 1 0), (9, .int .i64 k), (22, .bad), (44, .bad), (83, .bool v83)], [], (hs9 e_1 p.Next p.Mails p.Subs), 2⟩ (seqQ Pg 97 0 (.seq (.block 5 (.reg none i33_R12)) (.reg none i33_R13)) (loopQ Pg 97 0 i33_L1 (blockQ 4 (blockQ 3 (seqQ Pg 97 0 (.reg none i33_R14) (loopQ Pg 97 0 i33_L2 (blockQ 2 (seqQ Pg 97 0 (.seq (.reg none i33_R15) .ret) (qf_33 r))))))))) := by
  unfold m_ref22_Weight_k4 at h
  replace h := ifS h; rcases h with ⟨g8, h⟩ | ⟨g8, h⟩
  · refine condTP (Wp.skip (seqN (Wp.seq (Wp.block ?_))))
    replace h := bndS h; obtain ⟨e_2, g9, h⟩ := h
    refine regP (blockN (seqN ?_))
    refine regP (loopN ?_)
    exact jumpL [.kill [83]] (hrec_m_ref22_Weight_l3 h)
  · refine condFP (Wp.out (seqO (loopO (blockO (blockN (seqN ?_))))))
    exact jumpK [.kill [8, 9, 83], .tidy] (w_m_ref22_Weight_k5 (p := p) (top := top) hrec_m_ref22_Weight_l2 h)
theorem w_m_ref22_Weight_l3_B {p : TPost} {top i_1 : Int} {e_1 : TMail} {r : Int} {rec_m_ref22_Weight_l2 : Int → Int → Option Int} (hrec_m_ref22_Weight_l2 : H_m_ref22_Weight_l2 p top rec_m_ref22_Weight_l2 r) {rec_m_ref22_Weight_l3 : Int → Int → Option Int} (hrec_m_ref22_Weight_l3 : H_m_ref22_Weight_l3 p top i_1 e_1 rec_m_ref22_Weight_l3 r) {n0_3 k : Int} (h : m_ref22_Weight_l3_B rec_m_ref22_Weight_l2 top i_1 e_1 rec_m_ref22_Weight_l3 n0_3 k = some r) : LWp Pg 97 0 i33_L1 ⟨[(0, .bad), (1, .int .i64 top), (2, .ptr 0 0), (4, .bad), (5, .int .i64 n0_3), (6, .bad), (7, .int .i64 i_1), (8, .ptr 1 0), (9, .int .i64 k), (22, .bad), (44, .bad), (83, .bad)], [], (hs9 e_1 p.Next p.Mails p.Subs), 2⟩ (blockQ 4 (blockQ 3 (seqQ Pg 97 0 (.reg none i33_R14) (loopQ Pg 97 0 i33_L2 (blockQ 2 (seqQ Pg 97 0 (.seq (.reg none i33_R15) .ret) (qf_33 r))))))) := by
  unfold m_ref22_Weight_l3_B at h
  refine LWp.stepC i33_L1.eq_1 ?_
  refine Wp.seq (Wp.seq ?_)
  replace h := ifS h; rcases h with ⟨g7, h⟩ | ⟨g7, h⟩
  · refine regP (seqN ?_)
    exact jumpK [] (w_m_ref22_Weight_k4 (p := p) (top := top) hrec_m_ref22_Weight_l3 hrec_m_ref22_Weight_l2 h)
  · refine regP (seqN ?_)
    exact jumpK [] (w_m_ref22_Weight_k4 (p := p) (top := top) hrec_m_ref22_Weight_l3 hrec_m_ref22_Weight_l2 h)
theorem w_m_ref22_Weight_l3 {p : TPost} {top i_1 : Int} {e_1 : TMail} {r : Int} {rec_m_ref22_Weight_l2 : Int → Int → Option Int} (hrec_m_ref22_Weight_l2 : H_m_ref22_Weight_l2 p top rec_m_ref22_Weight_l2 r) : ∀ (n : Nat), H_m_ref22_Weight_l3 p top i_1 e_1 (m_ref22_Weight_l3 rec_m_ref22_Weight_l2 top i_1 e_1 n) r := by
  intro n
  induction n with
  | zero => intro n0_3 k h; unfold m_ref22_Weight_l3 at h; cases h
  | succ n ih => intro n0_3 k h; unfold m_ref22_Weight_l3 at h; exact w_m_ref22_Weight_l3_B (p := p) hrec_m_ref22_Weight_l2 ih h
theorem w_m_ref22_Weight_k3 {p : TPost} {top n0_2 i_1 : Int} {v44 : Bool} {r : Int} {rec_m_ref22_Weight_l2 : Int → Int → Option Int} (hrec_m_ref22_Weight_l2 : H_m_ref22_Weight_l2 p top rec_m_ref22_Weight_l2 r) (h : m_ref22_Weight_k3 rec_m_ref22_Weight_l2 p top n0_2 i_1 v44 = some r) : Wp Pg 97 0 (.cond (.t 44) .skip (.out 2)) ⟨[(0, .bad), (1, .int .i64 top), (2, .ptr 0 0), (4, .bad), (5, .int .i64 n0_2), (6, .bad), (7, .int .i64 i_1), (8, .bad), (9, .bad), (22, .bad), (44, .bool v44), (83, .bad)], [], [(0, .box [.int .i64 p.Next, sl TMail.c p.Mails, sl TSub.c p.Subs])], 1⟩ (seqQ Pg 97 0 (.seq (.block 3 (.seq (.reg none i33_R8) (.seq (.reg none i33_R9) (.seq (.reg none i33_R10) (.block 4 (.loop i33_L1)))))) (.reg none i33_R14)) (loopQ Pg 97 0 i33_L2 (blockQ 2 (seqQ Pg 97 0 (.seq (.reg none i33_R15) .ret) (qf_33 r))))) := by
  unfold m_ref22_Weight_k3 at h
  replace h := ifS h; rcases h with ⟨g5, h⟩ | ⟨g5, h⟩
  · refine condTP (Wp.skip (seqN (Wp.seq (Wp.block (Wp.seq ?_)))))
    replace h := bndS h; obtain ⟨e_1, g6, h⟩ := h
    refine regP (seqN (Wp.seq ?_))
    refine regP (seqN (Wp.seq ?_))
    refine regP (seqN (Wp.block (Wp.loop ?_)))
    exact jumpL [.kill [44], .tidy] (w_m_ref22_Weight_l3 (p := p) hrec_m_ref22_Weight_l2 _ h)
  · replace h := retS h; subst h
    refine condFP (Wp.out (seqO (loopO (blockO (seqN (Wp.seq ?_))))))
    refine regP (seqN (Wp.ret ?_))
    exact finP
theorem w_m_ref22_Weight_l2_B {p : TPost} {top : Int} {r : Int}   {rec_m_ref22_Weight_l2 : Int → Int → Option Int} (hrec_m_ref22_Weight_l2 : H_m_ref22_Weight_l2 p top rec_m_ref22_Weight_l2 r) {n0_2 i_1 : Int} (h : m_ref22_Weight_l2_B  p top rec_m_ref22_Weight_l2 n0_2 i_1 = some r) : LWp Pg 97 0 i33_L2 ⟨[(0, .bad), (1, .int .i64 top), (2, .ptr 0 0), (4, .bad), (5, .int .i64 n0_2), (6, .bad), (7, .int .i64 i_1), (8, .bad), (9, .bad), (22, .bad), (44, .bad), (83, .bad)], [], [(0, .box [.int .i64 p.Next, sl TMail.c p.Mails, sl TSub.c p.Subs])], 1⟩ (blockQ 2 (seqQ Pg 97 0 (.seq (.reg none i33_R15) .ret) (qf_33 r))) := by
  unfold m_ref22_Weight_l2_B at h
  refine LWp.stepC i33_L2.eq_1 ?_
  refine Wp.seq (Wp.seq ?_)
  replace h := ifS h; rcases h with ⟨g4, h⟩ | ⟨g4, h⟩
  · refine regP (seqN ?_)
    exact jumpK [] (w_m_ref22_Weight_k3 hrec_m_ref22_Weight_l2 h)
  · refine regP (seqN ?_)
    exact jumpK [] (w_m_ref22_Weight_k3 hrec_m_ref22_Weight_l2 h)
theorem w_m_ref22_Weight_l2 {p : TPost} {top : Int} {r : Int}   : ∀ (n : Nat), H_m_ref22_Weight_l2 p top (m_ref22_Weight_l2  p top n) r := by
  intro n
  induction n with
  | zero => intro n0_2 i_1 h; unfold m_ref22_Weight_l2 at h; cases h
  | succ n ih => intro n0_2 i_1 h; unfold m_ref22_Weight_l2 at h; exact w_m_ref22_Weight_l2_B  ih h
theorem w_m_ref22_Weight_k2 {p : TPost} {top n0_1 : Int} {r : Int}   (h : m_ref22_Weight_k2 p top n0_1 = some r) : Wp Pg 97 0 (.seq (.seq (.reg none i33_R6) (.block 2 (.loop i33_L2))) (.seq (.reg none i33_R15) .ret)) ⟨[(0, .bad), (1, .int .i64 top), (2, .ptr 0 0), (4, .bad), (5, .int .i64 n0_1), (6, .bad), (7, .bad), (8, .bad), (9, .bad), (22, .bad), (44, .bad), (83, .bad)], [], [(0, .box [.int .i64 p.Next, sl TMail.c p.Mails, sl TSub.c p.Subs])], 1⟩ (qf_33 r) := by
  unfold m_ref22_Weight_k2 at h
  refine Wp.seq (Wp.seq (regP (seqN (Wp.block (Wp.loop ?_)))))
  exact jumpL [] (w_m_ref22_Weight_l2 _ h)
theorem w_m_ref22_Weight_k1 {p : TPost} {top n0 i : Int} {v22 : Bool} {r : Int} {rec_m_ref22_Weight_l1 : Int → Int → Option Int} (hrec_m_ref22_Weight_l1 : H_m_ref22_Weight_l1 p top rec_m_ref22_Weight_l1 r) (h : m_ref22_Weight_k1 rec_m_ref22_Weight_l1 p top n0 i v22 = some r) : Wp Pg 97 0 (.cond (.t 22) .skip (.out 0)) ⟨[(0, .bad), (1, .int .i64 top), (2, .ptr 0 0), (4, .bad), (5, .int .i64 n0), (6, .int .i64 i), (7, .bad), (8, .bad), (9, .bad), (22, .bool v22), (44, .bad), (83, .bad)], [], [(0, .box [.int .i64 p.Next, sl TMail.c p.Mails, sl TSub.c p.Subs])], 1⟩ (seqQ Pg 97 0 (.seq (.block 1 (.reg none i33_R4)) (.reg none i33_R5)) (loopQ Pg 97 0 i33_L0 (blockQ 0 (seqQ Pg 97 0 (.seq (.seq (.reg none i33_R6) (.block 2 (.loop i33_L2))) (.seq (.reg none i33_R15) .ret)) (qf_33 r))))) := by
  unfold m_ref22_Weight_k1 at h
  replace h := ifS h; rcases h with ⟨g2, h⟩ | ⟨g2, h⟩
  · refine condTP (Wp.skip (seqN (Wp.seq (Wp.block ?_))))
    replace h := bndS h; obtain ⟨e, g3, h⟩ := h
    refine regP (blockN (seqN ?_))
    refine regP (loopN ?_)
    exact jumpL [.kill [22]] (hrec_m_ref22_Weight_l1 h)
  · refine condFP (Wp.out (seqO (loopO (blockO (seqN ?_)))))
    exact jumpK [.kill [6, 22]] (w_m_ref22_Weight_k2 h)
theorem w_m_ref22_Weight_l1_B {p : TPost} {top : Int} {r : Int}   {rec_m_ref22_Weight_l1 : Int → Int → Option Int} (hrec_m_ref22_Weight_l1 : H_m_ref22_Weight_l1 p top rec_m_ref22_Weight_l1 r) {n0 i : Int} (h : m_ref22_Weight_l1_B  p top rec_m_ref22_Weight_l1 n0 i = some r) : LWp Pg 97 0 i33_L0 ⟨[(0, .bad), (1, .int .i64 top), (2, .ptr 0 0), (4, .bad), (5, .int .i64 n0), (6, .int .i64 i), (7, .bad), (8, .bad), (9, .bad), (22, .bad), (44, .bad), (83, .bad)], [], [(0, .box [.int .i64 p.Next, sl TMail.c p.Mails, sl TSub.c p.Subs])], 1⟩ (blockQ 0 (seqQ Pg 97 0 (.seq (.seq (.reg none i33_R6) (.block 2 (.loop i33_L2))) (.seq (.reg none i33_R15) .ret)) (qf_33 r))) := by
  unfold m_ref22_Weight_l1_B at h
  refine LWp.stepC i33_L0.eq_1 ?_
  refine Wp.seq (Wp.seq ?_)
  replace h := ifS h; rcases h with ⟨g1, h⟩ | ⟨g1, h⟩
  · refine regP (seqN ?_)
    exact jumpK [] (w_m_ref22_Weight_k1 hrec_m_ref22_Weight_l1 h)
  · refine regP (seqN ?_)
    exact jumpK [] (w_m_ref22_Weight_k1 hrec_m_ref22_Weight_l1 h)
theorem w_m_ref22_Weight_l1 {p : TPost} {top : Int} {r : Int}   : ∀ (n : Nat), H_m_ref22_Weight_l1 p top (m_ref22_Weight_l1  p top n) r := by
  intro n
  induction n with
  | zero => intro n0 i h; unfold m_ref22_Weight_l1 at h; cases h
  | succ n ih => intro n0 i h; unfold m_ref22_Weight_l1 at h; exact w_m_ref22_Weight_l1_B  ih h
theorem w_m_ref22_Weight {p : TPost} {top : Int} {r : Int}   (h : m_ref22_Weight p top = some r) : Spec Pg 33 [.agg [.int .i64 p.Next, sl TMail.c p.Mails, sl TSub.c p.Subs], .int .i64 top] [] 0 (.int .i64 r) [] 0 := by
  refine Spec.intro Try.func33 i33_ok (le_of_ble rfl) ?_
  show Wp Pg 97 0 i33_B ⟨argEnv _ i33_V, [], _, _⟩ (qf_33 r)
  unfold m_ref22_Weight at h
  unfold i33_B
  refine weakP [] ?_
  refine Wp.seq (regP (seqN (Wp.seq ?_)))
  refine regP (seqN (Wp.seq (Wp.seq ?_)))
  refine regP (seqN (Wp.block (Wp.loop ?_)))
  exact jumpL [.kill [0, 4, 7, 8, 9, 22, 44, 83]] (w_m_ref22_Weight_l1 _ h)
/-! funicular/funicularlaw22.light -/
noncomputable abbrev qf_8 (r : Bool) : Ex → St → Prop := FinQ 0 [.tmp 2] (.bool r) [] 0
theorem w_m_law22_light {p : TPost} {r : Bool}   (h : m_law22_light p = some r) : Spec Pg 8 [.agg [.int .i64 p.Next, sl TMail.c p.Mails, sl TSub.c p.Subs]] [] 0 (.bool r) [] 0 := by
  refine Spec.intro Try.func8 i8_ok (le_of_ble rfl) ?_
  show Wp Pg 6 0 i8_B ⟨argEnv _ i8_V, [], _, _⟩ (qf_8 r)
  unfold m_law22_light at h
  unfold i8_B
  refine weakP [] ?_
  refine Wp.seq (regP (seqN (Wp.seq (Wp.reg ?_))))
  replace h := bndS h; obtain ⟨r0, g1, h⟩ := h
  replace h := retS h; subst h
  refine chunkT 2 (tab_cons (w_m_ref22_Weight g1) (tab_nil _)) ?_
  refine lastT (tab_nil _) (seqN (Wp.ret ?_))
  exact finP
/-! funicular/funicularlaw22.may -/
noncomputable abbrev qf_15 (r : Bool) : Ex → St → Prop := FinQ 0 [.tmp 2] (.bool r) [] 0
theorem w_m_law22_may {p : TPost} {r : Bool}   (h : m_law22_may p = some r) : Spec Pg 15 [.agg [.int .i64 p.Next, sl TMail.c p.Mails, sl TSub.c p.Subs]] [] 0 (.bool r) [] 0 := by
  refine Spec.intro Try.func15 i15_ok (le_of_ble rfl) ?_
  show Wp Pg 10 0 i15_B ⟨argEnv _ i15_V, [], _, _⟩ (qf_15 r)
  unfold m_law22_may at h
  unfold i15_B
  refine weakP [] ?_
  refine Wp.seq (regP (seqN (Wp.seq (Wp.reg ?_))))
  replace h := bndS h; obtain ⟨r0, g1, h⟩ := h
  refine chunkT 2 (tab_cons (w_m_law22_light g1) (tab_nil _)) ?_
  replace h := ifS h; rcases h with ⟨g2, h⟩ | ⟨g2, h⟩
  · replace h := bndS h; obtain ⟨r0_1, g3, h⟩ := h
    replace h := retS h; subst h
    refine chunkT 3 (tab_cons (w_m_ref22_Check g3) (tab_nil _)) ?_
    refine lastT (tab_nil _) (seqN (Wp.ret ?_))
    exact finP
  · replace h := retS h; subst h
    refine lastT (tab_nil _) (seqN (Wp.ret ?_))
    exact finP
/-! funicular/post.Publish$1 -/
noncomputable abbrev qf_54 (r : (TPost × Int × (List THit) × Int)) : Ex → St → Prop := FinQ 0 [.cell 2 true 3, .tmp 3, .tmp 4, .tmp 5] (.tup [.agg [.int .i64 r.1.Next, sl TMail.c r.1.Mails, sl TSub.c r.1.Subs], .int .i64 r.2.1, sl THit.c r.2.2.1, .int .i64 r.2.2.2]) [] 0
theorem w_m_post_Publish_1 {e : Int} {r : (TPost × Int × (List THit) × Int)}   (h : m_post_Publish_1 e = some r) : Spec Pg 54 [.int .i64 e] [] 0 (.tup [.agg [.int .i64 r.1.Next, sl TMail.c r.1.Mails, sl TSub.c r.1.Subs], .int .i64 r.2.1, sl THit.c r.2.2.1, .int .i64 r.2.2.2]) [] 0 := by
  refine Spec.intro Try.func54 i54_ok (le_of_ble rfl) ?_
  show Wp Pg 8 0 i54_B ⟨argEnv _ i54_V, [], _, _⟩ (qf_54 r)
  unfold m_post_Publish_1 at h
  unfold i54_B
  refine weakP [] ?_
  replace h := retS h; subst h
  refine Wp.seq (regP (seqN (Wp.seq ?_)))
  refine regP (seqN ?_)
  refine weakP [.cell 2 1 .frz, .cell 2 2 .frz, .at 4 .frz] (Wp.ret ?_)
  exact finP
/-! funicular/pack.Name -/
noncomputable abbrev qf_55 (r : Bool) : Ex → St → Prop := FinQ 0 [.tmp 2] (.bool r) [] 0
noncomputable abbrev H_m_pack_Name_l1 (s : ByteArray) (rec0 : Int → Option Bool) (r : Bool) : Prop := ∀ {v9 : Int}, rec0 v9 = some r → LWp Pg 43 0 i55_L0 ⟨[(0, .str s), (2, .bad), (3, .bad), (4, .bad), (5, .bad), (7, sl (ci .u8) (bytesI s)), (8, .int .i64 ((bytesI s).length : Int)), (9, .int .i64 v9), (10, .bad), (33, .bad)], [], [], 0⟩ (blockQ 0 (seqQ Pg 43 0 (.seq (.reg none i55_R8) .ret) (qf_55 r)))
theorem w_m_pack_Name_k3 {s : ByteArray} {r : Bool}   (h : m_pack_Name_k3 s = some r) : Wp Pg 43 0 (.seq (.reg none i55_R8) .ret) ⟨[(0, .str s), (2, .bad), (3, .bad), (4, .bad), (5, .bad), (7, .bad), (8, .bad), (9, .bad), (10, .bad), (33, .bad)], [], [], 0⟩ (qf_55 r) := by
  unfold m_pack_Name_k3 at h
  refine Wp.seq ?_
  replace h := ifS h; rcases h with ⟨g8, h⟩ | ⟨g8, h⟩
  · replace h := retS h; subst h
    refine regP (seqN (Wp.ret ?_))
    exact finP
  · replace h := retS h; subst h
    refine regP (seqN (Wp.ret ?_))
    exact finP
theorem w_m_pack_Name_k2 {s : ByteArray} {v9 : Int} {v33 : Bool} {r : Bool} {rec_m_pack_Name_l1 : Int → Option Bool} (hrec_m_pack_Name_l1 : H_m_pack_Name_l1 s rec_m_pack_Name_l1 r) (h : m_pack_Name_k2 rec_m_pack_Name_l1 v9 v33 = some r) : Wp Pg 43 0 (.cond (.t 33) (.seq (.reg none i55_R6) .ret) .skip) ⟨[(0, .str s), (2, .bad), (3, .bad), (4, .bad), (5, .bad), (7, sl (ci .u8) (bytesI s)), (8, .int .i64 ((bytesI s).length : Int)), (9, .int .i64 v9), (10, .bad), (33, .bool v33)], [], [], 0⟩ (blockQ 1 (seqQ Pg 43 0 (.reg none i55_R7) (loopQ Pg 43 0 i55_L0 (blockQ 0 (seqQ Pg 43 0 (.seq (.reg none i55_R8) .ret) (qf_55 r)))))) := by
  unfold m_pack_Name_k2 at h
  replace h := ifS h; rcases h with ⟨g7, h⟩ | ⟨g7, h⟩
  · replace h := retS h; subst h
    refine condTP (Wp.seq ?_)
    refine regP (seqN (Wp.ret (blockR (seqR (loopR (blockR (seqR ?_)))))))
    exact finP
  · refine condFP (Wp.skip (blockN (seqN ?_)))
    refine regP (loopN ?_)
    exact jumpL [.kill [33]] (hrec_m_pack_Name_l1 h)
theorem w_m_pack_Name_k1 {s : ByteArray} {v9 e : Int} {letter : Bool} {r : Bool} {rec_m_pack_Name_l1 : Int → Option Bool} (hrec_m_pack_Name_l1 : H_m_pack_Name_l1 s rec_m_pack_Name_l1 r) (h : m_pack_Name_k1 rec_m_pack_Name_l1 v9 e letter = some r) : Wp Pg 43 0 (.seq (.reg none i55_R5) (.cond (.t 33) (.seq (.reg none i55_R6) .ret) .skip)) ⟨[(0, .str s), (2, .bad), (3, .int .i64 v9), (4, .int .u8 e), (5, .bool letter), (7, sl (ci .u8) (bytesI s)), (8, .int .i64 ((bytesI s).length : Int)), (9, .int .i64 v9), (10, .bad), (33, .bad)], [], [], 0⟩ (blockQ 1 (seqQ Pg 43 0 (.reg none i55_R7) (loopQ Pg 43 0 i55_L0 (blockQ 0 (seqQ Pg 43 0 (.seq (.reg none i55_R8) .ret) (qf_55 r)))))) := by
  unfold m_pack_Name_k1 at h
  refine Wp.seq ?_
  replace h := ifS h; rcases h with ⟨g4, h⟩ | ⟨g4, h⟩
  · refine regP (seqN ?_)
    exact jumpK [.kill [3, 4, 5]] (w_m_pack_Name_k2 (s := s) hrec_m_pack_Name_l1 h)
  · replace h := ifS h; rcases h with ⟨g5, h⟩ | ⟨g5, h⟩
    · refine regP (seqN ?_)
      exact jumpK [.kill [3, 4, 5]] (w_m_pack_Name_k2 (s := s) hrec_m_pack_Name_l1 h)
    · replace h := ifS h; rcases h with ⟨g6, h⟩ | ⟨g6, h⟩
      · refine regP (seqN ?_)
        exact jumpK [.kill [3, 4, 5]] (w_m_pack_Name_k2 (s := s) hrec_m_pack_Name_l1 h)
      · refine regP (seqN ?_)
        exact jumpK [.kill [3, 4, 5]] (w_m_pack_Name_k2 (s := s) hrec_m_pack_Name_l1 h)
theorem w_m_pack_Name_l1_B {s : ByteArray} {r : Bool}   {rec_m_pack_Name_l1 : Int → Option Bool} (hrec_m_pack_Name_l1 : H_m_pack_Name_l1 s rec_m_pack_Name_l1 r) {v9 : Int} (h : m_pack_Name_l1_B  s rec_m_pack_Name_l1 v9 = some r) : LWp Pg 43 0 i55_L0 ⟨[(0, .str s), (2, .bad), (3, .bad), (4, .bad), (5, .bad), (7, sl (ci .u8) (bytesI s)), (8, .int .i64 ((bytesI s).length : Int)), (9, .int .i64 v9), (10, .bad), (33, .bad)], [], [], 0⟩ (blockQ 0 (seqQ Pg 43 0 (.seq (.reg none i55_R8) .ret) (qf_55 r))) := by
  unfold m_pack_Name_l1_B at h
  refine LWp.stepC i55_L0.eq_1 ?_
  refine Wp.seq (regP (seqN (Wp.seq ?_)))
  replace h := ifS h; rcases h with ⟨g1, h⟩ | ⟨g1, h⟩
  · refine condTP (Wp.skip (seqN (Wp.seq (Wp.block (Wp.seq ?_)))))
    replace h := bndS h; obtain ⟨e, g2, h⟩ := h
    refine regP (seqN (Wp.seq ?_))
    replace h := ifS h; rcases h with ⟨g3, h⟩ | ⟨g3, h⟩
    · refine regP (seqN ?_)
      exact jumpK [.kill [10]] (w_m_pack_Name_k1 (s := s) hrec_m_pack_Name_l1 h)
    · refine regP (seqN ?_)
      exact jumpK [.kill [10]] (w_m_pack_Name_k1 (s := s) hrec_m_pack_Name_l1 h)
  · refine condFP (Wp.out (seqO (loopO (blockO (seqN ?_)))))
    exact jumpK [.kill [7, 8, 9, 10]] (w_m_pack_Name_k3 h)
theorem w_m_pack_Name_l1 {s : ByteArray} {r : Bool}   : ∀ (n : Nat), H_m_pack_Name_l1 s (m_pack_Name_l1  s n) r := by
  intro n
  induction n with
  | zero => intro v9 h; unfold m_pack_Name_l1 at h; cases h
  | succ n ih => intro v9 h; unfold m_pack_Name_l1 at h; exact w_m_pack_Name_l1_B  ih h
theorem w_m_pack_Name {s : ByteArray} {r : Bool}   (h : m_pack_Name s = some r) : Spec Pg 55 [.str s] [] 0 (.bool r) [] 0 := by
  refine Spec.intro Try.func55 i55_ok (le_of_ble rfl) ?_
  show Wp Pg 43 0 i55_B ⟨argEnv _ i55_V, [], _, _⟩ (qf_55 r)
  unfold m_pack_Name at h
  unfold i55_B
  refine weakP [] ?_
  refine Wp.seq (regP (seqN (Wp.seq (Wp.seq ?_))))
  refine regP (seqN (Wp.block (Wp.loop ?_)))
  exact jumpL [.kill [2, 3, 4, 5, 10, 33], .tidy] (w_m_pack_Name_l1 _ h)
/-! funicular/vars.Check -/
noncomputable abbrev qf_56 (r : Int) : Ex → St → Prop := FinQ 0 [.tmp 2] (.int .i64 r) [] 0
noncomputable abbrev H_m_vars_Check_l1 (v : TVars) (rec0 : Int → Option Int) (r : Int) : Prop := ∀ {v21 : Int}, rec0 v21 = some r → LWp Pg 50 0 i56_L0 ⟨[(0, .bad), (1, .ptr 0 0), (2, .bad), (3, .bad), (4, .bad), (5, .bad), (13, .bad), (19, sl cs v.Names), (20, .int .i64 (v.Names.length : Int)), (21, .int .i64 v21), (22, .bad), (36, .bad), (48, .bad)], [], [(0, .box [sl cs v.Names, sl (ci .i64) v.Vals])], 1⟩ (blockQ 1 (seqQ Pg 50 0 (.seq (.reg none i56_R13) .ret) (qf_56 r)))
theorem w_m_vars_Check_k2 {v : TVars} {v21 : Int} {v48 : Bool} {r : Int} {rec_m_vars_Check_l1 : Int → Option Int} (hrec_m_vars_Check_l1 : H_m_vars_Check_l1 v rec_m_vars_Check_l1 r) (h : m_vars_Check_k2 rec_m_vars_Check_l1 v21 v48 = some r) : Wp Pg 50 0 (.cond (.t 48) (.seq (.reg none i56_R11) .ret) .skip) ⟨[(0, .bad), (1, .ptr 0 0), (2, .bad), (3, .bad), (4, .bad), (5, .bad), (13, .bad), (19, sl cs v.Names), (20, .int .i64 (v.Names.length : Int)), (21, .int .i64 v21), (22, .bad), (36, .bad), (48, .bool v48)], [], [(0, .box [sl cs v.Names, sl (ci .i64) v.Vals])], 1⟩ (blockQ 2 (seqQ Pg 50 0 (.reg none i56_R12) (loopQ Pg 50 0 i56_L0 (blockQ 1 (seqQ Pg 50 0 (.seq (.reg none i56_R13) .ret) (qf_56 r)))))) := by
  unfold m_vars_Check_k2 at h
  replace h := ifS h; rcases h with ⟨g11, h⟩ | ⟨g11, h⟩
  · replace h := retS h; subst h
    refine condTP (Wp.seq ?_)
    refine regP (seqN (Wp.ret (blockR (seqR (loopR (blockR (seqR ?_)))))))
    exact finP
  · refine condFP (Wp.skip (blockN (seqN ?_)))
    refine regP (loopN ?_)
    exact jumpL [.kill [48]] (hrec_m_vars_Check_l1 h)
theorem w_m_vars_Check_k1 {v : TVars} {v21 : Int} {e : ByteArray} {v36 : Bool} {r : Int} {rec_m_vars_Check_l1 : Int → Option Int} (hrec_m_vars_Check_l1 : H_m_vars_Check_l1 v rec_m_vars_Check_l1 r) (h : m_vars_Check_k1 rec_m_vars_Check_l1 v v21 e v36 = some r) : Wp Pg 50 0 (.cond (.t 36) (.seq (.reg none i56_R9) .ret) .skip) ⟨[(0, .bad), (1, .ptr 0 0), (2, .bad), (3, .int .i64 v21), (4, .str e), (5, .bad), (13, .bad), (19, sl cs v.Names), (20, .int .i64 (v.Names.length : Int)), (21, .int .i64 v21), (22, .bad), (36, .bool v36), (48, .bad)], [], [(0, .box [sl cs v.Names, sl (ci .i64) v.Vals])], 1⟩ (seqQ Pg 50 0 (.seq (.reg none i56_R10) (.cond (.t 48) (.seq (.reg none i56_R11) .ret) .skip)) (blockQ 2 (seqQ Pg 50 0 (.reg none i56_R12) (loopQ Pg 50 0 i56_L0 (blockQ 1 (seqQ Pg 50 0 (.seq (.reg none i56_R13) .ret) (qf_56 r))))))) := by
  unfold m_vars_Check_k1 at h
  replace h := ifS h; rcases h with ⟨g8, h⟩ | ⟨g8, h⟩
  · replace h := retS h; subst h
    refine condTP (Wp.seq ?_)
    refine regP (seqN (Wp.ret (seqR (blockR (seqR (loopR (blockR (seqR ?_))))))))
    exact finP
  · refine condFP (Wp.skip (seqN (Wp.seq ?_)))
    replace h := ifS h; rcases h with ⟨g9, h⟩ | ⟨g9, h⟩
    · replace h := bndS h; obtain ⟨e_1, g10, h⟩ := h
      refine regP (seqN ?_)
      exact jumpK [.kill [3, 4, 36]] (w_m_vars_Check_k2 (v := v) hrec_m_vars_Check_l1 h)
    · refine regP (seqN ?_)
      exact jumpK [.kill [3, 4, 36]] (w_m_vars_Check_k2 (v := v) hrec_m_vars_Check_l1 h)
theorem w_m_vars_Check_l1_B {v : TVars} {r : Int}   {rec_m_vars_Check_l1 : Int → Option Int} (hrec_m_vars_Check_l1 : H_m_vars_Check_l1 v rec_m_vars_Check_l1 r) {v21 : Int} (h : m_vars_Check_l1_B  v rec_m_vars_Check_l1 v21 = some r) : LWp Pg 50 0 i56_L0 ⟨[(0, .bad), (1, .ptr 0 0), (2, .bad), (3, .bad), (4, .bad), (5, .bad), (13, .bad), (19, sl cs v.Names), (20, .int .i64 (v.Names.length : Int)), (21, .int .i64 v21), (22, .bad), (36, .bad), (48, .bad)], [], [(0, .box [sl cs v.Names, sl (ci .i64) v.Vals])], 1⟩ (blockQ 1 (seqQ Pg 50 0 (.seq (.reg none i56_R13) .ret) (qf_56 r))) := by
  unfold m_vars_Check_l1_B at h
  refine LWp.stepC i56_L0.eq_1 ?_
  refine Wp.seq (regP (seqN (Wp.seq ?_)))
  replace h := ifS h; rcases h with ⟨g3, h⟩ | ⟨g3, h⟩
  · refine condTP (Wp.skip (seqN (Wp.seq (Wp.block (Wp.seq ?_)))))
    replace h := bndS h; obtain ⟨e, g4, h⟩ := h
    refine regP (seqN (Wp.seq (Wp.seq (Wp.reg ?_))))
    replace h := bndS h; obtain ⟨r0, g5, h⟩ := h
    refine chunkT 2 (tab_cons (w_m_pack_Name g5) (tab_nil _)) ?_
    replace h := ifS h; rcases h with ⟨g6, h⟩ | ⟨g6, h⟩
    · replace h := ifS h; rcases h with ⟨g7, h⟩ | ⟨g7, h⟩
      · refine lastT (tab_nil _) (seqN ?_)
        exact jumpK [.kill [22]] (w_m_vars_Check_k1 hrec_m_vars_Check_l1 h)
      · refine lastT (tab_nil _) (seqN ?_)
        exact jumpK [.kill [22]] (w_m_vars_Check_k1 hrec_m_vars_Check_l1 h)
    · refine lastT (tab_nil _) (seqN ?_)
      exact jumpK [.kill [22]] (w_m_vars_Check_k1 hrec_m_vars_Check_l1 h)
  · replace h := retS h; subst h
    refine condFP (Wp.out (seqO (loopO (blockO (seqN (Wp.seq ?_))))))
    refine regP (seqN (Wp.ret ?_))
    exact finP
theorem w_m_vars_Check_l1 {v : TVars} {r : Int}   : ∀ (n : Nat), H_m_vars_Check_l1 v (m_vars_Check_l1  v n) r := by
  intro n
  induction n with
  | zero => intro v21 h; unfold m_vars_Check_l1 at h; cases h
  | succ n ih => intro v21 h; unfold m_vars_Check_l1 at h; exact w_m_vars_Check_l1_B  ih h
theorem w_m_vars_Check {v : TVars} {r : Int}   (h : m_vars_Check v = some r) : Spec Pg 56 [.agg [sl cs v.Names, sl (ci .i64) v.Vals]] [] 0 (.int .i64 r) [] 0 := by
  refine Spec.intro Try.func56 i56_ok (le_of_ble rfl) ?_
  show Wp Pg 50 0 i56_B ⟨argEnv _ i56_V, [], _, _⟩ (qf_56 r)
  unfold m_vars_Check at h
  unfold i56_B
  refine weakP [] ?_
  refine Wp.seq (regP (seqN (Wp.seq (Wp.block (Wp.seq ?_)))))
  refine regP (seqN ?_)
  replace h := ifS h; rcases h with ⟨g1, h⟩ | ⟨g1, h⟩
  · replace h := retS h; subst h
    refine condTP (Wp.seq ?_)
    refine regP (seqN (Wp.ret (blockR (seqR ?_))))
    exact finP
  · refine condFP (Wp.seq ?_)
    refine regP (seqN ?_)
    replace h := ifS h; rcases h with ⟨g2, h⟩ | ⟨g2, h⟩
    · replace h := retS h; subst h
      refine condTP (Wp.seq ?_)
      refine regP (seqN (Wp.ret (blockR (seqR ?_))))
      exact finP
    · refine condFP (Wp.skip (blockN (seqN (Wp.seq (Wp.seq ?_)))))
      refine regP (seqN (Wp.block (Wp.loop ?_)))
      exact jumpL [.kill [0, 2, 3, 4, 5, 13, 22, 36, 48]] (w_m_vars_Check_l1 _ h)
end Go.Proofs.Ytefjblgmnoheiaa.R
