/- The program's functions answer what the models answer: 9. -/
import Derived.Test.YtefjblgmnoheiaaMW0
import Derived.Test.YtefjblgmnoheiaaMW7
set_option maxRecDepth 100000
set_option maxHeartbeats 1600000
set_option linter.unusedVariables false
set_option linter.unusedSimpArgs false
set_option linter.defProp false
noncomputable section
namespace Go.Proofs.Ytefjblgmnoheiaa.R
open Go Nat
/-! funicular/funicularlaw22.PostMeets -/
noncomputable abbrev qf_7 (r : Bool) : Ex → St → Prop := FinQ 0 [.tmp 2] (.bool r) [] 0
noncomputable abbrev H_m_law22_PostMeets_l1 (l : (List TOp)) (rec0 : Int → Int → (List TMail) → (List TSub) → Option Bool) (r : Bool) : Prop := ∀ {i p_0 : Int} {p_1 : (List TMail)} {p_2 : (List TSub)}, rec0 i p_0 p_1 p_2 = some r → LWp Pg 107 0 i7_L3 ⟨[(0, sl TOp.c l), (2, .bad), (3, .ptr 0 0), (4, .int .i64 i), (5, .bad), (6, .bad), (7, .bad), (8, .bad), (9, .bad), (10, .bad), (13, .bad), (19, .bad), (35, .bad), (47, .bad), (59, .bad), (105, .bad)], [], [(0, .box [.int .i64 p_0, sl TMail.c p_1, sl TSub.c p_2])], 1⟩ (blockQ 0 (seqQ Pg 107 0 (.seq (.reg none i7_R23) .ret) (qf_7 r)))
noncomputable abbrev H_m_law22_PostMeets_l2 (l : (List TOp)) (i : Int) (r0_3 : (TPost × (List THit))) (rec0 : Int → Option Bool) (r : Bool) : Prop := ∀ {k : Int}, rec0 k = some r → LWp Pg 107 0 i7_L2 ⟨[(0, sl TOp.c l), (2, .bad), (3, .ptr 0 0), (4, .int .i64 i), (5, .int .i64 k), (6, .bad), (7, .bad), (8, .bad), (9, .bad), (10, .bad), (13, .bad), (19, .bad), (35, .bad), (47, .bad), (59, .bad), (105, .bad)], [], [(0, .box [.int .i64 r0_3.1.Next, sl TMail.c r0_3.1.Mails, sl TSub.c r0_3.1.Subs])], 1⟩ (blockQ 2 (blockQ 1 (seqQ Pg 107 0 (.reg none i7_R22) (loopQ Pg 107 0 i7_L3 (blockQ 0 (seqQ Pg 107 0 (.seq (.reg none i7_R23) .ret) (qf_7 r)))))))
noncomputable abbrev H_m_law22_PostMeets_l3 (l : (List TOp)) (i : Int) (r0_3 : (TPost × (List THit))) (k : Int) (e_1 : TSub) (rec0 : Int → Option Bool) (r : Bool) : Prop := ∀ {j : Int}, rec0 j = some r → LWp Pg 107 0 i7_L1 ⟨[(0, sl TOp.c l), (2, .bad), (3, .ptr 0 0), (4, .int .i64 i), (5, .int .i64 k), (6, .ptr 1 0), (7, .int .i64 j), (8, .bad), (9, .bad), (10, .bad), (13, .bad), (19, .bad), (35, .bad), (47, .bad), (59, .bad), (105, .bad)], [], (hs66 e_1 r0_3.1.Next r0_3.1.Mails r0_3.1.Subs), 2⟩ (blockQ 4 (blockQ 3 (seqQ Pg 107 0 (.reg none i7_R21) (loopQ Pg 107 0 i7_L2 (blockQ 2 (blockQ 1 (seqQ Pg 107 0 (.reg none i7_R22) (loopQ Pg 107 0 i7_L3 (blockQ 0 (seqQ Pg 107 0 (.seq (.reg none i7_R23) .ret) (qf_7 r)))))))))))
noncomputable abbrev H_m_law22_PostMeets_l4 (l : (List TOp)) (i : Int) (r0_3 : (TPost × (List THit))) (k : Int) (e_1 : TSub) (j : Int) (e_2 : TMail) (rec0 : Bool → Int → Option Bool) (r : Bool) : Prop := ∀ {taken : Bool} {a : Int}, rec0 taken a = some r → LWp Pg 107 0 i7_L0 ⟨[(0, sl TOp.c l), (2, .bad), (3, .ptr 0 0), (4, .int .i64 i), (5, .int .i64 k), (6, .ptr 1 0), (7, .int .i64 j), (8, .ptr 2 0), (9, .bool taken), (10, .int .i64 a), (13, .bad), (19, .bad), (35, .bad), (47, .bad), (59, .bad), (105, .bad)], [], (hs67 e_1 e_2 r0_3.1.Next r0_3.1.Mails r0_3.1.Subs), 3⟩ (blockQ 6 (seqQ Pg 107 0 (.seq (.reg none i7_R18) (.cond (.t 105) (.seq (.reg none i7_R19) .ret) .skip)) (blockQ 5 (seqQ Pg 107 0 (.reg none i7_R20) (loopQ Pg 107 0 i7_L1 (blockQ 4 (blockQ 3 (seqQ Pg 107 0 (.reg none i7_R21) (loopQ Pg 107 0 i7_L2 (blockQ 2 (blockQ 1 (seqQ Pg 107 0 (.reg none i7_R22) (loopQ Pg 107 0 i7_L3 (blockQ 0 (seqQ Pg 107 0 (.seq (.reg none i7_R23) .ret) (qf_7 r))))))))))))))))
theorem w_m_law22_PostMeets_k6  {r : Bool}   (h : m_law22_PostMeets_k6 = some r) : Wp Pg 107 0 (.seq (.reg none i7_R23) .ret) ⟨[(0, .bad), (2, .bad), (3, .bad), (4, .bad), (5, .bad), (6, .bad), (7, .bad), (8, .bad), (9, .bad), (10, .bad), (13, .bad), (19, .bad), (35, .bad), (47, .bad), (59, .bad), (105, .bad)], [], [], 0⟩ (qf_7 r) := by
  unfold m_law22_PostMeets_k6 at h
  refine Wp.seq (Wp.reg ?_)
  replace h := bndS h; obtain ⟨r0_4, g20, h⟩ := h
  replace h := retS h; subst h
  refine chunkT 1 (tab_cons (w_m_law22_works g20) (tab_nil _)) ?_
  refine lastT (tab_nil _) (seqN (Wp.ret ?_))
  exact finP
theorem w_m_law22_PostMeets_k5 {l : (List TOp)} {i : Int} {r0_3 : (TPost × (List THit))} {r : Bool} {rec_m_law22_PostMeets_l1 : Int → Int → (List TMail) → (List TSub) → Option Bool} (hrec_m_law22_PostMeets_l1 : H_m_law22_PostMeets_l1 l rec_m_law22_PostMeets_l1 r) (h : m_law22_PostMeets_k5 rec_m_law22_PostMeets_l1 i r0_3 = some r) : Wp Pg 107 0 (.reg none i7_R22) ⟨[(0, sl TOp.c l), (2, .bad), (3, .ptr 0 0), (4, .int .i64 i), (5, .bad), (6, .bad), (7, .bad), (8, .bad), (9, .bad), (10, .bad), (13, .bad), (19, .bad), (35, .bad), (47, .bad), (59, .bad), (105, .bad)], [], [(0, .box [.int .i64 r0_3.1.Next, sl TMail.c r0_3.1.Mails, sl TSub.c r0_3.1.Subs])], 1⟩ (loopQ Pg 107 0 i7_L3 (blockQ 0 (seqQ Pg 107 0 (.seq (.reg none i7_R23) .ret) (qf_7 r)))) := by
  unfold m_law22_PostMeets_k5 at h
  refine regP (loopN ?_)
  exact jumpL [] (hrec_m_law22_PostMeets_l1 h)
theorem w_m_law22_PostMeets_k4 {l : (List TOp)} {i : Int} {r0_3 : (TPost × (List THit))} {k : Int} {r : Bool} {rec_m_law22_PostMeets_l2 : Int → Option Bool} (hrec_m_law22_PostMeets_l2 : H_m_law22_PostMeets_l2 l i r0_3 rec_m_law22_PostMeets_l2 r) (h : m_law22_PostMeets_k4 rec_m_law22_PostMeets_l2 k = some r) : Wp Pg 107 0 (.reg none i7_R21) ⟨[(0, sl TOp.c l), (2, .bad), (3, .ptr 0 0), (4, .int .i64 i), (5, .int .i64 k), (6, .bad), (7, .bad), (8, .bad), (9, .bad), (10, .bad), (13, .bad), (19, .bad), (35, .bad), (47, .bad), (59, .bad), (105, .bad)], [], [(0, .box [.int .i64 r0_3.1.Next, sl TMail.c r0_3.1.Mails, sl TSub.c r0_3.1.Subs])], 1⟩ (loopQ Pg 107 0 i7_L2 (blockQ 2 (blockQ 1 (seqQ Pg 107 0 (.reg none i7_R22) (loopQ Pg 107 0 i7_L3 (blockQ 0 (seqQ Pg 107 0 (.seq (.reg none i7_R23) .ret) (qf_7 r)))))))) := by
  unfold m_law22_PostMeets_k4 at h
  refine regP (loopN ?_)
  exact jumpL [] (hrec_m_law22_PostMeets_l2 h)
theorem w_m_law22_PostMeets_k3 {l : (List TOp)} {i : Int} {r0_3 : (TPost × (List THit))} {k : Int} {e_1 : TSub} {j : Int} {v105 : Bool} {r : Bool} {rec_m_law22_PostMeets_l3 : Int → Option Bool} (hrec_m_law22_PostMeets_l3 : H_m_law22_PostMeets_l3 l i r0_3 k e_1 rec_m_law22_PostMeets_l3 r) (h : m_law22_PostMeets_k3 rec_m_law22_PostMeets_l3 j v105 = some r) : Wp Pg 107 0 (.cond (.t 105) (.seq (.reg none i7_R19) .ret) .skip) ⟨[(0, sl TOp.c l), (2, .bad), (3, .ptr 0 0), (4, .int .i64 i), (5, .int .i64 k), (6, .ptr 1 0), (7, .int .i64 j), (8, .bad), (9, .bad), (10, .bad), (13, .bad), (19, .bad), (35, .bad), (47, .bad), (59, .bad), (105, .bool v105)], [], (hs66 e_1 r0_3.1.Next r0_3.1.Mails r0_3.1.Subs), 2⟩ (blockQ 5 (seqQ Pg 107 0 (.reg none i7_R20) (loopQ Pg 107 0 i7_L1 (blockQ 4 (blockQ 3 (seqQ Pg 107 0 (.reg none i7_R21) (loopQ Pg 107 0 i7_L2 (blockQ 2 (blockQ 1 (seqQ Pg 107 0 (.reg none i7_R22) (loopQ Pg 107 0 i7_L3 (blockQ 0 (seqQ Pg 107 0 (.seq (.reg none i7_R23) .ret) (qf_7 r)))))))))))))) := by
  unfold m_law22_PostMeets_k3 at h
  replace h := ifS h; rcases h with ⟨g19, h⟩ | ⟨g19, h⟩
  · replace h := retS h; subst h
    refine condTP (Wp.seq ?_)
    refine regP (seqN (Wp.ret (blockR (seqR (loopR (blockR (blockR (seqR (loopR (blockR (blockR (seqR (loopR (blockR (seqR ?_)))))))))))))))
    exact finP
  · refine condFP (Wp.skip (blockN (seqN ?_)))
    refine regP (loopN ?_)
    exact jumpL [.kill [105]] (hrec_m_law22_PostMeets_l3 h)
theorem w_m_law22_PostMeets_k2 {l : (List TOp)} {i : Int} {r0_3 : (TPost × (List THit))} {k : Int} {e_1 : TSub} {j : Int} {e_2 : TMail} {taken_2 : Bool} {r : Bool} {rec_m_law22_PostMeets_l3 : Int → Option Bool} (hrec_m_law22_PostMeets_l3 : H_m_law22_PostMeets_l3 l i r0_3 k e_1 rec_m_law22_PostMeets_l3 r) (h : m_law22_PostMeets_k2 rec_m_law22_PostMeets_l3 e_1 j e_2 taken_2 = some r) : Wp Pg 107 0 (.seq (.reg none i7_R18) (.cond (.t 105) (.seq (.reg none i7_R19) .ret) .skip)) ⟨[(0, sl TOp.c l), (2, .bad), (3, .ptr 0 0), (4, .int .i64 i), (5, .int .i64 k), (6, .ptr 1 0), (7, .int .i64 j), (8, .ptr 2 0), (9, .bool taken_2), (10, .bad), (13, .bad), (19, .bad), (35, .bad), (47, .bad), (59, .bad), (105, .bad)], [], (hs67 e_1 e_2 r0_3.1.Next r0_3.1.Mails r0_3.1.Subs), 3⟩ (blockQ 5 (seqQ Pg 107 0 (.reg none i7_R20) (loopQ Pg 107 0 i7_L1 (blockQ 4 (blockQ 3 (seqQ Pg 107 0 (.reg none i7_R21) (loopQ Pg 107 0 i7_L2 (blockQ 2 (blockQ 1 (seqQ Pg 107 0 (.reg none i7_R22) (loopQ Pg 107 0 i7_L3 (blockQ 0 (seqQ Pg 107 0 (.seq (.reg none i7_R23) .ret) (qf_7 r)))))))))))))) := by
  unfold m_law22_PostMeets_k2 at h
  refine Wp.seq ?_
  replace h := ifS h; rcases h with ⟨g16, h⟩ | ⟨g16, h⟩
  · replace h := ifS h; rcases h with ⟨g17, h⟩ | ⟨g17, h⟩
    · replace h := ifS h; rcases h with ⟨g18, h⟩ | ⟨g18, h⟩
      · refine regP (seqN ?_)
        exact jumpK [.kill [8, 9], .tidy] (w_m_law22_PostMeets_k3 (l := l) (i := i) (r0_3 := r0_3) (k := k) (e_1 := e_1) hrec_m_law22_PostMeets_l3 h)
      · refine regP (seqN ?_)
        exact jumpK [.kill [8, 9], .tidy] (w_m_law22_PostMeets_k3 (l := l) (i := i) (r0_3 := r0_3) (k := k) (e_1 := e_1) hrec_m_law22_PostMeets_l3 h)
    · refine regP (seqN ?_)
      exact jumpK [.kill [8, 9], .tidy] (w_m_law22_PostMeets_k3 (l := l) (i := i) (r0_3 := r0_3) (k := k) (e_1 := e_1) hrec_m_law22_PostMeets_l3 h)
  · refine regP (seqN ?_)
    exact jumpK [.kill [8, 9], .tidy] (w_m_law22_PostMeets_k3 (l := l) (i := i) (r0_3 := r0_3) (k := k) (e_1 := e_1) hrec_m_law22_PostMeets_l3 h)
theorem w_m_law22_PostMeets_k1 {l : (List TOp)} {i : Int} {r0_3 : (TPost × (List THit))} {k : Int} {e_1 : TSub} {j : Int} {e_2 : TMail} {a : Int} {taken_1 : Bool} {r : Bool} {rec_m_law22_PostMeets_l4 : Bool → Int → Option Bool} (hrec_m_law22_PostMeets_l4 : H_m_law22_PostMeets_l4 l i r0_3 k e_1 j e_2 rec_m_law22_PostMeets_l4 r) (h : m_law22_PostMeets_k1 rec_m_law22_PostMeets_l4 a taken_1 = some r) : Wp Pg 107 0 (.reg none i7_R17) ⟨[(0, sl TOp.c l), (2, .bad), (3, .ptr 0 0), (4, .int .i64 i), (5, .int .i64 k), (6, .ptr 1 0), (7, .int .i64 j), (8, .ptr 2 0), (9, .bool taken_1), (10, .int .i64 a), (13, .bad), (19, .bad), (35, .bad), (47, .bad), (59, .bad), (105, .bad)], [], (hs67 e_1 e_2 r0_3.1.Next r0_3.1.Mails r0_3.1.Subs), 3⟩ (loopQ Pg 107 0 i7_L0 (blockQ 6 (seqQ Pg 107 0 (.seq (.reg none i7_R18) (.cond (.t 105) (.seq (.reg none i7_R19) .ret) .skip)) (blockQ 5 (seqQ Pg 107 0 (.reg none i7_R20) (loopQ Pg 107 0 i7_L1 (blockQ 4 (blockQ 3 (seqQ Pg 107 0 (.reg none i7_R21) (loopQ Pg 107 0 i7_L2 (blockQ 2 (blockQ 1 (seqQ Pg 107 0 (.reg none i7_R22) (loopQ Pg 107 0 i7_L3 (blockQ 0 (seqQ Pg 107 0 (.seq (.reg none i7_R23) .ret) (qf_7 r))))))))))))))))) := by
  unfold m_law22_PostMeets_k1 at h
  refine regP (loopN ?_)
  exact jumpL [] (hrec_m_law22_PostMeets_l4 h)
theorem w_m_law22_PostMeets_l4_B {l : (List TOp)} {i : Int} {r0_3 : (TPost × (List THit))} {k : Int} {e_1 : TSub} {j : Int} {e_2 : TMail} {r : Bool} {rec_m_law22_PostMeets_l3 : Int → Option Bool} (hrec_m_law22_PostMeets_l3 : H_m_law22_PostMeets_l3 l i r0_3 k e_1 rec_m_law22_PostMeets_l3 r) {rec_m_law22_PostMeets_l4 : Bool → Int → Option Bool} (hrec_m_law22_PostMeets_l4 : H_m_law22_PostMeets_l4 l i r0_3 k e_1 j e_2 rec_m_law22_PostMeets_l4 r) {taken : Bool} {a : Int} (h : m_law22_PostMeets_l4_B rec_m_law22_PostMeets_l3 e_1 j e_2 rec_m_law22_PostMeets_l4 taken a = some r) : LWp Pg 107 0 i7_L0 ⟨[(0, sl TOp.c l), (2, .bad), (3, .ptr 0 0), (4, .int .i64 i), (5, .int .i64 k), (6, .ptr 1 0), (7, .int .i64 j), (8, .ptr 2 0), (9, .bool taken), (10, .int .i64 a), (13, .bad), (19, .bad), (35, .bad), (47, .bad), (59, .bad), (105, .bad)], [], (hs67 e_1 e_2 r0_3.1.Next r0_3.1.Mails r0_3.1.Subs), 3⟩ (blockQ 6 (seqQ Pg 107 0 (.seq (.reg none i7_R18) (.cond (.t 105) (.seq (.reg none i7_R19) .ret) .skip)) (blockQ 5 (seqQ Pg 107 0 (.reg none i7_R20) (loopQ Pg 107 0 i7_L1 (blockQ 4 (blockQ 3 (seqQ Pg 107 0 (.reg none i7_R21) (loopQ Pg 107 0 i7_L2 (blockQ 2 (blockQ 1 (seqQ Pg 107 0 (.reg none i7_R22) (loopQ Pg 107 0 i7_L3 (blockQ 0 (seqQ Pg 107 0 (.seq (.reg none i7_R23) .ret) (qf_7 r)))))))))))))))) := by
  unfold m_law22_PostMeets_l4_B at h
  refine LWp.stepC i7_L0.eq_1 ?_
  refine Wp.seq (Wp.seq (regP (seqN ?_)))
  replace h := ifS h; rcases h with ⟨g12, h⟩ | ⟨g12, h⟩
  · refine condTP (Wp.skip (seqN (Wp.seq (Wp.block ?_))))
    replace h := ifS h; rcases h with ⟨g13, h⟩ | ⟨g13, h⟩
    · refine drawP [] mixed (clsN _) (blockN (seqN ?_))
      exact jumpK [.kill [59], .tidy] (w_m_law22_PostMeets_k1 (l := l) (i := i) (r0_3 := r0_3) (k := k) (e_1 := e_1) (j := j) (e_2 := e_2) hrec_m_law22_PostMeets_l4 h)
    · replace h := bndS h; obtain ⟨e_3, g14, h⟩ := h
      replace h := ifS h; rcases h with ⟨g15, h⟩ | ⟨g15, h⟩
      · refine drawP [] mixed (clsN _) (blockN (seqN ?_))
        exact jumpK [.kill [59], .tidy] (w_m_law22_PostMeets_k1 (l := l) (i := i) (r0_3 := r0_3) (k := k) (e_1 := e_1) (j := j) (e_2 := e_2) hrec_m_law22_PostMeets_l4 h)
      · refine drawP [] mixed (clsN _) (blockN (seqN ?_))
        exact jumpK [.kill [59], .tidy] (w_m_law22_PostMeets_k1 (l := l) (i := i) (r0_3 := r0_3) (k := k) (e_1 := e_1) (j := j) (e_2 := e_2) hrec_m_law22_PostMeets_l4 h)
  · refine condFP (Wp.out (seqO (loopO (blockO (seqN ?_)))))
    exact jumpK [.kill [10, 59]] (w_m_law22_PostMeets_k2 (l := l) (i := i) (r0_3 := r0_3) (k := k) hrec_m_law22_PostMeets_l3 h)
theorem w_m_law22_PostMeets_l4 {l : (List TOp)} {i : Int} {r0_3 : (TPost × (List THit))} {k : Int} {e_1 : TSub} {j : Int} {e_2 : TMail} {r : Bool} {rec_m_law22_PostMeets_l3 : Int → Option Bool} (hrec_m_law22_PostMeets_l3 : H_m_law22_PostMeets_l3 l i r0_3 k e_1 rec_m_law22_PostMeets_l3 r) : ∀ (n : Nat), H_m_law22_PostMeets_l4 l i r0_3 k e_1 j e_2 (m_law22_PostMeets_l4 rec_m_law22_PostMeets_l3 e_1 j e_2 n) r := by
  intro n
  induction n with
  | zero => intro taken a h; unfold m_law22_PostMeets_l4 at h; cases h
  | succ n ih => intro taken a h; unfold m_law22_PostMeets_l4 at h; exact w_m_law22_PostMeets_l4_B (l := l) (i := i) (r0_3 := r0_3) (k := k) hrec_m_law22_PostMeets_l3 ih h
theorem w_m_law22_PostMeets_l3_B {l : (List TOp)} {i : Int} {r0_3 : (TPost × (List THit))} {k : Int} {e_1 : TSub} {r : Bool} {rec_m_law22_PostMeets_l2 : Int → Option Bool} (hrec_m_law22_PostMeets_l2 : H_m_law22_PostMeets_l2 l i r0_3 rec_m_law22_PostMeets_l2 r) {rec_m_law22_PostMeets_l3 : Int → Option Bool} (hrec_m_law22_PostMeets_l3 : H_m_law22_PostMeets_l3 l i r0_3 k e_1 rec_m_law22_PostMeets_l3 r) {j : Int} (h : m_law22_PostMeets_l3_B rec_m_law22_PostMeets_l2 r0_3 k e_1 rec_m_law22_PostMeets_l3 j = some r) : LWp Pg 107 0 i7_L1 ⟨[(0, sl TOp.c l), (2, .bad), (3, .ptr 0 0), (4, .int .i64 i), (5, .int .i64 k), (6, .ptr 1 0), (7, .int .i64 j), (8, .bad), (9, .bad), (10, .bad), (13, .bad), (19, .bad), (35, .bad), (47, .bad), (59, .bad), (105, .bad)], [], (hs66 e_1 r0_3.1.Next r0_3.1.Mails r0_3.1.Subs), 2⟩ (blockQ 4 (blockQ 3 (seqQ Pg 107 0 (.reg none i7_R21) (loopQ Pg 107 0 i7_L2 (blockQ 2 (blockQ 1 (seqQ Pg 107 0 (.reg none i7_R22) (loopQ Pg 107 0 i7_L3 (blockQ 0 (seqQ Pg 107 0 (.seq (.reg none i7_R23) .ret) (qf_7 r))))))))))) := by
  unfold m_law22_PostMeets_l3_B at h
  refine LWp.stepC i7_L1.eq_1 ?_
  refine Wp.seq (Wp.seq (regP (seqN ?_)))
  replace h := ifS h; rcases h with ⟨g10, h⟩ | ⟨g10, h⟩
  · refine condTP (Wp.skip (seqN (Wp.seq (Wp.block (Wp.seq ?_)))))
    replace h := bndS h; obtain ⟨e_2, g11, h⟩ := h
    refine regP (seqN (Wp.seq ?_))
    refine regP (seqN (Wp.seq (Wp.seq ?_)))
    refine regP (seqN (Wp.block (Wp.loop ?_)))
    exact jumpL [.kill [47], .tidy] (w_m_law22_PostMeets_l4 (l := l) (i := i) (r0_3 := r0_3) (k := k) hrec_m_law22_PostMeets_l3 _ h)
  · refine condFP (Wp.out (seqO (loopO (blockO (blockN (seqN ?_))))))
    exact jumpK [.kill [6, 7, 47], .tidy] (w_m_law22_PostMeets_k4 (l := l) (i := i) (r0_3 := r0_3) hrec_m_law22_PostMeets_l2 h)
theorem w_m_law22_PostMeets_l3 {l : (List TOp)} {i : Int} {r0_3 : (TPost × (List THit))} {k : Int} {e_1 : TSub} {r : Bool} {rec_m_law22_PostMeets_l2 : Int → Option Bool} (hrec_m_law22_PostMeets_l2 : H_m_law22_PostMeets_l2 l i r0_3 rec_m_law22_PostMeets_l2 r) : ∀ (n : Nat), H_m_law22_PostMeets_l3 l i r0_3 k e_1 (m_law22_PostMeets_l3 rec_m_law22_PostMeets_l2 r0_3 k e_1 n) r := by
  intro n
  induction n with
  | zero => intro j h; unfold m_law22_PostMeets_l3 at h; cases h
  | succ n ih => intro j h; unfold m_law22_PostMeets_l3 at h; exact w_m_law22_PostMeets_l3_B (l := l) (i := i) hrec_m_law22_PostMeets_l2 ih h
theorem w_m_law22_PostMeets_l2_B {l : (List TOp)} {i : Int} {r0_3 : (TPost × (List THit))} {r : Bool} {rec_m_law22_PostMeets_l1 : Int → Int → (List TMail) → (List TSub) → Option Bool} (hrec_m_law22_PostMeets_l1 : H_m_law22_PostMeets_l1 l rec_m_law22_PostMeets_l1 r) {rec_m_law22_PostMeets_l2 : Int → Option Bool} (hrec_m_law22_PostMeets_l2 : H_m_law22_PostMeets_l2 l i r0_3 rec_m_law22_PostMeets_l2 r) {k : Int} (h : m_law22_PostMeets_l2_B rec_m_law22_PostMeets_l1 i r0_3 rec_m_law22_PostMeets_l2 k = some r) : LWp Pg 107 0 i7_L2 ⟨[(0, sl TOp.c l), (2, .bad), (3, .ptr 0 0), (4, .int .i64 i), (5, .int .i64 k), (6, .bad), (7, .bad), (8, .bad), (9, .bad), (10, .bad), (13, .bad), (19, .bad), (35, .bad), (47, .bad), (59, .bad), (105, .bad)], [], [(0, .box [.int .i64 r0_3.1.Next, sl TMail.c r0_3.1.Mails, sl TSub.c r0_3.1.Subs])], 1⟩ (blockQ 2 (blockQ 1 (seqQ Pg 107 0 (.reg none i7_R22) (loopQ Pg 107 0 i7_L3 (blockQ 0 (seqQ Pg 107 0 (.seq (.reg none i7_R23) .ret) (qf_7 r))))))) := by
  unfold m_law22_PostMeets_l2_B at h
  refine LWp.stepC i7_L2.eq_1 ?_
  refine Wp.seq (Wp.seq (regP (seqN ?_)))
  replace h := ifS h; rcases h with ⟨g8, h⟩ | ⟨g8, h⟩
  · refine condTP (Wp.skip (seqN (Wp.seq (Wp.block (Wp.seq ?_)))))
    replace h := bndS h; obtain ⟨e_1, g9, h⟩ := h
    refine regP (seqN (Wp.seq ?_))
    refine regP (seqN (Wp.block (Wp.loop ?_)))
    exact jumpL [.kill [35], .tidy] (w_m_law22_PostMeets_l3 (l := l) (i := i) hrec_m_law22_PostMeets_l2 _ h)
  · refine condFP (Wp.out (seqO (loopO (blockO (blockN (seqN ?_))))))
    exact jumpK [.kill [5, 35]] (w_m_law22_PostMeets_k5 (l := l) hrec_m_law22_PostMeets_l1 h)
theorem w_m_law22_PostMeets_l2 {l : (List TOp)} {i : Int} {r0_3 : (TPost × (List THit))} {r : Bool} {rec_m_law22_PostMeets_l1 : Int → Int → (List TMail) → (List TSub) → Option Bool} (hrec_m_law22_PostMeets_l1 : H_m_law22_PostMeets_l1 l rec_m_law22_PostMeets_l1 r) : ∀ (n : Nat), H_m_law22_PostMeets_l2 l i r0_3 (m_law22_PostMeets_l2 rec_m_law22_PostMeets_l1 i r0_3 n) r := by
  intro n
  induction n with
  | zero => intro k h; unfold m_law22_PostMeets_l2 at h; cases h
  | succ n ih => intro k h; unfold m_law22_PostMeets_l2 at h; exact w_m_law22_PostMeets_l2_B (l := l) hrec_m_law22_PostMeets_l1 ih h
theorem w_m_law22_PostMeets_l1_B {l : (List TOp)} {r : Bool}   {rec_m_law22_PostMeets_l1 : Int → Int → (List TMail) → (List TSub) → Option Bool} (hrec_m_law22_PostMeets_l1 : H_m_law22_PostMeets_l1 l rec_m_law22_PostMeets_l1 r) {i p_0 : Int} {p_1 : (List TMail)} {p_2 : (List TSub)} (h : m_law22_PostMeets_l1_B  l rec_m_law22_PostMeets_l1 i p_0 p_1 p_2 = some r) : LWp Pg 107 0 i7_L3 ⟨[(0, sl TOp.c l), (2, .bad), (3, .ptr 0 0), (4, .int .i64 i), (5, .bad), (6, .bad), (7, .bad), (8, .bad), (9, .bad), (10, .bad), (13, .bad), (19, .bad), (35, .bad), (47, .bad), (59, .bad), (105, .bad)], [], [(0, .box [.int .i64 p_0, sl TMail.c p_1, sl TSub.c p_2])], 1⟩ (blockQ 0 (seqQ Pg 107 0 (.seq (.reg none i7_R23) .ret) (qf_7 r))) := by
  unfold m_law22_PostMeets_l1_B at h
  refine LWp.stepC i7_L3.eq_1 ?_
  refine Wp.seq (Wp.seq (regP (seqN ?_)))
  replace h := ifS h; rcases h with ⟨g5, h⟩ | ⟨g5, h⟩
  · refine condTP (Wp.skip (seqN (Wp.seq (Wp.block (Wp.seq ?_)))))
    replace h := bndS h; obtain ⟨e, g6, h⟩ := h
    replace h := bndS h; obtain ⟨r0_3, g7, h⟩ := h
    refine drawP [] mixed (clsC 5 (tab_cons (w_m_law22_step g7) (tab_nil _)) (clsN _)) (seqN (Wp.seq ?_))
    refine regP (seqN (Wp.block (Wp.loop ?_)))
    exact jumpL [.kill [19], .tidy] (w_m_law22_PostMeets_l2 (l := l) hrec_m_law22_PostMeets_l1 _ h)
  · refine condFP (Wp.out (seqO (loopO (blockO (seqN ?_)))))
    exact jumpK [.kill [0, 3, 4, 19], .tidy] (w_m_law22_PostMeets_k6 h)
theorem w_m_law22_PostMeets_l1 {l : (List TOp)} {r : Bool}   : ∀ (n : Nat), H_m_law22_PostMeets_l1 l (m_law22_PostMeets_l1  l n) r := by
  intro n
  induction n with
  | zero => intro i p_0 p_1 p_2 h; unfold m_law22_PostMeets_l1 at h; cases h
  | succ n ih => intro i p_0 p_1 p_2 h; unfold m_law22_PostMeets_l1 at h; exact w_m_law22_PostMeets_l1_B  ih h
theorem w_m_law22_PostMeets {l : (List TOp)} {r : Bool}   (h : m_law22_PostMeets l = some r) : Spec Pg 7 [sl TOp.c l] [] 0 (.bool r) [] 0 := by
  refine Spec.intro Try.func7 i7_ok (le_of_ble rfl) ?_
  show Wp Pg 107 0 i7_B ⟨argEnv _ i7_V, [], _, _⟩ (qf_7 r)
  unfold m_law22_PostMeets at h
  unfold i7_B
  refine weakP [] ?_
  refine Wp.seq (regP (seqN (Wp.seq (Wp.seq (Wp.reg ?_)))))
  replace h := bndS h; obtain ⟨r0, g1, h⟩ := h
  refine chunkT 2 (tab_cons (w_m_law22_lightOps g1) (tab_nil _)) ?_
  refine lastT (tab_nil _) (seqN ?_)
  replace h := ifS h; rcases h with ⟨g2, h⟩ | ⟨g2, h⟩
  · refine condFP (Wp.skip (seqN (Wp.seq (Wp.reg ?_))))
    replace h := bndS h; obtain ⟨r0_2, g4, h⟩ := h
    refine chunkT 1 (tab_cons (w_m_post_New g4) (tab_nil _)) ?_
    refine lastT (tab_nil _) (seqN (Wp.seq (Wp.seq ?_)))
    refine regP (seqN (Wp.block (Wp.loop ?_)))
    exact jumpL [.kill [2, 5, 6, 7, 8, 9, 10, 13, 19, 35, 47, 59, 105]] (w_m_law22_PostMeets_l1 _ h)
  · refine condTP (Wp.seq (Wp.reg ?_))
    replace h := bndS h; obtain ⟨r0_1, g3, h⟩ := h
    replace h := retS h; subst h
    refine chunkT 1 (tab_cons (w_m_law22_works g3) (tab_nil _)) ?_
    refine lastT (tab_nil _) (seqN (Wp.ret (seqR ?_)))
    exact finP
end Go.Proofs.Ytefjblgmnoheiaa.R
