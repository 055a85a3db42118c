/- The program's functions answer what the models answer: 8. -/
import Derived.Test.YtefjblgmnoheiaaMW0
import Derived.Test.YtefjblgmnoheiaaMW2
import Derived.Test.YtefjblgmnoheiaaMW6
import Derived.Test.YtefjblgmnoheiaaMW7
set_option maxRecDepth 100000
set_option maxHeartbeats 1600000
set_option linter.unusedVariables false
set_option linter.unusedSimpArgs false
set_option linter.defProp false
noncomputable section
namespace Go.Proofs.Ytefjblgmnoheiaa.R
open Go Nat
/-! funicular/funicularlaw22.PostOnce -/
noncomputable abbrev qf_6 (r : Bool) : Ex → St → Prop := FinQ 0 [.tmp 2] (.bool r) [] 0
noncomputable abbrev H_m_law22_PostOnce_l1 (l : (List TOp)) (rec0 : Int → Int → (List TMail) → (List TSub) → (List Int) → (List TWho) → Option Bool) (r : Bool) : Prop := ∀ {i p_0 : Int} {p_1 : (List TMail)} {p_2 : (List TSub)} {mails : (List Int)} {whos : (List TWho)}, rec0 i p_0 p_1 p_2 mails whos = some r → LWp Pg 146 0 i6_L2 ⟨[(0, sl TOp.c l), (2, .bad), (3, .ptr 0 0), (4, .own 1 1 0 mails.length false), (5, .own 2 2 0 whos.length false), (6, .int .i64 i), (7, .bad), (8, .bad), (9, .bad), (10, .bad), (11, .bad), (12, .bad), (13, .bad), (16, .bad), (22, .bad), (36, .bad), (40, .bad), (95, .bad), (111, .bad), (131, .bad)], [], [(0, .box [.int .i64 p_0, sl TMail.c p_1, sl TSub.c p_2]), (1, .arr 1 (List.map (ci .i64) mails) 0), (2, .arr 2 (List.map TWho.c whos) 0)], 3⟩ (blockQ 0 (seqQ Pg 146 0 (.seq (.reg none i6_R28) .ret) (qf_6 r)))
noncomputable abbrev H_m_law22_PostOnce_l2 (l : (List TOp)) (i p_0 : Int) (p_1 : (List TMail)) (p_2 : (List TSub)) (r0_3 : (TPost × (List THit))) (rec0 : Int → (List Int) → (List TWho) → Option Bool) (r : Bool) : Prop := ∀ {k : Int} {mails_1 : (List Int)} {whos_1 : (List TWho)}, rec0 k mails_1 whos_1 = some r → LWp Pg 146 0 i6_L1 ⟨[(0, sl TOp.c l), (2, .bad), (3, .ptr 0 0), (4, .own 1 1 0 mails_1.length false), (5, .own 2 2 0 whos_1.length false), (6, .int .i64 i), (7, .ptr 3 0), (8, sl THit.c r0_3.2), (9, .int .i64 k), (10, .bad), (11, .bad), (12, .bad), (13, .bad), (16, .bad), (22, .bad), (36, .bad), (40, .bad), (95, .bad), (111, .bad), (131, .bad)], [], [(0, .box [.int .i64 p_0, sl TMail.c p_1, sl TSub.c p_2]), (1, .arr 1 (List.map (ci .i64) mails_1) 0), (2, .arr 2 (List.map TWho.c whos_1) 0), (3, .box [.int .i64 r0_3.1.Next, sl TMail.c r0_3.1.Mails, sl TSub.c r0_3.1.Subs])], 4⟩ (blockQ 2 (seqQ Pg 146 0 (.reg none i6_R26) (blockQ 1 (seqQ Pg 146 0 (.reg none i6_R27) (loopQ Pg 146 0 i6_L2 (blockQ 0 (seqQ Pg 146 0 (.seq (.reg none i6_R28) .ret) (qf_6 r))))))))
noncomputable abbrev H_m_law22_PostOnce_l3 (l : (List TOp)) (i p_0 : Int) (p_1 : (List TMail)) (p_2 : (List TSub)) (r0_3 : (TPost × (List THit))) (k : Int) (mails_1 : (List Int)) (whos_1 : (List TWho)) (e_4 : THit) (e_5 : TSub) (rec0 : Int → Option Bool) (r : Bool) : Prop := ∀ {j : Int}, rec0 j = some r → LWp Pg 146 0 i6_L0 ⟨[(0, sl TOp.c l), (2, .bad), (3, .ptr 0 0), (4, .own 1 1 0 mails_1.length false), (5, .own 2 2 0 whos_1.length false), (6, .int .i64 i), (7, .ptr 3 0), (8, sl THit.c r0_3.2), (9, .int .i64 k), (10, .bad), (11, .bad), (12, .ptr 4 0), (13, .int .i64 j), (16, .bad), (22, .bad), (36, .bad), (40, .bad), (95, .bad), (111, .bad), (131, .bad)], [], [(0, .box [.int .i64 p_0, sl TMail.c p_1, sl TSub.c p_2]), (1, .arr 1 (List.map (ci .i64) mails_1) 0), (2, .arr 2 (List.map TWho.c whos_1) 0), (3, .box [.int .i64 r0_3.1.Next, sl TMail.c r0_3.1.Mails, sl TSub.c r0_3.1.Subs]), (4, .box [.int .i64 e_4.Part, .int .i64 e_5.Inst])], 5⟩ (blockQ 4 (seqQ Pg 146 0 (.seq (.reg none i6_R23) (.reg none i6_R24)) (blockQ 3 (seqQ Pg 146 0 (.reg none i6_R25) (loopQ Pg 146 0 i6_L1 (blockQ 2 (seqQ Pg 146 0 (.reg none i6_R26) (blockQ 1 (seqQ Pg 146 0 (.reg none i6_R27) (loopQ Pg 146 0 i6_L2 (blockQ 0 (seqQ Pg 146 0 (.seq (.reg none i6_R28) .ret) (qf_6 r)))))))))))))
theorem w_m_law22_PostOnce_k5  {r : Bool}   (h : m_law22_PostOnce_k5 = some r) : Wp Pg 146 0 (.seq (.reg none i6_R28) .ret) ⟨[(0, .bad), (2, .bad), (3, .bad), (4, .bad), (5, .bad), (6, .bad), (7, .bad), (8, .bad), (9, .bad), (10, .bad), (11, .bad), (12, .bad), (13, .bad), (16, .bad), (22, .bad), (36, .bad), (40, .bad), (95, .bad), (111, .bad), (131, .bad)], [], [], 0⟩ (qf_6 r) := by
  unfold m_law22_PostOnce_k5 at h
  refine Wp.seq (Wp.reg ?_)
  replace h := bndS h; obtain ⟨r0_7, g31, h⟩ := h
  replace h := retS h; subst h
  refine chunkT 1 (tab_cons (w_m_law22_works g31) (tab_nil _)) ?_
  refine lastT (tab_nil _) (seqN (Wp.ret ?_))
  exact finP
theorem w_m_law22_PostOnce_k4 {l : (List TOp)} {i : Int} {r0_3 : (TPost × (List THit))} {mails_2 : (List Int)} {whos_2 : (List TWho)} {r : Bool} {rec_m_law22_PostOnce_l1 : Int → Int → (List TMail) → (List TSub) → (List Int) → (List TWho) → Option Bool} (hrec_m_law22_PostOnce_l1 : H_m_law22_PostOnce_l1 l rec_m_law22_PostOnce_l1 r) (h : m_law22_PostOnce_k4 rec_m_law22_PostOnce_l1 i r0_3 mails_2 whos_2 = some r) : Wp Pg 146 0 (.reg none i6_R27) ⟨[(0, sl TOp.c l), (2, .bad), (3, .ptr 0 0), (4, .own 1 1 0 mails_2.length false), (5, .own 2 2 0 whos_2.length false), (6, .int .i64 i), (7, .bad), (8, .bad), (9, .bad), (10, .bad), (11, .bad), (12, .bad), (13, .bad), (16, .bad), (22, .bad), (36, .bad), (40, .bad), (95, .bad), (111, .bad), (131, .bad)], [], [(0, .box [.int .i64 r0_3.1.Next, sl TMail.c r0_3.1.Mails, sl TSub.c r0_3.1.Subs]), (1, .arr 1 (List.map (ci .i64) mails_2) 0), (2, .arr 2 (List.map TWho.c whos_2) 0)], 3⟩ (loopQ Pg 146 0 i6_L2 (blockQ 0 (seqQ Pg 146 0 (.seq (.reg none i6_R28) .ret) (qf_6 r)))) := by
  unfold m_law22_PostOnce_k4 at h
  refine regP (loopN ?_)
  exact jumpL [] (hrec_m_law22_PostOnce_l1 h)
theorem w_m_law22_PostOnce_k3 {l : (List TOp)} {i p_0 : Int} {p_1 : (List TMail)} {p_2 : (List TSub)} {r0_3 : (TPost × (List THit))} {k : Int} {mails_1 : (List Int)} {whos_1 : (List TWho)} {e_4 : THit} {e_5 : TSub} {r : Bool} {rec_m_law22_PostOnce_l2 : Int → (List Int) → (List TWho) → Option Bool} (hrec_m_law22_PostOnce_l2 : H_m_law22_PostOnce_l2 l i p_0 p_1 p_2 r0_3 rec_m_law22_PostOnce_l2 r) (h : m_law22_PostOnce_k3 rec_m_law22_PostOnce_l2 r0_3 k mails_1 whos_1 e_4 e_5 = some r) : Wp Pg 146 0 (.seq (.reg none i6_R23) (.reg none i6_R24)) ⟨[(0, sl TOp.c l), (2, .bad), (3, .ptr 0 0), (4, .own 1 1 0 mails_1.length false), (5, .own 2 2 0 whos_1.length false), (6, .int .i64 i), (7, .ptr 3 0), (8, sl THit.c r0_3.2), (9, .int .i64 k), (10, .bad), (11, .bad), (12, .ptr 4 0), (13, .bad), (16, .bad), (22, .bad), (36, .bad), (40, .bad), (95, .bad), (111, .bad), (131, .bad)], [], [(0, .box [.int .i64 p_0, sl TMail.c p_1, sl TSub.c p_2]), (1, .arr 1 (List.map (ci .i64) mails_1) 0), (2, .arr 2 (List.map TWho.c whos_1) 0), (3, .box [.int .i64 r0_3.1.Next, sl TMail.c r0_3.1.Mails, sl TSub.c r0_3.1.Subs]), (4, .box [.int .i64 e_4.Part, .int .i64 e_5.Inst])], 5⟩ (blockQ 3 (seqQ Pg 146 0 (.reg none i6_R25) (loopQ Pg 146 0 i6_L1 (blockQ 2 (seqQ Pg 146 0 (.reg none i6_R26) (blockQ 1 (seqQ Pg 146 0 (.reg none i6_R27) (loopQ Pg 146 0 i6_L2 (blockQ 0 (seqQ Pg 146 0 (.seq (.reg none i6_R28) .ret) (qf_6 r))))))))))) := by
  unfold m_law22_PostOnce_k3 at h
  refine Wp.seq ?_
  replace h := bndS h; obtain ⟨e_9, g28, h⟩ := h
  replace h := reqS h; obtain ⟨g29, h⟩ := h
  refine regP (seqN ?_)
  replace h := reqS h; obtain ⟨g30, h⟩ := h
  refine regP (blockN (seqN ?_))
  refine regP (loopN ?_)
  exact jumpL [.kill [12], .tidy] (hrec_m_law22_PostOnce_l2 h)
theorem w_m_law22_PostOnce_k2 {l : (List TOp)} {i p_0 : Int} {p_1 : (List TMail)} {p_2 : (List TSub)} {r0_3 : (TPost × (List THit))} {k : Int} {mails_1 : (List Int)} {whos_1 : (List TWho)} {e_4 : THit} {e_5 : TSub} {j : Int} {v131 : Bool} {r : Bool} {rec_m_law22_PostOnce_l3 : Int → Option Bool} (hrec_m_law22_PostOnce_l3 : H_m_law22_PostOnce_l3 l i p_0 p_1 p_2 r0_3 k mails_1 whos_1 e_4 e_5 rec_m_law22_PostOnce_l3 r) (h : m_law22_PostOnce_k2 rec_m_law22_PostOnce_l3 j v131 = some r) : Wp Pg 146 0 (.cond (.t 131) (.seq (.reg none i6_R21) .ret) .skip) ⟨[(0, sl TOp.c l), (2, .bad), (3, .ptr 0 0), (4, .own 1 1 0 mails_1.length false), (5, .own 2 2 0 whos_1.length false), (6, .int .i64 i), (7, .ptr 3 0), (8, sl THit.c r0_3.2), (9, .int .i64 k), (10, .bad), (11, .bad), (12, .ptr 4 0), (13, .int .i64 j), (16, .bad), (22, .bad), (36, .bad), (40, .bad), (95, .bad), (111, .bad), (131, .bool v131)], [], [(0, .box [.int .i64 p_0, sl TMail.c p_1, sl TSub.c p_2]), (1, .arr 1 (List.map (ci .i64) mails_1) 0), (2, .arr 2 (List.map TWho.c whos_1) 0), (3, .box [.int .i64 r0_3.1.Next, sl TMail.c r0_3.1.Mails, sl TSub.c r0_3.1.Subs]), (4, .box [.int .i64 e_4.Part, .int .i64 e_5.Inst])], 5⟩ (blockQ 5 (seqQ Pg 146 0 (.reg none i6_R22) (loopQ Pg 146 0 i6_L0 (blockQ 4 (seqQ Pg 146 0 (.seq (.reg none i6_R23) (.reg none i6_R24)) (blockQ 3 (seqQ Pg 146 0 (.reg none i6_R25) (loopQ Pg 146 0 i6_L1 (blockQ 2 (seqQ Pg 146 0 (.reg none i6_R26) (blockQ 1 (seqQ Pg 146 0 (.reg none i6_R27) (loopQ Pg 146 0 i6_L2 (blockQ 0 (seqQ Pg 146 0 (.seq (.reg none i6_R28) .ret) (qf_6 r)))))))))))))))) := by
  unfold m_law22_PostOnce_k2 at h
  replace h := ifS h; rcases h with ⟨g27, h⟩ | ⟨g27, h⟩
  · replace h := retS h; subst h
    refine condTP (Wp.seq ?_)
    refine regP (seqN (Wp.ret (blockR (seqR (loopR (blockR (seqR (blockR (seqR (loopR (blockR (seqR (blockR (seqR (loopR (blockR (seqR ?_)))))))))))))))))
    exact finP
  · refine condFP (Wp.skip (blockN (seqN ?_)))
    refine regP (loopN ?_)
    exact jumpL [.kill [131]] (hrec_m_law22_PostOnce_l3 h)
theorem w_m_law22_PostOnce_l3_B {l : (List TOp)} {i p_0 : Int} {p_1 : (List TMail)} {p_2 : (List TSub)} {r0_3 : (TPost × (List THit))} {k : Int} {mails_1 : (List Int)} {whos_1 : (List TWho)} {e_4 : THit} {e_5 : TSub} {r : Bool} {rec_m_law22_PostOnce_l2 : Int → (List Int) → (List TWho) → Option Bool} (hrec_m_law22_PostOnce_l2 : H_m_law22_PostOnce_l2 l i p_0 p_1 p_2 r0_3 rec_m_law22_PostOnce_l2 r) {rec_m_law22_PostOnce_l3 : Int → Option Bool} (hrec_m_law22_PostOnce_l3 : H_m_law22_PostOnce_l3 l i p_0 p_1 p_2 r0_3 k mails_1 whos_1 e_4 e_5 rec_m_law22_PostOnce_l3 r) {j : Int} (h : m_law22_PostOnce_l3_B rec_m_law22_PostOnce_l2 r0_3 k mails_1 whos_1 e_4 e_5 rec_m_law22_PostOnce_l3 j = some r) : LWp Pg 146 0 i6_L0 ⟨[(0, sl TOp.c l), (2, .bad), (3, .ptr 0 0), (4, .own 1 1 0 mails_1.length false), (5, .own 2 2 0 whos_1.length false), (6, .int .i64 i), (7, .ptr 3 0), (8, sl THit.c r0_3.2), (9, .int .i64 k), (10, .bad), (11, .bad), (12, .ptr 4 0), (13, .int .i64 j), (16, .bad), (22, .bad), (36, .bad), (40, .bad), (95, .bad), (111, .bad), (131, .bad)], [], [(0, .box [.int .i64 p_0, sl TMail.c p_1, sl TSub.c p_2]), (1, .arr 1 (List.map (ci .i64) mails_1) 0), (2, .arr 2 (List.map TWho.c whos_1) 0), (3, .box [.int .i64 r0_3.1.Next, sl TMail.c r0_3.1.Mails, sl TSub.c r0_3.1.Subs]), (4, .box [.int .i64 e_4.Part, .int .i64 e_5.Inst])], 5⟩ (blockQ 4 (seqQ Pg 146 0 (.seq (.reg none i6_R23) (.reg none i6_R24)) (blockQ 3 (seqQ Pg 146 0 (.reg none i6_R25) (loopQ Pg 146 0 i6_L1 (blockQ 2 (seqQ Pg 146 0 (.reg none i6_R26) (blockQ 1 (seqQ Pg 146 0 (.reg none i6_R27) (loopQ Pg 146 0 i6_L2 (blockQ 0 (seqQ Pg 146 0 (.seq (.reg none i6_R28) .ret) (qf_6 r))))))))))))) := by
  unfold m_law22_PostOnce_l3_B at h
  refine LWp.stepC i6_L0.eq_1 ?_
  refine Wp.seq (Wp.seq (regP (seqN ?_)))
  replace h := ifS h; rcases h with ⟨g22, h⟩ | ⟨g22, h⟩
  · refine condTP (Wp.skip (seqN (Wp.seq (Wp.block (Wp.seq ?_)))))
    replace h := bndS h; obtain ⟨e_6, g23, h⟩ := h
    replace h := bndS h; obtain ⟨e_7, g24, h⟩ := h
    replace h := ifS h; rcases h with ⟨g25, h⟩ | ⟨g25, h⟩
    · replace h := bndS h; obtain ⟨e_8, g26, h⟩ := h
      have := ias_ownL (n := 1) (id := 1) (ex := false) (k := .i64) g23 rfl
      have := ld_get (c := (ci .i64)) g23
      have := ias_ownL (n := 2) (id := 2) (ex := false) (k := .i64) g26 rfl
      have := ld_get (c := TWho.c) g26
      refine drawP [] mixed (clsN _) (seqN ?_)
      exact jumpK [.kill [111], .tidy] (w_m_law22_PostOnce_k2 (l := l) (i := i) (p_0 := p_0) (p_1 := p_1) (p_2 := p_2) (r0_3 := r0_3) (k := k) (mails_1 := mails_1) (whos_1 := whos_1) (e_4 := e_4) (e_5 := e_5) hrec_m_law22_PostOnce_l3 h)
    · have := ias_ownL (n := 1) (id := 1) (ex := false) (k := .i64) g23 rfl
      have := ld_get (c := (ci .i64)) g23
      refine drawP [] mixed (clsN _) (seqN ?_)
      exact jumpK [.kill [111], .tidy] (w_m_law22_PostOnce_k2 (l := l) (i := i) (p_0 := p_0) (p_1 := p_1) (p_2 := p_2) (r0_3 := r0_3) (k := k) (mails_1 := mails_1) (whos_1 := whos_1) (e_4 := e_4) (e_5 := e_5) hrec_m_law22_PostOnce_l3 h)
  · refine condFP (Wp.out (seqO (loopO (blockO (seqN ?_)))))
    exact jumpK [.kill [13, 111]] (w_m_law22_PostOnce_k3 (l := l) (i := i) (p_0 := p_0) (p_1 := p_1) (p_2 := p_2) hrec_m_law22_PostOnce_l2 h)
theorem w_m_law22_PostOnce_l3 {l : (List TOp)} {i p_0 : Int} {p_1 : (List TMail)} {p_2 : (List TSub)} {r0_3 : (TPost × (List THit))} {k : Int} {mails_1 : (List Int)} {whos_1 : (List TWho)} {e_4 : THit} {e_5 : TSub} {r : Bool} {rec_m_law22_PostOnce_l2 : Int → (List Int) → (List TWho) → Option Bool} (hrec_m_law22_PostOnce_l2 : H_m_law22_PostOnce_l2 l i p_0 p_1 p_2 r0_3 rec_m_law22_PostOnce_l2 r) : ∀ (n : Nat), H_m_law22_PostOnce_l3 l i p_0 p_1 p_2 r0_3 k mails_1 whos_1 e_4 e_5 (m_law22_PostOnce_l3 rec_m_law22_PostOnce_l2 r0_3 k mails_1 whos_1 e_4 e_5 n) r := by
  intro n
  induction n with
  | zero => intro j h; unfold m_law22_PostOnce_l3 at h; cases h
  | succ n ih => intro j h; unfold m_law22_PostOnce_l3 at h; exact w_m_law22_PostOnce_l3_B (l := l) (i := i) (p_0 := p_0) (p_1 := p_1) (p_2 := p_2) hrec_m_law22_PostOnce_l2 ih h
theorem w_m_law22_PostOnce_k1 {l : (List TOp)} {i p_0 : Int} {p_1 : (List TMail)} {p_2 : (List TSub)} {r0_3 : (TPost × (List THit))} {k : Int} {mails_1 : (List Int)} {whos_1 : (List TWho)} {r0_5 : Int} {v95 : Bool} {r : Bool} {rec_m_law22_PostOnce_l2 : Int → (List Int) → (List TWho) → Option Bool} (hrec_m_law22_PostOnce_l2 : H_m_law22_PostOnce_l2 l i p_0 p_1 p_2 r0_3 rec_m_law22_PostOnce_l2 r) (h : m_law22_PostOnce_k1 rec_m_law22_PostOnce_l2 r0_3 k mails_1 whos_1 r0_5 v95 = some r) : Wp Pg 146 0 (.cond (.t 95) (.seq (.reg none i6_R16) .ret) .skip) ⟨[(0, sl TOp.c l), (2, .bad), (3, .ptr 0 0), (4, .own 1 1 0 mails_1.length false), (5, .own 2 2 0 whos_1.length false), (6, .int .i64 i), (7, .ptr 3 0), (8, sl THit.c r0_3.2), (9, .int .i64 k), (10, .int .i64 r0_5), (11, .bad), (12, .bad), (13, .bad), (16, .bad), (22, .bad), (36, .bad), (40, .bad), (95, .bool v95), (111, .bad), (131, .bad)], [], [(0, .box [.int .i64 p_0, sl TMail.c p_1, sl TSub.c p_2]), (1, .arr 1 (List.map (ci .i64) mails_1) 0), (2, .arr 2 (List.map TWho.c whos_1) 0), (3, .box [.int .i64 r0_3.1.Next, sl TMail.c r0_3.1.Mails, sl TSub.c r0_3.1.Subs])], 4⟩ (seqQ Pg 146 0 (.seq (.reg (some [(4, 12), (6, 12), (10, 12)]) i6_R17) (.seq (.seq (.reg none i6_R18) (.block 4 (.loop i6_L0))) (.seq (.reg none i6_R23) (.reg none i6_R24)))) (blockQ 3 (seqQ Pg 146 0 (.reg none i6_R25) (loopQ Pg 146 0 i6_L1 (blockQ 2 (seqQ Pg 146 0 (.reg none i6_R26) (blockQ 1 (seqQ Pg 146 0 (.reg none i6_R27) (loopQ Pg 146 0 i6_L2 (blockQ 0 (seqQ Pg 146 0 (.seq (.reg none i6_R28) .ret) (qf_6 r)))))))))))) := by
  unfold m_law22_PostOnce_k1 at h
  replace h := ifS h; rcases h with ⟨g19, h⟩ | ⟨g19, h⟩
  · replace h := retS h; subst h
    refine condTP (Wp.seq ?_)
    refine regP (seqN (Wp.ret (seqR (blockR (seqR (loopR (blockR (seqR (blockR (seqR (loopR (blockR (seqR ?_)))))))))))))
    exact finP
  · refine condFP (Wp.skip (seqN (Wp.seq ?_)))
    replace h := bndS h; obtain ⟨e_4, g20, h⟩ := h
    replace h := bndS h; obtain ⟨e_5, g21, h⟩ := h
    refine drawP [] mixed (clsN _) (seqN (Wp.seq (Wp.seq ?_)))
    refine regP (seqN (Wp.block (Wp.loop ?_)))
    exact jumpL [.kill [10, 95], .tidy] (w_m_law22_PostOnce_l3 (l := l) (i := i) (p_0 := p_0) (p_1 := p_1) (p_2 := p_2) hrec_m_law22_PostOnce_l2 _ h)
theorem w_m_law22_PostOnce_l2_B {l : (List TOp)} {i p_0 : Int} {p_1 : (List TMail)} {p_2 : (List TSub)} {r0_3 : (TPost × (List THit))} {r : Bool} {rec_m_law22_PostOnce_l1 : Int → Int → (List TMail) → (List TSub) → (List Int) → (List TWho) → Option Bool} (hrec_m_law22_PostOnce_l1 : H_m_law22_PostOnce_l1 l rec_m_law22_PostOnce_l1 r) {rec_m_law22_PostOnce_l2 : Int → (List Int) → (List TWho) → Option Bool} (hrec_m_law22_PostOnce_l2 : H_m_law22_PostOnce_l2 l i p_0 p_1 p_2 r0_3 rec_m_law22_PostOnce_l2 r) {k : Int} {mails_1 : (List Int)} {whos_1 : (List TWho)} (h : m_law22_PostOnce_l2_B rec_m_law22_PostOnce_l1 i p_0 p_1 p_2 r0_3 rec_m_law22_PostOnce_l2 k mails_1 whos_1 = some r) : LWp Pg 146 0 i6_L1 ⟨[(0, sl TOp.c l), (2, .bad), (3, .ptr 0 0), (4, .own 1 1 0 mails_1.length false), (5, .own 2 2 0 whos_1.length false), (6, .int .i64 i), (7, .ptr 3 0), (8, sl THit.c r0_3.2), (9, .int .i64 k), (10, .bad), (11, .bad), (12, .bad), (13, .bad), (16, .bad), (22, .bad), (36, .bad), (40, .bad), (95, .bad), (111, .bad), (131, .bad)], [], [(0, .box [.int .i64 p_0, sl TMail.c p_1, sl TSub.c p_2]), (1, .arr 1 (List.map (ci .i64) mails_1) 0), (2, .arr 2 (List.map TWho.c whos_1) 0), (3, .box [.int .i64 r0_3.1.Next, sl TMail.c r0_3.1.Mails, sl TSub.c r0_3.1.Subs])], 4⟩ (blockQ 2 (seqQ Pg 146 0 (.reg none i6_R26) (blockQ 1 (seqQ Pg 146 0 (.reg none i6_R27) (loopQ Pg 146 0 i6_L2 (blockQ 0 (seqQ Pg 146 0 (.seq (.reg none i6_R28) .ret) (qf_6 r)))))))) := by
  unfold m_law22_PostOnce_l2_B at h
  refine LWp.stepC i6_L1.eq_1 ?_
  refine Wp.seq (Wp.seq (regP (seqN ?_)))
  replace h := ifS h; rcases h with ⟨g10, h⟩ | ⟨g10, h⟩
  · refine condTP (Wp.skip (seqN (Wp.seq (Wp.block (Wp.seq ?_)))))
    replace h := bndS h; obtain ⟨e_1, g11, h⟩ := h
    replace h := bndS h; obtain ⟨r0_5, g12, h⟩ := h
    refine drawP [] mixed (clsC 11 (tab_cons (w_m_ref22_Find g12) (tab_nil _)) (clsN _)) (seqN (Wp.seq ?_))
    replace h := bndS h; obtain ⟨r0_6, g13, h⟩ := h
    refine drawP [] mixed (clsC 11 (tab_cons (w_m_ref22_Find g13) (tab_nil _)) (clsN _)) (seqN (Wp.seq (Wp.seq ?_)))
    replace h := ifS h; rcases h with ⟨g14, h⟩ | ⟨g14, h⟩
    · refine drawP [] mixed (clsN _) (seqN ?_)
      exact jumpK [.kill [11, 40], .tidy] (w_m_law22_PostOnce_k1 (l := l) (i := i) (p_0 := p_0) (p_1 := p_1) (p_2 := p_2) hrec_m_law22_PostOnce_l2 h)
    · replace h := bndS h; obtain ⟨e_2, g15, h⟩ := h
      replace h := ifS h; rcases h with ⟨g16, h⟩ | ⟨g16, h⟩
      · refine drawP [] mixed (clsN _) (seqN ?_)
        exact jumpK [.kill [11, 40], .tidy] (w_m_law22_PostOnce_k1 (l := l) (i := i) (p_0 := p_0) (p_1 := p_1) (p_2 := p_2) hrec_m_law22_PostOnce_l2 h)
      · replace h := ifS h; rcases h with ⟨g17, h⟩ | ⟨g17, h⟩
        · replace h := bndS h; obtain ⟨e_3, g18, h⟩ := h
          refine drawP [] mixed (clsN _) (seqN ?_)
          exact jumpK [.kill [11, 40], .tidy] (w_m_law22_PostOnce_k1 (l := l) (i := i) (p_0 := p_0) (p_1 := p_1) (p_2 := p_2) hrec_m_law22_PostOnce_l2 h)
        · refine drawP [] mixed (clsN _) (seqN ?_)
          exact jumpK [.kill [11, 40], .tidy] (w_m_law22_PostOnce_k1 (l := l) (i := i) (p_0 := p_0) (p_1 := p_1) (p_2 := p_2) hrec_m_law22_PostOnce_l2 h)
  · refine condFP (Wp.out (seqO (loopO (blockO (seqN ?_)))))
    refine regP (blockN (seqN ?_))
    exact jumpK [.kill [7, 8, 9, 40], .tidy] (w_m_law22_PostOnce_k4 (l := l) hrec_m_law22_PostOnce_l1 h)
theorem w_m_law22_PostOnce_l2 {l : (List TOp)} {i p_0 : Int} {p_1 : (List TMail)} {p_2 : (List TSub)} {r0_3 : (TPost × (List THit))} {r : Bool} {rec_m_law22_PostOnce_l1 : Int → Int → (List TMail) → (List TSub) → (List Int) → (List TWho) → Option Bool} (hrec_m_law22_PostOnce_l1 : H_m_law22_PostOnce_l1 l rec_m_law22_PostOnce_l1 r) : ∀ (n : Nat), H_m_law22_PostOnce_l2 l i p_0 p_1 p_2 r0_3 (m_law22_PostOnce_l2 rec_m_law22_PostOnce_l1 i p_0 p_1 p_2 r0_3 n) r := by
  intro n
  induction n with
  | zero => intro k mails_1 whos_1 h; unfold m_law22_PostOnce_l2 at h; cases h
  | succ n ih => intro k mails_1 whos_1 h; unfold m_law22_PostOnce_l2 at h; exact w_m_law22_PostOnce_l2_B (l := l) hrec_m_law22_PostOnce_l1 ih h
theorem w_m_law22_PostOnce_l1_B {l : (List TOp)} {r : Bool}   {rec_m_law22_PostOnce_l1 : Int → Int → (List TMail) → (List TSub) → (List Int) → (List TWho) → Option Bool} (hrec_m_law22_PostOnce_l1 : H_m_law22_PostOnce_l1 l rec_m_law22_PostOnce_l1 r) {i p_0 : Int} {p_1 : (List TMail)} {p_2 : (List TSub)} {mails : (List Int)} {whos : (List TWho)} (h : m_law22_PostOnce_l1_B  l rec_m_law22_PostOnce_l1 i p_0 p_1 p_2 mails whos = some r) : LWp Pg 146 0 i6_L2 ⟨[(0, sl TOp.c l), (2, .bad), (3, .ptr 0 0), (4, .own 1 1 0 mails.length false), (5, .own 2 2 0 whos.length false), (6, .int .i64 i), (7, .bad), (8, .bad), (9, .bad), (10, .bad), (11, .bad), (12, .bad), (13, .bad), (16, .bad), (22, .bad), (36, .bad), (40, .bad), (95, .bad), (111, .bad), (131, .bad)], [], [(0, .box [.int .i64 p_0, sl TMail.c p_1, sl TSub.c p_2]), (1, .arr 1 (List.map (ci .i64) mails) 0), (2, .arr 2 (List.map TWho.c whos) 0)], 3⟩ (blockQ 0 (seqQ Pg 146 0 (.seq (.reg none i6_R28) .ret) (qf_6 r))) := by
  unfold m_law22_PostOnce_l1_B at h
  refine LWp.stepC i6_L2.eq_1 ?_
  refine Wp.seq (Wp.seq (regP (seqN ?_)))
  replace h := ifS h; rcases h with ⟨g5, h⟩ | ⟨g5, h⟩
  · refine condTP (Wp.skip (seqN (Wp.seq (Wp.block (Wp.seq ?_)))))
    replace h := bndS h; obtain ⟨e, g6, h⟩ := h
    replace h := bndS h; obtain ⟨r0_3, g7, h⟩ := h
    refine drawP [] mixed (clsC 5 (tab_cons (w_m_law22_step g7) (tab_nil _)) (clsN _)) (seqN (Wp.seq (Wp.seq (Wp.reg ?_))))
    replace h := bndS h; obtain ⟨r0_4, g8, h⟩ := h
    refine chunkT 2 (tab_cons (w_m_post_Check g8) (tab_nil _)) ?_
    refine lastT (tab_nil _) (seqN ?_)
    replace h := ifS h; rcases h with ⟨g9, h⟩ | ⟨g9, h⟩
    · replace h := retS h; subst h
      refine condTP (Wp.seq ?_)
      refine regP (seqN (Wp.ret (seqR (blockR (seqR (loopR (blockR (seqR ?_))))))))
      exact finP
    · refine condFP (Wp.skip (seqN (Wp.seq (Wp.seq ?_))))
      refine regP (seqN (Wp.block (Wp.loop ?_)))
      exact jumpL [.kill [22, 36], .tidy] (w_m_law22_PostOnce_l2 (l := l) hrec_m_law22_PostOnce_l1 _ h)
  · refine condFP (Wp.out (seqO (loopO (blockO (seqN ?_)))))
    exact jumpK [.kill [0, 3, 4, 5, 6, 22], .tidy] (w_m_law22_PostOnce_k5 h)
theorem w_m_law22_PostOnce_l1 {l : (List TOp)} {r : Bool}   : ∀ (n : Nat), H_m_law22_PostOnce_l1 l (m_law22_PostOnce_l1  l n) r := by
  intro n
  induction n with
  | zero => intro i p_0 p_1 p_2 mails whos h; unfold m_law22_PostOnce_l1 at h; cases h
  | succ n ih => intro i p_0 p_1 p_2 mails whos h; unfold m_law22_PostOnce_l1 at h; exact w_m_law22_PostOnce_l1_B  ih h
theorem w_m_law22_PostOnce {l : (List TOp)} {r : Bool}   (h : m_law22_PostOnce l = some r) : Spec Pg 6 [sl TOp.c l] [] 0 (.bool r) [] 0 := by
  refine Spec.intro Try.func6 i6_ok (le_of_ble rfl) ?_
  show Wp Pg 146 0 i6_B ⟨argEnv _ i6_V, [], _, _⟩ (qf_6 r)
  unfold m_law22_PostOnce at h
  unfold i6_B
  refine weakP [] ?_
  refine Wp.seq (regP (seqN (Wp.seq (Wp.seq (Wp.reg ?_)))))
  replace h := bndS h; obtain ⟨r0, g1, h⟩ := h
  refine chunkT 2 (tab_cons (w_m_law22_lightOps g1) (tab_nil _)) ?_
  refine lastT (tab_nil _) (seqN ?_)
  replace h := ifS h; rcases h with ⟨g2, h⟩ | ⟨g2, h⟩
  · refine condFP (Wp.skip (seqN (Wp.seq (Wp.reg ?_))))
    replace h := bndS h; obtain ⟨r0_2, g4, h⟩ := h
    refine chunkT 1 (tab_cons (w_m_post_New g4) (tab_nil _)) ?_
    refine lastT (tab_nil _) (seqN (Wp.seq ?_))
    refine regP (seqN (Wp.seq ?_))
    refine regP (seqN (Wp.seq (Wp.seq ?_)))
    refine regP (seqN (Wp.block (Wp.loop ?_)))
    exact jumpL [.kill [2, 7, 8, 9, 10, 11, 12, 13, 16, 22, 36, 40, 95, 111, 131], .at 4 (.virt 1), .at 5 (.virt 2), .tidy] (w_m_law22_PostOnce_l1 _ h)
  · refine condTP (Wp.seq (Wp.reg ?_))
    replace h := bndS h; obtain ⟨r0_1, g3, h⟩ := h
    replace h := retS h; subst h
    refine chunkT 1 (tab_cons (w_m_law22_works g3) (tab_nil _)) ?_
    refine lastT (tab_nil _) (seqN (Wp.ret (seqR ?_)))
    exact finP
end Go.Proofs.Ytefjblgmnoheiaa.R
