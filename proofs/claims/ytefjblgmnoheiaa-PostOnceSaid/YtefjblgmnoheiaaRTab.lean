/- What functions answer. -/
import Derived.Test.YtefjblgmnoheiaaRCln
import Derived.Test.YtefjblgmnoheiaaREqs
set_option linter.unusedVariables false
set_option linter.unusedSectionVars false
set_option linter.unusedSimpArgs false
noncomputable section
namespace Go.Proofs.Ytefjblgmnoheiaa.R
open Go
/-! ### Functions -/
/-- What a function answers, whoever asks. -/
def Spec (P : Program) (f : Nat) (args : List AV) (H : Heap) (m : Nat) (r : AV) (H' : Heap) (n' : Nat) : Prop :=
  (∃ fn, P.funcs[f]? = some fn ∧ (fn.name == "runtime.NumGoroutine") = false ∧ fn.body.isNone = false) ∧
  ∀ {A : Nat → Nat → Prop} {ρ : Rho} {w : World} {xs : Array Value}, Rep A ρ H m w → VRs w (UU A ρ H) ρ args xs.toList → Calls P f xs w (Ret A ρ H w m r H' n')
theorem Spec.of_callF {c : Cfg} {dr : Drawer} (hc : CfgOk c) (hd : DrawOk c dr) (hp : Sound c.P c.pr) {k f : Nat} {args : List AV} {H H' : Heap} {m n' : Nat} {r : AV} (h : callF c dr k f args H m = some (r, H', n')) : Spec c.P f args H m r H' n' :=
  ⟨(sound_callF hc hd hp k).fn h, (sound_callF hc hd hp k).calls h⟩
open Classical in
/-- Callees of which so many answers are known. -/
def tab : List (Nat × List AV × Heap × Nat × (AV × Heap × Nat)) → Callee
  | [], _, _, _, _ => none
  | e :: r, f, args, H, m => if f = e.1 ∧ args = e.2.1 ∧ H = e.2.2.1 ∧ m = e.2.2.2.1 then some e.2.2.2.2 else tab r f args H m
theorem tab_nil (P : Program) : Sound P (tab []) := ⟨clnOk P, fun h => by simp [tab] at h, fun h => by simp [tab] at h⟩
theorem noneOk (P : Program) : Sound P (fun _ _ _ _ => none) := ⟨clnOk P, fun h => (by cases h), fun h => (by cases h)⟩
theorem tab_cons {P : Program} {l : List (Nat × List AV × Heap × Nat × (AV × Heap × Nat))} {f m n' : Nat} {args : List AV} {H H' : Heap} {r : AV} (h : Spec P f args H m r H' n') (hl : Sound P (tab l)) : Sound P (tab ((f, args, H, m, (r, H', n')) :: l)) := by
  refine ⟨clnOk P, fun {f' a' H1 m1 x} hx => ?_, fun {f' a' H1 m1 r1 H2 n2} hx => ?_⟩
  · simp only [tab] at hx
    split at hx
    · rename_i hh
      obtain ⟨rfl, rfl, rfl, rfl⟩ := hh
      exact h.1
    · exact hl.fn hx
  · simp only [tab] at hx
    split at hx
    · rename_i hh
      obtain ⟨rfl, rfl, rfl, rfl⟩ := hh
      simp only [Option.some.injEq, Prod.mk.injEq] at hx
      obtain ⟨rfl, rfl, rfl⟩ := hx
      exact h.2
    · exact hl.calls hx
theorem tab_self (l : List (Nat × List AV × Heap × Nat × (AV × Heap × Nat))) (f m : Nat) (args : List AV) (H : Heap) (x : AV × Heap × Nat) : tab ((f, args, H, m, x) :: l) f args H m = some x := by simp [tab]
theorem tab_ne (l : List (Nat × List AV × Heap × Nat × (AV × Heap × Nat))) (f g m m' : Nat) (args args' : List AV) (H H' : Heap) (x : AV × Heap × Nat) (h : Nat.beq g f = false) : tab ((f, args, H, m, x) :: l) g args' H' m' = tab l g args' H' m' := by
  have : ¬ g = f := Nat.ne_of_beq_eq_false h
  simp [tab, this]
def FinQ (m : Nat) (res : List IR) (r : AV) (H' : Heap) (n' : Nat) : Ex → St → Prop := fun e s => ∃ s', Weak m s s' ∧ retK m res (some (e, s')) = some (r, H', n')
theorem Spec.intro {P : Program} {f m n' : Nat} {args : List AV} {H H' : Heap} {r : AV} {i : IFn} {fn : Func} {V : List Nat} (hf : P.funcs[f]? = some fn) (hc : compF P V fn = some i) (hn : args.length ≤ i.nt)
    (hw : Wp P i.nt m i.body ⟨argEnv args i.live, [], H, m⟩ (FinQ m i.res r H' n')) : Spec P f args H m r H' n' := by
  obtain ⟨h3, body, h4, h5, h6, h7⟩ := compF_spec hc
  refine ⟨⟨fn, hf, h3, by rw [h4]; rfl⟩, fun {A ρ w xs} hr hx => ?_⟩
  have hst := SR_start hr hx hn i.live
  rw [h5] at hst
  refine calls_of_wp hf h4 ?_
  refine hw body h6 A ⟨ρ, H, w, m⟩ _ w rfl (fun j x hj => hr.ltR j x hj) (by rw [h5]; exact hst) _ fun e s0 a' w' hq hs0 => ?_
  obtain ⟨s1, hwk, hq⟩ := hq
  have hs := hwk _ _ _ _ _ rfl (fun j x hj => hr.ltR j x hj) hs0
  unfold retK at hq
  split at hq
  · cases hq
  · rename_i e' s1' hne he
    simp only [Option.some.injEq, Prod.mk.injEq] at he
    obtain ⟨rfl, rfl⟩ := he
    split at hq
    · rename_i vs hvs
      simp only [Option.some.injEq, Prod.mk.injEq] at hq
      obtain ⟨rfl, rfl, rfl⟩ := hq
      obtain ⟨ρ1, q1, q2, q3, q4⟩ := hs.ex
      obtain ⟨ys, g1, g2⟩ := snd_res q1 q2 h7 hvs
      have hbody : ∃ v, (results fn a'.tmps).run P w' = .ok v w' ∧ Ret A ρ H w m (ren (pos (places s1.H m vs)) (one vs)) (renH (pos (places s1.H m vs)) s1.H) (places s1.H m vs).length (.returned v) w' := by
        refine ⟨_, run_results g1, ?_⟩
        obtain ⟨p1, p2⟩ := places_spec s1.H m vs
        obtain ⟨r1, r2, r3⟩ := Rep_pos (l := places s1.H m vs) q1
        refine ⟨rhoOf (places s1.H m vs) ρ1, r1, VR_pos q1 ?_, Ext_pos q3 (fun j x hj => hr.ltR j x hj) p2, q4.trans r3⟩
        have hlen := VRs_length g2
        match vs, ys, g2, hlen with
        | [], [], g2, _ => simp only [R.one, VR]; exact ⟨_, rfl, g2⟩
        | [v], [y], g2, _ =>
          simp only [R.one]
          simp only [VRs] at g2
          obtain ⟨x, r, e1, e2, e3⟩ := g2
          simp only [List.cons.injEq] at e1
          rw [e1.1]
          exact e2
        | v :: v2 :: r, y :: y2 :: r', g2, _ => simp only [R.one, VR]; exact ⟨_, rfl, g2⟩
      obtain ⟨v, b1, b2⟩ := hbody
      cases e with
      | norm => exact ⟨hs.defers, v, b1, b2⟩
      | ret => exact ⟨hs.defers, v, b1, b2⟩
      | out id => exact absurd rfl (hne id)
    · cases hq
  · rename_i he
    cases he
theorem clsN (P : Program) : ∀ i, Sound P (clsL [] i) := fun i => noneOk P
theorem clsC {P : Program} {cl : Callee} {l : List (Nat × Callee)} (j : Nat) (h : Sound P cl) (hl : ∀ i, Sound P (clsL l i)) : ∀ i, Sound P (clsL ((j, cl) :: l) i) := fun i => by
  simp only [clsL, lk_cons]
  by_cases hj : j = i
  · rw [if_pos hj]; exact h
  · rw [if_neg hj]; exact hl i
end Go.Proofs.Ytefjblgmnoheiaa.R
