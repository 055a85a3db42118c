/- One operation, as the program has it. -/
import Derived.Test.YtefjblgmnoheiaaRCpy
set_option linter.unusedVariables false
set_option linter.unusedSectionVars false
set_option linter.unusedSimpArgs false
noncomputable section
namespace Go.Proofs.Ytefjblgmnoheiaa.R
open Go
/-- What an operation that answers v and leaves s' lets follow. -/
def Goes (P : Program) (A : Nat → Nat → Prop) (ρ : Rho) (s : St) (w : World) (v : AV) (s' : St) (o : Oper) (a : Act) : Prop :=
  ∀ (K : Act → World → Prop) (Q : Exit → Act → World → Prop), (∀ x w', Post A ρ s w v s' x w' → K (a.put o.dst x) w') → o.wp P a w K Q
section
variable {P : Program} {w : World} {A : Nat → Nat → Prop} {ρ : Rho} {s s' : St} {v : AV} {o : Oper} {a : Act}
theorem goes_v {m : Sem Value} (he : execOp a.eval o = (do pure (Next.value (← m)))) (h : ∃ x w', m.run P w = .ok x w' ∧ Post A ρ s w v s' x w') : Goes P A ρ s w v s' o a := by
  intro K Q hK
  obtain ⟨x, w', h1, h2⟩ := h
  unfold Oper.wp
  rw [he]
  simp only [Sem.run_bind, h1, Result.andThen_ok, Sem.run_pure]
  exact hK x w' h2
theorem goes_u {m : Sem Unit} (he : execOp a.eval o = (do m; pure Next.skip)) (h : ∃ w', m.run P w = .ok () w' ∧ Post A ρ s w v s' undef w') : Goes P A ρ s w v s' o a := by
  intro K Q hK
  obtain ⟨w', h1, h2⟩ := h
  unfold Oper.wp
  rw [he]
  simp only [Sem.run_bind, h1, Result.andThen_ok, Sem.run_pure]
  exact hK undef w' h2
theorem keep_inv {g : Option AV} (h : keep s g = some (v, s')) : g = some v ∧ s' = s := by
  cases g with
  | none => simp [keep] at h
  | some x =>
    simp only [keep, Option.some.injEq, Prod.mk.injEq] at h
    exact ⟨by rw [h.1], h.2.symm⟩
theorem goes_p {m : Sem Value} (hr : Rep A ρ s.H s.nx w) (he : execOp a.eval o = (do pure (Next.value (← m)))) {g : Option AV} (hg : keep s g = some (v, s')) (h : g = some v → ∃ x, m.run P w = .ok x w ∧ VR w (UU A ρ s.H) ρ v x) : Goes P A ρ s w v s' o a := by
  obtain ⟨hg', rfl⟩ := keep_inv hg
  obtain ⟨x, h1, h2⟩ := h hg'
  exact goes_v he ⟨x, w, h1, Post.same hr h2⟩
theorem elTy_of {t : TypeId} {xe : TI} (h : elemOfT P t = some xe) : ∃ e, P.underlying t = some (.slice e) ∧ tyOf P e = some xe := by
  unfold elemOfT at h
  split at h
  · rename_i e _ _ _ ht
    exact ⟨e, (tyOf_spec ht).1, h⟩
  · cases h
theorem eval_map (xs : Array Operand) : (xs.map a.eval).toList = xs.toList.map a.eval := by simp
theorem VRs_two {w : World} {U : Nat → Nat → Prop} {ρ : Rho} {x y : AV} {xs : Array Value} (h : VRs w U ρ [x, y] xs.toList) : ∃ X Y, xs = #[X, Y] ∧ VR w U ρ x X ∧ VR w U ρ y Y := by
  simp only [VRs] at h
  obtain ⟨X, r, h1, h2, Y, r2, rfl, h3, rfl⟩ := h
  exact ⟨X, Y, by apply Array.ext'; simpa using h1, h2, h3⟩
theorem VRs_solo {w : World} {U : Nat → Nat → Prop} {ρ : Rho} {x : AV} {xs : Array Value} (h : VRs w U ρ [x] xs.toList) : ∃ X, xs = #[X] ∧ VR w U ρ x X := by
  simp only [VRs] at h
  obtain ⟨X, r, h1, h2, rfl⟩ := h
  exact ⟨X, by apply Array.ext'; simpa using h1, h2⟩
theorem toList_one {α : Type} {xs : Array α} {x : α} (h : xs.toList = [x]) : xs = #[x] := by apply Array.ext'; simpa using h
theorem toList_two {α : Type} {xs : Array α} {x y : α} (h : xs.toList = [x, y]) : xs = #[x, y] := by apply Array.ext'; simpa using h
/-- The operations that call nothing. -/
def callB : IP → Bool
  | .call _ _ => true
  | .callv _ _ => true
  | _ => false
theorem goes_builtin {c : Cfg} {cl : Callee} (hr : Rep A ρ s.H s.nx w) (hv : Vals w (UU A ρ s.H) ρ s a) {b : Builtin} {args : Array Operand} {ts : Array TypeId} (ho : o.op = .call ⟨.builtin b, args, ts⟩) {as : List Opd} (has : opds args.toList = some as) {ip : IP}
    (hc : compBuiltin P b as ts.toList = some ip) (h : evOp c cl s ip = some (v, s')) : Goes P A ρ s w v s' o a := by
  have hvs := VRs_opds hv has
  rw [← eval_map] at hvs
  have hexec : execOp a.eval o = builtin b ts o.type (args.map fun | .const _ => true | _ => false) (args.map a.eval) := by
    simp only [execOp, ho, resolve]
    rfl
  unfold compBuiltin at hc
  split at hc
  · rename_i x t hts
    obtain ⟨X, hX, h1⟩ := VRs_solo hvs
    have hts' := toList_one hts
    split at hc
    · rename_i ti hti
      split at hc
      · rename_i hd
        simp only [Option.some.injEq] at hc
        subst hc
        refine goes_p (m := Builtin.len_ ts o.type #[X]) hr ?_ h fun hg => ?_
        · rw [hexec, hX]; rfl
        · rw [hts']; exact snd_lens hti hd h1 hg
      · rename_i e hd
        simp only [Option.some.injEq] at hc
        subst hc
        refine goes_p (m := Builtin.len_ ts o.type #[X]) hr ?_ h fun hg => ?_
        · rw [hexec, hX]; rfl
        · rw [hts']; exact snd_lenl hti hd h1 hg
      · cases hc
    · cases hc
  · rename_i x y _
    obtain ⟨X, Y, hX, h1, h2⟩ := VRs_two hvs
    simp only [Option.some.injEq] at hc
    subst hc
    refine goes_p (m := Builtin.max_ ts o.type #[X, Y]) hr ?_ h fun hg => ?_
    · rw [hexec, hX]; rfl
    · exact snd_mx h1 h2 hg
  · rename_i x y _
    obtain ⟨X, Y, hX, h1, h2⟩ := VRs_two hvs
    simp only [Option.some.injEq] at hc
    subst hc
    refine goes_p (m := Builtin.min_ ts o.type #[X, Y]) hr ?_ h fun hg => ?_
    · rw [hexec, hX]; rfl
    · exact snd_mn h1 h2 hg
  · rename_i x y t t2 hts
    obtain ⟨X, Y, hX, h1, h2⟩ := VRs_two hvs
    have hts' := toList_two hts
    split at hc
    · rename_i xe x2 hxe hx2
      split at hc
      · rename_i z hz
        split at hc
        · rename_i hcond
          simp only [Option.some.injEq] at hc
          subst hc
          obtain ⟨e, g1, g2⟩ := elTy_of hxe
          refine goes_v (m := Builtin.append_ ts o.type #[X, Y]) ?_ ?_
          · rw [hexec, hX]; rfl
          · rw [hts']
            exact snd_app hr ⟨e, xe, x2, z, g1, g2, hx2, hz, hcond.1, hcond.2.1, hcond.2.2.1, hcond.2.2.2, rfl⟩ h1 h2 h
        · cases hc
      · cases hc
    · cases hc
  · rename_i x y t tr hts
    obtain ⟨X, Y, hX, h1, h2⟩ := VRs_two hvs
    split at hc
    · rename_i xe hxe
      split at hc
      · rename_i hcond
        simp only [Option.some.injEq] at hc
        subst hc
        obtain ⟨e, g1, g2⟩ := elTy_of hxe
        refine goes_v (m := Builtin.copy_ ts o.type #[X, Y]) ?_ ?_
        · rw [hexec, hX]; rfl
        · exact snd_cpy hr hts g1 g2 hcond h1 h2 h
      · cases hc
    · cases hc
  · rename_i x t tr hts
    obtain ⟨X, hX, h1⟩ := VRs_solo hvs
    split at hc
    · rename_i xe hxe
      split at hc
      · rename_i z hz
        split at hc
        · rename_i hcond
          simp only [Option.some.injEq] at hc
          subst hc
          obtain ⟨e, g1, g2⟩ := elTy_of hxe
          refine goes_v (m := Builtin.clear_ ts o.type #[X]) ?_ ?_
          · rw [hexec, hX]; rfl
          · exact snd_clr hr hts g1 g2 hz hcond h1 h
        · cases hc
      · cases hc
    · cases hc
  · cases hc
end
end Go.Proofs.Ytefjblgmnoheiaa.R
