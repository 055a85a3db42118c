/- Functions: what the evaluator answers, the program answers. -/
import Derived.Test.YtefjblgmnoheiaaRCode
set_option linter.unusedVariables false
set_option linter.unusedSectionVars false
set_option linter.unusedSimpArgs false
noncomputable section
namespace Go.Proofs.Ytefjblgmnoheiaa.R
open Go
def resOf (tmps : Array Value) : ResultVar → Sem Value
  | .tmp t => pure (tmps.getD t undef)
  | .cell a t => do loadVar t (← asAddr (tmps.getD a undef))
section
variable {P : Program} {A : Nat → Nat → Prop} {E : Entry} {nt : Nat} {c : Cfg} {cl : Callee} {s s' : St} {a : Act} {w : World}
theorem snd_res {ρ : Rho} (hr : Rep A ρ s.H s.nx w) (hv : Vals w (UU A ρ s.H) ρ s a) : ∀ {rs : List ResultVar} {irs : List IR} {vs : List AV}, compRes P rs = some irs → resAV s irs = some vs →
    ∃ xs : List Value, (rs.mapM (resOf a.tmps)).run P w = .ok xs w ∧ VRs w (UU A ρ s.H) ρ vs xs
  | [], irs, vs, hc, h => by
    simp only [compRes, Option.some.injEq] at hc
    subst hc
    simp only [resAV, Option.some.injEq] at h
    subst h
    exact ⟨[], by simp, by simp [VRs]⟩
  | .tmp t :: rs, irs, vs, hc, h => by
    simp only [compRes] at hc
    split at hc
    · rename_i l hl
      simp only [Option.some.injEq] at hc
      subst hc
      simp only [resAV] at h
      split at h
      · rename_i l' hl'
        simp only [Option.some.injEq] at h
        subst h
        obtain ⟨xs, g1, g2⟩ := snd_res hr hv hl hl'
        refine ⟨a.tmps.getD t undef :: xs, ?_, ?_⟩
        · rw [List.mapM_cons]
          simp only [Sem.run_bind, resOf, Sem.run_pure, Result.andThen_ok, g1]
        · simp only [VRs]
          exact ⟨_, _, rfl, hv t, g2⟩
      · cases h
    · cases hc
  | .cell b t :: rs, irs, vs, hc, h => by
    simp only [compRes] at hc
    split at hc
    · rename_i x l hx hl
      simp only [Option.some.injEq] at hc
      subst hc
      simp only [resAV] at h
      split at h
      · rename_i v l' hv' hl'
        simp only [Option.some.injEq] at h
        subst h
        obtain ⟨xs, g1, g2⟩ := snd_res hr hv hl hl'
        obtain ⟨z, k1, k2⟩ := snd_load (P := P) hr hx (hv b) hv'
        have k3 : (resOf a.tmps (.cell b t)).run P w = .ok z w := by
          rw [← k1]
          have hb := hv b
          unfold loadAV at hv'
          split at hv'
          · rename_i heq
            rw [heq] at hb
            simp only [VR] at hb
            obtain ⟨_, _, _, hb⟩ := hb
            simp only [resOf, hb, Instr.loadAt, Instr.sureAddr, asAddr, Sem.run_bind, Sem.run_pure, Result.andThen_ok]
          · rename_i heq
            rw [heq] at hb
            simp only [VR] at hb
            obtain ⟨_, _, _, hb⟩ := hb
            simp only [resOf, hb, Instr.loadAt, Instr.sureAddr, asAddr, Sem.run_bind, Sem.run_pure, Result.andThen_ok]
          · rename_i heq
            rw [heq] at hb
            simp only [VR] at hb
            obtain ⟨_, _, hb, _⟩ := hb
            simp only [resOf, hb, Instr.loadAt, Instr.sureAddr, asAddr, Sem.run_bind, Sem.run_pure, Result.andThen_ok]
          · cases hv'
        refine ⟨z :: xs, ?_, ?_⟩
        · rw [List.mapM_cons]
          simp only [Sem.run_bind, k3, Sem.run_pure, Result.andThen_ok, g1]
        · simp only [VRs]
          exact ⟨_, _, rfl, k2, g2⟩
      · cases h
    · cases hc
theorem run_results {fn : Func} {tmps : Array Value} {xs : List Value} (h : (fn.results.toList.mapM (resOf tmps)).run P w = .ok xs w) : (results fn tmps).run P w = .ok (match xs with | [x] => x | xs => .tuple xs.toArray) w := by
  have he : (fn.results.mapM (resOf tmps)).run P w = .ok xs.toArray w := by
    rw [Array.mapM_eq_mapM_toList, Sem.run_map, h]
    rfl
  have hd : results fn tmps = (do
      let vs ← fn.results.mapM (resOf tmps)
      pure (if h : vs.size = 1 then vs[0] else .tuple vs)) := by
    unfold results
    congr 1
  rw [hd]
  simp only [Sem.run_bind, he, Result.andThen_ok, Sem.run_pure]
  match xs with
  | [] => simp
  | [x] => simp
  | x :: y :: r => simp
theorem lk_argEnv (args : List AV) : ∀ (live : List Nat) (t : Nat), lk (argEnv args live) t = none ∨ lk (argEnv args live) t = some (match args[t]? with | some v => v | none => .un)
  | [], t => .inl (by simp [argEnv])
  | k :: r, t => by
    simp only [argEnv, lk_cons]
    by_cases h : k = t
    · subst h
      right
      rw [if_pos rfl]
      cases args[k]? <;> rfl
    · rw [if_neg h]
      exact lk_argEnv args r t
theorem SR_start {ρ : Rho} {H : Heap} {m : Nat} (hr : Rep A ρ H m w) {args : List AV} {xs : Array Value} (hx : VRs w (UU A ρ H) ρ args xs.toList) {nt : Nat} (hn : args.length ≤ nt) (live : List Nat) :
    SR A ⟨ρ, H, w, m⟩ nt ⟨argEnv args live, [], H, m⟩ { tmps := xs ++ Array.replicate (nt - xs.size) undef, defers := [] } w := by
  have hl := VRs_length hx
  have hxs : xs.toList.length = xs.size := by simp
  refine ⟨fun t x _ => rfl, by simp; omega, rfl, ρ, hr, fun t => ?_, Ext2.refl _ _, Fr.refl _ _ _⟩
  rw [get_eq]
  show VR w (UU A ρ H) ρ ((lk (argEnv args live) t).getD .bad) _
  rcases lk_argEnv args live t with h | h
  · rw [h]; simp [VR]
  · rw [h, Option.getD_some]
    cases ha : args[t]? with
    | some v =>
      obtain ⟨x, h1, h2⟩ := VRs_get hx ha
      have hlt : t < xs.size := by
        rcases Nat.lt_or_ge t xs.size with h | h
        · exact h
        · rw [List.getElem?_eq_none (by omega)] at h1; cases h1
      have h3 : xs[t]? = some x := by simpa using h1
      have : (xs ++ Array.replicate (nt - xs.size) undef).getD t undef = x := by
        rw [Array.getD_eq_getD_getElem?, Array.getElem?_append_left hlt, h3]
        rfl
      rw [this]
      exact h2
    | none =>
      have hge : xs.size ≤ t := by
        rcases Nat.lt_or_ge t xs.size with h | h
        · have : t < args.length := by omega
          rw [List.getElem?_eq_getElem this] at ha; cases ha
        · exact h
      have : (xs ++ Array.replicate (nt - xs.size) undef).getD t undef = undef := by
        rw [Array.getD_eq_getD_getElem?, Array.getElem?_append_right hge, Array.getElem?_replicate]
        split <;> rfl
      rw [this]
      simp [VR]
/-- The table of compact code is the program's. -/
def CfgOk (c : Cfg) : Prop := ∀ f i, c.fn f = some i → ∃ fn V, c.P.funcs[f]? = some fn ∧ compF c.P V fn = some i
def DrawOk (c : Cfg) (dr : Drawer) : Prop := ∀ cl, Sound c.P cl → ∀ nt, DrawS c.P (dr c cl nt) nt
theorem compF_spec {V : List Nat} {fn : Func} {i : IFn} (h : compF P V fn = some i) : (fn.name == "runtime.NumGoroutine") = false ∧ ∃ body, fn.body = some body ∧ i.nt = fn.ntmps ∧ compC P body = some i.body ∧ compRes P fn.results.toList = some i.res := by
  unfold compF at h
  split at h
  · cases h
  · rename_i hn
    split at h
    · rename_i body hb
      split at h
      · rename_i b r h1 h2
        simp only [Option.some.injEq] at h
        subst h
        exact ⟨by simpa using hn, body, hb, rfl, h1, h2⟩
      · cases h
    · cases h
theorem Ret_out {H : Heap} {m n' : Nat} {r : AV} {H' : Heap} {e : Ending} {ρ : Rho} {w' : World} (h : Ret A ρ H w m r H' n' e w') : Ret A ρ H w m (frzX H' r) [] n' e w' := by
  cases e with
  | returned x =>
    obtain ⟨ρ', g1, g2, g3, g4⟩ := h
    have hw : ∀ b o, Wr ρ' [] b o → Wr ρ' H' b o := fun b o hw => by
      obtain ⟨id, es, ob, h1, _⟩ := hw
      simp at h1
    have hn : ∀ b o, ¬ Wr ρ' [] b o := fun b o hw => by
      obtain ⟨id, es, ob, h1, _⟩ := hw
      simp at h1
    refine ⟨ρ', Rep_sub g1 (fun k o hk => by simp at hk), ?_, g3, g4.trans (Fr_less hw)⟩
    refine VR_mono (Stay.less fun b o hu => ?_) _ _ noRho ρ' (fun id x hx => by cases hx) (VR_frzX g1 r x g2)
    exact hu.elim (fun h => h) (fun h => absurd h (hn b o))
  | panicked chain => exact h
  | outgrown => exact h
theorem outX_some {b : Bool} {x : Option (AV × Heap × Nat)} {r : AV} {H' : Heap} {n' : Nat} (h : outX b x = some (r, H', n')) : ∃ r0 H0, x = some (r0, H0, n') ∧ ((r = r0 ∧ H' = H0) ∨ (r = frzX H0 r0 ∧ H' = [])) := by
  cases b with
  | false => exact ⟨r, H', h, .inl ⟨rfl, rfl⟩⟩
  | true =>
    cases x with
    | none => cases h
    | some p =>
      obtain ⟨r0, H0, n0⟩ := p
      simp only [outX, cond_true, Option.some.injEq, Prod.mk.injEq] at h
      obtain ⟨rfl, rfl, rfl⟩ := h
      exact ⟨r0, H0, rfl, .inr ⟨rfl, rfl⟩⟩
theorem sound_callF (hc : CfgOk c) {dr : Drawer} (hd : DrawOk c dr) (hp : Sound c.P c.pr) : ∀ k, Sound c.P (callF c dr k)
  | 0 => ⟨hp.cln, fun h => by simp [callF] at h, fun h => by simp [callF] at h⟩
  | k + 1 => by
    have ih := sound_callF hc hd hp k
    refine ⟨hp.cln, fun {f args H m r} h => ?_, fun {f args H m r H' n'} h A ρ w xs hr hx => ?_⟩
    · simp only [callF] at h
      split at h
      · rename_i i hi
        obtain ⟨fn, V, h1, h2⟩ := hc f i hi
        obtain ⟨h3, body, h4, _⟩ := compF_spec h2
        exact ⟨fn, h1, h3, by rw [h4]; rfl⟩
      · exact hp.fn h
    · simp only [callF] at h
      split at h
      · rename_i i hi
        obtain ⟨fn, V, h1, h2⟩ := hc f i hi
        obtain ⟨h3, body, h4, h5, h6, h7⟩ := compF_spec h2
        split at h
        · rename_i hn
          obtain ⟨r0, H0, h, hrr⟩ := outX_some h
          have hbase : Calls c.P f xs w (Ret A ρ H w m r0 H0 n') → Calls c.P f xs w (Ret A ρ H w m r H' n') := fun hh => Calls.mono hh fun e w' he => by
            rcases hrr with ⟨rfl, rfl⟩ | ⟨rfl, rfl⟩
            · exact he
            · exact Ret_out he
          refine hbase ?_
          clear hbase hrr
          have hst := SR_start hr hx hn i.live
          rw [h5] at hst
          refine calls_of_wp h1 h4 ?_
          unfold retK at h
          split at h
          · cases h
          · rename_i e s1 hne he
            split at h
            · rename_i vs hvs
              simp only [Option.some.injEq, Prod.mk.injEq] at h
              obtain ⟨rfl, rfl, rfl⟩ := h
              refine snd_code ih (hd _ ih i.nt) (nt := i.nt) (fun j x hj => hr.ltR j x hj) body h6 (by rw [h5]; exact hst) he fun a' w' hs => ?_
              obtain ⟨ρ1, q1, q2, q3, q4⟩ := hs.ex
              obtain ⟨ys, g1, g2⟩ := snd_res q1 q2 h7 hvs
              have hbody : ∃ v, (results fn a'.tmps).run c.P w' = .ok v w' ∧ Ret A ρ H w m (ren (pos (places s1.H m vs)) (one vs)) (renH (pos (places s1.H m vs)) s1.H) (places s1.H m vs).length (.returned v) w' := by
                refine ⟨_, run_results g1, ?_⟩
                obtain ⟨p1, p2⟩ := places_spec s1.H m vs
                obtain ⟨r1, r2, r3⟩ := Rep_pos (l := places s1.H m vs) q1
                refine ⟨rhoOf (places s1.H m vs) ρ1, r1, VR_pos q1 ?_, Ext_pos q3 (fun j x hj => hr.ltR j x hj) p2, q4.trans r3⟩
                have hlen := VRs_length g2
                match vs, ys, g2, hlen with
                | [], [], g2, _ => simp only [one, VR]; exact ⟨_, rfl, g2⟩
                | [v], [y], g2, _ =>
                  simp only [one]
                  simp only [VRs] at g2
                  obtain ⟨x, r, e1, e2, e3⟩ := g2
                  simp only [List.cons.injEq] at e1
                  rw [e1.1]
                  exact e2
                | v :: v2 :: r, y :: y2 :: r', g2, _ => simp only [one, VR]; exact ⟨_, rfl, g2⟩
              obtain ⟨v, b1, b2⟩ := hbody
              cases e with
              | norm => exact ⟨hs.defers, v, b1, b2⟩
              | ret => exact ⟨hs.defers, v, b1, b2⟩
              | out id => exact absurd rfl (hne id)
            · cases h
          · cases h
        · cases h
      · exact hp.calls h hr hx
end
end Go.Proofs.Ytefjblgmnoheiaa.R
