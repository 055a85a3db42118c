/- One operation, as the program has it. -/
import Derived.Test.YtcmejocmohohpaaRCpy
import Derived.Tactics
import Derived.LoopN
import Derived.Orders
set_option linter.unusedVariables false
set_option linter.unusedSectionVars false
set_option linter.unusedSimpArgs false
noncomputable section
namespace Go.Proofs.Ytcmejocmohohpaa.R
open Go
/-- What an operation that answers v and leaves s' lets follow. -/
def Goes (P : Program) (A : Nat → Nat → Prop) (ρ : Rho) (s : St) (w : World) (v : AV) (s' : St) (o : Oper) (a : Act) : Prop :=
  ∀ (K : Act → World → Prop) (Q : Exit → Act → World → Prop), (∀ x w', Post A ρ s w v s' x w' → K (a.put o.dst x) w') → o.wp P a w K Q
section
variable {P : Program} {w : World} {A : Nat → Nat → Prop} {ρ : Rho} {s s' : St} {v : AV} {o : Oper} {a : Act}
theorem goes_v {m : Sem Value} (he : execOp a.eval o = (do pure (Next.value (← m)))) (h : ∃ x w', m.run P w = .ok x w' ∧ Post A ρ s w v s' x w') : Goes P A ρ s w v s' o a := by
  intro K Q hK
  obtain ⟨x, w', h1, h2⟩ := h
  unfold Oper.wp
  rw [he]
  simp only [Sem.run_bind, h1, Result.andThen_ok, Sem.run_pure]
  exact hK x w' h2
theorem goes_u {m : Sem Unit} (he : execOp a.eval o = (do m; pure Next.skip)) (h : ∃ w', m.run P w = .ok () w' ∧ Post A ρ s w v s' undef w') : Goes P A ρ s w v s' o a := by
  intro K Q hK
  obtain ⟨w', h1, h2⟩ := h
  unfold Oper.wp
  rw [he]
  simp only [Sem.run_bind, h1, Result.andThen_ok, Sem.run_pure]
  exact hK undef w' h2
theorem keep_inv {g : Option AV} (h : keep s g = some (v, s')) : g = some v ∧ s' = s := by
  cases g with
  | none => simp [keep] at h
  | some x =>
    simp only [keep, Option.some.injEq, Prod.mk.injEq] at h
    exact ⟨by rw [h.1], h.2.symm⟩
theorem goes_p {m : Sem Value} (hr : Rep A ρ s.H s.nx w) (he : execOp a.eval o = (do pure (Next.value (← m)))) {g : Option AV} (hg : keep s g = some (v, s')) (h : g = some v → ∃ x, m.run P w = .ok x w ∧ VR w (UU A ρ s.H) ρ v x) : Goes P A ρ s w v s' o a := by
  obtain ⟨hg', rfl⟩ := keep_inv hg
  obtain ⟨x, h1, h2⟩ := h hg'
  exact goes_v he ⟨x, w, h1, Post.same hr h2⟩
theorem elTy_of {t : TypeId} {xe : TI} (h : elemOfT P t = some xe) : ∃ e, P.underlying t = some (.slice e) ∧ tyOf P e = some xe := by
  unfold elemOfT at h
  split at h
  · rename_i e _ _ _ ht
    exact ⟨e, (tyOf_spec ht).1, h⟩
  · cases h
theorem eval_map (xs : Array Operand) : (xs.map a.eval).toList = xs.toList.map a.eval := by simp
theorem VRs_two {w : World} {U : Nat → Nat → Prop} {ρ : Rho} {x y : AV} {xs : Array Value} (h : VRs w U ρ [x, y] xs.toList) : ∃ X Y, xs = #[X, Y] ∧ VR w U ρ x X ∧ VR w U ρ y Y := by
  simp only [VRs] at h
  obtain ⟨X, r, h1, h2, Y, r2, rfl, h3, rfl⟩ := h
  exact ⟨X, Y, by apply Array.ext'; simpa using h1, h2, h3⟩
theorem VRs_solo {w : World} {U : Nat → Nat → Prop} {ρ : Rho} {x : AV} {xs : Array Value} (h : VRs w U ρ [x] xs.toList) : ∃ X, xs = #[X] ∧ VR w U ρ x X := by
  simp only [VRs] at h
  obtain ⟨X, r, h1, h2, rfl⟩ := h
  exact ⟨X, by apply Array.ext'; simpa using h1, h2⟩
theorem toList_one {α : Type} {xs : Array α} {x : α} (h : xs.toList = [x]) : xs = #[x] := by apply Array.ext'; simpa using h
theorem toList_two {α : Type} {xs : Array α} {x y : α} (h : xs.toList = [x, y]) : xs = #[x, y] := by apply Array.ext'; simpa using h
/-- The operations that call nothing. -/
def callB : IP → Bool
  | .call _ _ => true
  | .callv _ _ => true
  | _ => false
theorem goes_builtin {c : Cfg} {cl : Callee} (hr : Rep A ρ s.H s.nx w) (hv : Vals w (UU A ρ s.H) ρ s a) {b : Builtin} {args : Array Operand} {ts : Array TypeId} (ho : o.op = .call ⟨.builtin b, args, ts⟩) {as : List Opd} (has : opds args.toList = some as) {ip : IP}
    (hc : compBuiltin P b as ts.toList = some ip) (h : evOp c cl s ip = some (v, s')) : Goes P A ρ s w v s' o a := by
  have hvs := VRs_opds hv has
  rw [← eval_map] at hvs
  have hexec : execOp a.eval o = builtin b ts o.type (args.map fun | .const _ => true | _ => false) (args.map a.eval) := by
    simp only [execOp, ho, resolve]
    rfl
  unfold compBuiltin at hc
  split at hc
  · rename_i x t hts
    obtain ⟨X, hX, h1⟩ := VRs_solo hvs
    have hts' := toList_one hts
    split at hc
    · rename_i ti hti
      split at hc
      · rename_i hd
        simp only [Option.some.injEq] at hc
        subst hc
        refine goes_p (m := Builtin.len_ ts o.type #[X]) hr ?_ h fun hg => ?_
        · rw [hexec, hX]; rfl
        · rw [hts']; exact snd_lens hti hd h1 hg
      · rename_i e hd
        simp only [Option.some.injEq] at hc
        subst hc
        refine goes_p (m := Builtin.len_ ts o.type #[X]) hr ?_ h fun hg => ?_
        · rw [hexec, hX]; rfl
        · rw [hts']; exact snd_lenl hti hd h1 hg
      · cases hc
    · cases hc
  · rename_i x y _
    obtain ⟨X, Y, hX, h1, h2⟩ := VRs_two hvs
    simp only [Option.some.injEq] at hc
    subst hc
    refine goes_p (m := Builtin.max_ ts o.type #[X, Y]) hr ?_ h fun hg => ?_
    · rw [hexec, hX]; rfl
    · exact snd_mx h1 h2 hg
  · rename_i x y _
    obtain ⟨X, Y, hX, h1, h2⟩ := VRs_two hvs
    simp only [Option.some.injEq] at hc
    subst hc
    refine goes_p (m := Builtin.min_ ts o.type #[X, Y]) hr ?_ h fun hg => ?_
    · rw [hexec, hX]; rfl
    · exact snd_mn h1 h2 hg
  · rename_i x y t t2 hts
    obtain ⟨X, Y, hX, h1, h2⟩ := VRs_two hvs
    have hts' := toList_two hts
    split at hc
    · rename_i xe x2 hxe hx2
      split at hc
      · rename_i z hz
        split at hc
        · rename_i hcond
          simp only [Option.some.injEq] at hc
          subst hc
          obtain ⟨e, g1, g2⟩ := elTy_of hxe
          refine goes_v (m := Builtin.append_ ts o.type #[X, Y]) ?_ ?_
          · rw [hexec, hX]; rfl
          · rw [hts']
            exact snd_app hr ⟨e, xe, x2, z, g1, g2, hx2, hz, hcond.1, hcond.2.1, hcond.2.2.1, hcond.2.2.2, rfl⟩ h1 h2 h
        · cases hc
      · cases hc
    · cases hc
  · rename_i x y t tr hts
    obtain ⟨X, Y, hX, h1, h2⟩ := VRs_two hvs
    split at hc
    · rename_i xe hxe
      split at hc
      · rename_i hcond
        simp only [Option.some.injEq] at hc
        subst hc
        obtain ⟨e, g1, g2⟩ := elTy_of hxe
        refine goes_v (m := Builtin.copy_ ts o.type #[X, Y]) ?_ ?_
        · rw [hexec, hX]; rfl
        · exact snd_cpy hr hts g1 g2 hcond h1 h2 h
      · cases hc
    · cases hc
  · cases hc
end
end Go.Proofs.Ytcmejocmohohpaa.R

/- Every operation that calls nothing. -/
set_option linter.unusedVariables false
set_option linter.unusedSectionVars false
set_option linter.unusedSimpArgs false
noncomputable section
namespace Go.Proofs.Ytcmejocmohohpaa.R
open Go
section
variable {P : Program} {w : World} {A : Nat → Nat → Prop} {ρ : Rho} {s s' : St} {v : AV} {o : Oper} {a : Act} {c : Cfg} {cl : Callee} {ip : IP}
theorem goes_bin (hr : Rep A ρ s.H s.nx w) (hv : Vals w (UU A ρ s.H) ρ s a) {op : BinOp} {t ty2 : TypeId} {x y : Operand} (ho : o.op = .binOp op t x y ty2) {X Y : Opd} (hx : opd x = some X) (hy : opd y = some Y) (hc : compBin P op t X Y = some ip) (h : evOp c cl s ip = some (v, s')) : Goes P A ρ s w v s' o a := by
  have h1 := VR_opd hv hx
  have h2 := VR_opd hv hy
  have hexec : execOp a.eval o = (do pure (Next.value (← (do eqGuard op t x y (a.eval x) (a.eval y); binOp op t (a.eval x) (a.eval y))))) := by
    simp only [execOp, ho]
  unfold compBin at hc
  split at hc
  · rename_i ti hti
    split at hc
    · simp only [Option.some.injEq] at hc
      subst hc
      exact goes_p hr hexec h fun hg => snd_bin h1 h2 hg
    · simp only [Option.some.injEq] at hc
      subst hc
      exact goes_p hr hexec h fun hg => snd_bin h1 h2 hg
    · rename_i hd
      split at hc
      · simp only [Option.some.injEq] at hc
        subst hc
        exact goes_p hr hexec h fun hg => snd_eqb (neg := false) hti hd h1 h2 hg
      · simp only [Option.some.injEq] at hc
        subst hc
        exact goes_p hr hexec h fun hg => snd_eqb (neg := true) hti hd h1 h2 hg
      · cases hc
    · rename_i fs hd
      split at hc
      · cases hc
      · rename_i hgd
        have hgd' : P.stoodInHeld t = false ∧ P.eqGuardType P.depth t = false := by
          simpa [Bool.or_eq_true] using hgd
        split at hc
        · rename_i l hl
          split at hc
          · simp only [Option.some.injEq] at hc
            subst hc
            exact goes_p hr hexec h fun hg => snd_eqc (neg := false) hti hd hgd'.1 hgd'.2 hl h1 h2 hg
          · simp only [Option.some.injEq] at hc
            subst hc
            exact goes_p hr hexec h fun hg => snd_eqc (neg := true) hti hd hgd'.1 hgd'.2 hl h1 h2 hg
          · cases hc
        · cases hc
    · cases hc
  · cases hc
theorem goes_conv (hr : Rep A ρ s.H s.nx w) (hv : Vals w (UU A ρ s.H) ρ s a) {t t2 : TypeId} {x : Operand} (ho : o.op = .convert t t2 x) {X : Opd} (hx : opd x = some X) (hc : compConv P t t2 X = some ip) (h : evOp c cl s ip = some (v, s')) : Goes P A ρ s w v s' o a := by
  have h1 := VR_opd hv hx
  have hexec : execOp a.eval o = (do pure (Next.value (← convert t t2 (a.eval x)))) := by simp only [execOp, ho]
  unfold compConv at hc
  split at hc
  · rename_i xs xd hxs hxd
    split at hc
    · rename_i k e1 e2
      simp only [Option.some.injEq] at hc
      subst hc
      exact goes_p hr hexec h fun hg => snd_cvt hxs hxd e2 h1 hg
    · rename_i e1 e2
      simp only [Option.some.injEq] at hc
      subst hc
      exact goes_p hr hexec h fun hg => snd_cst hxs hxd e2 h1 hg
    · rename_i e e1 e2
      split at hc
      · rename_i _ _ _ hte
        simp only [Option.some.injEq] at hc
        subst hc
        exact goes_v hexec (snd_s2b hr hxs hxd e2 hte rfl h1 h)
      · cases hc
    · rename_i e e1 e2
      split at hc
      · rename_i _ _ _ hte
        simp only [Option.some.injEq] at hc
        subst hc
        exact goes_p hr hexec h fun hg => snd_b2s hr hxs e1 hxd e2 hte rfl h1 hg
      · cases hc
    · cases hc
  · cases hc
theorem VRq_eq {pl : List (Nat × Operand)} {parts : Array (Nat × Operand)} (h : parts.toList = pl) : (parts.map fun (i, x) => (i, a.eval x)).toList = pl.map fun p => (p.1, a.eval p.2) := by
  subst h; simp
theorem goes_plain (hr : Rep A ρ s.H s.nx w) (hv : Vals w (UU A ρ s.H) ρ s a) (hc : comp P o.op = some ip) (hn : callB ip = false) (h : evOp c cl s ip = some (v, s')) : Goes P A ρ s w v s' o a := by
  cases ho : o.op <;> simp only [ho, comp] at hc
  case move x =>
    split at hc
    · rename_i X hx
      simp only [Option.some.injEq] at hc
      subst hc
      simp only [evOp, Option.some.injEq, Prod.mk.injEq] at h
      obtain ⟨rfl, rfl⟩ := h
      refine goes_v (m := pure (a.eval x)) (by simp only [execOp, ho, pure_bind]) ⟨_, w, Sem.run_pure .., Post.same hr (VR_opd hv hx)⟩
    · cases hc
  case assign x =>
    split at hc
    · rename_i X hx
      simp only [Option.some.injEq] at hc
      subst hc
      simp only [evOp, Option.some.injEq, Prod.mk.injEq] at h
      obtain ⟨rfl, rfl⟩ := h
      refine goes_v (m := pure (a.eval x)) (by simp only [execOp, ho, pure_bind]) ⟨_, w, Sem.run_pure .., Post.same hr (VR_opd hv hx)⟩
    · cases hc
  case pick b x y =>
    split at hc
    · rename_i B X Y hb hx hy
      simp only [Option.some.injEq] at hc
      subst hc
      obtain ⟨hg, rfl⟩ := keep_inv h
      obtain ⟨z, h1, h2⟩ := snd_pick (P := P) (VR_opd hv hb) (VR_opd hv hx) (VR_opd hv hy) hg
      intro K Q hK
      unfold Oper.wp
      have : (execOp a.eval o).run P w = .ok (.value z) w := by
        rw [← h1]
        simp only [execOp, ho]
      rw [this]
      exact hK z w (Post.same hr h2)
    · cases hc
  case binOp op t x y t2 =>
    split at hc
    · rename_i X Y hx hy
      exact goes_bin hr hv ho hx hy hc h
    · cases hc
  case unOp op t x =>
    split at hc
    · rename_i X hx
      simp only [Option.some.injEq] at hc
      subst hc
      exact goes_p (m := Op.unary .neg (a.eval x)) hr (by simp only [execOp, ho]) h fun hg => snd_ngt (VR_opd hv hx) hg
    · rename_i X hx
      simp only [Option.some.injEq] at hc
      subst hc
      exact goes_p (m := Op.unary .not (a.eval x)) hr (by simp only [execOp, ho]) h fun hg => snd_nt (VR_opd hv hx) hg
    · cases hc
  case convert t t2 x =>
    split at hc
    · rename_i X hx
      exact goes_conv hr hv ho hx hc h
    · cases hc
  case build t parts =>
    split at hc
    · rename_i ti ps ht hp
      split at hc
      · rename_i z l hz hl
        split at hc
        · rename_i hcond
          simp only [Option.some.injEq] at hc
          subst hc
          simp only [Bool.and_eq_true] at hcond
          exact goes_p (m := Instr.build t (parts.map fun (i, x) => (i, a.eval x))) hr (by simp only [execOp, ho]) h fun hg => snd_build hv ht hp hz hl hcond.1 hcond.2 hg
        · cases hc
      · cases hc
    · cases hc
  case buildSlice t len parts =>
    split at hc
    · rename_i xe ps hxe hp
      split at hc
      · rename_i z hz
        split at hc
        · rename_i hcond
          simp only [Option.some.injEq] at hc
          subst hc
          obtain ⟨e, g1, g2⟩ := elTy_of hxe
          refine goes_v (m := Instr.buildSlice t len (parts.map fun (i, x) => (i, a.eval x))) (by simp only [execOp, ho]) ?_
          refine snd_bsl hr ⟨e, xe, g1, g2, ⟨z, hz, rfl⟩, hcond.1, by rw [frzs_length]; exact hcond.2.2.1, rfl, hcond.2.1⟩ hcond.2.2.2 ?_ h
          rw [VRq_eq rfl]
          exact VRq_evp hv hp
        · cases hc
      · cases hc
    · cases hc
  case load t p =>
    split at hc
    · rename_i x p' ht hp
      simp only [Option.some.injEq] at hc
      subst hc
      exact goes_p (m := Instr.loadAt t (a.eval p)) hr (by simp only [execOp, ho]) h fun hg => snd_load hr ht (VR_opd hv hp) hg
    · cases hc
  case store t p x =>
    split at hc
    · rename_i ti p' x' ht hp hx
      simp only [Option.some.injEq] at hc
      subst hc
      simp only [evOp] at h
      split at h
      · rename_i H hH
        simp only [Option.some.injEq, Prod.mk.injEq] at h
        obtain ⟨rfl, rfl⟩ := h
        exact goes_u (m := Instr.storeAt t (a.eval p) (a.eval x)) (by simp only [execOp, ho]) (snd_store hr ht (VR_opd hv hp) (VR_opd hv hx) hH)
      · cases h
    · cases hc
  case nilCheck x =>
    split at hc
    · rename_i X hx
      simp only [Option.some.injEq] at hc
      subst hc
      obtain ⟨hg, rfl⟩ := keep_inv h
      obtain ⟨z, h1, h2⟩ := snd_nc (P := P) (VR_opd hv hx) hg
      intro K Q hK
      unfold Oper.wp
      have : (execOp a.eval o).run P w = .ok (.value z) w := by
        rw [← h1]
        simp only [execOp, ho]
        rfl
      rw [this]
      exact hK z w (Post.same hr h2)
    · cases hc
  case alloc t =>
    split at hc
    · rename_i x ht
      split at hc
      · rename_i z hz
        simp only [Option.some.injEq] at hc
        subst hc
        simp only [evOp, Option.some.injEq, Prod.mk.injEq] at h
        obtain ⟨rfl, rfl⟩ := h
        exact goes_v (m := Instr.alloc t true (.tuple #[])) (by simp only [execOp, ho]) (snd_alloc hr ht hz)
      · cases hc
    · cases hc
  case box t x =>
    split at hc
    · rename_i X hx
      simp only [Option.some.injEq] at hc
      subst hc
      simp only [evOp] at h
      split at h
      · rename_i cs hcs
        split at h
        · simp only [Option.some.injEq, Prod.mk.injEq] at h
          obtain ⟨rfl, rfl⟩ := h
          exact goes_v (m := Instr.box t (a.eval x)) (by simp only [execOp, ho]) (snd_box hr (VR_opd hv hx) hcs)
        · cases h
      · cases h
    · cases hc
  case makeFunc f pre post =>
    cases f with
    | func f =>
      simp only at hc
      split at hc
      · rename_i X Y hx hy
        simp only [Option.some.injEq] at hc
        subst hc
        simp only [evOp, Option.some.injEq, Prod.mk.injEq] at h
        obtain ⟨rfl, rfl⟩ := h
        refine goes_v (m := Instr.makeFunc (.func f) (pre.map a.eval) (post.map a.eval)) (by simp only [execOp, ho]) ⟨.func (.func f) (pre.map a.eval) (post.map a.eval), w, rfl, Post.same hr ?_⟩
        simp only [VR]
        exact ⟨_, _, rfl, by rw [eval_map]; exact VRs_opds hv hx, by rw [eval_map]; exact VRs_opds hv hy⟩
      · cases hc
    | _ => simp at hc
  case makeSlice t l m =>
    split at hc
    · rename_i xe L M hxe hl hm
      split at hc
      · rename_i z hz
        split at hc
        · rename_i hcond
          simp only [Option.some.injEq] at hc
          subst hc
          obtain ⟨e, g1, g2⟩ := elTy_of hxe
          exact goes_v (m := Instr.makeSlice t (a.eval l) (a.eval m)) (by simp only [execOp, ho]) (snd_mks hr ⟨e, xe, g1, g2, ⟨z, hz, rfl⟩, hcond.1, by rw [frzs_length]; exact hcond.2.2, rfl, hcond.2.1⟩ (VR_opd hv hl) (VR_opd hv hm) h)
        · cases hc
      · cases hc
    · cases hc
  case slice t x lo hi mx =>
    split at hc
    · rename_i ti X LO HI MX ht hx hlo hhi hmx
      split at hc
      · rename_i hd
        split at hc
        · simp only [Option.some.injEq] at hc
          subst hc
          have hm : mx = none := by
            cases mx with
            | none => rfl
            | some m =>
              simp only [oopd] at hmx
              split at hmx <;> cases hmx
          subst hm
          exact goes_p (m := Instr.sliceAt t (a.eval x) (lo.map a.eval) (hi.map a.eval) none) hr (by simp only [execOp, ho]; rfl) h fun hg => snd_sls ht hd (VR_opd hv hx) (VRo_oopd hv hlo) (VRo_oopd hv hhi) hg
        · cases hc
      · rename_i e hd
        split at hc
        · rename_i xe hxe
          split at hc
          · rename_i hz
            simp only [Option.some.injEq] at hc
            subst hc
            exact goes_p (m := Instr.sliceAt t (a.eval x) (lo.map a.eval) (hi.map a.eval) (mx.map a.eval)) hr (by simp only [execOp, ho]) h fun hg => snd_sll ht hd hxe hz (VR_opd hv hx) (VRo_oopd hv hlo) (VRo_oopd hv hhi) (VRo_oopd hv hmx) hg
          · cases hc
        · cases hc
      · cases hc
    · cases hc
  case fieldAddr t x f =>
    split at hc
    · rename_i fs _ _ _ X ht hx
      split at hc
      · rename_i fl hfl
        split at hc
        · rename_i xf hxf
          split at hc
          · rename_i hz
            simp only [Option.some.injEq] at hc
            subst hc
            exact goes_p (m := Instr.fieldAt t (a.eval x) f) hr (by simp only [execOp, ho]) h fun hg => snd_fa ht rfl hfl hxf hz (VR_opd hv hx) hg
          · cases hc
        · cases hc
      · cases hc
    · cases hc
  case field t x f =>
    split at hc
    · rename_i fs _ _ _ X ht hx
      split at hc
      · rename_i fl hfl
        split at hc
        · rename_i xf hxf
          simp only [Option.some.injEq] at hc
          subst hc
          exact goes_p (m := Instr.field t (a.eval x) f) hr (by simp only [execOp, ho]) h fun hg => snd_fld ht rfl hfl hxf (VR_opd hv hx) hg
        · cases hc
      · cases hc
    · cases hc
  case indexAddr t x i =>
    split at hc
    · rename_i ti X I ht hx hi
      split at hc
      · rename_i e hd
        split at hc
        · rename_i xe hxe
          split at hc
          · simp only [Option.some.injEq] at hc
            subst hc
            exact goes_p (m := Instr.indexAt t (a.eval x) (a.eval i)) hr (by simp only [execOp, ho]) h fun hg => snd_ias ht hd hxe (VR_opd hv hx) (VR_opd hv hi) hg
          · cases hc
        · cases hc
      · rename_i n e hd
        split at hc
        · rename_i xe hxe
          simp only [Option.some.injEq] at hc
          subst hc
          exact goes_p (m := Instr.indexAt t (a.eval x) (a.eval i)) hr (by simp only [execOp, ho]) h fun hg => snd_iaa ht hd hxe (VR_opd hv hx) (VR_opd hv hi) hg
        · cases hc
      · cases hc
    · cases hc
  case index t x i =>
    split at hc
    · rename_i ti X I ht hx hi
      split at hc
      · rename_i hd
        simp only [Option.some.injEq] at hc
        subst hc
        exact goes_p (m := Instr.index t (a.eval x) (a.eval i)) hr (by simp only [execOp, ho]) h fun hg => snd_ixs ht hd (VR_opd hv hx) (VR_opd hv hi) hg
      · rename_i n e hd
        split at hc
        · rename_i xe hxe
          simp only [Option.some.injEq] at hc
          subst hc
          exact goes_p (m := Instr.index t (a.eval x) (a.eval i)) hr (by simp only [execOp, ho]) h fun hg => snd_ixa ht hd hxe (VR_opd hv hx) (VR_opd hv hi) hg
        · cases hc
      · cases hc
    · cases hc
  case extract x i =>
    split at hc
    · rename_i X hx
      simp only [Option.some.injEq] at hc
      subst hc
      exact goes_p (m := Instr.extract (a.eval x) i) hr (by simp only [execOp, ho]) h fun hg => snd_ext (VR_opd hv hx) hg
    · cases hc
  case call cc =>
    obtain ⟨callee, args, ts⟩ := cc
    simp only at hc
    split at hc
    · rename_i as has
      split at hc
      · rename_i b
        exact goes_builtin hr hv ho has hc h
      · simp only [Option.some.injEq] at hc
        subst hc
        simp [callB] at hn
      · split at hc
        · simp only [Option.some.injEq] at hc
          subst hc
          simp [callB] at hn
        · cases hc
      · cases hc
    · cases hc
  all_goals (cases hc)
end
end Go.Proofs.Ytcmejocmohohpaa.R

/- Other names for places: what stays true. -/
set_option linter.unusedVariables false
set_option linter.unusedSectionVars false
set_option linter.unusedSimpArgs false
noncomputable section
namespace Go.Proofs.Ytcmejocmohohpaa.R
open Go
theorem pos_get : ∀ {l : List Nat} {t j : Nat}, pos l t = some j → l[j]? = some t
  | [], t, j, h => by simp at h
  | x :: r, t, j, h => by
    rw [pos_cons] at h
    split at h
    · rename_i hx
      obtain rfl := Option.some.inj h
      simp [hx]
    · cases hp : pos r t with
      | none => simp [hp] at h
      | some k =>
        simp only [hp, Option.map_some, Option.some.injEq] at h
        subst h
        simpa using pos_get hp
theorem get_pos : ∀ {l : List Nat} {t j : Nat}, l.Nodup → l[j]? = some t → pos l t = some j
  | [], t, j, _, h => by simp at h
  | x :: r, t, j, hn, h => by
    rw [pos_cons]
    rw [List.nodup_cons] at hn
    cases j with
    | zero => simp at h; simp [h]
    | succ j =>
      simp only [List.getElem?_cons_succ] at h
      have hne : x ≠ t := fun e => hn.1 (e ▸ List.mem_of_getElem? h)
      rw [if_neg hne, get_pos hn.2 h]
      rfl
theorem pos_inj {l : List Nat} {i i' j : Nat} (h : pos l i = some j) (h' : pos l i' = some j) : i = i' := by
  have h1 := pos_get h
  have h2 := pos_get h'
  rw [h1] at h2
  exact Option.some.inj h2
theorem pos_lt {l : List Nat} {i j : Nat} (h : pos l i = some j) : j < l.length := by
  have h1 := pos_get h
  rcases Nat.lt_or_ge j l.length with h2 | h2
  · exact h2
  · rw [List.getElem?_eq_none h2] at h1; cases h1
def Inj (f : Nat → Option Nat) : Prop := ∀ i i' j, f i = some j → f i' = some j → i = i'
theorem lk_renH {f : Nat → Option Nat} (hf : Inj f) : ∀ {H : Heap} {j : Nat} {o' : Ob}, lk (renH f H) j = some o' → ∃ i o, lk H i = some o ∧ f i = some j ∧ o' = renOb f o
  | [], j, o', h => by simp [renH] at h
  | (i0, o0) :: r, j, o', h => by
    simp only [renH] at h
    split at h
    · rename_i j0 hj0
      rw [lk_cons] at h
      split at h
      · rename_i he
        subst he
        exact ⟨i0, o0, by simp, hj0, (Option.some.inj h).symm⟩
      · rename_i hne
        obtain ⟨i, o, h1, h2, h3⟩ := lk_renH hf h
        refine ⟨i, o, ?_, h2, h3⟩
        rw [lk_cons, if_neg]
        · exact h1
        · intro e
          subst e
          rw [hj0] at h2
          exact hne (Option.some.inj h2)
    · rename_i hj0
      obtain ⟨i, o, h1, h2, h3⟩ := lk_renH hf h
      refine ⟨i, o, ?_, h2, h3⟩
      rw [lk_cons, if_neg]
      · exact h1
      · intro e
        subst e
        rw [hj0] at h2
        cases h2
theorem lk_append {α : Type} : ∀ {l l' : List (Nat × α)} {k : Nat} {o : α}, lk (l ++ l') k = some o → lk l k = some o ∨ lk l' k = some o
  | [], l', k, o, h => .inr h
  | (i, x) :: r, l', k, o, h => by
    rw [List.cons_append, lk_cons] at h
    rw [lk_cons]
    split at h
    · rename_i he
      rw [if_pos he]
      exact .inl h
    · rename_i he
      rw [if_neg he]
      exact lk_append h
theorem lk_dropAll : ∀ {l : List Nat} {H : Heap} {k : Nat} {o : Ob}, lk (dropAll H l) k = some o → lk H k = some o ∧ k ∉ l
  | [], H, k, o, h => ⟨h, by simp⟩
  | i :: r, H, k, o, h => by
    simp only [dropAll] at h
    obtain ⟨h1, h2⟩ := lk_dropAll h
    rw [lk_rmv] at h1
    split at h1
    · cases h1
    · rename_i hne
      exact ⟨h1, by simp [hne, h2]⟩
theorem wrOb_ren {f : Nat → Option Nat} {es o : Nat} {ob : Ob} : wrOb es o (renOb f ob) ↔ wrOb es o ob := by
  cases ob <;> simp [renOb, wrOb]
section
variable {w : World} {A A' : Nat → Nat → Prop} {ρ ρ' : Rho} {H : Heap} {nx n : Nat} {f : Nat → Option Nat}
theorem ObR_ren {U U' : Nat → Nat → Prop} (hf : ∀ i j, f i = some j → ρ' j = ρ i) (hU : ∀ b o, U' b o → U b o) {b es : Nat} {o : Ob} (h : ObR w U ρ b es o) : ObR w U' ρ' b es (renOb f o) := by
  cases o with
  | box cells =>
    obtain ⟨C, e, fr, h1, h2, h3⟩ := h
    refine ⟨C, e, fr, h1, h2, ?_⟩
    have := VRs_ren (f := f) (ρ' := ρ') (fun id j x hj hx => by rw [hf _ _ hj]; exact hx) cells _ h3
    exact VRs_mono (Stay.less hU) _ _ ρ' ρ' (Ext.refl _) this
  | arr es' rows leak =>
    obtain ⟨h0, h0', C, e, fr, h1, h2, h3⟩ := h
    exact ⟨h0, h0', C, e, fr, h1, h2, ARs_mono (Stay.less hU) h3⟩
theorem Wr_ren (hi : Inj f) (hf : ∀ i j, f i = some j → ρ' j = ρ i) {b o : Nat} (h : Wr ρ' (renH f H) b o) : ∃ i j es ob, lk H i = some ob ∧ f i = some j ∧ ρ i = some (b, es) ∧ wrOb es o ob := by
  obtain ⟨j, es, ob, h1, h2, h3⟩ := h
  obtain ⟨i, o', h4, h5, rfl⟩ := lk_renH hi h1
  rw [hf _ _ h5] at h2
  exact ⟨i, j, es, o', h4, h5, h2, wrOb_ren.1 h3⟩
theorem Rep_ren (hr : Rep A ρ H nx w) (hi : Inj f) (hf : ∀ i j, f i = some j → ρ' j = ρ i) (hn : ∀ i j, f i = some j → j < n) (hR : ∀ j x, ρ' j = some x → j < n)
    (hA : ∀ b o, A' b o → b < w.heap.size) (hAU : ∀ b o, A' b o → UU A ρ H b o) (hap : ∀ i j o b es off, f i = some j → lk H i = some o → ρ i = some (b, es) → ¬ A' b off) :
    Rep A' ρ' (renH f H) n w ∧ ∀ b o, UU A' ρ' (renH f H) b o → UU A ρ H b o := by
  have hU : ∀ b o, UU A' ρ' (renH f H) b o → UU A ρ H b o := by
    rintro b o (h | h)
    · exact hAU b o h
    · obtain ⟨i, j, es, ob, h1, _, h2, h3⟩ := Wr_ren hi hf h
      exact .inr ⟨i, es, ob, h1, h2, h3⟩
  refine ⟨?_, hU⟩
  exact
    { ob := fun j o b es h1 h2 => by
        obtain ⟨i, o', h3, h4, rfl⟩ := lk_renH hi h1
        rw [hf _ _ h4] at h2
        exact ObR_ren hf hU (hr.ob i o' b es h3 h2)
      inj := fun j j' oj oj' b e e' h1 h2 h3 h4 => by
        obtain ⟨i, o, g1, g2, _⟩ := lk_renH hi h1
        obtain ⟨i', o', g3, g4, _⟩ := lk_renH hi h2
        rw [hf _ _ g2] at h3
        rw [hf _ _ g4] at h4
        have := hr.inj i i' o o' b e e' g1 g3 h3 h4
        subst this
        rw [g2] at g4
        exact Option.some.inj g4
      ltH := fun j o h1 => by
        obtain ⟨i, o', _, h4, _⟩ := lk_renH hi h1
        exact hn _ _ h4
      ltR := hR
      ltA := hA
      apart := fun j o b es off h1 h2 => by
        obtain ⟨i, o', h3, h4, rfl⟩ := lk_renH hi h1
        rw [hf _ _ h4] at h2
        exact hap i j o' b es off h4 h3 h2 }
end
/-! ### What can be come to -/
theorem reach_spec (H : Heap) : ∀ (n : Nat) (todo : List AV) (acc : List Nat), acc.Nodup →
    (reach H n todo acc).Nodup ∧ (∃ t, reach H n todo acc = acc ++ t) ∧ ∀ id ∈ reach H n todo acc, id ∈ acc ∨ ∃ o, lk H id = some o
  | 0, todo, acc, h => by
    simp only [reach]
    exact ⟨h, ⟨[], by simp⟩, fun id hi => .inl hi⟩
  | n + 1, [], acc, h => by
    simp only [reach]
    exact ⟨h, ⟨[], by simp⟩, fun id hi => .inl hi⟩
  | n + 1, v :: todo, acc, h => by
    have step : ∀ (id : Nat) (o : Ob) (todo' : List AV), id ∉ acc → lk H id = some o →
        (reach H n todo' (acc ++ [id])).Nodup ∧ (∃ t, reach H n todo' (acc ++ [id]) = acc ++ t) ∧ ∀ i ∈ reach H n todo' (acc ++ [id]), i ∈ acc ∨ ∃ o, lk H i = some o := by
      intro id o todo' hid ho
      have hn : (acc ++ [id]).Nodup := by
        rw [List.nodup_append]
        refine ⟨h, by simp, fun a ha b hb => ?_⟩
        simp at hb
        subst hb
        exact fun e => hid (e ▸ ha)
      obtain ⟨g1, ⟨t, g2⟩, g3⟩ := reach_spec H n todo' (acc ++ [id]) hn
      refine ⟨g1, ⟨[id] ++ t, by rw [g2]; simp⟩, fun i hi => ?_⟩
      rcases g3 i hi with h4 | h4
      · rcases List.mem_append.1 h4 with h5 | h5
        · exact .inl h5
        · simp at h5; subst h5; exact .inr ⟨o, ho⟩
      · exact .inr h4
    have same : ∀ todo', (reach H n todo' acc).Nodup ∧ (∃ t, reach H n todo' acc = acc ++ t) ∧ ∀ id ∈ reach H n todo' acc, id ∈ acc ∨ ∃ o, lk H id = some o :=
      fun todo' => reach_spec H n todo' acc h
    cases v <;> simp only [reach]
    case own es id off len ex =>
      split
      · exact same _
      · rename_i hid
        split
        · rename_i o ho; exact step id o _ hid ho
        · exact same _
    case eptr id i f =>
      split
      · exact same _
      · rename_i hid
        split
        · rename_i o ho; exact step id o _ hid ho
        · exact same _
    case ptr id off =>
      split
      · exact same _
      · rename_i hid
        split
        · rename_i cells ho; exact step id _ _ hid ho
        · rename_i o _ ho; exact step id o _ hid ho
        · exact same _
    all_goals exact same _
theorem places_spec (H : Heap) (m : Nat) (roots : List AV) : (places H m roots).Nodup ∧ ∀ j, j < m → pos (places H m roots) j = some j := by
  obtain ⟨h1, ⟨t, h2⟩, _⟩ := reach_spec H fuelR ((List.range m).flatMap (boxCells H) ++ roots) (List.range m) List.nodup_range
  refine ⟨h1, fun j hj => get_pos h1 ?_⟩
  unfold places
  rw [h2, List.getElem?_append_left (by simpa using hj), List.getElem?_range hj]
/-- The places, anew: what a state is behind that. -/
def rhoOf (l : List Nat) (ρ : Rho) : Rho := fun j => match l[j]? with | some i => ρ i | none => none
theorem rhoOf_pos {l : List Nat} {ρ : Rho} {i j : Nat} (h : pos l i = some j) : rhoOf l ρ j = ρ i := by
  simp [rhoOf, pos_get h]
theorem rhoOf_lt {l : List Nat} {ρ : Rho} {j : Nat} {x : Nat × Nat} (h : rhoOf l ρ j = some x) : j < l.length := by
  unfold rhoOf at h
  rcases Nat.lt_or_ge j l.length with h2 | h2
  · exact h2
  · rw [List.getElem?_eq_none h2] at h; cases h
section
variable {w : World} {A : Nat → Nat → Prop} {ρ : Rho} {H : Heap} {nx : Nat} {l : List Nat}
theorem Rep_pos (hr : Rep A ρ H nx w) : Rep A (rhoOf l ρ) (renH (pos l) H) l.length w ∧ (∀ b o, UU A (rhoOf l ρ) (renH (pos l) H) b o → UU A ρ H b o) ∧ Fr ρ H w (rhoOf l ρ) (renH (pos l) H) w := by
  have hi : Inj (pos l) := fun i i' j h h' => pos_inj h h'
  obtain ⟨h1, h2⟩ := Rep_ren (A' := A) (ρ' := rhoOf l ρ) (n := l.length) hr hi (fun i j h => rhoOf_pos h) (fun i j h => pos_lt h) (fun j x h => rhoOf_lt h) hr.ltA (fun b o h => .inl h) (fun i j o b es off _ ho hρ => hr.apart i o b es off ho hρ)
  refine ⟨h1, h2, ?_⟩
  exact
    { size := Nat.le_refl _
      os := rfl
      tape := rfl
      output := rfl
      cells := fun b C e fr hb => ⟨C, hb, rfl, fun _ _ => rfl⟩
      other := fun b ob hb _ => hb
      shrink := fun b o _ h => by
        obtain ⟨i, j, es, ob, g1, _, g2, g3⟩ := Wr_ren hi (fun i j h => rhoOf_pos h) h
        exact ⟨i, es, ob, g1, g2, g3⟩ }
theorem VR_pos (hr : Rep A ρ H nx w) {v : AV} {x : Value} (h : VR w (UU A ρ H) ρ v x) : VR w (UU A (rhoOf l ρ) (renH (pos l) H)) (rhoOf l ρ) (ren (pos l) v) x := by
  have h1 := VR_ren (f := pos l) (ρ' := rhoOf l ρ) (fun id j y hj hy => by rw [rhoOf_pos hj]; exact hy) v x h
  exact VR_mono (Stay.less (Rep_pos (l := l) hr).2.1) _ _ _ _ (Ext.refl _) h1
theorem Ext_pos {ρ0 : Rho} {m n : Nat} (h : Ext2 ρ0 m ρ n) (hm : ∀ i x, ρ0 i = some x → i < m) (hl : ∀ j, j < m → pos l j = some j) : Ext2 ρ0 m (rhoOf l ρ) l.length where
  ext i x hx := by
    rw [rhoOf_pos (hl i (hm i x hx))]
    exact h.ext i x hx
  cl k hk h0 := by
    rw [rhoOf_pos (hl k hk)]
    exact h.cl k hk h0
  le := by
    rcases Nat.eq_zero_or_pos m with h0 | h0
    · omega
    · have := pos_lt (hl (m - 1) (by omega))
      omega
end
end Go.Proofs.Ytcmejocmohohpaa.R

/- Calls. -/
set_option linter.unusedVariables false
set_option linter.unusedSectionVars false
set_option linter.unusedSimpArgs false
noncomputable section
namespace Go.Proofs.Ytcmejocmohohpaa.R
open Go
/-- What a function leaves behind that answers r over a heap H'. -/
def Ret (A : Nat → Nat → Prop) (ρ : Rho) (H : Heap) (w : World) (m : Nat) (r : AV) (H' : Heap) (n' : Nat) : Ending → World → Prop
  | .returned x, w' => ∃ ρ', Rep A ρ' H' n' w' ∧ VR w' (UU A ρ' H') ρ' r x ∧ Ext2 ρ m ρ' n' ∧ Fr ρ H w ρ' H' w'
  | _, _ => False
/-- An evaluator of calls that tells the truth. -/
structure Sound (P : Program) (cl : Callee) : Prop where
  fn : ∀ {f args H m r}, cl f args H m = some r → ∃ fn, P.funcs[f]? = some fn ∧ (fn.name == "runtime.NumGoroutine") = false ∧ fn.body.isNone = false
  calls : ∀ {f args H m r H' n'}, cl f args H m = some (r, H', n') → ∀ {A ρ w} {xs : Array Value}, Rep A ρ H m w → VRs w (UU A ρ H) ρ args xs.toList → Calls P f xs w (Ret A ρ H w m r H' n')
def PostE (A : Nat → Nat → Prop) (ρ : Rho) (s : St) (w : World) (v : AV) (s' : St) : Ending → World → Prop
  | .returned x, w' => Post A ρ s w v s' x w'
  | _, _ => False
theorem run_callFunc {P : Program} {w : World} {f : FuncId} {args : Array Value} {fn : Func} (hf : P.funcs[f]? = some fn) (hn : (fn.name == "runtime.NumGoroutine") = false) (hb : fn.body.isNone = false) : (callFunc f args).run P w = .ok (.enter f args) w := by
  have h1 : fn.name ≠ "runtime.NumGoroutine" := by simpa using hn
  have h2 : fn.body ≠ none := by
    intro e
    rw [e] at hb
    cases hb
  simp [callFunc, hf, h1, h2]
section
variable {P : Program} {w : World} {A : Nat → Nat → Prop} {ρ : Rho} {s s' : St} {v : AV} {c : Cfg} {cl : Callee}
theorem UU_lt {H : Heap} {nx : Nat} (hr : Rep A ρ H nx w) {b o : Nat} (h : UU A ρ H b o) : b < w.heap.size := by
  rcases h with h | ⟨id, es, ob, h1, h2, _⟩
  · exact hr.ltA b o h
  · have h6 := hr.ob id ob b es h1 h2
    cases ob with
    | box cells => obtain ⟨C, e, fr, h7, _⟩ := h6; exact lt_of_heap h7
    | arr es' rows leak => obtain ⟨_, _, C, e, fr, h7, _⟩ := h6; exact lt_of_heap h7
/-- Nothing was written. -/
theorem blk_same {ρ' : Rho} {H H' : Heap} {w' : World} (h : Fr ρ H w ρ' H' w') {b : Nat} {C : Array Value} {e : TypeId} {fr : Nat × Nat} (hb : w.heap[b]? = some (Obj.cells C e fr)) (hn : ∀ o, ¬ Wr ρ H b o) : w'.heap[b]? = w.heap[b]? := by
  obtain ⟨C', h1, h2, h3⟩ := h.cells b C e fr hb
  have : C' = C := by
    apply Array.ext h2
    intro i hi hi'
    have := h3 i (hn i)
    rw [Array.getElem?_eq_getElem hi, Array.getElem?_eq_getElem hi'] at this
    exact Option.some.inj this
  rw [h1, this, hb]
theorem Rep_quiet {ρ' : Rho} {H H' : Heap} {nx : Nat} {w' : World} (hr : Rep A ρ H nx w) (h : Fr noRho [] w ρ' H' w') : Rep A ρ H nx w' ∧ Fr ρ H w ρ H w' := by
  have hno : ∀ b o, ¬ Wr noRho [] b o := fun b o hw => by
    obtain ⟨id, es, ob, h1, _⟩ := hw
    simp at h1
  have hfr : Fr ρ H w ρ H w' :=
    { size := h.size
      os := h.os
      tape := h.tape
      output := h.output
      cells := fun b C e fr hb => by
        obtain ⟨C', h1, h2, h3⟩ := h.cells b C e fr hb
        exact ⟨C', h1, h2, fun o _ => h3 o (hno b o)⟩
      other := h.other
      shrink := fun _ _ _ hw => hw }
  refine ⟨?_, hfr⟩
  exact
    { ob := fun id o b es h1 h2 => by
        have h6 := hr.ob id o b es h1 h2
        refine ObR_mono hfr.stay (Ext.refl _) ?_ h6
        cases o with
        | box cells => obtain ⟨C, e, fr, h7, _⟩ := h6; exact blk_same h h7 (hno b)
        | arr es' rows leak => obtain ⟨_, _, C, e, fr, h7, _⟩ := h6; exact blk_same h h7 (hno b)
      inj := hr.inj
      ltH := hr.ltH
      ltR := hr.ltR
      ltA := fun b o ha => Nat.lt_of_lt_of_le (hr.ltA b o ha) h.size
      apart := hr.apart }
theorem Rep_start {w : World} {A' : Nat → Nat → Prop} (hA : ∀ b o, A' b o → b < w.heap.size) : Rep A' noRho [] 0 w where
  ob id o b es h := by simp at h
  inj i j oi oj b ei ej h := by simp at h
  ltH id o h := by simp at h
  ltR id x h := by simp [noRho] at h
  ltA := hA
  apart id o b es off h := by simp at h
theorem call_fz (hcl : Sound P cl) (hr : Rep A ρ s.H s.nx w) {f : FuncId} {args : List AV} {xs : Array Value} (hx : VRs w (UU A ρ s.H) ρ args xs.toList) {r : AV} {H1 : Heap} {n1 : Nat} (h1 : cl f (frzs s.H args) [] 0 = some (r, H1, n1)) (h : fzRet s args (frz H1 r) = some (v, s')) :
    Calls P f xs w (PostE A ρ s w v s') := by
  let A' := UU A ρ (leakVs s.H args)
  have hlk := leakVs_leaked args s.H
  have hr1 : Rep A ρ (leakVs s.H args) s.nx w := Rep_leak hr hlk
  have hrep : Rep A' noRho [] 0 w := Rep_start fun b o ha => UU_lt hr1 ha
  have hxs := VRs_frz hr args s.H (Leaked.refl _) (leakVs s.H args) (Leaked.refl _) _ hx
  have hU0 : ∀ b o, UU A' noRho [] b o → A' b o := by
    rintro b o (h | ⟨id, es, ob, h1, _⟩)
    · exact h
    · simp at h1
  refine Calls.mono (hcl.calls h1 hrep (VRs_mono (Stay.less hU0) _ _ _ _ (Ext.refl _) hxs)) fun e w' he => ?_
  cases e with
  | returned x =>
    obtain ⟨ρ', g1, g2, g3, g4⟩ := he
    have g5 := VR_frz g1 r H1 (Leaked.refl _) (leakV H1 r) (Leaked.refl _) x g2
    obtain ⟨q1, q2⟩ := Rep_quiet hr g4
    unfold fzRet at h
    split at h
    · rename_i hp
      simp only [Option.some.injEq, Prod.mk.injEq] at h
      obtain ⟨rfl, rfl⟩ := h
      exact ⟨rfl, rfl, ρ, q1, VR_plain _ _ hp g5, Ext2.refl _ _, q2⟩
    · split at h
      · rename_i hp
        simp only [Option.some.injEq, Prod.mk.injEq] at h
        obtain ⟨rfl, rfl⟩ := h
        refine ⟨rfl, rfl, ρ, Rep_leak q1 hlk, ?_, Ext2.refl _ _, q2.trans (Fr_less fun b o => Wr_leak hlk)⟩
        have g6 := VR_mono (Stay.less (U' := A') fun b o ha => .inl ha) _ _ _ _ (Ext.refl _) g5
        exact VR_free _ _ hp g6
      · cases h
  | panicked chain => exact he.elim
  | outgrown => exact he.elim
theorem backId_old {l : List Nat} {nx j : Nat} (h : j < l.length) : backId l l.length nx j = l[j]? := by simp [backId, h]
theorem backId_new {l : List Nat} {nx j : Nat} (h : ¬ j < l.length) : backId l l.length nx j = some (nx + (j - l.length)) := by simp [backId, h]
theorem call_loc (hcl : Sound P cl) (hr : Rep A ρ s.H s.nx w) {f : FuncId} {args : List AV} {xs : Array Value} (hx : VRs w (UU A ρ s.H) ρ args xs.toList) {l : List Nat} (hl : l.Nodup) (hlH : ∀ id ∈ l, ∃ o, lk s.H id = some o) {r : AV} {H1 : Heap} {n1 : Nat}
    (h1 : cl f (rens (pos l) args) (renH (pos l) s.H) l.length = some (r, H1, n1)) :
    Calls P f xs w (PostE A ρ s w (ren (backId l l.length s.nx) r) { s with H := renH (backId l l.length s.nx) H1 ++ dropAll s.H l, nx := s.nx + (n1 - l.length) }) := by
  let Hr := dropAll s.H l
  let A' := UU A ρ Hr
  let back := backId l l.length s.nx
  have hHr : ∀ k o, lk Hr k = some o → lk s.H k = some o ∧ k ∉ l := fun k o h => lk_dropAll h
  have hWr : ∀ b o, Wr ρ Hr b o → Wr ρ s.H b o := fun b o h => Wr_sub (fun k o hk => (hHr k o hk).1) h
  have hi : Inj (pos l) := fun i i' j h h' => pos_inj h h'
  obtain ⟨e1, e2⟩ := Rep_ren (A' := A') (ρ' := rhoOf l ρ) (n := l.length) hr hi (fun i j h => rhoOf_pos h) (fun i j h => pos_lt h) (fun j x h => rhoOf_lt h)
    (fun b o h => UU_lt hr (h.imp_right (hWr b o))) (fun b o h => h.imp_right (hWr b o)) (fun i j o b es off hp ho hρ => by
      rintro (h | ⟨id, es', ob, g1, g2, _⟩)
      · exact hr.apart i o b es off ho hρ h
      · obtain ⟨g3, g4⟩ := hHr _ _ g1
        have := hr.inj i id o ob b es es' ho g3 hρ g2
        subst this
        exact g4 (List.mem_of_getElem? (pos_get hp)))
  have hargs := VRs_ren (f := pos l) (ρ' := rhoOf l ρ) (fun id j y hj hy => by rw [rhoOf_pos hj]; exact hy) args _ hx
  refine Calls.mono (hcl.calls h1 e1 (VRs_mono (Stay.less e2) _ _ _ _ (Ext.refl _) hargs)) fun e w' he => ?_
  cases e with
  | panicked chain => exact he.elim
  | outgrown => exact he.elim
  | returned x =>
    obtain ⟨ρ', g1, g2, g3, g4⟩ := he
    let ρ2 : Rho := fun id => match pos l id with | some j => ρ' j | none => if id < s.nx then ρ id else if id - s.nx + l.length < n1 then ρ' (l.length + (id - s.nx)) else none
    have hlnx : ∀ id ∈ l, id < s.nx := fun id hid => by
      obtain ⟨o, ho⟩ := hlH id hid
      exact hr.ltH id o ho
    have hback : ∀ j i, back j = some i → j < n1 → ρ2 i = ρ' j := by
      intro j i hj hj1
      by_cases hlt : j < l.length
      · have hj' : l[j]? = some i := by rw [← backId_old hlt (nx := s.nx)]; exact hj
        simp only [ρ2, get_pos hl hj']
      · have hj' := backId_new (nx := s.nx) hlt
        have : i = s.nx + (j - l.length) := by
          have : some i = some (s.nx + (j - l.length)) := by rw [← hj']; exact hj.symm
          exact Option.some.inj this
        subst this
        have hp : pos l (s.nx + (j - l.length)) = none := by
          cases hp : pos l (s.nx + (j - l.length)) with
          | none => rfl
          | some q =>
            have := hlnx _ (List.mem_of_getElem? (pos_get hp))
            omega
        simp only [ρ2, hp]
        rw [if_neg (by omega), if_pos (by omega)]
        congr 1; omega
    have hext : Ext ρ ρ2 := by
      intro id y hy
      have hlt := hr.ltR id y hy
      cases hp : pos l id with
      | none => simp only [ρ2, hp, if_pos hlt]; exact hy
      | some j =>
        simp only [ρ2, hp]
        exact g3.ext j y (by rw [rhoOf_pos hp]; exact hy)
    have hinj : Inj back := by
      intro i i' j h h'
      by_cases hlt : i < l.length
      · have hi' : l[i]? = some j := by rw [← backId_old hlt (nx := s.nx)]; exact h
        have hj := hlnx j (List.mem_of_getElem? hi')
        by_cases hlt' : i' < l.length
        · have hi2 : l[i']? = some j := by rw [← backId_old hlt' (nx := s.nx)]; exact h'
          have a1 := get_pos hl hi'
          have a2 := get_pos hl hi2
          rw [a1] at a2
          exact Option.some.inj a2
        · have := (backId_new (nx := s.nx) hlt').symm.trans h'
          have := Option.some.inj this
          omega
      · have e1 := (backId_new (nx := s.nx) hlt).symm.trans h
        have e1 := Option.some.inj e1
        by_cases hlt' : i' < l.length
        · have hi2 : l[i']? = some j := by rw [← backId_old hlt' (nx := s.nx)]; exact h'
          have hj := hlnx j (List.mem_of_getElem? hi2)
          omega
        · have e2 := (backId_new (nx := s.nx) hlt').symm.trans h'
          have e2 := Option.some.inj e2
          omega
    let H2 := renH back H1 ++ Hr
    have hlk : ∀ i o, lk H2 i = some o → (∃ j o', lk H1 j = some o' ∧ back j = some i ∧ o = renOb back o' ∧ ρ2 i = ρ' j) ∨ (lk s.H i = some o ∧ i ∉ l ∧ i < s.nx ∧ ρ2 i = ρ i ∧ lk Hr i = some o) := by
      intro i o h
      rcases lk_append h with h | h
      · obtain ⟨j, o', a1, a2, a3⟩ := lk_renH hinj h
        exact .inl ⟨j, o', a1, a2, a3, hback j i a2 (g1.ltH j o' a1)⟩
      · obtain ⟨a1, a2⟩ := hHr i o h
        have a3 := hr.ltH i o a1
        refine .inr ⟨a1, a2, a3, ?_, h⟩
        have hp : pos l i = none := by
          cases hp : pos l i with
          | none => rfl
          | some q => exact absurd (List.mem_of_getElem? (pos_get hp)) a2
        simp only [ρ2, hp, if_pos a3]
    have hW2 : ∀ b o, Wr ρ2 H2 b o → Wr ρ' H1 b o ∨ Wr ρ Hr b o := by
      rintro b o ⟨i, es, ob, a1, a2, a3⟩
      rcases hlk i ob a1 with ⟨j, o', b1, b2, rfl, b4⟩ | ⟨b1, b2, b3, b4, b5⟩
      · rw [b4] at a2
        exact .inl ⟨j, es, o', b1, a2, wrOb_ren.1 a3⟩
      · rw [b4] at a2
        exact .inr ⟨i, es, ob, b5, a2, a3⟩
    have hU2 : ∀ b o, UU A ρ2 H2 b o → UU A' ρ' H1 b o := by
      rintro b o (h | h)
      · exact .inl (.inl h)
      · rcases hW2 b o h with h | h
        · exact .inr h
        · exact .inl (.inr h)
    have hWc : ∀ b o, Wr (rhoOf l ρ) (renH (pos l) s.H) b o → ∃ i j es ob, lk s.H i = some ob ∧ pos l i = some j ∧ ρ i = some (b, es) ∧ wrOb es o ob := fun b o h => Wr_ren hi (fun i j h => rhoOf_pos h) h
    have hfr : Fr ρ s.H w ρ2 H2 w' :=
      { size := g4.size
        os := g4.os
        tape := g4.tape
        output := g4.output
        cells := fun b C e fr hb => by
          obtain ⟨C', a1, a2, a3⟩ := g4.cells b C e fr hb
          refine ⟨C', a1, a2, fun o ho => a3 o fun hw => ho ?_⟩
          obtain ⟨i, j, es, ob, q1, _, q2, q3⟩ := hWc b o hw
          exact ⟨i, es, ob, q1, q2, q3⟩
        other := g4.other
        shrink := fun b o hb hw => by
          rcases hW2 b o hw with h | h
          · obtain ⟨i, j, es, ob, q1, _, q2, q3⟩ := hWc b o (g4.shrink b o hb h)
            exact ⟨i, es, ob, q1, q2, q3⟩
          · exact hWr b o h }
    have hmix : ∀ j o' b es, lk H1 j = some o' → ρ' j = some (b, es) → ∀ i ob es', lk Hr i = some ob → ρ i = some (b, es') → False := by
      intro j o' b es a1 a2 i ob es' a3 a4
      cases ob with
      | box cells => exact g1.apart j o' b es 0 a1 a2 (.inr ⟨i, es', _, a3, a4, trivial⟩)
      | arr es2 rows leak => exact g1.apart j o' b es (leak * es') a1 a2 (.inr ⟨i, es', _, a3, a4, Nat.le_refl _⟩)
    have hext2 : Ext2 ρ s.nx ρ2 (s.nx + (n1 - l.length)) := by
      refine ⟨hext, fun k hk h0 => ?_, by omega⟩
      cases hp : pos l k with
      | none => simp only [ρ2, hp, if_pos hk]; exact h0
      | some j =>
        simp only [ρ2, hp]
        exact g3.cl j (pos_lt hp) (by rw [rhoOf_pos hp]; exact h0)
    refine ⟨rfl, rfl, ρ2, ?_, ?_, hext2, hfr⟩
    · exact
        { ob := fun i o b es a1 a2 => by
            rcases hlk i o a1 with ⟨j, o', b1, b2, rfl, b4⟩ | ⟨b1, b2, b3, b4, b5⟩
            · rw [b4] at a2
              have h6 := g1.ob j o' b es b1 a2
              cases o' with
              | box cells =>
                obtain ⟨C, e, fr, k1, k2, k3⟩ := h6
                refine ⟨C, e, fr, k1, k2, ?_⟩
                have := VRs_ren (f := back) (ρ' := ρ2) (fun id j y hj hy => by rw [hback id j hj (g1.ltR id y hy)]; exact hy) cells _ k3
                exact VRs_mono (Stay.less hU2) _ _ _ _ (Ext.refl _) this
              | arr es' rows leak =>
                obtain ⟨k0, k0', C, e, fr, k1, k2, k3⟩ := h6
                exact ⟨k0, k0', C, e, fr, k1, k2, ARs_mono (Stay.less hU2) k3⟩
            · rw [b4] at a2
              have h6 := hr.ob i o b es b1 a2
              refine ObR_mono hfr.stay hext ?_ h6
              have hn : ∀ off, ¬ Wr (rhoOf l ρ) (renH (pos l) s.H) b off := by
                intro off hw
                obtain ⟨i2, j, es2, ob, q1, q2, q3, _⟩ := hWc b off hw
                have := hr.inj i i2 o ob b es es2 b1 q1 a2 q3
                subst this
                exact b2 (List.mem_of_getElem? (pos_get q2))
              cases o with
              | box cells => obtain ⟨C, e, fr, h7, _⟩ := h6; exact blk_same g4 h7 hn
              | arr es' rows leak => obtain ⟨_, _, C, e, fr, h7, _⟩ := h6; exact blk_same g4 h7 hn
          inj := fun i i' oi oi' b ei ei' a1 a2 a3 a4 => by
            rcases hlk i oi a1 with ⟨j, o', b1, b2, rfl, b4⟩ | ⟨b1, b2, b3, b4, b5⟩ <;> rcases hlk i' oi' a2 with ⟨j', o2, c1, c2, rfl, c4⟩ | ⟨c1, c2, c3, c4, c5⟩
            · rw [b4] at a3
              rw [c4] at a4
              have := g1.inj j j' o' o2 b ei ei' b1 c1 a3 a4
              subst this
              exact Option.some.inj (b2.symm.trans c2)
            · rw [b4] at a3
              rw [c4] at a4
              exact (hmix j o' b ei b1 a3 i' oi' ei' c5 a4).elim
            · rw [b4] at a3
              rw [c4] at a4
              exact (hmix j' o2 b ei' c1 a4 i oi ei b5 a3).elim
            · rw [b4] at a3
              rw [c4] at a4
              exact hr.inj i i' oi oi' b ei ei' b1 c1 a3 a4
          ltH := fun i o a1 => by
            simp only
            rcases hlk i o a1 with ⟨j, o', b1, b2, rfl, b4⟩ | ⟨b1, b2, b3, b4, b5⟩
            · have hj1 := g1.ltH j o' b1
              by_cases hlt : j < l.length
              · have hj' : l[j]? = some i := by rw [← backId_old hlt (nx := s.nx)]; exact b2
                have := hlnx i (List.mem_of_getElem? hj')
                omega
              · have := Option.some.inj ((backId_new (nx := s.nx) hlt).symm.trans b2)
                omega
            · omega
          ltR := fun i x hx => by
            simp only
            simp only [ρ2] at hx
            split at hx
            · rename_i j hp
              have := hlnx i (List.mem_of_getElem? (pos_get hp))
              omega
            · split at hx
              · omega
              · split at hx
                · omega
                · cases hx
          ltA := fun b o ha => Nat.lt_of_lt_of_le (hr.ltA b o ha) g4.size
          apart := fun i o b es off a1 a2 => by
            rcases hlk i o a1 with ⟨j, o', b1, b2, rfl, b4⟩ | ⟨b1, b2, b3, b4, b5⟩
            · rw [b4] at a2
              exact fun ha => g1.apart j o' b es off b1 a2 (.inl ha)
            · rw [b4] at a2
              exact hr.apart i o b es off b1 a2 }
    · have := VR_ren (f := back) (ρ' := ρ2) (fun id j y hj hy => by rw [hback id j hj (g1.ltR id y hy)]; exact hy) r x g2
      exact VR_mono (Stay.less hU2) _ _ _ _ (Ext.refl _) this
theorem snd_call (hcl : Sound P cl) (hr : Rep A ρ s.H s.nx w) {f : FuncId} {args : List AV} {xs : Array Value} (hx : VRs w (UU A ρ s.H) ρ args xs.toList) (h : callAV c cl s f args = some (v, s')) :
    (callFunc f xs).run P w = .ok (.enter f xs) w ∧ Calls P f xs w (PostE A ρ s w v s') := by
  unfold callAV at h
  split at h
  · split at h
    · rename_i r H1 n1 h1
      obtain ⟨fn, k1, k2, k3⟩ := hcl.fn h1
      exact ⟨run_callFunc k1 k2 k3, call_fz hcl hr hx h1 h⟩
    · cases h
  · simp only at h
    split at h
    · rename_i r H1 n1 h1
      obtain ⟨fn, k1, k2, k3⟩ := hcl.fn h1
      simp only [Option.some.injEq, Prod.mk.injEq] at h
      obtain ⟨rfl, rfl⟩ := h
      obtain ⟨q1, _, q3⟩ := reach_spec s.H fuelR args [] List.nodup_nil
      refine ⟨run_callFunc k1 k2 k3, call_loc hcl hr hx q1 (fun id hid => ?_) h1⟩
      rcases q3 id hid with h | h
      · simp at h
      · exact h
    · cases h
theorem goes_call (hcl : Sound P cl) {o : Oper} {a : Act} (hr : Rep A ρ s.H s.nx w) {f : FuncId} {args : List AV} {xs : Array Value} (he : (execOp a.eval o).run P w = (callFunc f xs).run P w) (hx : VRs w (UU A ρ s.H) ρ args xs.toList) (h : callAV c cl s f args = some (v, s')) : Goes P A ρ s w v s' o a := by
  intro K Q hK
  obtain ⟨h1, h2⟩ := snd_call hcl hr hx h
  unfold Oper.wp
  rw [he, h1, Oper.upon_enter]
  refine Calls.mono h2 fun e w' hp => ?_
  cases e with
  | returned x => exact hK x w' hp
  | panicked chain => exact hp.elim
  | outgrown => exact hp.elim
/-- Every operation. -/
theorem goes (hcl : Sound P cl) {o : Oper} {a : Act} {ip : IP} (hr : Rep A ρ s.H s.nx w) (hv : Vals w (UU A ρ s.H) ρ s a) (hc : comp P o.op = some ip) (h : evOp c cl s ip = some (v, s')) : Goes P A ρ s w v s' o a := by
  by_cases hn : callB ip = false
  · exact goes_plain hr hv hc hn h
  · have key : ∃ callee args ts as, o.op = .call ⟨callee, args, ts⟩ ∧ opds args.toList = some as ∧ ((∃ f, callee = .value (.func f) ∧ ip = .call f as) ∨ ∃ x g, callee = .value x ∧ opd x = some g ∧ ip = .callv g as) := by
      cases ho : o.op <;> simp only [ho, comp] at hc
      case call cc =>
        obtain ⟨callee, args, ts⟩ := cc
        simp only at hc
        split at hc
        · rename_i as has
          split at hc
          · rename_i b
            exfalso
            unfold compBuiltin at hc
            apply hn
            repeat' split at hc
            all_goals first
              | (cases hc; done)
              | (simp only [Option.some.injEq] at hc; subst hc; rfl)
          · rename_i f
            simp only [Option.some.injEq] at hc
            exact ⟨_, args, ts, as, rfl, has, .inl ⟨f, rfl, hc.symm⟩⟩
          · rename_i x _
            split at hc
            · rename_i g hg
              simp only [Option.some.injEq] at hc
              exact ⟨_, args, ts, as, rfl, has, .inr ⟨x, g, rfl, hg, hc.symm⟩⟩
            · cases hc
          · cases hc
        · cases hc
      case makeFunc f pre post =>
        exfalso
        apply hn
        cases f with
        | func f =>
          simp only at hc
          split at hc
          · simp only [Option.some.injEq] at hc
            subst hc
            rfl
          · cases hc
        | _ => simp at hc
      all_goals
        exfalso
        apply hn
        (try simp only [compBin, compConv] at hc)
        repeat' split at hc
        all_goals first
          | (cases hc; done)
          | (simp only [Option.some.injEq] at hc; subst hc; rfl)
    obtain ⟨callee, args, ts, as, ho, has, hcase⟩ := key
    have hvs := VRs_opds hv has
    rw [← eval_map] at hvs
    rcases hcase with ⟨f, rfl, rfl⟩ | ⟨x, g, rfl, hg, rfl⟩
    · simp only [evOp] at h
      refine goes_call hcl (xs := args.map a.eval) hr ?_ hvs h
      simp only [execOp, ho, resolve, Act.eval, Deferred.ofValue, invoke, Sem.run_bind, Sem.run_pure, Result.andThen_ok]
      simp
    · simp only [evOp] at h
      have hgv := VR_opd hv hg
      unfold callvAV at h
      split at h
      · rename_i f pre post heq
        rw [heq] at hgv
        simp only [VR] at hgv
        obtain ⟨ps, qs, h1, h2, h3⟩ := hgv
        refine goes_call hcl (xs := ps ++ args.map a.eval ++ qs) hr ?_ ?_ h
        · simp only [execOp, ho, resolve, h1, Deferred.ofValue, invoke, Sem.run_bind, Sem.run_pure, Result.andThen_ok]
        · simp only [Array.toList_append, List.append_assoc]
          exact VRs_append h2 (VRs_append hvs h3)
      · cases h
end
end Go.Proofs.Ytcmejocmohohpaa.R

/- Code: regions in the program's order, branches, loops. -/
set_option linter.unusedVariables false
set_option linter.unusedSectionVars false
set_option linter.unusedSimpArgs false
noncomputable section
namespace Go.Proofs.Ytcmejocmohohpaa.R
open Go
/-- A slot is kept at one place. -/
def Disj (s : St) : Prop := ∀ t x, lk s.env t = some x → lk s.loc t = none
/-- Where a function was entered. -/
structure Entry where
  ρ : Rho
  H : Heap
  w : World
  m : Nat
/-- An activation's state, as the program has it. -/
structure SR (A : Nat → Nat → Prop) (E : Entry) (nt : Nat) (s : St) (a : Act) (w : World) : Prop where
  disj : Disj s
  size : a.tmps.size = nt
  defers : a.defers = []
  ex : ∃ ρ, Rep A ρ s.H s.nx w ∧ Vals w (UU A ρ s.H) ρ s a ∧ Ext2 E.ρ E.m ρ s.nx ∧ Fr E.ρ E.H E.w ρ s.H w
theorem get_eq (s : St) (t : Nat) : s.get t = (lk s.loc t).getD ((lk s.env t).getD .bad) := by
  obtain ⟨e, l, H, n⟩ := s
  exact get_mk e l H n t
theorem put_spec {s : St} (hd : Disj s) (d : Nat) (v : AV) : (∀ t, (s.put d v).get t = if t = d then v else s.get t) ∧ Disj (s.put d v) ∧ (s.put d v).H = s.H ∧ (s.put d v).nx = s.nx := by
  obtain ⟨e, l, H, n⟩ := s
  rw [put_mk]
  cases hu : upd e d v with
  | some e' =>
    rw [updD_some]
    have hle := lk_upd hu
    have hed : ∃ x, lk e d = some x := by
      cases h : lk e d with
      | some x => exact ⟨x, rfl⟩
      | none =>
        exfalso
        have : ∀ (e e' : List (Nat × AV)), upd e d v = some e' → lk e d = none → False := by
          intro e
          induction e with
          | nil => intro e' h; simp at h
          | cons p r ih =>
            obtain ⟨k, y⟩ := p
            intro e' h h2
            rw [upd_cons] at h
            rw [lk_cons] at h2
            split at h2
            · cases h2
            · rename_i hk
              rw [if_neg hk] at h
              cases hr : upd r d v with
              | none => simp [hr] at h
              | some r' => exact ih r' hr h2
        exact this e e' hu h
    obtain ⟨x, hx⟩ := hed
    have hl : lk l d = none := hd d x hx
    refine ⟨fun t => ?_, fun t y hy => ?_, rfl, rfl⟩
    · rw [get_eq, get_eq]
      simp only [hle]
      by_cases ht : t = d
      · subst ht
        rw [if_pos rfl, if_pos rfl, hl]
        rfl
      · rw [if_neg ht, if_neg ht]
    · simp only [hle] at hy
      by_cases ht : t = d
      · subst ht; exact hl
      · rw [if_neg ht] at hy
        exact hd t y hy
  | none =>
    rw [updD_none]
    have hed : lk e d = none := by
      cases h : lk e d with
      | none => rfl
      | some x =>
        obtain ⟨e', he⟩ := upd_isSome (x := v) h
        rw [he] at hu
        cases hu
    refine ⟨fun t => ?_, fun t y hy => ?_, rfl, rfl⟩
    · rw [get_eq, get_eq]
      simp only [lk_cons]
      by_cases ht : d = t
      · subst ht; simp
      · have : ¬ t = d := fun e => ht e.symm
        simp [ht, this]
    · simp only [lk_cons]
      rw [if_neg]
      · exact hd t y hy
      · intro e
        subst e
        simp only at hy
        rw [hed] at hy
        cases hy
theorem putO_spec {s : St} (hd : Disj s) (d : Option Nat) (v : AV) : (∀ t, (s.putO d v).get t = if d = some t then v else s.get t) ∧ Disj (s.putO d v) ∧ (s.putO d v).H = s.H ∧ (s.putO d v).nx = s.nx := by
  cases d with
  | none => exact ⟨fun t => by simp [putO_none], hd, rfl, rfl⟩
  | some d =>
    obtain ⟨h1, h2, h3, h4⟩ := put_spec hd d v
    refine ⟨fun t => ?_, h2, h3, h4⟩
    rw [putO_some, h1]
    by_cases ht : t = d
    · subst ht; simp
    · have : ¬ (some d : Option Nat) = some t := fun e => ht (Option.some.inj e).symm
      simp [ht, this]
theorem act_put {a : Act} {nt : Nat} (hs : a.tmps.size = nt) {d : Option Nat} (hd : dstOk nt d = true) (x : Value) : (∀ t, (a.put d x).tmps.getD t undef = if d = some t then x else a.tmps.getD t undef) ∧ (a.put d x).tmps.size = nt ∧ (a.put d x).defers = a.defers := by
  cases d with
  | none => exact ⟨fun t => by simp [Act.put], hs, rfl⟩
  | some d =>
    have hlt : d < nt := by have : Nat.blt d nt = true := hd; rwa [Nat.blt_eq] at this
    refine ⟨fun t => ?_, by simpa [Act.put] using hs, rfl⟩
    simp only [Act.put]
    by_cases ht : d = t
    · subst ht
      have : d < a.tmps.size := by omega
      simp [this]
    · have : ¬ (some d : Option Nat) = some t := fun e => ht (Option.some.inj e)
      rw [if_neg this]
      simp [Array.getElem?_setIfInBounds_ne ht]
section
variable {P : Program} {A : Nat → Nat → Prop} {E : Entry} {nt : Nat} {c : Cfg} {cl : Callee} {s s' : St} {a : Act} {w : World}
/-- After an operation. -/
theorem SR_post (h : SR A E nt s a w) {ρ : Rho} (hr : Rep A ρ s.H s.nx w) (hv : Vals w (UU A ρ s.H) ρ s a) (he : Ext2 E.ρ E.m ρ s.nx) (hf : Fr E.ρ E.H E.w ρ s.H w) {v : AV} {s1 : St} {x : Value} {w' : World} (hp : Post A ρ s w v s1 x w') {d : Option Nat} (hd : dstOk nt d = true) :
    SR A E nt (s1.putO d v) (a.put d x) w' := by
  obtain ⟨h1, h2, ρ', h3, h4, h5, h6⟩ := hp
  have hd1 : Disj s1 := by
    intro t y hy
    rw [h1] at hy
    rw [h2]
    exact h.disj t y hy
  obtain ⟨g1, g2, g3, g4⟩ := putO_spec hd1 d v
  obtain ⟨k1, k2, k3⟩ := act_put h.size hd x
  refine ⟨g2, k2, by rw [k3]; exact h.defers, ρ', by rw [g3, g4]; exact h3, fun t => ?_, by rw [g4]; exact he.trans h5, by rw [g3]; exact hf.trans h6⟩
  rw [g1, k1, g3]
  split
  · exact h4
  · have hg : s1.get t = s.get t := by rw [get_eq, get_eq, h1, h2]
    rw [hg]
    exact VR_fr h6 h5.ext (hv t)
theorem SR_skip (h : SR A E nt s a w) {d : Option Nat} (hd : dstOk nt d = true) : SR A E nt (s.putO d .un) (a.put d undef) w := by
  obtain ⟨ρ, hr, hv, he, hf⟩ := h.ex
  exact SR_post h hr hv he hf (Post.same (s := s) (v := .un) hr (by simp [VR])) hd
theorem yielded_of {ops : Array Oper} {j : Nat} {q : Oper} {d : Nat} (hj : ops[j]? = some q) (hd : q.dst = some d) (tmps : Array Value) : yielded ops tmps j = match tmps.getD d undef with | .bool b => some b | _ => none := by
  unfold yielded
  simp only [hj, Option.bind_some, hd]
  cases h : tmps[d]? with
  | none =>
    have : tmps.getD d undef = undef := by simp [h]
    rw [this]
    rfl
  | some v =>
    have : tmps.getD d undef = v := by simp [h]
    rw [this]
    cases v <;> rfl
/-- Wanted here, wanted there. -/
theorem want_spec (h : SR A E nt s a w) {ops : Array Oper} {o : Oper} {io : Iop} (hc : compOp P ops.toList o = some io) {b : Bool} (hw : wantA s io.guard = some b) : comp P o.op = some io.op ∧ io.dst = o.dst ∧ Region.wanted o (yielded ops a.tmps) = b := by
  obtain ⟨ρ, hr, hv, _⟩ := h.ex
  unfold compOp at hc
  split at hc
  · rename_i ip hip
    split at hc
    · rename_i hg
      simp only [Option.some.injEq] at hc
      subst hc
      simp only [wantA, Option.some.injEq] at hw
      subst hw
      exact ⟨hip, rfl, by simp [Region.wanted, hg]⟩
    · rename_i j want hg
      split at hc
      · rename_i q hq
        split at hc
        · rename_i d hd
          simp only [Option.some.injEq] at hc
          subst hc
          refine ⟨hip, rfl, ?_⟩
          have hj : ops[j]? = some q := by simpa using hq
          simp only [Region.wanted, hg, yielded_of hj hd]
          have hvd := hv d
          simp only [wantA] at hw
          split at hw
          · rename_i b' hb'
            rw [hb'] at hvd
            simp only [VR] at hvd
            rw [hvd]
            simpa using hw
          · rename_i hu
            rw [hu] at hvd
            simp only [VR] at hvd
            rw [hvd]
            simp only [Option.some.injEq] at hw
            subst hw
            rfl
          · cases hw
        · cases hc
      · cases hc
  · cases hc
/-- One operation of a region. -/
theorem snd_io (hcl : Sound P cl) (h : SR A E nt s a w) {ops : Array Oper} {o : Oper} {io : Iop} (hc : compOp P ops.toList o = some io) (he : evIO c cl nt io s = some s') {K : Act → World → Prop} {Q : Exit → Act → World → Prop} (hK : ∀ a' w', SR A E nt s' a' w' → K a' w') :
    if Region.wanted o (yielded ops a.tmps) then o.wp P a w K Q else K (a.put o.dst undef) w := by
  unfold evIO at he
  rw [cond_eq_ite] at he
  split at he
  · rename_i hd
    split at he
    · rename_i b hb
      obtain ⟨h1, h2, h3⟩ := want_spec h hc hb
      rw [h3]
      rw [cond_eq_ite] at he
      cases b with
      | true =>
        simp only [if_true] at he ⊢
        split at he
        · rename_i v s1 hv
          rw [nowS_eq] at he
          simp only [Option.some.injEq] at he
          subst he
          obtain ⟨ρ, hr, hvs, hx, hf⟩ := h.ex
          refine goes hcl hr hvs h1 hv K Q fun x w' hp => hK _ _ ?_
          rw [← h2]
          exact SR_post h hr hvs hx hf hp hd
        · cases he
      | false =>
        simp only [Bool.false_eq_true, if_false] at he ⊢
        rw [nowS_eq] at he
        simp only [Option.some.injEq] at he
        subst he
        rw [← h2]
        exact hK _ _ (SR_skip h hd)
    · cases he
  · cases he
/-- Operations in the program's order. -/
theorem snd_ops (hcl : Sound P cl) {ops : Array Oper} {Q : Exit → Act → World → Prop} : ∀ {l : List Oper} {ios : List Iop} {s s' : St} {a : Act} {w : World}, compOps P ops.toList l = some ios → SR A E nt s a w → evOps c cl nt ios s = some s' → (∀ a' w', SR A E nt s' a' w' → Q .normal a' w') → wpList P ops Q l a w
  | [], ios, s, s', a, w, hc, h, he, hQ => by
    simp only [compOps, Option.some.injEq] at hc
    subst hc
    rw [evOps_nil] at he
    simp only [Option.some.injEq] at he
    subst he
    exact hQ a w h
  | o :: l, ios, s, s', a, w, hc, h, he, hQ => by
    simp only [compOps] at hc
    split at hc
    · rename_i io r h1 h2
      simp only [Option.some.injEq] at hc
      subst hc
      rw [evOps_cons] at he
      cases h3 : evIO c cl nt io s with
      | none => rw [h3, andThen_none] at he; cases he
      | some s1 =>
        rw [h3, andThen_some] at he
        refine wpList_step fun K hK => ?_
        exact snd_io hcl h h1 h3 fun a' w' hs => hK a' w' (snd_ops hcl h2 hs he hQ)
    · cases hc
theorem evOps_loc {s s1 : St} (h : SR A E nt s a w) : SR A E nt ⟨s.env, [], s.H, s.nx⟩ a w := by
  obtain ⟨ρ, hr, hv, hx, hf⟩ := h.ex
  refine ⟨fun t x _ => rfl, h.size, h.defers, ρ, hr, fun t => ?_, hx, hf⟩
  have h1 := hv t
  rw [get_eq] at h1 ⊢
  show VR w (UU A ρ s.H) ρ ((lk s.env t).getD .bad) _
  cases he : lk s.env t with
  | none => simp [VR]
  | some x =>
    rw [h.disj t x he, he] at h1
    exact h1
theorem lk_renEnv (f : Nat → Option Nat) : ∀ (e : List (Nat × AV)) (t : Nat), lk (renEnv f e) t = (lk e t).map (ren f)
  | [], t => by simp [renEnv]
  | (k, v) :: r, t => by
    simp only [renEnv, lk_cons]
    split
    · rfl
    · exact lk_renEnv f r t
/-- Places named anew. -/
theorem SR_tidy (hm : ∀ i x, E.ρ i = some x → i < E.m) (h : SR A E nt s a w) : SR A E nt (s.tidy E.m) a w := by
  obtain ⟨ρ, hr, hv, hx, hf⟩ := h.ex
  obtain ⟨p1, p2⟩ := places_spec s.H E.m (valsOf s.env)
  obtain ⟨q1, q2, q3⟩ := Rep_pos (l := places s.H E.m (valsOf s.env)) hr
  refine ⟨fun t x _ => rfl, h.size, h.defers, rhoOf (places s.H E.m (valsOf s.env)) ρ, q1, fun t => ?_, Ext_pos hx hm p2, hf.trans q3⟩
  have h1 := hv t
  rw [get_eq] at h1 ⊢
  show VR w _ _ ((lk (renEnv (pos (places s.H E.m (valsOf s.env))) s.env) t).getD .bad) _
  rw [lk_renEnv]
  cases he : lk s.env t with
  | none => simp [VR]
  | some x =>
    rw [h.disj t x he, he] at h1
    exact VR_pos hr h1
theorem SR_head (hm : ∀ i x, E.ρ i = some x → i < E.m) (h : SR A E nt s a w) (n0 : Nat) : SR A E nt (s.head E.m n0) a w := by
  unfold St.head
  rw [cond_eq_ite]
  split
  · exact h
  · exact SR_tidy hm h
def exOf : Ex → Exit
  | .norm => .normal
  | .out id => .exit id
  | .ret => .ret
/-- How a region that draws its order goes. -/
def DrawS (P : Program) (rg : List (Nat × Nat) → List Iop → St → Option St) (nt : Nat) : Prop :=
  ∀ (A : Nat → Nat → Prop) (E : Entry) (id : Nat) (ops : Array Oper) (ios : List Iop) (k : List (Nat × Nat)) (s s' : St) (a : Act) (w : World) (Q : Exit → Act → World → Prop), compOps P ops.toList ops.toList = some ios → drawGo ios ops.toList ios [] = some k → SR A E nt s a w → rg k ios s = some s' →
    (∀ a' w', SR A E nt s' a' w' → Q .normal a' w') → (Code.region id ops true).wp P Q a w
theorem snd_loop {b : Code} {body : St → Run} (hm : ∀ i x, E.ρ i = some x → i < E.m)
    (hb : ∀ {s s' : St} {e : Ex} {a : Act} {w : World} {Q : Exit → Act → World → Prop}, SR A E nt s a w → body s = some (e, s') → (∀ a' w', SR A E nt s' a' w' → Q (exOf e) a' w') → b.wp P Q a w) :
    ∀ (n n0 : Nat) {s s' : St} {e : Ex} {a : Act} {w : World} {Q : Exit → Act → World → Prop}, SR A E nt s a w → evLoop E.m body n n0 s = some (e, s') → (∀ a' w', SR A E nt s' a' w' → Q (exOf e) a' w') → Code.rounds P b Q n a w
  | 0, n0, s, s', e, a, w, Q, h, he, hQ => by rw [evLoop_zero] at he; cases he
  | n + 1, n0, s, s', e, a, w, Q, h, he, hQ => by
    rw [evLoop_succ] at he
    rw [rounds_succ]
    have h1 := SR_head hm h n0
    cases hbd : body (s.head E.m n0) with
    | none => rw [hbd, seqK_none] at he; cases he
    | some r =>
      obtain ⟨e1, s1⟩ := r
      rw [hbd] at he
      refine hb h1 hbd fun a' w' hs => ?_
      cases e1 with
      | norm =>
        rw [seqK_norm] at he
        exact snd_loop hm hb n _ hs he hQ
      | out id =>
        rw [seqK_out] at he
        simp only [Option.some.injEq, Prod.mk.injEq] at he
        obtain ⟨rfl, rfl⟩ := he
        exact hQ a' w' hs
      | ret =>
        rw [seqK_ret] at he
        simp only [Option.some.injEq, Prod.mk.injEq] at he
        obtain ⟨rfl, rfl⟩ := he
        exact hQ a' w' hs
theorem snd_code (hcl : Sound P cl) {rg : List (Nat × Nat) → List Iop → St → Option St} (hrg : DrawS P rg nt) (hm : ∀ i x, E.ρ i = some x → i < E.m) {n : Nat} : ∀ (code : Code) {ic : IC} {s s' : St} {e : Ex} {a : Act} {w : World} {Q : Exit → Act → World → Prop},
    compC P code = some ic → SR A E nt s a w → evC c cl rg nt E.m n ic s = some (e, s') → (∀ a' w', SR A E nt s' a' w' → Q (exOf e) a' w') → code.wp P Q a w := by
  intro code
  induction code with
  | skip =>
    intro ic s s' e a w Q hc h he hQ
    simp only [compC, Option.some.injEq] at hc
    subst hc
    rw [evC_skip] at he
    simp only [Option.some.injEq, Prod.mk.injEq] at he
    obtain ⟨rfl, rfl⟩ := he
    exact wp_skip (hQ a w h)
  | label l =>
    intro ic s s' e a w Q hc h he hQ
    simp only [compC, Option.some.injEq] at hc
    subst hc
    rw [evC_skip] at he
    simp only [Option.some.injEq, Prod.mk.injEq] at he
    obtain ⟨rfl, rfl⟩ := he
    exact wp_label (hQ a w h)
  | region id ops draw =>
    intro ic s s' e a w Q hc h he hQ
    simp only [compC] at hc
    split at hc
    · rename_i l hl
      split at hc
      · rename_i hdraw
        subst hdraw
        split at hc
        · rename_i k hk
          simp only [Option.some.injEq] at hc
          subst hc
          rw [evC_regd] at he
          cases h1 : rg k l s with
          | none => rw [h1, regK_none] at he; cases he
          | some s1 =>
            rw [h1, regK_some] at he
            simp only [Option.some.injEq, Prod.mk.injEq] at he
            obtain ⟨rfl, rfl⟩ := he
            exact hrg A E id ops l k s s1 a w Q hl hk h h1 fun a' w' hs => hQ a' w' (evOps_loc (s1 := s1) hs)
        · cases hc
      · rename_i hdraw
        have hdraw' : draw = false := by simpa using hdraw
        subst hdraw'
        simp only [Option.some.injEq] at hc
        subst hc
        rw [evC_reg] at he
        cases h1 : evOps c cl nt l s with
        | none => rw [h1, regK_none] at he; cases he
        | some s1 =>
          rw [h1, regK_some] at he
          simp only [Option.some.injEq, Prod.mk.injEq] at he
          obtain ⟨rfl, rfl⟩ := he
          exact wp_region_list (snd_ops hcl hl h h1 fun a' w' hs => hQ a' w' (evOps_loc (s1 := s1) hs))
    · cases hc
  | seq x y ihx ihy =>
    intro ic s s' e a w Q hc h he hQ
    simp only [compC] at hc
    split at hc
    · rename_i x' y' hx hy
      simp only [Option.some.injEq] at hc
      subst hc
      rw [evC_seq] at he
      cases h1 : evC c cl rg nt E.m n x' s with
      | none => rw [h1, seqK_none] at he; cases he
      | some r =>
        obtain ⟨e1, s1⟩ := r
        rw [h1] at he
        refine wp_seq (ihx hx h h1 fun a' w' hs => ?_)
        cases e1 with
        | norm =>
          rw [seqK_norm] at he
          exact ihy hy hs he hQ
        | out id =>
          rw [seqK_out] at he
          simp only [Option.some.injEq, Prod.mk.injEq] at he
          obtain ⟨rfl, rfl⟩ := he
          exact hQ a' w' hs
        | ret =>
          rw [seqK_ret] at he
          simp only [Option.some.injEq, Prod.mk.injEq] at he
          obtain ⟨rfl, rfl⟩ := he
          exact hQ a' w' hs
    · cases hc
  | cond x t f iht ihf =>
    intro ic s s' e a w Q hc h he hQ
    simp only [compC] at hc
    split at hc
    · rename_i x' t' f' hx ht hf
      simp only [Option.some.injEq] at hc
      subst hc
      rw [evC_cond] at he
      obtain ⟨ρ, hr, hv, _⟩ := h.ex
      have hxv := VR_opd hv hx
      cases hb : s.ev x' with
      | bool b =>
        rw [hb] at hxv he
        simp only [VR] at hxv
        rw [condK_bool] at he
        refine wp_cond hxv ?_
        cases b with
        | true => exact iht ht h he hQ
        | false => exact ihf hf h he hQ
      | _ => rw [hb] at he; simp [condK] at he
    · cases hc
  | block id b ih =>
    intro ic s s' e a w Q hc h he hQ
    simp only [compC] at hc
    split at hc
    · rename_i b' hb
      simp only [Option.some.injEq] at hc
      subst hc
      rw [evC_block] at he
      cases h1 : evC c cl rg nt E.m n b' s with
      | none => rw [h1, blockK_none] at he; cases he
      | some r =>
        obtain ⟨e1, s1⟩ := r
        rw [h1] at he
        refine wp_block (ih hb h h1 fun a' w' hs => ?_)
        cases e1 with
        | norm =>
          rw [blockK_norm] at he
          simp only [Option.some.injEq, Prod.mk.injEq] at he
          obtain ⟨rfl, rfl⟩ := he
          exact hQ a' w' hs
        | out j =>
          rw [blockK_out] at he
          simp only [exOf, Exit.inBlock]
          split at he
          · rename_i hj
            rw [if_pos hj]
            simp only [Option.some.injEq, Prod.mk.injEq] at he
            obtain ⟨rfl, rfl⟩ := he
            exact hQ a' w' hs
          · rename_i hj
            rw [if_neg hj]
            simp only [Option.some.injEq, Prod.mk.injEq] at he
            obtain ⟨rfl, rfl⟩ := he
            exact hQ a' w' hs
        | ret =>
          rw [blockK_ret] at he
          simp only [Option.some.injEq, Prod.mk.injEq] at he
          obtain ⟨rfl, rfl⟩ := he
          exact hQ a' w' hs
    · cases hc
  | loop b ih =>
    intro ic s s' e a w Q hc h he hQ
    simp only [compC] at hc
    split at hc
    · rename_i b' hb
      simp only [Option.some.injEq] at hc
      subst hc
      rw [evC_loop] at he
      exact wp_loop_rounds n (snd_loop hm (fun hs hbd hq => ih hb hs hbd hq) n 0 h he hQ)
    · cases hc
  | exit id =>
    intro ic s s' e a w Q hc h he hQ
    simp only [compC, Option.some.injEq] at hc
    subst hc
    rw [evC_out] at he
    simp only [Option.some.injEq, Prod.mk.injEq] at he
    obtain ⟨rfl, rfl⟩ := he
    exact wp_exit (hQ a w h)
  | ret =>
    intro ic s s' e a w Q hc h he hQ
    simp only [compC, Option.some.injEq] at hc
    subst hc
    rw [evC_ret] at he
    simp only [Option.some.injEq, Prod.mk.injEq] at he
    obtain ⟨rfl, rfl⟩ := he
    exact wp_ret (hQ a w h)
  | _ =>
    intro ic s s' e a w Q hc
    simp [compC] at hc
end
end Go.Proofs.Ytcmejocmohohpaa.R

/- Functions: what the evaluator answers, the program answers. -/
set_option linter.unusedVariables false
set_option linter.unusedSectionVars false
set_option linter.unusedSimpArgs false
noncomputable section
namespace Go.Proofs.Ytcmejocmohohpaa.R
open Go
def resOf (tmps : Array Value) : ResultVar → Sem Value
  | .tmp t => pure (tmps.getD t undef)
  | .cell a t => do loadVar t (← asAddr (tmps.getD a undef))
section
variable {P : Program} {A : Nat → Nat → Prop} {E : Entry} {nt : Nat} {c : Cfg} {cl : Callee} {s s' : St} {a : Act} {w : World}
theorem snd_res {ρ : Rho} (hr : Rep A ρ s.H s.nx w) (hv : Vals w (UU A ρ s.H) ρ s a) : ∀ {rs : List ResultVar} {irs : List IR} {vs : List AV}, compRes P rs = some irs → resAV s irs = some vs →
    ∃ xs : List Value, (rs.mapM (resOf a.tmps)).run P w = .ok xs w ∧ VRs w (UU A ρ s.H) ρ vs xs
  | [], irs, vs, hc, h => by
    simp only [compRes, Option.some.injEq] at hc
    subst hc
    simp only [resAV, Option.some.injEq] at h
    subst h
    exact ⟨[], by simp, by simp [VRs]⟩
  | .tmp t :: rs, irs, vs, hc, h => by
    simp only [compRes] at hc
    split at hc
    · rename_i l hl
      simp only [Option.some.injEq] at hc
      subst hc
      simp only [resAV] at h
      split at h
      · rename_i l' hl'
        simp only [Option.some.injEq] at h
        subst h
        obtain ⟨xs, g1, g2⟩ := snd_res hr hv hl hl'
        refine ⟨a.tmps.getD t undef :: xs, ?_, ?_⟩
        · rw [List.mapM_cons]
          simp only [Sem.run_bind, resOf, Sem.run_pure, Result.andThen_ok, g1]
        · simp only [VRs]
          exact ⟨_, _, rfl, hv t, g2⟩
      · cases h
    · cases hc
  | .cell b t :: rs, irs, vs, hc, h => by
    simp only [compRes] at hc
    split at hc
    · rename_i x l hx hl
      simp only [Option.some.injEq] at hc
      subst hc
      simp only [resAV] at h
      split at h
      · rename_i v l' hv' hl'
        simp only [Option.some.injEq] at h
        subst h
        obtain ⟨xs, g1, g2⟩ := snd_res hr hv hl hl'
        obtain ⟨z, k1, k2⟩ := snd_load (P := P) hr hx (hv b) hv'
        have k3 : (resOf a.tmps (.cell b t)).run P w = .ok z w := by
          rw [← k1]
          have hb := hv b
          unfold loadAV at hv'
          split at hv'
          · rename_i heq
            rw [heq] at hb
            simp only [VR] at hb
            obtain ⟨_, _, _, hb⟩ := hb
            simp only [resOf, hb, Instr.loadAt, Instr.sureAddr, asAddr, Sem.run_bind, Sem.run_pure, Result.andThen_ok]
          · rename_i heq
            rw [heq] at hb
            simp only [VR] at hb
            obtain ⟨_, _, _, hb⟩ := hb
            simp only [resOf, hb, Instr.loadAt, Instr.sureAddr, asAddr, Sem.run_bind, Sem.run_pure, Result.andThen_ok]
          · rename_i heq
            rw [heq] at hb
            simp only [VR] at hb
            obtain ⟨_, _, hb, _⟩ := hb
            simp only [resOf, hb, Instr.loadAt, Instr.sureAddr, asAddr, Sem.run_bind, Sem.run_pure, Result.andThen_ok]
          · cases hv'
        refine ⟨z :: xs, ?_, ?_⟩
        · rw [List.mapM_cons]
          simp only [Sem.run_bind, k3, Sem.run_pure, Result.andThen_ok, g1]
        · simp only [VRs]
          exact ⟨_, _, rfl, k2, g2⟩
      · cases h
    · cases hc
theorem run_results {fn : Func} {tmps : Array Value} {xs : List Value} (h : (fn.results.toList.mapM (resOf tmps)).run P w = .ok xs w) : (results fn tmps).run P w = .ok (match xs with | [x] => x | xs => .tuple xs.toArray) w := by
  have he : (fn.results.mapM (resOf tmps)).run P w = .ok xs.toArray w := by
    rw [Array.mapM_eq_mapM_toList, Sem.run_map, h]
    rfl
  have hd : results fn tmps = (do
      let vs ← fn.results.mapM (resOf tmps)
      pure (if h : vs.size = 1 then vs[0] else .tuple vs)) := by
    unfold results
    congr 1
  rw [hd]
  simp only [Sem.run_bind, he, Result.andThen_ok, Sem.run_pure]
  match xs with
  | [] => simp
  | [x] => simp
  | x :: y :: r => simp
theorem lk_argEnv (args : List AV) : ∀ (live : List Nat) (t : Nat), lk (argEnv args live) t = none ∨ lk (argEnv args live) t = some (match args[t]? with | some v => v | none => .un)
  | [], t => .inl (by simp [argEnv])
  | k :: r, t => by
    simp only [argEnv, lk_cons]
    by_cases h : k = t
    · subst h
      right
      rw [if_pos rfl]
      cases args[k]? <;> rfl
    · rw [if_neg h]
      exact lk_argEnv args r t
theorem SR_start {ρ : Rho} {H : Heap} {m : Nat} (hr : Rep A ρ H m w) {args : List AV} {xs : Array Value} (hx : VRs w (UU A ρ H) ρ args xs.toList) {nt : Nat} (hn : args.length ≤ nt) (live : List Nat) :
    SR A ⟨ρ, H, w, m⟩ nt ⟨argEnv args live, [], H, m⟩ { tmps := xs ++ Array.replicate (nt - xs.size) undef, defers := [] } w := by
  have hl := VRs_length hx
  have hxs : xs.toList.length = xs.size := by simp
  refine ⟨fun t x _ => rfl, by simp; omega, rfl, ρ, hr, fun t => ?_, Ext2.refl _ _, Fr.refl _ _ _⟩
  rw [get_eq]
  show VR w (UU A ρ H) ρ ((lk (argEnv args live) t).getD .bad) _
  rcases lk_argEnv args live t with h | h
  · rw [h]; simp [VR]
  · rw [h, Option.getD_some]
    cases ha : args[t]? with
    | some v =>
      obtain ⟨x, h1, h2⟩ := VRs_get hx ha
      have hlt : t < xs.size := by
        rcases Nat.lt_or_ge t xs.size with h | h
        · exact h
        · rw [List.getElem?_eq_none (by omega)] at h1; cases h1
      have h3 : xs[t]? = some x := by simpa using h1
      have : (xs ++ Array.replicate (nt - xs.size) undef).getD t undef = x := by
        rw [Array.getD_eq_getD_getElem?, Array.getElem?_append_left hlt, h3]
        rfl
      rw [this]
      exact h2
    | none =>
      have hge : xs.size ≤ t := by
        rcases Nat.lt_or_ge t xs.size with h | h
        · have : t < args.length := by omega
          rw [List.getElem?_eq_getElem this] at ha; cases ha
        · exact h
      have : (xs ++ Array.replicate (nt - xs.size) undef).getD t undef = undef := by
        rw [Array.getD_eq_getD_getElem?, Array.getElem?_append_right hge, Array.getElem?_replicate]
        split <;> rfl
      rw [this]
      simp [VR]
/-- The table of compact code is the program's. -/
def CfgOk (c : Cfg) : Prop := ∀ f i, c.fn f = some i → ∃ fn V, c.P.funcs[f]? = some fn ∧ compF c.P V fn = some i
def DrawOk (c : Cfg) (dr : Drawer) : Prop := ∀ cl, Sound c.P cl → ∀ nt, DrawS c.P (dr c cl nt) nt
theorem compF_spec {V : List Nat} {fn : Func} {i : IFn} (h : compF P V fn = some i) : (fn.name == "runtime.NumGoroutine") = false ∧ ∃ body, fn.body = some body ∧ i.nt = fn.ntmps ∧ compC P body = some i.body ∧ compRes P fn.results.toList = some i.res := by
  unfold compF at h
  split at h
  · cases h
  · rename_i hn
    split at h
    · rename_i body hb
      split at h
      · rename_i b r h1 h2
        simp only [Option.some.injEq] at h
        subst h
        exact ⟨by simpa using hn, body, hb, rfl, h1, h2⟩
      · cases h
    · cases h
theorem sound_callF (hc : CfgOk c) {dr : Drawer} (hd : DrawOk c dr) : ∀ k, Sound c.P (callF c dr k)
  | 0 => ⟨fun h => by simp [callF] at h, fun h => by simp [callF] at h⟩
  | k + 1 => by
    have ih := sound_callF hc hd k
    refine ⟨fun {f args H m r} h => ?_, fun {f args H m r H' n'} h A ρ w xs hr hx => ?_⟩
    · simp only [callF] at h
      split at h
      · rename_i i hi
        obtain ⟨fn, V, h1, h2⟩ := hc f i hi
        obtain ⟨h3, body, h4, _⟩ := compF_spec h2
        exact ⟨fn, h1, h3, by rw [h4]; rfl⟩
      · cases h
    · simp only [callF] at h
      split at h
      · rename_i i hi
        obtain ⟨fn, V, h1, h2⟩ := hc f i hi
        obtain ⟨h3, body, h4, h5, h6, h7⟩ := compF_spec h2
        split at h
        · rename_i hn
          have hst := SR_start hr hx hn i.live
          rw [h5] at hst
          refine calls_of_wp h1 h4 ?_
          unfold retK at h
          split at h
          · cases h
          · rename_i e s1 hne he
            split at h
            · rename_i vs hvs
              simp only [Option.some.injEq, Prod.mk.injEq] at h
              obtain ⟨rfl, rfl, rfl⟩ := h
              refine snd_code ih (hd _ ih i.nt) (nt := i.nt) (fun j x hj => hr.ltR j x hj) body h6 (by rw [h5]; exact hst) he fun a' w' hs => ?_
              obtain ⟨ρ1, q1, q2, q3, q4⟩ := hs.ex
              obtain ⟨ys, g1, g2⟩ := snd_res q1 q2 h7 hvs
              have hbody : ∃ v, (results fn a'.tmps).run c.P w' = .ok v w' ∧ Ret A ρ H w m (ren (pos (places s1.H m vs)) (one vs)) (renH (pos (places s1.H m vs)) s1.H) (places s1.H m vs).length (.returned v) w' := by
                refine ⟨_, run_results g1, ?_⟩
                obtain ⟨p1, p2⟩ := places_spec s1.H m vs
                obtain ⟨r1, r2, r3⟩ := Rep_pos (l := places s1.H m vs) q1
                refine ⟨rhoOf (places s1.H m vs) ρ1, r1, VR_pos q1 ?_, Ext_pos q3 (fun j x hj => hr.ltR j x hj) p2, q4.trans r3⟩
                have hlen := VRs_length g2
                match vs, ys, g2, hlen with
                | [], [], g2, _ => simp only [one, VR]; exact ⟨_, rfl, g2⟩
                | [v], [y], g2, _ =>
                  simp only [one]
                  simp only [VRs] at g2
                  obtain ⟨x, r, e1, e2, e3⟩ := g2
                  simp only [List.cons.injEq] at e1
                  rw [e1.1]
                  exact e2
                | v :: v2 :: r, y :: y2 :: r', g2, _ => simp only [one, VR]; exact ⟨_, rfl, g2⟩
              obtain ⟨v, b1, b2⟩ := hbody
              cases e with
              | norm => exact ⟨hs.defers, v, b1, b2⟩
              | ret => exact ⟨hs.defers, v, b1, b2⟩
              | out id => exact absurd rfl (hne id)
            · cases h
          · cases h
        · cases h
      · cases h
end
end Go.Proofs.Ytcmejocmohohpaa.R

/- Regions that draw their order: operations by themselves. -/
set_option linter.unusedVariables false
set_option linter.unusedSectionVars false
set_option linter.unusedSimpArgs false
noncomputable section
namespace Go.Proofs.Ytcmejocmohohpaa.R
open Go
section
variable {c : Cfg} {cl : Callee} {s s' s1 : St} {v : AV}
theorem evs_congr : ∀ {l : List Opd}, (∀ x ∈ l, s'.ev x = s.ev x) → s'.evs l = s.evs l
  | [], _ => rfl
  | x :: r, h => by
    simp only [St.evs]
    rw [h x (by simp), evs_congr fun y hy => h y (by simp [hy])]
theorem evp_congr : ∀ {l : List (Nat × Opd)}, (∀ x ∈ l.map (fun p => p.2), s'.ev x = s.ev x) → s'.evp l = s.evp l
  | [], _ => rfl
  | (i, x) :: r, h => by
    simp only [St.evp]
    rw [h x (by simp), evp_congr fun y hy => h y (by rw [List.map_cons]; exact List.mem_cons_of_mem _ hy)]
theorem evq_congr : ∀ {l : List (Nat × Nat × Opd)}, (∀ x ∈ l.map (fun p => p.2.2), s'.ev x = s.ev x) → s'.evq l = s.evq l
  | [], _ => rfl
  | (i, j, x) :: r, h => by
    simp only [St.evq]
    rw [h x (by simp), evq_congr fun y hy => h y (by rw [List.map_cons]; exact List.mem_cons_of_mem _ hy)]
theorem evo_congr {x : Option Opd} (h : ∀ y ∈ x.toList, s'.ev y = s.ev y) : s'.evo x = s.evo x := by
  cases x with
  | none => rfl
  | some y => simp only [St.evo]; rw [h y (by simp)]
/-- Operations of values alone. -/
theorem p_cong {ip : IP} (hp : cls ip = 0) (h : evOp c cl s ip = some (v, s1)) (he : ∀ x ∈ opsOf ip, s'.ev x = s.ev x) : s1 = s ∧ evOp c cl s' ip = some (v, s') := by
  cases ip
  case mv x =>
    simp only [evOp, Option.some.injEq, Prod.mk.injEq] at h
    obtain ⟨rfl, rfl⟩ := h
    exact ⟨rfl, by simp only [evOp]; rw [he x (by simp [opsOf])]⟩
  case mkf f pre post =>
    simp only [evOp, Option.some.injEq, Prod.mk.injEq] at h
    obtain ⟨rfl, rfl⟩ := h
    refine ⟨rfl, ?_⟩
    simp only [evOp]
    rw [evs_congr fun x hx => he x (by simp only [opsOf]; exact List.mem_append_left _ hx), evs_congr fun x hx => he x (by simp only [opsOf]; exact List.mem_append_right _ hx)]
  case build z ps =>
    obtain ⟨hg, rfl⟩ := keep_inv h
    refine ⟨rfl, ?_⟩
    simp only [evOp]
    rw [evq_congr (by simpa [opsOf] using he), hg]
    rfl
  case sls x lo hi =>
    obtain ⟨hg, rfl⟩ := keep_inv h
    refine ⟨rfl, ?_⟩
    simp only [evOp]
    rw [he x (by simp [opsOf]), evo_congr fun y hy => he y (by simp only [opsOf]; exact List.mem_cons_of_mem _ (List.mem_append_left _ hy)), evo_congr fun y hy => he y (by simp only [opsOf]; exact List.mem_cons_of_mem _ (List.mem_append_right _ hy)), hg]
    rfl
  case sll size x lo hi mx =>
    obtain ⟨hg, rfl⟩ := keep_inv h
    refine ⟨rfl, ?_⟩
    simp only [evOp]
    rw [he x (by simp [opsOf]), evo_congr fun y hy => he y (by simp only [opsOf]; exact List.mem_cons_of_mem _ (List.mem_append_left _ hy)), evo_congr fun y hy => he y (by simp only [opsOf]; exact List.mem_cons_of_mem _ (List.mem_append_right _ (List.mem_append_left _ hy))), evo_congr fun y hy => he y (by simp only [opsOf]; exact List.mem_cons_of_mem _ (List.mem_append_right _ (List.mem_append_right _ hy))), hg]
    rfl
  case ld => simp [cls] at hp
  case call => simp [cls] at hp
  case bsl => simp [cls] at hp
  case alloc => simp [cls] at hp
  case st => simp [cls] at hp
  case app => simp [cls] at hp
  case box => simp [cls] at hp
  case mks => simp [cls] at hp
  case s2b => simp [cls] at hp
  case b2s => simp [cls] at hp
  case cpy => simp [cls] at hp
  case callv => simp [cls] at hp
  all_goals
    obtain ⟨hg, rfl⟩ := keep_inv h
    refine ⟨rfl, ?_⟩
    simp only [opsOf, List.mem_cons, List.not_mem_nil, or_false, forall_eq_or_imp, forall_eq] at he
    simp only [evOp, he, hg]
    rfl

/-! ### What an operation does to the heap -/
/-- More is read elsewhere; something is added. -/
def Eff (g : Nat → Nat) (add : Option Ob) (q : Nat) (H H' : Heap) : Prop :=
  ∀ k, lk H' k = match add with
    | some ob => if k = q then some ob else (lk H k).map (leakOb (g k))
    | none => (lk H k).map (leakOb (g k))
def zg : Nat → Nat := fun _ => 0
theorem Eff.refl (q : Nat) (H : Heap) : Eff zg none q H H := by
  intro k
  simp only [zg]
  cases lk H k with
  | none => rfl
  | some o => simp [leakOb_zero]
theorem leak_add (n m : Nat) (o : Option Ob) : (o.map (leakOb n)).map (leakOb m) = o.map (leakOb (max n m)) := by
  cases o with
  | none => rfl
  | some o => simp [leakOb_leakOb]
mutual
theorem leakV_fun : ∀ (v : AV), ∃ g : Nat → Nat, (ownFree v = true → g = zg) ∧ ∀ (H : Heap) (k : Nat), lk (leakV H v) k = (lk H k).map (leakOb (g k))
  | .own es id off len ex => by
    refine ⟨fun k => if k = id then off + len else 0, by simp [ownFree], fun H k => ?_⟩
    simp only [leakV, lk_leakAt]
    cases lk H k with
    | none => rfl
    | some o =>
      by_cases hk : k = id
      · simp [hk]
      · simp [hk, leakOb_zero]
  | .agg cs => by
    obtain ⟨g, h1, h2⟩ := leakVs_fun cs
    exact ⟨g, by simpa [ownFree] using h1, by simpa [leakV] using h2⟩
  | .tup cs => by
    obtain ⟨g, h1, h2⟩ := leakVs_fun cs
    exact ⟨g, by simpa [ownFree] using h1, by simpa [leakV] using h2⟩
  | .bad => ⟨zg, fun _ => rfl, fun H k => by simp only [leakV]; exact Eff.refl 0 H k⟩
  | .un => ⟨zg, fun _ => rfl, fun H k => by simp only [leakV]; exact Eff.refl 0 H k⟩
  | .bool _ => ⟨zg, fun _ => rfl, fun H k => by simp only [leakV]; exact Eff.refl 0 H k⟩
  | .int _ _ => ⟨zg, fun _ => rfl, fun H k => by simp only [leakV]; exact Eff.refl 0 H k⟩
  | .str _ => ⟨zg, fun _ => rfl, fun H k => by simp only [leakV]; exact Eff.refl 0 H k⟩
  | .nil => ⟨zg, fun _ => rfl, fun H k => by simp only [leakV]; exact Eff.refl 0 H k⟩
  | .oth _ => ⟨zg, fun _ => rfl, fun H k => by simp only [leakV]; exact Eff.refl 0 H k⟩
  | .imm _ _ _ => ⟨zg, fun _ => rfl, fun H k => by simp only [leakV]; exact Eff.refl 0 H k⟩
  | .ptr _ _ => ⟨zg, fun _ => rfl, fun H k => by simp only [leakV]; exact Eff.refl 0 H k⟩
  | .eptr _ _ _ => ⟨zg, fun _ => rfl, fun H k => by simp only [leakV]; exact Eff.refl 0 H k⟩
  | .iptr _ _ => ⟨zg, fun _ => rfl, fun H k => by simp only [leakV]; exact Eff.refl 0 H k⟩
  | .fn _ _ _ => ⟨zg, fun _ => rfl, fun H k => by simp only [leakV]; exact Eff.refl 0 H k⟩
theorem leakVs_fun : ∀ (vs : List AV), ∃ g : Nat → Nat, (ownFrees vs = true → g = zg) ∧ ∀ (H : Heap) (k : Nat), lk (leakVs H vs) k = (lk H k).map (leakOb (g k))
  | [] => ⟨zg, fun _ => rfl, fun H k => by simp only [leakVs]; exact Eff.refl 0 H k⟩
  | v :: r => by
    obtain ⟨g1, a1, b1⟩ := leakV_fun v
    obtain ⟨g2, a2, b2⟩ := leakVs_fun r
    refine ⟨fun k => max (g1 k) (g2 k), fun h => ?_, fun H k => ?_⟩
    · simp only [ownFrees, Bool.and_eq_true] at h
      rw [a1 h.1, a2 h.2]
      rfl
    · simp only [leakVs]
      rw [b2, b1, leak_add]
end
theorem leakAll_fun : ∀ (ps : List (Nat × AV)), ∃ g : Nat → Nat, ((∀ p ∈ ps, ownFree p.2 = true) → g = zg) ∧ ∀ (H : Heap) (k : Nat), lk (leakAll H ps) k = (lk H k).map (leakOb (g k))
  | [] => ⟨zg, fun _ => rfl, fun H k => by simp only [leakAll]; exact Eff.refl 0 H k⟩
  | (i, v) :: r => by
    obtain ⟨g1, a1, b1⟩ := leakV_fun v
    obtain ⟨g2, a2, b2⟩ := leakAll_fun r
    refine ⟨fun k => max (g1 k) (g2 k), fun h => ?_, fun H k => ?_⟩
    · rw [a1 (h (i, v) (by simp)), a2 fun p hp => h p (by simp [hp])]
      rfl
    · simp only [leakAll]
      rw [b2, b1, leak_add]
/-- The rows of an array, as they are now. -/
def rowsAt (H : Heap) (id : Nat) : Option (List (List AV)) := match lk H id with | some (.arr _ rows _) => some rows | _ => none
theorem frz_own (H : Heap) (es id off len : Nat) (ex : Bool) : frz H (.own es id off len ex) = match rowsAt H id with | some rows => if off + len ≤ rows.length then canI ((rows.drop off).take len) else .bad | none => .bad := by
  simp only [frz, rowsAt]
  cases lk H id with
  | none => rfl
  | some o => cases o <;> rfl
mutual
theorem frz_same {H H' : Heap} : ∀ (v : AV), (ownFree v = true ∨ ∀ id, rowsAt H' id = rowsAt H id) → frz H' v = frz H v
  | .own es id off len ex, h => by
    rcases h with h | h
    · simp [ownFree] at h
    · rw [frz_own, frz_own, h]
  | .agg cs, h => by simp only [frz]; rw [frzs_same cs (by simpa [ownFree] using h)]
  | .tup cs, h => by simp only [frz]; rw [frzs_same cs (by simpa [ownFree] using h)]
  | .bad, _ => rfl
  | .un, _ => rfl
  | .bool _, _ => rfl
  | .int _ _, _ => rfl
  | .str _, _ => rfl
  | .nil, _ => rfl
  | .oth _, _ => rfl
  | .imm _ _ _, _ => rfl
  | .ptr _ _, _ => rfl
  | .eptr _ _ _, _ => rfl
  | .iptr _ _, _ => rfl
  | .fn _ _ _, _ => rfl
theorem frzs_same {H H' : Heap} : ∀ (vs : List AV), (ownFrees vs = true ∨ ∀ id, rowsAt H' id = rowsAt H id) → frzs H' vs = frzs H vs
  | [], _ => rfl
  | v :: r, h => by
    simp only [frzs]
    rw [frz_same v (h.imp_left fun h => by simp only [ownFrees, Bool.and_eq_true] at h; exact h.1), frzs_same r (h.imp_left fun h => by simp only [ownFrees, Bool.and_eq_true] at h; exact h.2)]
end
theorem fillRows_same {H H' : Heap} {es : Nat} : ∀ {ps : List (Nat × AV)} {rows : List (List AV)}, ((∀ p ∈ ps, ownFree p.2 = true) ∨ ∀ id, rowsAt H' id = rowsAt H id) → fillRows es H' rows ps = fillRows es H rows ps
  | [], rows, _ => rfl
  | (i, v) :: r, rows, h => by
    simp only [fillRows]
    rw [frz_same v (h.imp_left fun h => h (i, v) (by simp))]
    cases cellsOf (frz H v) with
    | none => rfl
    | some vs =>
      simp only
      split
      · exact fillRows_same (h.imp_left fun h p hp => h p (by simp [hp]))
      · rfl
theorem rows_leak {H H' : Heap} {g : Nat → Nat} {q : Nat} (h : Eff g none q H H') (id : Nat) : rowsAt H' id = rowsAt H id := by
  unfold rowsAt
  rw [h id]
  cases lk H id with
  | none => rfl
  | some o => cases o <;> rfl
theorem rows_box {H H' : Heap} {g : Nat → Nat} {q : Nat} {cells : List AV} (h : Eff g (some (.box cells)) q H H') (hq : lk H q = none) (id : Nat) : rowsAt H' id = rowsAt H id := by
  unfold rowsAt
  rw [h id]
  simp only
  by_cases hi : id = q
  · subst hi; simp [hq]
  · rw [if_neg hi]
    cases lk H id with
    | none => rfl
    | some o => cases o <;> rfl
/-- Reading a place looks at that place alone. -/
theorem load_same {a : Bool} {size : Nat} {H H' : Heap} {p : AV} {v : AV} (h : loadAV a size H p = some v) (hs : ∀ id, idOf p = some id → ∀ o, lk H id = some o → ∃ n, lk H' id = some (leakOb n o) ∨ ∃ o', lk H' id = some o' ∧ o = leakOb n o') : loadAV a size H' p = some v := by
  unfold loadAV at h ⊢
  split at h
  · rename_i id off
    split at h
    · rename_i cells hid
      obtain ⟨n, h1 | ⟨o', h1, h2⟩⟩ := hs id rfl _ hid
      · simp only [h1, leakOb]; exact h
      · cases o' with
        | box cs => simp only [leakOb, Ob.box.injEq] at h2; subst h2; simp only [h1]; exact h
        | arr es rows leak => simp [leakOb] at h2
    · cases h
  · rename_i id i f
    split at h
    · rename_i es rows leak hid
      obtain ⟨n, h1 | ⟨o', h1, h2⟩⟩ := hs id rfl _ hid
      · simp only [h1, leakOb]; exact h
      · cases o' with
        | box cs => simp [leakOb] at h2
        | arr es' rows' leak' =>
          simp only [leakOb, Ob.arr.injEq] at h2
          obtain ⟨rfl, rfl, rfl⟩ := h2
          simp only [h1]; exact h
    · cases h
  · exact h
  · cases h
end
end Go.Proofs.Ytcmejocmohohpaa.R

/- Regions that draw their order: what an operation does in another state. -/
set_option linter.unusedVariables false
set_option linter.unusedSectionVars false
set_option linter.unusedSimpArgs false
noncomputable section
namespace Go.Proofs.Ytcmejocmohohpaa.R
open Go
def freeB (s : St) : IP → Bool
  | .call _ args => ownFrees (s.evs args)
  | .bsl _ _ _ ps => ps.all fun p => ownFree (s.ev p.2)
  | _ => false
def SameRows (H H' : Heap) : Prop := ∀ id, rowsAt H' id = rowsAt H id
def Keeps (H H' : Heap) (id : Nat) : Prop := ∀ o, lk H id = some o → ∃ n, lk H' id = some (leakOb n o) ∨ ∃ o', lk H' id = some o' ∧ o = leakOb n o'
/-- Under what an operation answers the same elsewhere. -/
def Cond (s s' : St) : IP → Prop
  | .ld _ _ p => ∀ id, idOf (s.ev p) = some id → Keeps s.H s'.H id
  | .call f args => ownFrees (s.evs args) = true ∨ SameRows s.H s'.H
  | .bsl es z len ps => freeB s (.bsl es z len ps) = true ∨ SameRows s.H s'.H
  | _ => True
def fzB (c : Cfg) : IP → Bool
  | .call f _ => c.fz f
  | _ => true
structure Tr (c : Cfg) (cl : Callee) (ip : IP) (s : St) (v : AV) (s1 : St) (g : Nat → Nat) (add : Option Ob) : Prop where
  env : s1.env = s.env
  loc : s1.loc = s.loc
  free : freeB s ip = true → g = zg
  eff : Eff g add s.nx s.H s1.H
  none : cls ip ≤ 2 → add = none
  zero : (cls ip = 0 ∨ cls ip = 1 ∨ cls ip = 4) → g = zg
  box : cls ip = 4 → ∃ cells, add = some (.box cells)
  same : ∀ s', (∀ x ∈ opsOf ip, s'.ev x = s.ev x) → s'.nx = s.nx → Cond s s' ip → ∃ s1', evOp c cl s' ip = some (v, s1') ∧ s1'.env = s'.env ∧ s1'.loc = s'.loc ∧ Eff g add s.nx s'.H s1'.H
section
variable {c : Cfg} {cl : Callee} {s s' s1 : St} {v : AV}
theorem evp_free {ps : List (Nat × Opd)} (h : (ps.all fun p => ownFree (s.ev p.2)) = true) : ∀ p ∈ s.evp ps, ownFree p.2 = true := by
  induction ps with
  | nil => intro p hp; simp [St.evp] at hp
  | cons q r ih =>
    obtain ⟨i, x⟩ := q
    simp only [List.all_cons, Bool.and_eq_true] at h
    intro p hp
    simp only [St.evp, List.mem_cons] at hp
    rcases hp with rfl | hp
    · exact h.1
    · exact ih h.2 p hp
theorem tr_op {ip : IP} (hk : cls ip ≤ 4) (hf : fzB c ip = true) (h : evOp c cl s ip = some (v, s1)) : ∃ g add, Tr c cl ip s v s1 g add := by
  by_cases h0 : cls ip = 0
  · obtain ⟨rfl, _⟩ := p_cong (s' := s) h0 h (fun _ _ => rfl)
    refine ⟨zg, none, rfl, rfl, fun _ => rfl, Eff.refl _ _, fun _ => rfl, fun _ => rfl, fun h4 => by omega, fun s' he hn hcd => ?_⟩
    exact ⟨s', (p_cong h0 h he).2, rfl, rfl, Eff.refl _ _⟩
  · cases ip
    case ld a size p =>
      obtain ⟨hg, rfl⟩ := keep_inv h
      refine ⟨zg, none, rfl, rfl, fun _ => rfl, Eff.refl _ _, fun _ => rfl, fun _ => rfl, fun h4 => by simp [cls] at h4, fun s' he hn hcd => ?_⟩
      refine ⟨s', ?_, rfl, rfl, Eff.refl _ _⟩
      have h1 := he p (by simp [opsOf])
      simp only [evOp]
      rw [h1, load_same hg hcd]
      rfl
    case call f args =>
      simp only [fzB] at hf
      simp only [evOp, callAV, hf, if_true] at h
      split at h
      · rename_i r H1 n1 hcl
        obtain ⟨g, hg1, hg2⟩ := leakVs_fun (s.evs args)
        have key : ∀ s', (∀ x ∈ opsOf (.call f args), s'.ev x = s.ev x) → Cond s s' (.call f args) → evOp c cl s' (.call f args) = fzRet s' (s.evs args) (frz H1 r) := by
          intro s' he hcd
          have h1 : s'.evs args = s.evs args := evs_congr (by simpa [opsOf] using he)
          have h2 : frzs s'.H (s.evs args) = frzs s.H (s.evs args) := frzs_same _ hcd
          simp only [evOp, callAV, hf, if_true, h1, h2, hcl]
        unfold fzRet at h
        split at h
        · rename_i hp
          simp only [Option.some.injEq, Prod.mk.injEq] at h
          obtain ⟨rfl, rfl⟩ := h
          refine ⟨zg, none, rfl, rfl, fun _ => rfl, Eff.refl _ _, fun _ => rfl, fun _ => rfl, fun h4 => by simp [cls] at h4, fun s' he hn hcd => ?_⟩
          refine ⟨s', ?_, rfl, rfl, Eff.refl _ _⟩
          rw [key s' he hcd]
          simp only [fzRet, hp, if_true]
        · rename_i hp
          split at h
          · rename_i hi
            simp only [Option.some.injEq, Prod.mk.injEq] at h
            obtain ⟨rfl, rfl⟩ := h
            refine ⟨g, none, rfl, rfl, fun h => hg1 (by simpa [freeB] using h), fun k => hg2 s.H k, fun _ => rfl, fun h => by simp [cls] at h, fun h4 => by simp [cls] at h4, fun s' he hn hcd => ?_⟩
            refine ⟨s'.setH (leakVs s'.H (s.evs args)), ?_, rfl, rfl, fun k => hg2 s'.H k⟩
            rw [key s' he hcd]
            simp only [fzRet, hp, hi, if_true, if_false]
            rfl
          · cases h
      · cases h
    case bsl es z len ps =>
      simp only [evOp, bslAV] at h
      split at h
      · rename_i rows hrows
        simp only [Option.some.injEq, Prod.mk.injEq] at h
        obtain ⟨rfl, rfl⟩ := h
        obtain ⟨g, hg1, hg2⟩ := leakAll_fun (s.evp ps)
        refine ⟨g, some (.arr es rows 0), rfl, rfl, fun h => hg1 (evp_free (by simpa [freeB] using h)), fun k => ?_, fun h => by simp [cls] at h, fun h => by simp [cls] at h, fun h4 => by simp [cls] at h4, fun s' he hn hcd => ?_⟩
        · simp only [St.add, St.setH, lk_cons, hg2]
          by_cases hk : s.nx = k
          · subst hk; simp
          · have : ¬ k = s.nx := fun e => hk e.symm
            simp [hk, this]
        · have h1 : s'.evp ps = s.evp ps := evp_congr (by simpa [opsOf] using he)
          have h2 : fillRows es s'.H (List.replicate len z) (s.evp ps) = some rows := by
            rw [← hrows]
            refine fillRows_same (hcd.imp_left fun h => ?_)
            exact evp_free (by simpa [freeB] using h)
          refine ⟨(s'.setH (leakAll s'.H (s.evp ps))).add (.arr es rows 0), by simp only [evOp, bslAV, h1, h2, hn], rfl, rfl, fun k => ?_⟩
          simp only [St.add, St.setH, lk_cons, hg2, hn]
          by_cases hk : s.nx = k
          · subst hk; simp
          · have : ¬ k = s.nx := fun e => hk e.symm
            simp [hk, this]
      · cases h
    case alloc z =>
      simp only [evOp, Option.some.injEq, Prod.mk.injEq] at h
      obtain ⟨rfl, rfl⟩ := h
      have key : ∀ s' : St, s'.nx = s.nx → Eff zg (some (.box z)) s.nx s'.H (s'.add (.box z)).H := by
        intro s' hn k
        simp only [St.add, lk_cons, hn]
        by_cases hk : s.nx = k
        · subst hk; simp
        · have : ¬ k = s.nx := fun e => hk e.symm
          simp only [hk, this, if_false]
          exact Eff.refl 0 s'.H k
      refine ⟨zg, some (.box z), rfl, rfl, fun _ => rfl, key s rfl, fun h => by simp [cls] at h, fun _ => rfl, fun _ => ⟨z, rfl⟩, fun s' he hn hcd => ?_⟩
      exact ⟨s'.add (.box z), by simp only [evOp, hn], rfl, rfl, key s' hn⟩
    all_goals (simp [cls] at hk h0)
/-! ### Writing, appending: in a state with the same heap -/
theorem rows_of_lk {H H' : Heap} (h : ∀ k, lk H' k = lk H k) : SameRows H H' := fun id => by unfold rowsAt; rw [h]
theorem upd_same {H H' H1 : Heap} {id : Nat} {o : Ob} (h : ∀ k, lk H' k = lk H k) (hu : upd H id o = some H1) (hid : ∃ x, lk H id = some x) : ∃ H1', upd H' id o = some H1' ∧ ∀ k, lk H1' k = lk H1 k := by
  obtain ⟨x, hx⟩ := hid
  obtain ⟨H1', h1⟩ := upd_isSome (x := o) (l := H') (t := id) (y := x) (by rw [h]; exact hx)
  exact ⟨H1', h1, fun k => by rw [lk_upd h1, lk_upd hu, h]⟩
theorem leakV_same {H H' : Heap} (h : ∀ k, lk H' k = lk H k) (v : AV) : ∀ k, lk (leakV H' v) k = lk (leakV H v) k := by
  obtain ⟨g, _, hg⟩ := leakV_fun v
  intro k
  rw [hg, hg, h]
theorem store_same {size : Nat} {H H' H1 : Heap} {p v : AV} (h : ∀ k, lk H' k = lk H k) (hs : storeH size H p v = some H1) : ∃ H1', storeH size H' p v = some H1' ∧ ∀ k, lk H1' k = lk H1 k := by
  unfold storeH at hs ⊢
  split at hs
  · rename_i id off
    split at hs
    · rename_i cells vs hid hvs
      split at hs
      · rename_i hc
        obtain ⟨H1', h1, h2⟩ := upd_same h hs ⟨_, hid⟩
        refine ⟨H1', ?_, h2⟩
        simp only [h id, hid, hvs]
        rw [if_pos hc]
        exact h1
      · cases hs
    · cases hs
  · rename_i id i f
    have hf : frz H' v = frz H v := frz_same v (.inr (rows_of_lk h))
    have hl := leakV_same h v
    split at hs
    · rename_i vs es rows leak hvs hid
      split at hs
      · rename_i row hrow
        split at hs
        · rename_i hc
          obtain ⟨H1', h1, h2⟩ := upd_same hl hs ⟨_, hid⟩
          refine ⟨H1', ?_, h2⟩
          simp only [hf, hl id, hid, hvs, hrow]
          rw [if_pos hc]
          exact h1
        · cases hs
      · cases hs
    · cases hs
  · cases hs
/-- A store leaves the other places. -/
theorem store_keeps {size : Nat} {H H1 : Heap} {p v : AV} (hs : storeH size H p v = some H1) {id : Nat} (hid : ∀ j, idOf p = some j → j ≠ id) : Keeps H H1 id := by
  unfold storeH at hs
  split at hs
  · rename_i i off
    have hne := hid i rfl
    split at hs
    · split at hs
      · intro o ho
        refine ⟨0, .inl ?_⟩
        rw [lk_upd hs, if_neg (fun e => hne e.symm), leakOb_zero]
        exact ho
      · cases hs
    · cases hs
  · rename_i i _ _
    have hne := hid i rfl
    split at hs
    · split at hs
      · split at hs
        · obtain ⟨g, _, hg⟩ := leakV_fun v
          intro o ho
          refine ⟨g id, .inl ?_⟩
          rw [lk_upd hs, if_neg (fun e => hne e.symm), hg, ho]
          rfl
        · cases hs
      · cases hs
    · cases hs
  · cases hs
theorem rowsOf_same {H H' : Heap} (h : ∀ k, lk H' k = lk H k) (es : Nat) (v : AV) : rowsOf es H' v = rowsOf es H v := by
  cases v <;> simp only [rowsOf, h]
theorem srcRows_same {H H' : Heap} (h : ∀ k, lk H' k = lk H k) (es : Nat) (v : AV) : srcRows es H' v = srcRows es H v := by
  unfold srcRows
  split
  · rfl
  · exact rowsOf_same h es _
theorem newArr_same {es : Nat} {rows : List (List AV)} (h : ∀ k, lk s'.H k = lk s.H k) (hn : s'.nx = s.nx) (ha : newArr s es rows = some (v, s1)) : s1.env = s.env ∧ s1.loc = s.loc ∧ ∃ s1', newArr s' es rows = some (v, s1') ∧ s1'.env = s'.env ∧ s1'.loc = s'.loc ∧ ∀ k, lk s1'.H k = lk s1.H k := by
  unfold newArr at ha ⊢
  split at ha
  · rename_i hl
    simp only [Option.some.injEq, Prod.mk.injEq] at ha
    obtain ⟨rfl, rfl⟩ := ha
    refine ⟨rfl, rfl, s'.add (.arr es rows 0), by rw [if_pos hl, hn], rfl, rfl, fun k => ?_⟩
    simp only [St.add, lk_cons, hn, h]
  · cases ha
theorem app_same {es : Nat} {x y : AV} (h : ∀ k, lk s'.H k = lk s.H k) (hn : s'.nx = s.nx) (ha : appAV es s x y = some (v, s1)) : s1.env = s.env ∧ s1.loc = s.loc ∧ ∃ s1', appAV es s' x y = some (v, s1') ∧ s1'.env = s'.env ∧ s1'.loc = s'.loc ∧ ∀ k, lk s1'.H k = lk s1.H k := by
  unfold appAV at ha ⊢
  rw [srcRows_same h]
  split at ha
  · rename_i new hnew
    split at ha
    · exact newArr_same h hn ha
    · rename_i es' rows ex
      split at ha
      · rename_i hc
        rw [if_pos hc]
        split at ha
        · rename_i hc2; rw [if_pos hc2]; exact newArr_same h hn ha
        · rename_i hc2
          rw [if_neg hc2]
          split at ha
          · rename_i hc3; rw [if_pos hc3]; exact newArr_same h hn ha
          · cases ha
      · cases ha
    · rename_i es' id off len ex
      simp only [h]
      split at ha
      · rename_i hc
        rw [if_pos hc]
        split at ha
        · rename_i es2 rows leak hid
          split at ha
          · rename_i hc2
            rw [if_pos hc2]
            split at ha
            · rename_i hc3; rw [if_pos hc3]; exact newArr_same h hn ha
            · rename_i hc3
              rw [if_neg hc3]
              split at ha
              · rename_i hc4; rw [if_pos hc4]; exact newArr_same h hn ha
              · cases ha
          · rename_i hc2
            rw [if_neg hc2]
            split at ha
            · rename_i hc3
              rw [if_pos hc3]
              simp only [Option.some.injEq, Prod.mk.injEq] at ha
              obtain ⟨rfl, rfl⟩ := ha
              refine ⟨rfl, rfl, (s'.setH (rmv s'.H id)).add (.arr es (rows ++ new) leak), by rw [hn], rfl, rfl, fun k => ?_⟩
              simp only [St.add, St.setH, lk_cons, lk_rmv, hn, h]
            · cases ha
        · cases ha
      · cases ha
    · cases ha
  · cases ha
/-- Every operation of such a region, in a state with the same heap. -/
theorem same_op {ip : IP} (hk : cls ip ≤ 6) (hf : fzB c ip = true) (h : evOp c cl s ip = some (v, s1)) (he : ∀ x ∈ opsOf ip, s'.ev x = s.ev x) (hH : ∀ k, lk s'.H k = lk s.H k) (hn : s'.nx = s.nx) :
    s1.env = s.env ∧ s1.loc = s.loc ∧ ∃ s1', evOp c cl s' ip = some (v, s1') ∧ s1'.env = s'.env ∧ s1'.loc = s'.loc ∧ ∀ k, lk s1'.H k = lk s1.H k := by
  by_cases h4 : cls ip ≤ 4
  · obtain ⟨g, add, ht⟩ := tr_op h4 hf h
    have hcd : Cond s s' ip := by
      cases ip <;> simp only [Cond]
      case ld a size p => exact fun id _ o ho => ⟨0, .inl (by rw [hH, ho, leakOb_zero])⟩
      case call => exact .inr (rows_of_lk hH)
      case bsl => exact .inr (rows_of_lk hH)
    obtain ⟨s1', k1, k2, k3, k4⟩ := ht.same s' he hn hcd
    refine ⟨ht.env, ht.loc, s1', k1, k2, k3, fun k => ?_⟩
    have k5 := ht.eff
    rw [k4 k, k5 k, hH]
  · cases ip
    case st size p x =>
      simp only [evOp] at h
      split at h
      · rename_i H1 hH1
        simp only [Option.some.injEq, Prod.mk.injEq] at h
        obtain ⟨rfl, rfl⟩ := h
        obtain ⟨H1', k1, k2⟩ := store_same hH hH1
        refine ⟨rfl, rfl, s'.setH H1', ?_, rfl, rfl, k2⟩
        simp only [evOp]
        rw [he p (by simp [opsOf]), he x (by simp [opsOf]), k1]
      · cases h
    case app es x y =>
      simp only [evOp] at h ⊢
      rw [he x (by simp [opsOf]), he y (by simp [opsOf])]
      exact app_same hH hn h
    all_goals (simp [cls] at hk h4)
end
end Go.Proofs.Ytcmejocmohohpaa.R

/- Regions that draw their order: two operations without an order between them. -/
set_option linter.unusedVariables false
set_option linter.unusedSectionVars false
set_option linter.unusedSimpArgs false
noncomputable section
namespace Go.Proofs.Ytcmejocmohohpaa.R
open Go
def atN (s : St) (q : Nat) : St := ⟨s.env, s.loc, s.H, q⟩
theorem atN_ev (s : St) (q : Nat) (x : Opd) : (atN s q).ev x = s.ev x := by cases x <;> rfl
theorem atN_evs (s : St) (q : Nat) : ∀ l : List Opd, (atN s q).evs l = s.evs l := fun l => evs_congr fun x _ => atN_ev s q x
theorem atN_want (s : St) (q : Nat) (g : Option (Nat × Bool)) : wantA (atN s q) g = wantA s g := rfl
section
variable {c : Cfg} {cl : Callee} {nt : Nat} {k : List (Nat × Nat)} {base : Nat} {s s' u : St} {v : AV} {o : Iop}
theorem evIO_inv (h : evIO c cl nt o s = some s') : dstOk nt o.dst = true ∧ ((wantA s o.guard = some true ∧ ∃ v s1, evOp c cl s o.op = some (v, s1) ∧ s' = s1.putO o.dst v) ∨ (wantA s o.guard = some false ∧ s' = s.putO o.dst .un)) := by
  unfold evIO at h
  rw [cond_eq_ite] at h
  split at h
  · rename_i hd
    refine ⟨hd, ?_⟩
    split at h
    · rename_i b hb
      rw [cond_eq_ite] at h
      cases b with
      | true =>
        simp only [if_true] at h
        split at h
        · rename_i v s1 hv
          rw [nowS_eq] at h
          simp only [Option.some.injEq] at h
          exact .inl ⟨hb, v, s1, hv, h.symm⟩
        · cases h
      | false =>
        simp only [Bool.false_eq_true, if_false] at h
        rw [nowS_eq] at h
        simp only [Option.some.injEq] at h
        exact .inr ⟨hb, h.symm⟩
    · cases h
  · cases h
theorem evIO_yes {s1 : St} (hd : dstOk nt o.dst = true) (hw : wantA s o.guard = some true) (h : evOp c cl s o.op = some (v, s1)) : evIO c cl nt o s = some (s1.putO o.dst v) := by
  unfold evIO
  rw [hd, hw]
  simp only [cond_true, h, nowS_eq]
theorem evIO_no (hd : dstOk nt o.dst = true) (hw : wantA s o.guard = some false) : evIO c cl nt o s = some (s.putO o.dst .un) := by
  unfold evIO
  rw [hd, hw]
  simp only [cond_true, cond_false, nowS_eq]
/-- What an operation looks at is the same. -/
def Look (o : Iop) (s u : St) : Prop := ∀ t, lookB t o = true → u.get t = s.get t
theorem readB_mem {n : Nat} : ∀ {l : List Opd}, Opd.t n ∈ l → readB n l = true
  | .t m :: r, h => by
    simp only [readB, Bool.or_eq_true]
    rcases List.mem_cons.1 h with h | h
    · cases h
      exact .inl (Nat.beq_refl n)
    · exact .inr (readB_mem h)
  | .c v :: r, h => by
    simp only [readB]
    rcases List.mem_cons.1 h with h | h
    · cases h
    · exact readB_mem h
theorem Look.ev (h : Look o s u) : ∀ x ∈ opsOf o.op, u.ev x = s.ev x := fun x hx => by
  cases x with
  | c v => rfl
  | t n =>
    refine h n ?_
    simp only [lookB, readB_mem hx, Bool.true_or]
theorem Look.want (h : Look o s u) : wantA u o.guard = wantA s o.guard := by
  cases hg : o.guard with
  | none => rfl
  | some p =>
    obtain ⟨d, b⟩ := p
    have := h d (by simp [lookB, hg])
    simp only [wantA, this]
theorem gateD_same {i : Nat} (h : ∀ x ∈ opsOf o.op, u.ev x = s.ev x) : gateD c k base i u o.op = gateD c k base i s o.op := by
  cases ho : o.op <;> simp only [gateD] <;> rw [ho] at h
  case ld a size p => rw [h p (by simp [opsOf])]
  case call f args => rw [evs_congr (by simpa [opsOf] using h)]
  case bsl es z len ps =>
    have : (ps.all fun p => ownFree (u.ev p.2)) = (ps.all fun p => ownFree (s.ev p.2)) := by
      have h' : ∀ x ∈ ps.map (fun p => p.2), u.ev x = s.ev x := by simpa [opsOf] using h
      clear h ho
      induction ps with
      | nil => rfl
      | cons p r ih =>
        simp only [List.all_cons]
        rw [h' p.2 (by simp), ih fun x hx => h' x (by rw [List.map_cons]; exact List.mem_cons_of_mem _ hx)]
    rw [this]
theorem gateO_same {i : Nat} (h : Look o s u) : gateO c k base i u o = gateO c k base i s o := by
  unfold gateO
  rw [h.want, gateD_same h.ev]
theorem evD_inv {i : Nat} (h : evD c cl nt k base i o s = some s') : gateO c k base i s o = true ∧ evIO c cl nt o (atN s (base + i)) = some s' := by
  unfold evD at h
  rw [cond_eq_ite] at h
  split at h
  · rename_i hg; exact ⟨hg, h⟩
  · cases h
theorem evD_mk {i : Nat} (hg : gateO c k base i s o = true) (h : evIO c cl nt o (atN s (base + i)) = some s') : evD c cl nt k base i o s = some s' := by
  unfold evD
  rw [hg]
  exact h
def ecls (o : Iop) (s : St) : Nat := match wantA s o.guard with | some true => cls o.op | _ => 0
theorem ecls_yes (h : wantA s o.guard = some true) : ecls o s = cls o.op := by unfold ecls; rw [h]
theorem ecls_pos (h : ecls o s ≠ 0) : wantA s o.guard = some true := by
  unfold ecls at h
  split at h
  · assumption
  · exact absurd rfl h
def CondO (o : Iop) (s u : St) : Prop := wantA s o.guard = some true → Cond s u o.op
structure StepT (c : Cfg) (cl : Callee) (nt : Nat) (k : List (Nat × Nat)) (base i : Nat) (o : Iop) (s s' : St) (v : AV) (g : Nat → Nat) (add : Option Ob) : Prop where
  get : ∀ t, s'.get t = if o.dst = some t then v else s.get t
  disj : Disj s'
  eff : Eff g add (base + i) s.H s'.H
  none : ecls o s ≤ 2 → add = none
  zero : (ecls o s = 0 ∨ ecls o s = 1 ∨ ecls o s = 4) → g = zg
  box : ecls o s = 4 → ∃ cells, add = some (.box cells)
  free : freeB s o.op = true → g = zg
  same : ∀ u, Disj u → Look o s u → CondO o s u → ∃ u', evD c cl nt k base i o u = some u' ∧ (∀ t, u'.get t = if o.dst = some t then v else u.get t) ∧ Disj u' ∧ Eff g add (base + i) u.H u'.H
theorem atN_free (s : St) (q : Nat) (ip : IP) : freeB (atN s q) ip = freeB s ip := by
  cases ip <;> simp only [freeB, atN_evs, atN_ev]
theorem atN_cond {s u : St} {q : Nat} {ip : IP} (h : Cond s u ip) : Cond (atN s q) (atN u q) ip := by
  cases ip <;> simp only [Cond, atN_evs, atN_ev, atN_free] at h ⊢
  all_goals exact h
theorem gate_fz {i : Nat} (hg : gateO c k base i s o = true) (hw : wantA s o.guard = some true) : fzB c o.op = true := by
  simp only [gateO, hw] at hg
  cases ho : o.op <;> rw [ho] at hg <;> simp only [fzB, gateD, Bool.and_eq_true] at hg ⊢
  exact hg.1
theorem put_step {s1 : St} (hd : Disj s1) (d : Option Nat) (x : AV) (he : s1.env = s.env) (hl : s1.loc = s.loc) : (∀ t, (s1.putO d x).get t = if d = some t then x else s.get t) ∧ Disj (s1.putO d x) ∧ (s1.putO d x).H = s1.H := by
  obtain ⟨h1, h2, h3, _⟩ := putO_spec hd d x
  refine ⟨fun t => ?_, h2, h3⟩
  rw [h1]
  split
  · rfl
  · rw [get_eq, get_eq, he, hl]
theorem disj_of {s1 : St} (hd : Disj s) (he : s1.env = s.env) (hl : s1.loc = s.loc) : Disj s1 := by
  intro t x hx
  rw [he] at hx
  rw [hl]
  exact hd t x hx
theorem stepT {i : Nat} (hd : Disj s) (h : evD c cl nt k base i o s = some s') (h4 : ecls o s ≤ 4) : ∃ v g add, StepT c cl nt k base i o s s' v g add := by
  obtain ⟨hg, h⟩ := evD_inv h
  obtain ⟨hdst, ⟨hw, v, s1, hv, rfl⟩ | ⟨hw, rfl⟩⟩ := evIO_inv h
  · rw [atN_want] at hw
    have hf := gate_fz hg hw
    rw [ecls_yes hw] at h4
    obtain ⟨g, add, ht⟩ := tr_op h4 hf hv
    obtain ⟨p1, p2, p3⟩ := put_step (s := s) (disj_of (s := atN s (base + i)) hd ht.env ht.loc) o.dst v ht.env ht.loc
    refine ⟨v, g, add, p1, p2, by rw [p3]; exact ht.eff, ?_, ?_, ?_, ?_, ?_⟩
    · rw [ecls_yes hw]; exact ht.none
    · rw [ecls_yes hw]; exact ht.zero
    · rw [ecls_yes hw]; exact ht.box
    · intro hfr
      exact ht.free (by rw [atN_free]; exact hfr)
    · intro u hdu hl hcd
      obtain ⟨u1, q1, q2, q3, q4⟩ := ht.same (atN u (base + i)) (fun x hx => by rw [atN_ev, atN_ev]; exact hl.ev x hx) rfl (atN_cond (hcd hw))
      obtain ⟨r1, r2, r3⟩ := put_step (s := u) (disj_of (s := atN u (base + i)) hdu q2 q3) o.dst v q2 q3
      refine ⟨u1.putO o.dst v, evD_mk (by rw [gateO_same hl]; exact hg) (evIO_yes hdst (by rw [atN_want, hl.want]; exact hw) q1), r1, r2, by rw [r3]; exact q4⟩
  · rw [atN_want] at hw
    have h0 : ecls o s = 0 := by unfold ecls; rw [hw]
    obtain ⟨p1, p2, p3⟩ := put_step (s := s) (s1 := atN s (base + i)) hd o.dst .un rfl rfl
    refine ⟨.un, zg, none, p1, p2, by rw [p3]; exact Eff.refl _ _, fun _ => rfl, fun _ => rfl, fun h => by omega, fun _ => rfl, ?_⟩
    intro u hdu hl hcd
    obtain ⟨r1, r2, r3⟩ := put_step (s := u) (s1 := atN u (base + i)) hdu o.dst .un rfl rfl
    refine ⟨_, evD_mk (by rw [gateO_same hl]; exact hg) (evIO_no hdst (by rw [atN_want, hl.want]; exact hw)), r1, r2, by rw [r3]; exact Eff.refl _ _⟩
/-- Any operation, in a state with the same heap. -/
theorem stepX {i : Nat} (hd : Disj s) (h : evD c cl nt k base i o s = some s') (h6 : cls o.op ≤ 6) :
    ∃ v, (∀ t, s'.get t = if o.dst = some t then v else s.get t) ∧ Disj s' ∧ ∀ u, Disj u → Look o s u → (∀ j, lk u.H j = lk s.H j) → ∃ u', evD c cl nt k base i o u = some u' ∧ (∀ t, u'.get t = if o.dst = some t then v else u.get t) ∧ Disj u' ∧ ∀ j, lk u'.H j = lk s'.H j := by
  obtain ⟨hg, h⟩ := evD_inv h
  obtain ⟨hdst, ⟨hw, v, s1, hv, rfl⟩ | ⟨hw, rfl⟩⟩ := evIO_inv h
  · rw [atN_want] at hw
    have hf := gate_fz hg hw
    obtain ⟨e1, e2, _⟩ := same_op (s' := atN s (base + i)) h6 hf hv (fun _ _ => rfl) (fun _ => rfl) rfl
    obtain ⟨p1, p2, p3⟩ := put_step (s := s) (disj_of (s := atN s (base + i)) hd e1 e2) o.dst v e1 e2
    refine ⟨v, p1, p2, fun u hdu hl hH => ?_⟩
    obtain ⟨_, _, u1, q1, q2, q3, q4⟩ := same_op (s' := atN u (base + i)) h6 hf hv (fun x hx => by rw [atN_ev, atN_ev]; exact hl.ev x hx) hH rfl
    obtain ⟨r1, r2, r3⟩ := put_step (s := u) (disj_of (s := atN u (base + i)) hdu q2 q3) o.dst v q2 q3
    exact ⟨u1.putO o.dst v, evD_mk (by rw [gateO_same hl]; exact hg) (evIO_yes hdst (by rw [atN_want, hl.want]; exact hw) q1), r1, r2, fun j => by rw [r3, p3]; exact q4 j⟩
  · rw [atN_want] at hw
    obtain ⟨p1, p2, p3⟩ := put_step (s := s) (s1 := atN s (base + i)) hd o.dst .un rfl rfl
    refine ⟨.un, p1, p2, fun u hdu hl hH => ?_⟩
    obtain ⟨r1, r2, r3⟩ := put_step (s := u) (s1 := atN u (base + i)) hdu o.dst .un rfl rfl
    exact ⟨_, evD_mk (by rw [gateO_same hl]; exact hg) (evIO_no hdst (by rw [atN_want, hl.want]; exact hw)), r1, r2, fun j => by rw [r3, p3]; exact hH j⟩
theorem eff_none {H H' : Heap} {g : Nat → Nat} {add : Option Ob} {q : Nat} (h : Eff g add q H H') {j : Nat} (hj : j ≠ q) (h0 : lk H j = none) : lk H' j = none := by
  rw [h j]
  cases add with
  | none => simp [h0]
  | some ob => simp [hj, h0]
theorem app_fresh {es : Nat} {x y : AV} {s1 : St} (h : appAV es s x y = some (v, s1)) {j : Nat} (hj : j ≠ s.nx) (h0 : lk s.H j = none) : lk s1.H j = none := by
  have hn : ∀ rows, newArr s es rows = some (v, s1) → lk s1.H j = none := by
    intro rows h
    unfold newArr at h
    split at h
    · simp only [Option.some.injEq, Prod.mk.injEq] at h
      obtain ⟨rfl, rfl⟩ := h
      simp only [St.add, lk_cons]
      rw [if_neg (fun e => hj e.symm)]
      exact h0
    · cases h
  unfold appAV at h
  repeat' split at h
  all_goals first
    | (cases h; done)
    | exact hn _ h
    | (simp only [Option.some.injEq, Prod.mk.injEq] at h
       obtain ⟨rfl, rfl⟩ := h
       simp only [St.add, St.setH, lk_cons, lk_rmv]
       rw [if_neg (fun e => hj e.symm)]
       split
       · rfl
       · exact h0)
theorem store_fresh {size : Nat} {H H1 : Heap} {p x : AV} (h : storeH size H p x = some H1) {j : Nat} (h0 : lk H j = none) : lk H1 j = none := by
  unfold storeH at h
  split at h
  · rename_i id off
    split at h
    · rename_i cells vs hid hvs
      split at h
      · rw [lk_upd h, if_neg]
        · exact h0
        · intro e; subst e; rw [h0] at hid; cases hid
      · cases h
    · cases h
  · rename_i id i f
    obtain ⟨g, _, hg⟩ := leakV_fun x
    split at h
    · rename_i vs es rows leak hvs hid
      split at h
      · split at h
        · rw [lk_upd h, if_neg]
          · rw [hg, h0]; rfl
          · intro e; subst e; rw [hg, h0] at hid; cases hid
        · cases h
      · cases h
    · cases h
  · cases h
/-- The places of the others stay free. -/
theorem evD_fresh {i : Nat} (hd : Disj s) (h : evD c cl nt k base i o s = some s') (h6 : cls o.op ≤ 6) {j : Nat} (hj : j ≠ base + i) (h0 : lk s.H j = none) : lk s'.H j = none := by
  by_cases h4 : ecls o s ≤ 4
  · obtain ⟨v, g, add, ht⟩ := stepT hd h h4
    exact eff_none ht.eff hj h0
  · have hw := ecls_pos (o := o) (s := s) (by omega)
    rw [ecls_yes hw] at h4
    obtain ⟨hg, h⟩ := evD_inv h
    obtain ⟨hdst, ⟨hw', v, s1, hv, rfl⟩ | ⟨hw', rfl⟩⟩ := evIO_inv h
    · obtain ⟨e1, e2, _⟩ := same_op (s' := atN s (base + i)) h6 (gate_fz hg hw) hv (fun _ _ => rfl) (fun _ => rfl) rfl
      obtain ⟨p1, p2, p3⟩ := put_step (s := s) (disj_of (s := atN s (base + i)) hd e1 e2) o.dst v e1 e2
      rw [p3]
      cases ho : o.op <;> rw [ho] at h4 h6 hv
      case st size p x =>
        simp only [evOp] at hv
        split at hv
        · rename_i H1 hH1
          simp only [Option.some.injEq, Prod.mk.injEq] at hv
          obtain ⟨rfl, rfl⟩ := hv
          exact store_fresh hH1 h0
        · cases hv
      case app es x y =>
        simp only [evOp] at hv
        exact app_fresh hv hj h0
      all_goals (simp [cls] at h4 h6)
    · rw [atN_want, hw] at hw'
      cases hw'
/-- A store leaves the other places. -/
theorem st_keeps {i : Nat} (hd : Disj s) (h : evD c cl nt k base i o s = some s') {size : Nat} {p x : Opd} (ho : o.op = .st size p x) {id : Nat} (hid : ∀ j, idOf (s.ev p) = some j → j ≠ id) : Keeps s.H s'.H id := by
  obtain ⟨hg, h⟩ := evD_inv h
  obtain ⟨hdst, ⟨hw', v, s1, hv, rfl⟩ | ⟨hw', rfl⟩⟩ := evIO_inv h
  · rw [ho] at hv
    simp only [evOp] at hv
    split at hv
    · rename_i H1 hH1
      simp only [Option.some.injEq, Prod.mk.injEq] at hv
      obtain ⟨rfl, rfl⟩ := hv
      obtain ⟨p1, p2, p3⟩ := put_step (s := s) (s1 := (atN s (base + i)).setH H1) hd o.dst .un rfl rfl
      rw [p3]
      refine store_keeps hH1 fun j hj => hid j ?_
      rw [atN_ev] at hj
      exact hj
    · cases hv
  · obtain ⟨p1, p2, p3⟩ := put_step (s := s) (s1 := atN s (base + i)) hd o.dst .un rfl rfl
    rw [p3]
    exact fun o ho => ⟨0, .inl (by rw [leakOb_zero]; exact ho)⟩
end
end Go.Proofs.Ytcmejocmohohpaa.R

/- Regions that draw their order: two neighbours change places. -/
set_option linter.unusedVariables false
set_option linter.unusedSectionVars false
set_option linter.unusedSimpArgs false
noncomputable section
namespace Go.Proofs.Ytcmejocmohohpaa.R
open Go
/-- The same values, the same heap. -/
structure Eqv (s u : St) : Prop where
  get : ∀ t, s.get t = u.get t
  heap : ∀ j, lk s.H j = lk u.H j
  disj : Disj u
theorem Eqv.trans {s u v : St} (h : Eqv s u) (h' : Eqv u v) : Eqv s v := ⟨fun t => (h.get t).trans (h'.get t), fun j => (h.heap j).trans (h'.heap j), h'.disj⟩
structure Apart (x y : Iop) : Prop where
  a1 : ∀ d, x.dst = some d → lookB d y = false
  a2 : ∀ d, x.dst = some d → y.dst ≠ some d
  a3 : ∀ d, y.dst = some d → lookB d x = false
theorem apart_spec {x y : Iop} (h : apartB x y = true) : Apart x y := by
  unfold apartB at h
  simp only [Bool.and_eq_true] at h
  obtain ⟨h1, h2⟩ := h
  refine ⟨fun d hd => ?_, fun d hd => ?_, fun d hd => ?_⟩
  · simp only [hd, Bool.and_eq_true] at h1
    simpa using h1.1
  · intro hy
    simp only [hd, hy, Bool.and_eq_true] at h1
    have := h1.2
    simp [Nat.beq_refl] at this
  · simp only [hd] at h2
    simpa using h2
theorem pairChk_spec {ios : List Iop} {i j : Nat} {x y : Iop} {kk : List (Nat × Nat)} (h : pairChk ios i j x y = some kk) : Apart x y ∧ cls x.op ≤ 6 ∧ cls y.op ≤ 6 ∧ (cls x.op ≠ 0 → cls y.op ≠ 0 →
    (cls x.op ≤ 4 ∧ cls y.op ≤ 4 ∧ (cls x.op = 3 → cls y.op = 2 ∨ cls y.op = 3 → (j, j) ∈ kk) ∧ (cls y.op = 3 → cls x.op = 2 ∨ cls x.op = 3 → (i, i) ∈ kk)) ∨
    ∃ a z p b q w, x.op = .ld a z p ∧ y.op = .st b q w ∧ stillB p ios = true ∧ stillB q ios = true ∧ (i, j) ∈ kk) := by
  have hle : ∀ ip, cls ip ≤ 7 := fun ip => by cases ip <;> simp [cls]
  have hx7 := hle x.op
  have hy7 := hle y.op
  unfold pairChk at h
  split at h
  · rename_i hap
    refine ⟨apart_spec hap, ?_⟩
    split at h
    case h_1 => cases h
    case h_2 => cases h
    case h_3 h0 h1 =>
      have h1' : cls y.op ≠ 7 := h1
      exact ⟨by omega, by omega, fun h => absurd h0 h⟩
    case h_4 h0 h1 h2 =>
      have h1' : cls x.op ≠ 7 := by assumption
      exact ⟨by omega, by omega, fun _ h => absurd (by omega) h⟩
    case h_17 h0 h1 =>
      simp only [Option.some.injEq] at h; subst h
      exact ⟨by omega, by omega, fun _ _ => .inl ⟨by omega, by omega, fun h => by omega, fun _ _ => by simp⟩⟩
    case h_18 h0 h1 =>
      simp only [Option.some.injEq] at h; subst h
      exact ⟨by omega, by omega, fun _ _ => .inl ⟨by omega, by omega, fun _ _ => by simp, fun h => by omega⟩⟩
    case h_19 h0 h1 =>
      simp only [Option.some.injEq] at h; subst h
      exact ⟨by omega, by omega, fun _ _ => .inl ⟨by omega, by omega, fun _ _ => by simp, fun _ _ => by simp⟩⟩
    case h_20 h0 h1 =>
      refine ⟨by omega, by omega, fun _ _ => .inr ?_⟩
      split at h
      · rename_i a z p b q w hx hy
        split at h
        · rename_i hs
          simp only [Option.some.injEq] at h; subst h
          simp only [Bool.and_eq_true] at hs
          exact ⟨a, z, p, b, q, w, hx, hy, hs.1, hs.2, by simp⟩
        · cases h
      · cases h
    case h_21 => cases h
    all_goals
      rename_i h0 h1
      simp only [Option.some.injEq] at h; subst h
      exact ⟨by omega, by omega, fun _ _ => .inl ⟨by omega, by omega, fun h h' => by omega, fun h h' => by omega⟩⟩
  · cases h
section
variable {c : Cfg} {cl : Callee} {nt : Nat} {k : List (Nat × Nat)} {base : Nat} {s s1 s2 s' u : St} {v : AV} {o x y : Iop}
theorem gate_free {i : Nat} (hg : gateO c k base i s o = true) (hw : wantA s o.guard = some true) (hm : memP k i i = true) (hc : cls o.op = 2 ∨ cls o.op = 3) : freeB s o.op = true := by
  simp only [gateO, hw] at hg
  cases ho : o.op <;> rw [ho] at hc hg <;> simp only [cls, gateD, freeB, hm, Bool.and_eq_true, Bool.not_true, Bool.false_or] at hc hg ⊢
  case call => exact hg.2
  case bsl => exact hg
  all_goals omega
theorem gate_ld {i : Nat} (hg : gateO c k base i s o = true) (hw : wantA s o.guard = some true) {a : Bool} {z : Nat} {p : Opd} (ho : o.op = .ld a z p) {id : Nat} (hid : idOf (s.ev p) = some id) : id < base := by
  simp only [gateO, hw, ho, gateD, hid] at hg
  rwa [Nat.blt_eq] at hg
theorem cond_of (h1 : ∀ a z p, o.op = .ld a z p → ∀ id, idOf (s.ev p) = some id → Keeps s.H u.H id) (h2 : (cls o.op = 2 ∨ cls o.op = 3) → freeB s o.op = true ∨ SameRows s.H u.H) : CondO o s u := by
  intro hw
  cases ho : o.op <;> rw [ho] at h2 <;> simp only [Cond]
  case ld a z p => exact h1 a z p ho
  case call f args => exact h2 (.inl rfl)
  case bsl es z len ps => exact h2 (.inr rfl)
theorem eff_zero {H H' : Heap} {q : Nat} (h : Eff zg none q H H') : ∀ j, lk H' j = lk H j := fun j => (h j).trans (Eff.refl 0 H j).symm
theorem look_back (ha : Apart x y) (hg : ∀ t, s1.get t = if x.dst = some t then v else s.get t) : Look y s1 s := by
  intro t ht
  rw [hg, if_neg]
  intro hx
  rw [ha.a1 t hx] at ht
  cases ht
theorem look_forth (ha : Apart x y) (hg : ∀ t, u.get t = if y.dst = some t then v else s.get t) : Look x s u := by
  intro t ht
  rw [hg, if_neg]
  intro hy
  rw [ha.a3 t hy] at ht
  cases ht
theorem get_swap (ha : Apart x y) {vx vy : AV} {u1 u2 : St} (g1 : ∀ t, s1.get t = if x.dst = some t then vx else s.get t) (g2 : ∀ t, s2.get t = if y.dst = some t then vy else s1.get t) (g3 : ∀ t, u1.get t = if y.dst = some t then vy else s.get t) (g4 : ∀ t, u2.get t = if x.dst = some t then vx else u1.get t) (t : Nat) : s2.get t = u2.get t := by
  rw [g2, g4, g1, g3]
  by_cases hx : x.dst = some t
  · have := ha.a2 t hx
    rw [if_neg this, if_pos hx, if_pos hx]
  · rw [if_neg hx, if_neg hx]
theorem eff_swap {H H1 H2 G1 G2 : Heap} {gx gy : Nat → Nat} {ax ay : Option Ob} {qi qj : Nat} (hne : qi ≠ qj) (e1 : Eff gx ax qi H H1) (e2 : Eff gy ay qj H1 H2) (e3 : Eff gy ay qj H G1) (e4 : Eff gx ax qi G1 G2)
    (c1 : gy = zg ∨ ax = none ∨ ∃ cells, ax = some (.box cells)) (c2 : gx = zg ∨ ay = none ∨ ∃ cells, ay = some (.box cells)) (j : Nat) : lk H2 j = lk G2 j := by
  have leak0 : ∀ (o : Ob), leakOb 0 o = o := leakOb_zero
  have comm : ∀ (o : Option Ob), (o.map (leakOb (gx j))).map (leakOb (gy j)) = (o.map (leakOb (gy j))).map (leakOb (gx j)) := by
    intro o
    rw [leak_add, leak_add, Nat.max_comm]
  rw [e2 j, e4 j, e1 j, e3 j]
  cases ax with
  | none =>
    cases ay with
    | none => exact comm _
    | some oy =>
      simp only
      by_cases hj : j = qj
      · subst hj
        simp only [if_true, Option.map_some]
        rcases c2 with c2 | c2 | ⟨cells, c2⟩
        · rw [c2]; simp [zg, leak0]
        · cases c2
        · cases c2; simp [leakOb]
      · simp only [hj, if_false]
        exact comm _
  | some ox =>
    cases ay with
    | none =>
      simp only
      by_cases hj : j = qi
      · subst hj
        simp only [if_true, Option.map_some]
        rcases c1 with c1 | c1 | ⟨cells, c1⟩
        · rw [c1]; simp [zg, leak0]
        · cases c1
        · cases c1; simp [leakOb]
      · simp only [hj, if_false]
        exact comm _
    | some oy =>
      simp only
      by_cases hj : j = qi
      · subst hj
        simp only [if_true, hne, if_false, Option.map_some]
        rcases c1 with c1 | c1 | ⟨cells, c1⟩
        · rw [c1]; simp [zg, leak0]
        · cases c1
        · cases c1; simp [leakOb]
      · by_cases hj2 : j = qj
        · subst hj2
          simp only [if_true, hj, if_false, Option.map_some]
          rcases c2 with c2 | c2 | ⟨cells, c2⟩
          · rw [c2]; simp [zg, leak0]
          · cases c2
          · cases c2; simp [leakOb]
        · simp only [hj, hj2, if_false]
          exact comm _
theorem keeps_back {H H1 : Heap} {g : Nat → Nat} {add : Option Ob} {q id : Nat} (h : Eff g add q H H1) (hne : id ≠ q) : Keeps H1 H id := by
  intro o ho
  rw [h id] at ho
  have : (lk H id).map (leakOb (g id)) = some o := by
    cases add with
    | none => exact ho
    | some ob => simpa [hne] using ho
  cases hid : lk H id with
  | none => rw [hid] at this; cases this
  | some o' =>
    rw [hid] at this
    exact ⟨g id, .inr ⟨o', rfl, (Option.some.inj this).symm⟩⟩
theorem keeps_forth {H H1 : Heap} {g : Nat → Nat} {add : Option Ob} {q id : Nat} (h : Eff g add q H H1) (hne : id ≠ q) : Keeps H H1 id := by
  intro o ho
  refine ⟨g id, .inl ?_⟩
  rw [h id]
  cases add with
  | none => simp [ho]
  | some ob => simp [hne, ho]
theorem rows_eff {H H1 : Heap} {g : Nat → Nat} {add : Option Ob} {q : Nat} (h : Eff g add q H H1) (hq : lk H q = none) (ha : add = none ∨ ∃ cells, add = some (.box cells)) : SameRows H H1 := by
  rcases ha with rfl | ⟨cells, rfl⟩
  · exact rows_leak h
  · exact rows_box h hq
theorem SameRows.symm {H H1 : Heap} (h : SameRows H H1) : SameRows H1 H := fun id => (h id).symm
/-- Two neighbours change places. -/
theorem swap {ios : List Iop} {i j : Nat} {kk : List (Nat × Nat)} (hij : i ≠ j) (hp : pairChk ios i j x y = some kk) (hkk : ∀ a b, (a, b) ∈ kk → memP k a b = true) (hds : Disj s) (hfi : lk s.H (base + i) = none) (hfj : lk s.H (base + j) = none)
    (hst : ∀ a z p b q w, x.op = .ld a z p → y.op = .st b q w → stillB p ios = true → stillB q ios = true → (i, j) ∈ kk → neId (s.ev p) (s.ev q) = true) (h1 : evD c cl nt k base i x s = some s1) (h2 : evD c cl nt k base j y s1 = some s2) :
    ∃ u1 u2, evD c cl nt k base j y s = some u1 ∧ evD c cl nt k base i x u1 = some u2 ∧ Eqv s2 u2 := by
  obtain ⟨ha, hx6, hy6, hcase⟩ := pairChk_spec hp
  have hq : base + i ≠ base + j := by omega
  have hgx := (evD_inv h1).1
  have hgy := (evD_inv h2).1
  by_cases hx0 : ecls x s = 0
  · obtain ⟨vx, gx, ax, tx⟩ := stepT hds h1 (by omega)
    obtain ⟨vy, g2, d2, hX⟩ := stepX tx.disj h2 hy6
    have hz := tx.zero (.inl hx0)
    have hn := tx.none (by omega)
    have he := tx.eff
    rw [hz, hn] at he
    obtain ⟨u1, b1, b2, b3, b4⟩ := hX s hds (look_back ha tx.get) fun j => (eff_zero he j).symm
    obtain ⟨u2, c1, c2, c3, c4⟩ := tx.same u1 b3 (look_forth ha b2) (by
      intro hw
      rw [ecls_yes hw] at hx0
      cases ho : x.op <;> rw [ho] at hx0 <;> simp only [cls] at hx0 <;> (first | (simp only [Cond]; done) | omega | trivial))
    rw [hz, hn] at c4
    exact ⟨u1, u2, b1, c1, get_swap ha tx.get g2 b2 c2, fun j => by rw [eff_zero c4 j, b4 j], c3⟩
  · have hwx := ecls_pos hx0
    rw [ecls_yes hwx] at hx0
    by_cases hy0 : ecls y s1 = 0
    · obtain ⟨vx, g1, d1, hX⟩ := stepX hds h1 hx6
      obtain ⟨vy, gy, ay, ty⟩ := stepT d1 h2 (by omega)
      have hz := ty.zero (.inl hy0)
      have hn := ty.none (by omega)
      obtain ⟨u1, b1, b2, b3, b4⟩ := ty.same s hds (look_back ha g1) (by
        intro hw
        rw [ecls_yes hw] at hy0
        cases ho : y.op <;> rw [ho] at hy0 <;> simp only [cls] at hy0 <;> (first | (simp only [Cond]; done) | omega | trivial))
      rw [hz, hn] at b4
      obtain ⟨u2, c1, c2, c3, c4⟩ := hX u1 b3 (look_forth ha b2) (eff_zero b4)
      have he := ty.eff
      rw [hz, hn] at he
      exact ⟨u1, u2, b1, c1, get_swap ha g1 ty.get b2 c2, fun j => by rw [eff_zero he j, c4 j], c3⟩
    · have hwy := ecls_pos hy0
      rw [ecls_yes hwy] at hy0
      have ex := ecls_yes hwx
      have ey := ecls_yes hwy
      rcases hcase hx0 hy0 with ⟨hx4, hy4, r1, r2⟩ | ⟨a, z, p, b, q, w, hxo, hyo, hsp, hsq, hmem⟩
      · obtain ⟨vx, gx, ax, tx⟩ := stepT hds h1 (by omega)
        obtain ⟨vy, gy, ay, ty⟩ := stepT tx.disj h2 (by omega)
        have hax : cls x.op ≠ 3 → ax = none ∨ ∃ cells, ax = some (.box cells) := by
          intro h3
          by_cases h4 : cls x.op = 4
          · exact .inr (tx.box (by omega))
          · exact .inl (tx.none (by omega))
        have hay : cls y.op ≠ 3 → ay = none ∨ ∃ cells, ay = some (.box cells) := by
          intro h3
          by_cases h4 : cls y.op = 4
          · exact .inr (ty.box (by omega))
          · exact .inl (ty.none (by omega))
        have hfy : cls x.op = 3 → cls y.op = 2 ∨ cls y.op = 3 → freeB s1 y.op = true := fun h3 h23 => gate_free hgy hwy (hkk _ _ (r1 h3 h23)) h23
        have hfx : cls y.op = 3 → cls x.op = 2 ∨ cls x.op = 3 → freeB s x.op = true := fun h3 h23 => gate_free hgx hwx (hkk _ _ (r2 h3 h23)) h23
        obtain ⟨u1, b1, b2, b3, b4⟩ := ty.same s hds (look_back ha tx.get) (by
          refine cond_of (fun a z p ho id hid => ?_) fun h23 => ?_
          · have := gate_ld hgy hwy ho hid
            exact keeps_back tx.eff (by omega)
          · by_cases h3 : cls x.op = 3
            · exact .inl (hfy h3 h23)
            · exact .inr (rows_eff tx.eff hfi (hax h3)).symm)
        obtain ⟨u2, c1, c2, c3, c4⟩ := tx.same u1 b3 (look_forth ha b2) (by
          refine cond_of (fun a z p ho id hid => ?_) fun h23 => ?_
          · have := gate_ld hgx hwx ho hid
            exact keeps_forth b4 (by omega)
          · by_cases h3 : cls y.op = 3
            · exact .inl (hfx h3 h23)
            · exact .inr (rows_eff b4 hfj (hay h3)))
        refine ⟨u1, u2, b1, c1, get_swap ha tx.get ty.get b2 c2, eff_swap hq tx.eff ty.eff b4 c4 ?_ ?_, c3⟩
        · by_cases h3 : cls x.op = 3
          · left
            by_cases h23 : cls y.op = 2 ∨ cls y.op = 3
            · exact ty.free (hfy h3 h23)
            · exact ty.zero (by omega)
          · exact .inr (hax h3)
        · by_cases h3 : cls y.op = 3
          · left
            by_cases h23 : cls x.op = 2 ∨ cls x.op = 3
            · exact tx.free (hfx h3 h23)
            · exact tx.zero (by omega)
          · exact .inr (hay h3)
      · obtain ⟨vx, gx, ax, tx⟩ := stepT hds h1 (by rw [ex, hxo]; simp [cls])
        obtain ⟨vy, g2, d2, hX⟩ := stepX tx.disj h2 hy6
        have hc1 : ecls x s = 1 := by rw [ex, hxo]; rfl
        have hz := tx.zero (.inr (.inl hc1))
        have hn := tx.none (by omega)
        have he := tx.eff
        rw [hz, hn] at he
        obtain ⟨u1, b1, b2, b3, b4⟩ := hX s hds (look_back ha tx.get) fun j => (eff_zero he j).symm
        obtain ⟨u2, c1, c2, c3, c4⟩ := tx.same u1 b3 (look_forth ha b2) (by
          refine cond_of (fun a' z' p' ho id hid => ?_) fun h23 => ?_
          · rw [hxo] at ho
            cases ho
            refine st_keeps hds b1 hyo fun j' hj' => ?_
            have hne := hst _ _ _ _ _ _ hxo hyo hsp hsq hmem
            simp only [neId, hid, hj'] at hne
            intro e
            subst e
            simp [Nat.beq_refl] at hne
          · rw [hxo] at h23
            simp [cls] at h23)
        rw [hz, hn] at c4
        exact ⟨u1, u2, b1, c1, get_swap ha tx.get g2 b2 c2, fun j => by rw [eff_zero c4 j, b4 j], c3⟩
end
end Go.Proofs.Ytcmejocmohohpaa.R

/- Regions that draw their order: any order answers as the program's own; at an id of its own. -/
set_option linter.unusedVariables false
set_option linter.unusedSectionVars false
set_option linter.unusedSimpArgs false
noncomputable section
namespace Go.Proofs.Ytcmejocmohohpaa.R
open Go
def numb : Nat → List Iop → List (Nat × Iop)
  | _, [] => []
  | i, o :: r => (i, o) :: numb (i + 1) r
def evU (c : Cfg) (cl : Callee) (nt : Nat) (k : List (Nat × Nat)) (base : Nat) : List (Nat × Iop) → St → Option St
  | [], s => some s
  | (i, o) :: r, s =>
    match evD c cl nt k base i o s with
    | some s1 => evU c cl nt k base r s1
    | none => none
section
variable {c : Cfg} {cl : Callee} {nt : Nat} {k : List (Nat × Nat)} {base : Nat} {s s1 sF s' u : St} {v : AV} {o x y : Iop} {ios : List Iop}
theorem evDs_eq : ∀ (l : List Iop) (i : Nat) (s : St), evDs c cl nt k base l i s = evU c cl nt k base (numb i l) s
  | [], i, s => rfl
  | o :: r, i, s => by
    have : evDs c cl nt k base (o :: r) i s = Option.rec none (evDs c cl nt k base r (i + 1)) (evD c cl nt k base i o s) := rfl
    rw [this]
    simp only [numb, evU]
    cases evD c cl nt k base i o s with
    | none => rfl
    | some s1 => exact evDs_eq r (i + 1) s1
theorem evU_cong : ∀ {U : List (Nat × Iop)} {s sF u : St}, Disj s → (∀ p ∈ U, cls p.2.op ≤ 6) → evU c cl nt k base U s = some sF → Eqv s u → ∃ uF, evU c cl nt k base U u = some uF ∧ Eqv sF uF
  | [], s, sF, u, hd, hc, h, he => by
    simp only [evU, Option.some.injEq] at h
    subst h
    exact ⟨u, rfl, he⟩
  | (i, o) :: r, s, sF, u, hd, hc, h, he => by
    simp only [evU] at h
    split at h
    · rename_i s1 h1
      obtain ⟨v, g1, d1, hX⟩ := stepX hd h1 (hc (i, o) (by simp))
      obtain ⟨u1, b1, b2, b3, b4⟩ := hX u he.disj (fun t _ => (he.get t).symm) (fun j => (he.heap j).symm)
      obtain ⟨uF, c1, c2⟩ := evU_cong d1 (fun p hp => hc p (by simp [hp])) h ⟨fun t => by rw [g1, b2, he.get], fun j => (b4 j).symm, b3⟩
      exact ⟨uF, by simp only [evU, b1]; exact c1, c2⟩
    · cases h
/-- Slots that the region does not write. -/
def Same0 (ios : List Iop) (s0 s : St) : Prop := ∀ p, stillB p ios = true → s.ev p = s0.ev p
theorem still_step {i : Nat} (hd : Disj s) (h : evD c cl nt k base i o s = some s1) (h6 : cls o.op ≤ 6) (ho : o ∈ ios) {s0 : St} (hs : Same0 ios s0 s) : Same0 ios s0 s1 := by
  intro p hp
  rw [← hs p hp]
  cases p with
  | c v => rfl
  | t n =>
    obtain ⟨v, g1, _, _⟩ := stepX hd h h6
    show s1.get n = s.get n
    rw [g1, if_neg]
    intro hdst
    simp only [stillB, List.all_eq_true] at hp
    have := hp o ho
    simp [hdst, Nat.beq_refl] at this
/-- An operation that may be met now is met first. -/
theorem bubble {s0 : St} (hk0 : ∀ i j, (i, j) ∈ k → i ≠ j → ∀ p q, ptrOf ios[i]? = some p → ptrOf ios[j]? = some q → neId (s0.ev p) (s0.ev q) = true) {j : Nat} {y : Iop} : ∀ {pre post : List (Nat × Iop)} {s sF : St}, Disj s → Same0 ios s0 s → (∀ p ∈ pre ++ (j, y) :: post, cls p.2.op ≤ 6 ∧ ios[p.1]? = some p.2 ∧ lk s.H (base + p.1) = none) →
    ((pre ++ (j, y) :: post).map (fun p => p.1)).Nodup → (∀ p ∈ pre, ∃ kk, pairChk ios p.1 j p.2 y = some kk ∧ ∀ q ∈ kk, q ∈ k) → evU c cl nt k base (pre ++ (j, y) :: post) s = some sF →
    ∃ u1, evD c cl nt k base j y s = some u1 ∧ ∃ uF, evU c cl nt k base (pre ++ post) u1 = some uF ∧ Eqv sF uF
  | [], post, s, sF, hd, hs0, hU, hn, hp, h => by
    simp only [List.nil_append, evU] at h
    split at h
    · rename_i s1 h1
      obtain ⟨v, g1, d1, hX⟩ := stepX hd h1 (hU (j, y) (by simp)).1
      obtain ⟨uF, c1, c2⟩ := evU_cong d1 (fun p hp => (hU p (by simp [hp])).1) h ⟨fun _ => rfl, fun _ => rfl, d1⟩
      exact ⟨s1, h1, uF, c1, c2⟩
    · cases h
  | (i, x) :: pre, post, s, sF, hd, hs0, hU, hn, hp, h => by
    simp only [List.cons_append, evU] at h
    split at h
    · rename_i s1 h1
      have hUx := hU (i, x) (by simp)
      have hUy := hU (j, y) (by simp)
      obtain ⟨v, g1, d1, hX⟩ := stepX hd h1 hUx.1
      have hs1 : Same0 ios s0 s1 := still_step hd h1 hUx.1 (List.mem_of_getElem? hUx.2.1) hs0
      rw [List.cons_append, List.map_cons, List.nodup_cons] at hn
      have hij : i ≠ j := fun e => hn.1 (by subst e; simp)
      have hU1 : ∀ p ∈ pre ++ (j, y) :: post, cls p.2.op ≤ 6 ∧ ios[p.1]? = some p.2 ∧ lk s1.H (base + p.1) = none := fun p hpm => by
        obtain ⟨q1, q2, q3⟩ := hU p (by simp only [List.cons_append]; exact List.mem_cons_of_mem _ hpm)
        refine ⟨q1, q2, evD_fresh hd h1 hUx.1 ?_ q3⟩
        intro e
        have : p.1 = i := by omega
        exact hn.1 (List.mem_map.2 ⟨p, hpm, this⟩)
      obtain ⟨v1, b1, vF, b2, b3⟩ := bubble hk0 d1 hs1 hU1 hn.2 (fun p hpm => hp p (by simp [hpm])) h
      obtain ⟨kk, p1, p2⟩ := hp (i, x) (by simp)
      have hmem : ∀ a b, (a, b) ∈ k → memP k a b = true := fun a b hab => by
        simp only [memP, List.any_eq_true, Bool.and_eq_true]
        exact ⟨(a, b), hab, Nat.beq_refl a, Nat.beq_refl b⟩
      obtain ⟨u1, u2, c1, c2, c3⟩ := swap hij p1 (fun a b hab => hmem a b (p2 _ hab)) hd hUx.2.2 hUy.2.2 (fun a z p b q w hx hy hsp hsq hm => by
        rw [hs0 p hsp, hs0 q hsq]
        refine hk0 i j (p2 _ hm) hij p q ?_ ?_
        · rw [hUx.2.1]
          obtain ⟨_, _, op⟩ := x
          simp only at hx
          subst hx
          rfl
        · rw [hUy.2.1]
          obtain ⟨_, _, op⟩ := y
          simp only at hy
          subst hy
          rfl) h1 b1
      obtain ⟨w1, gw, dw, _⟩ := stepX d1 b1 hUy.1
      obtain ⟨uF, e1, e2⟩ := evU_cong dw (fun p hpm => (hU p (by
        rcases List.mem_append.1 hpm with h | h
        · simp [h]
        · simp [h])).1) b2 c3
      exact ⟨u1, c1, uF, by simp only [List.cons_append, evU, c2]; exact e1, b3.trans e2⟩
    · cases h

/-! ### The same operation at another id -/
theorem at_same {q : Nat} {ip : IP} (hk : cls ip = 0 ∨ cls ip = 1 ∨ cls ip = 2 ∨ cls ip = 5) (hf : fzB c ip = true) (h : evOp c cl (atN s q) ip = some (v, s1)) (m : Nat) : evOp c cl (atN s m) ip = some (v, atN s1 m) := by
  by_cases h0 : cls ip = 0
  · obtain ⟨rfl, h2⟩ := p_cong (s' := atN s m) h0 h (fun x _ => by rw [atN_ev, atN_ev])
    exact h2
  · cases ip
    case ld a size p =>
      obtain ⟨hg, rfl⟩ := keep_inv h
      simp only [evOp]
      rw [atN_ev] at hg ⊢
      have : loadAV a size (atN s m).H (s.ev p) = some v := hg
      rw [this]
      rfl
    case call f args =>
      simp only [fzB] at hf
      simp only [evOp, callAV, hf, if_true, atN_evs] at h ⊢
      have hH : (atN s m).H = (atN s q).H := rfl
      rw [hH]
      split at h
      · rename_i r H1 n1 hcl
        unfold fzRet at h ⊢
        split at h
        · rename_i hp
          simp only [Option.some.injEq, Prod.mk.injEq] at h
          obtain ⟨rfl, rfl⟩ := h
          rw [if_pos hp]
          rfl
        · rename_i hp
          rw [if_neg hp]
          split at h
          · rename_i hi
            simp only [Option.some.injEq, Prod.mk.injEq] at h
            obtain ⟨rfl, rfl⟩ := h
            rw [if_pos hi]
            rfl
          · cases h
      · cases h
    case st size p x =>
      simp only [evOp, atN_ev] at h ⊢
      have hH : (atN s m).H = (atN s q).H := rfl
      rw [hH]
      split at h
      · rename_i H1 hH1
        simp only [Option.some.injEq, Prod.mk.injEq] at h
        obtain ⟨rfl, rfl⟩ := h
        rfl
      · cases h
    all_goals (simp [cls] at hk h0)
def newV (f : Nat → AV) : Prop := (f = fun i => .ptr i 0) ∨ ∃ es len ex, f = fun i => .own es i 0 len ex
structure New (c : Cfg) (cl : Callee) (s : St) (q : Nat) (ip : IP) (v : AV) (s1 : St) (ob : Ob) (H1 : Heap) (f : Nat → AV) : Prop where
  nv : newV f
  v : v = f q
  s1 : s1 = ⟨s.env, s.loc, (q, ob) :: H1, q + 1⟩
  sub : ∀ j, lk s.H j = none → lk H1 j = none
  at_ : ∀ m, evOp c cl (atN s m) ip = some (f m, ⟨s.env, s.loc, (m, ob) :: H1, m + 1⟩)
theorem new_arr {es : Nat} {rows : List (List AV)} {q : Nat} (h : newArr (atN s q) es rows = some (v, s1)) : ∃ ob f, newV f ∧ v = f q ∧ s1 = ⟨s.env, s.loc, (q, ob) :: s.H, q + 1⟩ ∧ ∀ m, newArr (atN s m) es rows = some (f m, ⟨s.env, s.loc, (m, ob) :: s.H, m + 1⟩) := by
  unfold newArr at h
  split at h
  · rename_i hl
    simp only [Option.some.injEq, Prod.mk.injEq] at h
    obtain ⟨rfl, rfl⟩ := h
    refine ⟨.arr es rows 0, fun i => .own es i 0 rows.length false, .inr ⟨es, _, _, rfl⟩, rfl, rfl, fun m => ?_⟩
    simp only [newArr, hl, if_true]
    rfl
  · cases h
theorem at_new {q : Nat} {ip : IP} (hk : cls ip = 3 ∨ cls ip = 4 ∨ cls ip = 6) (h : evOp c cl (atN s q) ip = some (v, s1)) : ∃ ob H1 f, New c cl s q ip v s1 ob H1 f := by
  cases ip
  case bsl es z len ps =>
    have hp : ∀ m, (atN s m).evp ps = s.evp ps := fun m => evp_congr fun x _ => atN_ev s m x
    simp only [evOp, bslAV, hp] at h
    split at h
    · rename_i rows hrows
      simp only [Option.some.injEq, Prod.mk.injEq] at h
      obtain ⟨rfl, rfl⟩ := h
      refine ⟨.arr es rows 0, leakAll s.H (s.evp ps), fun i => .own es i 0 len true, .inr ⟨es, _, _, rfl⟩, rfl, rfl, fun j hj => ?_, fun m => ?_⟩
      · obtain ⟨g, _, hg⟩ := leakAll_fun (s.evp ps)
        rw [hg, hj]
        rfl
      · have h2 : fillRows es (atN s m).H (List.replicate len z) (s.evp ps) = some rows := hrows
        simp only [evOp, bslAV, hp, h2]
        rfl
    · cases h
  case alloc z =>
    simp only [evOp, Option.some.injEq, Prod.mk.injEq] at h
    obtain ⟨rfl, rfl⟩ := h
    exact ⟨.box z, s.H, fun i => .ptr i 0, .inl rfl, rfl, rfl, fun _ hj => hj, fun m => rfl⟩
  case app es a b =>
    have hn : ∀ rows, newArr (atN s q) es rows = some (v, s1) → (∀ m, evOp c cl (atN s m) (.app es a b) = newArr (atN s m) es rows) → ∃ ob H1 f, New c cl s q (.app es a b) v s1 ob H1 f := by
      intro rows h hm
      obtain ⟨ob, f, h1, h2, h3, h4⟩ := new_arr h
      exact ⟨ob, s.H, f, h1, h2, h3, fun _ hj => hj, fun m => by rw [hm, h4]⟩
    have hs : ∀ m, srcRows es (atN s m).H (s.ev b) = srcRows es s.H (s.ev b) := fun m => rfl
    simp only [evOp, atN_ev] at h hn
    unfold appAV at h
    rw [hs] at h
    split at h
    · rename_i new hnew
      split at h
      · rename_i hbase
        exact hn _ h fun m => by simp only [appAV, hs, hnew, hbase]
      · rename_i es' rows ex hbase
        split at h
        · rename_i hc
          split at h
          · rename_i hz
            exact hn _ h fun m => by simp only [appAV, hs, hnew, hbase, hc, hz, and_self, if_true]
          · rename_i hz
            split at h
            · rename_i h0
              exact hn _ h fun m => by simp only [appAV, hs, hnew, hbase, hc, hz, h0, and_self, if_true, if_false]
            · cases h
        · cases h
      · rename_i es' id off len ex hbase
        have hl : ∀ m, lk (atN s m).H id = lk s.H id := fun m => rfl
        rw [hl] at h
        split at h
        · rename_i hc
          split at h
          · rename_i es2 rows leak hid
            split at h
            · rename_i hex
              split at h
              · rename_i hz
                exact hn _ h fun m => by simp only [appAV, hs, hnew, hbase, hl, hid, hc, hex, hz, if_true]
              · rename_i hz
                split at h
                · rename_i h0
                  have hH : ∀ m, (atN s m).H = s.H := fun _ => rfl
                  exact hn _ h fun m => by simp only [appAV, hs, hnew, hbase, hl, hid, hc, hex, hz, h0, and_self, if_true, if_false]
                · cases h
            · rename_i hex
              split at h
              · rename_i hc2
                simp only [Option.some.injEq, Prod.mk.injEq] at h
                obtain ⟨rfl, rfl⟩ := h
                refine ⟨.arr es (rows ++ new) leak, rmv s.H id, fun i => .own es i 0 (len + new.length) false, .inr ⟨es, _, _, rfl⟩, rfl, rfl, fun j hj => ?_, fun m => ?_⟩
                · rw [lk_rmv, hj]
                  split <;> rfl
                · simp only [evOp, atN_ev, appAV, hs, hnew, hbase, hl, hid, hc, hex, if_true, if_false, Bool.false_eq_true]
                  rw [if_pos hc2]
                  rfl
              · cases h
          · cases h
        · cases h
      · cases h
    · cases h
  all_goals (simp [cls] at hk)
end
end Go.Proofs.Ytcmejocmohohpaa.R

/- Regions that draw their order: what was looked at once for all; one step of the program. -/
set_option linter.unusedVariables false
set_option linter.unusedSectionVars false
set_option linter.unusedSimpArgs false
noncomputable section
namespace Go.Proofs.Ytcmejocmohohpaa.R
open Go
theorem ancOf_spec {acc : List Nat} : ∀ {es : List Edge} {m : Nat}, ancOf acc es = some m →
    (∀ e ∈ es, Region.binds .any e = true → e.on < acc.length) ∧ ∀ b, Nat.testBit m b = true → ∃ e ∈ es, Region.binds .any e = true ∧ (b = e.on ∨ ∃ a, acc[e.on]? = some a ∧ Nat.testBit a b = true)
  | [], m, h => by
    simp only [ancOf, Option.some.injEq] at h
    subst h
    exact ⟨by simp, by simp⟩
  | e :: r, m, h => by
    simp only [ancOf] at h
    split at h
    · rename_i hb
      split at h
      · rename_i a m' ha hm
        simp only [Option.some.injEq] at h
        subst h
        obtain ⟨h1, h2⟩ := ancOf_spec hm
        refine ⟨fun e' he' hb' => ?_, fun b hbt => ?_⟩
        · rcases List.mem_cons.1 he' with rfl | he'
          · rcases Nat.lt_or_ge e'.on acc.length with h | h
            · exact h
            · rw [List.getElem?_eq_none h] at ha; cases ha
          · exact h1 e' he' hb'
        · rw [Nat.testBit_or, Nat.testBit_or, Bool.or_eq_true, Bool.or_eq_true] at hbt
          rcases hbt with hbt | hbt | hbt
          · obtain ⟨e', g1, g2⟩ := h2 b hbt
            exact ⟨e', List.mem_cons_of_mem _ g1, g2⟩
          · exact ⟨e, by simp, hb, .inr ⟨a, ha, hbt⟩⟩
          · refine ⟨e, by simp, hb, .inl ?_⟩
            rw [Nat.testBit_shiftLeft] at hbt
            simp only [ge_iff_le, Bool.and_eq_true, decide_eq_true_eq] at hbt
            have := hbt.2
            rw [Nat.testBit_one_eq_true_iff_self_eq_zero] at this
            omega
      · cases h
    · rename_i hb
      obtain ⟨h1, h2⟩ := ancOf_spec h
      refine ⟨fun e' he' hb' => ?_, fun b hbt => ?_⟩
      · rcases List.mem_cons.1 he' with rfl | he'
        · exact absurd hb' hb
        · exact h1 e' he' hb'
      · obtain ⟨e', g1, g2⟩ := h2 b hbt
        exact ⟨e', List.mem_cons_of_mem _ g1, g2⟩
theorem rowChk_spec {ios : List Iop} {j a : Nat} {y : Iop} : ∀ {l : List Iop} {i : Nat} {k : List (Nat × Nat)}, rowChk ios j a y i l = some k → ∀ t x, l[t]? = some x → Nat.testBit a (i + t) = false → ∃ kk, pairChk ios (i + t) j x y = some kk ∧ ∀ p ∈ kk, p ∈ k
  | [], i, k, h, t, x, hx, hb => by simp at hx
  | z :: r, i, k, h, t, x, hx, hb => by
    simp only [rowChk] at h
    split at h
    · rename_i l' hl
      cases t with
      | zero =>
        simp at hx
        subst hx
        simp only [Nat.add_zero] at hb ⊢
        rw [if_neg (by simp [hb])] at h
        split at h
        · rename_i kk hkk
          simp only [Option.some.injEq] at h
          subst h
          exact ⟨kk, hkk, fun p hp => List.mem_append_left _ hp⟩
        · cases h
      | succ t =>
        simp only [List.getElem?_cons_succ] at hx
        obtain ⟨kk, h1, h2⟩ := rowChk_spec hl t x hx (by rw [show i + 1 + t = i + (t + 1) by omega]; exact hb)
        refine ⟨kk, by rw [show i + (t + 1) = i + 1 + t by omega]; exact h1, fun p hp => ?_⟩
        have := h2 p hp
        split at h
        · simp only [Option.some.injEq] at h
          subst h
          exact this
        · split at h
          · simp only [Option.some.injEq] at h
            subst h
            exact List.mem_append_right _ this
          · cases h
    · cases h
/-- What was looked at once for all. -/
structure DrawF (ops : List Oper) (ios : List Iop) (k : List (Nat × Nat)) (an : List Nat) (n0 : Nat) : Prop where
  len : an.length = ops.length
  len2 : ios.length = ops.length
  on : ∀ j o, n0 ≤ j → ops[j]? = some o → ∀ e ∈ o.after.toList, Region.binds .any e = true → e.on < j
  anc : ∀ j o a, n0 ≤ j → ops[j]? = some o → an[j]? = some a → ∀ b, Nat.testBit a b = true → ∃ e ∈ o.after.toList, Region.binds .any e = true ∧ (b = e.on ∨ ∃ a', an[e.on]? = some a' ∧ Nat.testBit a' b = true)
  pair : ∀ j y a, n0 ≤ j → ios[j]? = some y → an[j]? = some a → ∀ i x, i < j → ios[i]? = some x → Nat.testBit a i = false → ∃ kk, pairChk ios i j x y = some kk ∧ ∀ p ∈ kk, p ∈ k
  cls6 : ∀ j y, n0 ≤ j → ios[j]? = some y → cls y.op ≤ 6
theorem drawGo_spec {ops : List Oper} {ios : List Iop} : ∀ {r : List Oper} {q : List Iop} {acc : List Nat} {k : List (Nat × Nat)} {pre : List Oper} {ipre : List Iop}, ops = pre ++ r → ios = ipre ++ q → pre.length = acc.length → ipre.length = acc.length → drawGo ios r q acc = some k →
    ∃ rest, DrawF ops ios k (acc ++ rest) acc.length
  | [], [], acc, k, pre, ipre, h1, h2, h3, h4, h => by
    simp only [List.append_nil] at h1 h2
    subst h1; subst h2
    refine ⟨[], by simpa using h3.symm, by omega, fun j o hj ho => ?_, fun j o a hj ho => ?_, fun j y a hj hy => ?_, fun j y hj hy => ?_⟩
    · rw [List.getElem?_eq_none (by omega)] at ho; cases ho
    · rw [List.getElem?_eq_none (by omega)] at ho; cases ho
    · rw [List.getElem?_eq_none (by omega)] at hy; cases hy
    · rw [List.getElem?_eq_none (by omega)] at hy; cases hy
  | o :: r, y :: q, acc, k, pre, ipre, h1, h2, h3, h4, h => by
    simp only [drawGo] at h
    split at h
    · rename_i a ha
      split at h
      · rename_i k1 l hk1 hl
        split at h
        · cases h
        · rename_i h7
          simp only [Option.some.injEq] at h
          subst h
          obtain ⟨rest, hF⟩ := drawGo_spec (ops := ops) (ios := ios) (pre := pre ++ [o]) (ipre := ipre ++ [y]) (by rw [h1]; simp) (by rw [h2]; simp) (by simp [h3]) (by simp [h4]) hl
          obtain ⟨a1, a2⟩ := ancOf_spec ha
          have ho : ∀ o', ops[acc.length]? = some o' → o' = o := fun o' ho' => by
            rw [h1, List.getElem?_append_right (by omega), h3, Nat.sub_self] at ho'
            simpa using ho'.symm
          have hy : ∀ y', ios[acc.length]? = some y' → y' = y := fun y' hy' => by
            rw [h2, List.getElem?_append_right (by omega), h4, Nat.sub_self] at hy'
            simpa using hy'.symm
          have haa : ∀ a', (acc ++ [a] ++ rest)[acc.length]? = some a' → a' = a := fun a' ha' => by
            rw [List.append_assoc, List.getElem?_append_right (Nat.le_refl _), Nat.sub_self] at ha'
            simpa using ha'.symm
          have hle : ∀ j, acc.length ≤ j → j = acc.length ∨ (acc ++ [a]).length ≤ j := fun j hj => by simp; omega
          refine ⟨a :: rest, ?_⟩
          rw [show acc ++ a :: rest = acc ++ [a] ++ rest by simp]
          refine ⟨hF.len, hF.len2, fun j o' hj hoj e he hb => ?_, fun j o' a' hj hoj haj b hbt => ?_, fun j y' a' hj hyj haj i x hij hx hbt => ?_, fun j y' hj hyj => ?_⟩
          · rcases hle j hj with rfl | hj'
            · rw [ho o' hoj] at he
              exact a1 e he hb
            · exact hF.on j o' hj' hoj e he hb
          · rcases hle j hj with rfl | hj'
            · rw [ho o' hoj]
              rw [haa a' haj] at hbt
              obtain ⟨e, g1, g2, g3⟩ := a2 b hbt
              refine ⟨e, g1, g2, g3.imp_right ?_⟩
              rintro ⟨a', g4, g5⟩
              refine ⟨a', ?_, g5⟩
              rw [List.append_assoc, List.getElem?_append_left (a1 e g1 g2)]
              exact g4
            · exact hF.anc j o' a' hj' hoj haj b hbt
          · rcases hle j hj with rfl | hj'
            · rw [hy y' hyj]
              rw [haa a' haj] at hbt
              obtain ⟨kk, g1, g2⟩ := rowChk_spec hk1 i x (by rw [List.getElem?_take, if_pos hij]; exact hx) (by simpa using hbt)
              exact ⟨kk, by simpa using g1, fun p hp => List.mem_append_left _ (g2 p hp)⟩
            · obtain ⟨kk, g1, g2⟩ := hF.pair j y' a' hj' hyj haj i x hij hx hbt
              exact ⟨kk, g1, fun p hp => List.mem_append_right _ (g2 p hp)⟩
          · rcases hle j hj with rfl | hj'
            · rw [hy y' hyj]
              have h7' : cls y.op ≠ 7 := fun e => h7 (by rw [e]; rfl)
              have : cls y.op ≤ 7 := by cases y.op <;> simp [cls]
              omega
            · exact hF.cls6 j y' hj' hyj
      · cases h
    · cases h
  | [], _ :: _, acc, k, pre, ipre, h1, h2, h3, h4, h => by simp [drawGo] at h
  | _ :: _, [], acc, k, pre, ipre, h1, h2, h3, h4, h => by simp [drawGo] at h

/-! ### A place under the name that was kept for it -/
theorem Rep_to {A : Nat → Nat → Prop} {ρ : Rho} {Ha Hb : Heap} {n m q : Nat} {w : World} (hr : Rep A ρ Ha n w) (hH : ∀ k, lk Hb k = if k = q then lk Ha m else if k = m then none else lk Ha k) (hq : ρ q = none) (hqn : q < n) :
    Rep A (fun k => if k = q then ρ m else ρ k) Hb n w ∧ (∀ b o, Wr (fun k => if k = q then ρ m else ρ k) Hb b o → Wr ρ Ha b o) ∧ Ext ρ (fun k => if k = q then ρ m else ρ k) := by
  have hext : Ext ρ (fun k => if k = q then ρ m else ρ k) := by
    intro k x hx
    have : k ≠ q := fun e => by subst e; rw [hq] at hx; cases hx
    simp only [this, if_false]
    exact hx
  have old : ∀ k o x, lk Hb k = some o → (if k = q then ρ m else ρ k) = some x → ∃ k', lk Ha k' = some o ∧ ρ k' = some x ∧ ((k = q ∧ k' = m) ∨ (k ≠ q ∧ k ≠ m ∧ k' = k)) := by
    intro k o x g1 g2
    rw [hH] at g1
    by_cases hk : k = q
    · rw [if_pos hk] at g1 g2
      exact ⟨m, g1, g2, .inl ⟨hk, rfl⟩⟩
    · rw [if_neg hk] at g1 g2
      by_cases hm : k = m
      · rw [if_pos hm] at g1; cases g1
      · rw [if_neg hm] at g1
        exact ⟨k, g1, g2, .inr ⟨hk, hm, rfl⟩⟩
  have hw : ∀ b o, Wr (fun k => if k = q then ρ m else ρ k) Hb b o → Wr ρ Ha b o := by
    rintro b o ⟨i, es, ob, g1, g2, g3⟩
    obtain ⟨k', h1, h2, _⟩ := old i ob _ g1 g2
    exact ⟨k', es, ob, h1, h2, g3⟩
  refine ⟨?_, hw, hext⟩
  exact
    { ob := fun i o b es g1 g2 => by
        obtain ⟨k', h1, h2, _⟩ := old i o _ g1 g2
        exact ObR_mono (Stay.less fun b o hu => hu.imp_right (hw b o)) hext rfl (hr.ob k' o b es h1 h2)
      inj := fun i j oi oj b ei ej g1 g2 g3 g4 => by
        obtain ⟨i', h1, h2, h3⟩ := old i oi _ g1 g3
        obtain ⟨j', h4, h5, h6⟩ := old j oj _ g2 g4
        have := hr.inj i' j' oi oj b ei ej h1 h4 h2 h5
        rcases h3 with ⟨rfl, rfl⟩ | ⟨a1, a2, rfl⟩ <;> rcases h6 with ⟨rfl, rfl⟩ | ⟨a3, a4, rfl⟩
        · rfl
        · exact absurd this.symm a4
        · exact absurd this a2
        · exact this
      ltH := fun i o g1 => by
        rw [hH] at g1
        by_cases hk : i = q
        · omega
        · rw [if_neg hk] at g1
          split at g1
          · cases g1
          · exact hr.ltH i o g1
      ltR := fun i x g1 => by
        change (if i = q then ρ m else ρ i) = some x at g1
        split at g1
        · omega
        · exact hr.ltR i x g1
      ltA := hr.ltA
      apart := fun i o b es off g1 g2 => by
        obtain ⟨k', h1, h2, _⟩ := old i o _ g1 g2
        exact hr.apart k' o b es off h1 h2 }
/-- A state amidst such a region: F: the operations still to be met. -/
structure SD (A : Nat → Nat → Prop) (E : Entry) (nt base : Nat) (F : Nat → Prop) (m : Nat) (s : St) (a : Act) (w : World) : Prop where
  disj : Disj s
  size : a.tmps.size = nt
  defers : a.defers = []
  le : E.m ≤ base
  lt : ∀ i, F i → base + i < m
  ex : ∃ ρ, Rep A ρ s.H m w ∧ Vals w (UU A ρ s.H) ρ s a ∧ Ext2 E.ρ E.m ρ m ∧ Fr E.ρ E.H E.w ρ s.H w ∧ ∀ i, F i → ρ (base + i) = none
section
variable {P : Program} {c : Cfg} {cl : Callee} {A : Nat → Nat → Prop} {E : Entry} {nt base m : Nat} {F F' : Nat → Prop} {s s1 : St} {a : Act} {w w' : World} {v : AV} {x : Value} {k : List (Nat × Nat)}
theorem SD.sr (h : SD A E nt base F m s a w) : SR A E nt (atN s m) a w := by
  obtain ⟨ρ, h1, h2, h3, h4, _⟩ := h.ex
  exact ⟨h.disj, h.size, h.defers, ρ, h1, h2, h3, h4⟩
theorem SD_post (h : SD A E nt base F m s a w) {ρ ρ2 : Rho} {m' : Nat} (hv : Vals w (UU A ρ s.H) ρ s a) (hf0 : Fr E.ρ E.H E.w ρ s.H w) (he : s1.env = s.env) (hl : s1.loc = s.loc) (hr : Rep A ρ2 s1.H m' w') (hx : VR w' (UU A ρ2 s1.H) ρ2 v x) (hE : Ext2 E.ρ E.m ρ2 m') (hext : Ext ρ ρ2) (hf : Fr ρ s.H w ρ2 s1.H w')
    (hm : ∀ i, F' i → base + i < m') (hF : ∀ i, F' i → ρ2 (base + i) = none) {d : Option Nat} (hd : dstOk nt d = true) : SD A E nt base F' m' (s1.putO d v) (a.put d x) w' := by
  obtain ⟨g1, g2, g3⟩ := put_step (s := s) (disj_of h.disj he hl) d v he hl
  obtain ⟨k1, k2, k3⟩ := act_put h.size hd x
  refine ⟨g2, k2, by rw [k3]; exact h.defers, h.le, hm, ρ2, by rw [g3]; exact hr, fun t => ?_, hE, by rw [g3]; exact hf0.trans hf, hF⟩
  rw [g1, k1, g3]
  split
  · exact hx
  · exact VR_fr hf hext (hv t)
/-- One operation of such a region. -/
theorem snd_evD (hcl : Sound P cl) {ops : Array Oper} {o : Oper} {y : Iop} {j : Nat} (h : SD A E nt base F m s a w) (hj : F j) (hjH : lk s.H (base + j) = none) (hc : compOp P ops.toList o = some y) (h6 : cls y.op ≤ 6) {u1 : St} (he : evD c cl nt k base j y s = some u1)
    (hF' : ∀ i, F' i → F i ∧ i ≠ j) {K : Act → World → Prop} {Q : Exit → Act → World → Prop} (hK : ∀ a' w', SD A E nt base F' (m + 1) u1 a' w' → K a' w') :
    if Region.wanted o (yielded ops a.tmps) then o.wp P a w K Q else K (a.put o.dst undef) w := by
  obtain ⟨hg, h1⟩ := evD_inv he
  obtain ⟨hdst, hcase⟩ := evIO_inv h1
  obtain ⟨ρ, r1, r2, r3, r4, r5⟩ := h.ex
  have hlt := h.lt j hj
  have hbase := h.le
  rcases hcase with ⟨hw, v, s1, hv, rfl⟩ | ⟨hw, rfl⟩
  · rw [atN_want] at hw
    obtain ⟨p1, p2, p3⟩ := want_spec h.sr hc hw
    rw [p3]
    simp only [if_true]
    by_cases hnew : cls y.op = 3 ∨ cls y.op = 4 ∨ cls y.op = 6
    · obtain ⟨ob, H1, f, hN⟩ := at_new hnew hv
      have hs1 := hN.s1
      have hvv := hN.v
      subst hs1
      subst hvv
      refine goes (c := c) hcl (s := atN s m) (s' := ⟨s.env, s.loc, (m, ob) :: H1, m + 1⟩) r1 r2 p1 (hN.at_ m) K Q fun x w' hp => hK _ _ ?_
      obtain ⟨_, _, ρ', q1, q2, q3, q4⟩ := hp
      have hqn : ρ' (base + j) = none := q3.cl _ hlt (r5 j hj)
      have hqH : lk H1 (base + j) = none := hN.sub _ hjH
      have hmH : lk H1 m = none := hN.sub _ (by
        cases hh : lk s.H m with
        | none => rfl
        | some o' => have := r1.ltH m o' hh; omega)
      obtain ⟨t1, t2, t3⟩ := Rep_to (m := m) (q := base + j) (Hb := (base + j, ob) :: H1) q1 (fun i => by
        show lk ((base + j, ob) :: H1) i = if i = base + j then lk ((m, ob) :: H1) m else if i = m then none else lk ((m, ob) :: H1) i
        simp only [lk_cons, if_true]
        by_cases hi : i = base + j
        · subst hi; simp
        · have e1 : ¬ base + j = i := fun e => hi e.symm
          rw [if_neg e1, if_neg hi]
          by_cases hi2 : i = m
          · subst hi2; simp [hmH]
          · have e2 : ¬ m = i := fun e => hi2 e.symm
            rw [if_neg hi2, if_neg e2]) hqn (show base + j < m + 1 by omega)
      rw [← p2]
      have hfr2 : Fr ρ s.H w (fun i => if i = base + j then ρ' m else ρ' i) ((base + j, ob) :: H1) w' :=
        q4.trans
          { size := Nat.le_refl _
            os := rfl
            tape := rfl
            output := rfl
            cells := fun b C e fr hb => ⟨C, hb, rfl, fun _ _ => rfl⟩
            other := fun b ob hb _ => hb
            shrink := fun b o _ hw => t2 b o hw }
      refine SD_post (s1 := ⟨s.env, s.loc, (base + j, ob) :: H1, base + j + 1⟩) h r2 r4 rfl rfl t1 ?_ ?_ (q3.ext.trans t3) hfr2 ?_ ?_ hdst
      · have hst : Stay w' (UU A ρ' ((m, ob) :: H1)) w' (UU A (fun i => if i = base + j then ρ' m else ρ' i) ((base + j, ob) :: H1)) := Stay.less fun b o hu => hu.imp_right (t2 b o)
        rcases hN.nv with rfl | ⟨es, len, ex, rfl⟩
        · simp only [VR] at q2 ⊢
          simpa using q2
        · have q5 := VR_mono hst _ _ _ _ (Ext.refl _) q2
          simp only [VR] at q5 ⊢
          simpa using q5
      · refine ⟨r3.ext.trans (q3.ext.trans t3), fun i hi h0 => ?_, Nat.le_trans r3.le (Nat.le_succ _)⟩
        have e1 : i ≠ base + j := by omega
        simp only [e1, if_false]
        exact q3.cl i (Nat.lt_of_lt_of_le hi r3.le) (r3.cl i hi h0)
      · intro i hi
        have := h.lt i (hF' i hi).1
        show base + i < m + 1
        omega
      · intro i hi
        obtain ⟨f1, f2⟩ := hF' i hi
        have e1 : base + i ≠ base + j := by omega
        simp only [e1, if_false]
        exact q3.cl _ (h.lt i f1) (r5 i f1)
    · have hcl4 : cls y.op = 0 ∨ cls y.op = 1 ∨ cls y.op = 2 ∨ cls y.op = 5 := by omega
      have hat := at_same hcl4 (gate_fz hg hw) hv m
      refine goes (c := c) hcl (s := atN s m) (s' := atN s1 m) r1 r2 p1 hat K Q fun x w' hp => hK _ _ ?_
      obtain ⟨q1, q2, ρ', q3, q4, q5, q6⟩ := hp
      rw [← p2]
      refine SD_post (s1 := s1) (ρ2 := ρ') h r2 r4 q1 q2 ?_ q4 ?_ q5.ext q6 ?_ ?_ hdst
      · exact
          { ob := q3.ob
            inj := q3.inj
            ltH := fun i o hi => Nat.lt_succ_of_lt (q3.ltH i o hi)
            ltR := fun i x hi => Nat.lt_succ_of_lt (q3.ltR i x hi)
            ltA := q3.ltA
            apart := q3.apart }
      · have := r3.trans q5
        exact ⟨this.ext, this.cl, Nat.le_trans r3.le (Nat.le_succ _)⟩
      · intro i hi
        have := h.lt i (hF' i hi).1
        show base + i < m + 1
        omega
      · intro i hi
        obtain ⟨f1, f2⟩ := hF' i hi
        exact q5.cl _ (h.lt i f1) (r5 i f1)
  · rw [atN_want] at hw
    obtain ⟨p1, p2, p3⟩ := want_spec h.sr hc hw
    rw [p3]
    simp only [Bool.false_eq_true, if_false]
    rw [← p2]
    refine hK _ _ (SD_post (s1 := atN s (base + j)) (ρ2 := ρ) h r2 r4 rfl rfl ?_ (by simp [VR]) ⟨r3.ext, r3.cl, Nat.le_trans r3.le (Nat.le_succ _)⟩ (Ext.refl _) (Fr.refl _ _ _) ?_ ?_ hdst)
    · exact
        { ob := r1.ob
          inj := r1.inj
          ltH := fun i o hi => Nat.lt_succ_of_lt (r1.ltH i o hi)
          ltR := fun i x hi => Nat.lt_succ_of_lt (r1.ltR i x hi)
          ltA := r1.ltA
          apart := r1.apart }
    · intro i hi
      have := h.lt i (hF' i hi).1
      show base + i < m + 1
      omega
    · intro i hi
      exact r5 i (hF' i hi).1
end
end Go.Proofs.Ytcmejocmohohpaa.R

/- Regions that draw their order: the region. -/
set_option linter.unusedVariables false
set_option linter.unusedSectionVars false
set_option linter.unusedSimpArgs false
noncomputable section
namespace Go.Proofs.Ytcmejocmohohpaa.R
open Go
theorem numb_mem : ∀ {l : List Iop} {i j : Nat} {o : Iop}, (j, o) ∈ numb i l → ∃ t, j = i + t ∧ l[t]? = some o
  | [], i, j, o, h => by simp [numb] at h
  | x :: r, i, j, o, h => by
    simp only [numb, List.mem_cons, Prod.mk.injEq] at h
    rcases h with ⟨rfl, rfl⟩ | h
    · exact ⟨0, rfl, rfl⟩
    · obtain ⟨t, h1, h2⟩ := numb_mem h
      exact ⟨t + 1, by omega, h2⟩
theorem numb_has : ∀ {l : List Iop} {i t : Nat} {o : Iop}, l[t]? = some o → (i + t, o) ∈ numb i l
  | [], i, t, o, h => by simp at h
  | x :: r, i, t, o, h => by
    cases t with
    | zero => simp at h; subst h; simp [numb]
    | succ t =>
      simp only [List.getElem?_cons_succ] at h
      have := numb_has (i := i + 1) h
      rw [show i + (t + 1) = i + 1 + t by omega]
      simp only [numb]
      exact List.mem_cons_of_mem _ this
theorem numb_len : ∀ (l : List Iop) (i : Nat), (numb i l).length = l.length
  | [], i => rfl
  | x :: r, i => by simp [numb, numb_len r]
def Up (U : List (Nat × Iop)) : Prop := U.Pairwise fun p q => p.1 < q.1
theorem numb_up : ∀ (l : List Iop) (i : Nat), Up (numb i l)
  | [], i => by simp [numb, Up]
  | x :: r, i => by
    have := numb_up r (i + 1)
    simp only [numb, Up, List.pairwise_cons] at this ⊢
    refine ⟨fun p hp => ?_, this⟩
    obtain ⟨j, o⟩ := p
    obtain ⟨t, h1, h2⟩ := numb_mem hp
    simp only
    omega
theorem Up.nodup {U : List (Nat × Iop)} (h : Up U) : (U.map fun p => p.1).Nodup := by
  unfold Up at h
  unfold List.Nodup
  rw [List.pairwise_map]
  exact h.imp fun {a b} hab => Nat.ne_of_lt hab
theorem compOps_get {P : Program} {all : List Oper} : ∀ {l : List Oper} {ios : List Iop}, compOps P all l = some ios → ios.length = l.length ∧ ∀ (j : Nat) (o : Oper) (y : Iop), l[j]? = some o → ios[j]? = some y → compOp P all o = some y
  | [], ios, h => by
    simp only [compOps, Option.some.injEq] at h
    subst h
    exact ⟨rfl, by simp⟩
  | a :: l, ios, h => by
    simp only [compOps] at h
    split at h
    · rename_i io r h1 h2
      simp only [Option.some.injEq] at h
      subst h
      obtain ⟨g1, g2⟩ := compOps_get h2
      refine ⟨by simp [g1], fun j o y ho hy => ?_⟩
      cases j with
      | zero => simp at ho hy; subst ho; subst hy; exact h1
      | succ j => simp at ho hy; exact g2 j o y ho hy
    · cases h
section
variable {P : Program} {c : Cfg} {cl : Callee} {A : Nat → Nat → Prop} {E : Entry} {nt base : Nat} {k : List (Nat × Nat)}
theorem SR_eqv {s u : St} {m n : Nat} {F : Nat → Prop} {a : Act} {w : World} (h : SD A E nt base F m s a w) (he : Eqv u s) (hu : Disj u) (hn : m ≤ n) : SR A E nt ⟨u.env, u.loc, u.H, n⟩ a w := by
  obtain ⟨ρ, r1, r2, r3, r4, _⟩ := h.ex
  have hwr : ∀ b o, Wr ρ u.H b o → Wr ρ s.H b o := by
    rintro b o ⟨id, es, ob, h1, h2, h3⟩
    exact ⟨id, es, ob, by rw [← he.heap]; exact h1, h2, h3⟩
  have hst : Stay w (UU A ρ s.H) w (UU A ρ u.H) := Stay.less fun b o hu => hu.imp_right (hwr b o)
  refine ⟨hu, h.size, h.defers, ρ, ?_, fun t => ?_, ⟨r3.ext, r3.cl, Nat.le_trans r3.le hn⟩, ?_⟩
  · have r1' := Rep_sub (H' := u.H) r1 fun j o hj => by rw [← he.heap]; exact hj
    exact
      { ob := r1'.ob
        inj := r1'.inj
        ltH := fun i o hi => Nat.lt_of_lt_of_le (r1'.ltH i o hi) hn
        ltR := fun i x hi => Nat.lt_of_lt_of_le (r1'.ltR i x hi) hn
        ltA := r1'.ltA
        apart := r1'.apart }
  · have h1 := VR_mono hst _ _ ρ ρ (Ext.refl _) (r2 t)
    have h2 : (St.mk u.env u.loc u.H n).get t = s.get t := he.get t
    rw [h2]
    exact h1
  · exact r4.trans (Fr_less hwr)
theorem lt_of_getElem? {α : Type} {l : List α} {i : Nat} {x : α} (h : l[i]? = some x) : i < l.length := by
  rcases Nat.lt_or_ge i l.length with h' | h'
  · exact h'
  · rw [List.getElem?_eq_none h'] at h; cases h
/-- Any order that is left. -/
theorem drw_any (hcl : Sound P cl) {ops : Array Oper} {ios : List Iop} {an : List Nat} {s0 : St} {Q : Exit → Act → World → Prop} (hc : compOps P ops.toList ops.toList = some ios) (hD : DrawF ops.toList ios k an 0)
    (hk0 : ∀ i j, (i, j) ∈ k → i ≠ j → ∀ p q, ptrOf ios[i]? = some p → ptrOf ios[j]? = some q → neId (s0.ev p) (s0.ev q) = true) {sT : St} (hsT : Disj sT) {N : Nat} (hQ : ∀ a w m s F, SD A E nt base F m s a w → m ≤ N → Eqv sT s → Q .normal a w) :
    ∀ (U : List (Nat × Iop)) (listed : Array Bool) (s sF : St) (m : Nat) (a : Act) (w : World), Up U → (∀ j y, (j, y) ∈ U ↔ (ios[j]? = some y ∧ listed.getD j true = false)) → listed.size = ios.length →
      (∀ j a', listed.getD j true = true → an[j]? = some a' → ∀ b, Nat.testBit a' b = true → listed.getD b true = true) → Same0 ios s0 s → (∀ p ∈ U, lk s.H (base + p.1) = none) → SD A E nt base (fun i => ∃ y, (i, y) ∈ U) m s a w → m + U.length ≤ N →
      evU c cl nt k base U s = some sF → Eqv sT sF → wpAny P .any ops Q U.length listed a w := by
  intro U
  have hlen := (compOps_get hc).1
  have hcg := (compOps_get hc).2
  have hosz : ops.toList.length = ops.size := by simp
  generalize hn : U.length = n
  induction n generalizing U with
  | zero =>
    intro listed s sF m a w hup hU hsz hcl2 hs0 hfr hS hm hev hT
    have hU0 : U = [] := List.eq_nil_of_length_eq_zero hn
    subst hU0
    simp only [evU, Option.some.injEq] at hev
    subst hev
    refine ⟨?_, hQ a w m s _ hS (by simp at hm; omega) hT⟩
    rw [List.eq_nil_iff_forall_not_mem]
    intro j hj
    obtain ⟨h1, o, h2, _⟩ := mem_ready.1 hj
    have hjl : j < ios.length := by
      have : j < ops.size := (Array.getElem?_eq_some_iff.1 h2).1
      omega
    exact absurd ((hU j ios[j]).2 ⟨List.getElem?_eq_getElem hjl, h1⟩) (by simp)
  | succ n ih =>
    intro listed s sF m a w hup hU hsz hcl2 hs0 hfr hS hm hev hT
    have getF : ∀ j, j < listed.size → listed.getD j true = false → listed.getD j false = false := fun j hj h => by
      simp [hj] at h ⊢; exact h
    have getT : ∀ j, listed.getD j false = true → listed.getD j true = true := fun j h => by
      rcases Nat.lt_or_ge j listed.size with hj | hj
      · simp [hj] at h ⊢; exact h
      · simp [Nat.not_lt.2 hj] at h
    have getT' : ∀ j, j < listed.size → listed.getD j true = true → listed.getD j false = true := fun j hj h => by
      simp [hj] at h ⊢; exact h
    refine ⟨fun hr => ?_, fun j hj => ?_⟩
    · exfalso
      cases U with
      | nil => simp at hn
      | cons p U' =>
        obtain ⟨j, y⟩ := p
        obtain ⟨g1, g2⟩ := (hU j y).1 (by simp)
        have hjl := lt_of_getElem? g1
        have hjo : ops[j]? = some (ops[j]'(by omega)) := by simp
        have : j ∈ Region.ready .any ops listed := by
          refine mem_ready.2 ⟨g2, _, hjo, fun e he hb => ?_⟩
          have hon := hD.on j (ops[j]'(by omega)) (Nat.zero_le _) (by rw [Array.getElem?_toList]; exact hjo) e (by simpa using he) hb
          refine getT' _ (by omega) ?_
          cases hlst : listed.getD e.on true with
          | true => rfl
          | false =>
            have hel : e.on < ios.length := by omega
            have hmem := (hU e.on ios[e.on]).2 ⟨List.getElem?_eq_getElem hel, hlst⟩
            rcases List.mem_cons.1 hmem with h | h
            · have := (Prod.mk.inj h).1; omega
            · have := (List.pairwise_cons.1 hup).1 _ h
              simp only at this
              omega
        rw [hr] at this
        cases this
    · obtain ⟨h1, o, h2, h3⟩ := mem_ready.1 hj
      have hjs : j < ops.size := (Array.getElem?_eq_some_iff.1 h2).1
      have hjl : j < ios.length := by omega
      have hyj : ios[j]? = some ios[j] := List.getElem?_eq_getElem hjl
      have hmem := (hU j ios[j]).2 ⟨hyj, h1⟩
      obtain ⟨pre, post, hsplit⟩ := List.append_of_mem hmem
      subst hsplit
      have hjan : j < an.length := by rw [hD.len]; omega
      have haj : an[j]? = some an[j] := List.getElem?_eq_getElem hjan
      have h2' : ops.toList[j]? = some o := by simpa using h2
      have hup' := hup
      rw [Up, List.pairwise_append] at hup'
      obtain ⟨up1, up2, up3⟩ := hup'
      have hpairs : ∀ p ∈ pre, ∃ kk, pairChk ios p.1 j p.2 ios[j] = some kk ∧ ∀ q ∈ kk, q ∈ k := by
        intro p hp
        have hpm := (hU p.1 p.2).1 (List.mem_append_left _ hp)
        have hplt : p.1 < j := up3 p hp (j, ios[j]) (by simp)
        refine hD.pair j _ _ (Nat.zero_le _) hyj haj p.1 p.2 hplt hpm.1 ?_
        cases hb : Nat.testBit an[j] p.1 with
        | false => rfl
        | true =>
          exfalso
          obtain ⟨e, e1, e2, e3⟩ := hD.anc j o _ (Nat.zero_le _) h2' haj p.1 hb
          have hon := h3 e (by simpa using e1) e2
          have hon' := getT _ hon
          rcases e3 with e3 | ⟨a', e4, e5⟩
          · rw [← e3] at hon'
            rw [hon'] at hpm
            cases hpm.2
          · have := hcl2 e.on a' hon' e4 p.1 e5
            rw [this] at hpm
            cases hpm.2
      obtain ⟨u1, b1, uF, b2, b3⟩ := bubble hk0 hS.disj hs0 (fun p hp => ⟨hD.cls6 p.1 p.2 (Nat.zero_le _) ((hU p.1 p.2).1 hp).1, ((hU p.1 p.2).1 hp).1, hfr p hp⟩) hup.nodup hpairs hev
      have h6 := hD.cls6 j ios[j] (Nat.zero_le _) hyj
      have hnd := hup.nodup
      have hne : ∀ p ∈ pre ++ post, p.1 ≠ j := by
        intro p hp
        rcases List.mem_append.1 hp with h | h
        · have := up3 p h _ (List.mem_cons_self ..)
          simp only at this; omega
        · have := (List.pairwise_cons.1 up2).1 p h
          simp only at this; omega
      have hsub : ∀ p ∈ pre ++ post, p ∈ pre ++ (j, ios[j]) :: post := by
        intro p hp
        rcases List.mem_append.1 hp with h | h
        · exact List.mem_append_left _ h
        · exact List.mem_append_right _ (List.mem_cons_of_mem _ h)
      have hstep := snd_evD (F' := fun i => ∃ y, (i, y) ∈ pre ++ post) (Q := Q) (K := wpAny P .any ops Q n (listed.setIfInBounds j true)) hcl hS ⟨_, hmem⟩ (hfr _ hmem) (hcg j o _ h2' hyj) h6 b1
        (fun i ⟨y, hy⟩ => ⟨⟨y, hsub _ hy⟩, hne _ hy⟩) (fun a' w' hs' => by
          have hln : (pre ++ post).length = n := by
            simp only [List.length_append, List.length_cons] at hn ⊢
            omega
          have hgd : ∀ i, (listed.setIfInBounds j true).getD i true = false ↔ (listed.getD i true = false ∧ i ≠ j) := by
            intro i
            by_cases hij : j = i
            · subst hij
              have : j < listed.size := by omega
              simp [this]
            · rw [getD_set_ne true hij]
              exact ⟨fun h => ⟨h, fun e => hij e.symm⟩, fun h => h.1⟩
          refine ih (pre ++ post) hln (listed.setIfInBounds j true) u1 uF (m + 1) a' w' ?_ ?_ ?_ ?_ ?_ ?_ hs' ?_ b2 (hT.trans b3)
          · refine hup.sublist ?_
            exact List.Sublist.append_left (List.sublist_cons_self _ _) _
          · intro i y
            rw [hgd]
            constructor
            · intro hm
              obtain ⟨q1, q2⟩ := (hU i y).1 (hsub _ hm)
              exact ⟨q1, q2, hne _ hm⟩
            · rintro ⟨q1, q2, q3⟩
              have := (hU i y).2 ⟨q1, q2⟩
              rcases List.mem_append.1 this with h | h
              · exact List.mem_append_left _ h
              · rcases List.mem_cons.1 h with h | h
                · exact absurd (Prod.mk.inj h).1 q3
                · exact List.mem_append_right _ h
          · simpa using hsz
          · intro i a' hi ha' b hb
            have hmono : ∀ i, listed.getD i true = true → (listed.setIfInBounds j true).getD i true = true := by
              intro i hi
              cases hh : (listed.setIfInBounds j true).getD i true with
              | true => rfl
              | false => rw [((hgd i).1 hh).1] at hi; cases hi
            by_cases hij : i = j
            · subst hij
              rw [haj] at ha'
              obtain rfl := Option.some.inj ha'
              obtain ⟨e, e1, e2, e3⟩ := hD.anc i o _ (Nat.zero_le _) h2' haj b hb
              have hon' := getT _ (h3 e (by simpa using e1) e2)
              rcases e3 with e3 | ⟨a', e4, e5⟩
              · rw [e3]; exact hmono _ hon'
              · exact hmono _ (hcl2 e.on a' hon' e4 b e5)
            · rw [getD_set_ne true (fun e => hij e.symm)] at hi
              exact hmono _ (hcl2 i a' hi ha' b hb)
          · exact still_step hS.disj b1 h6 (List.mem_of_getElem? hyj) hs0
          · intro p hp
            refine evD_fresh hS.disj b1 h6 ?_ (hfr p (hsub p hp))
            have := hne p hp
            omega
          · omega)
      unfold wpOp
      simp only [h2]
      split
      · rename_i hw
        rw [if_pos hw] at hstep
        exact .inl hstep
      · rename_i hw
        rw [if_neg hw] at hstep
        exact hstep
theorem startB_spec {ios : List Iop} {s : St} : ∀ {l : List (Nat × Nat)}, startB ios s l = true → ∀ i j, (i, j) ∈ l → i ≠ j → ∀ p q, ptrOf ios[i]? = some p → ptrOf ios[j]? = some q → neId (s.ev p) (s.ev q) = true
  | [], h, i, j, hm => by simp at hm
  | (a, b) :: r, h, i, j, hm => by
    intro hne p q hp hq
    simp only [startB, Bool.and_eq_true, Bool.or_eq_true] at h
    obtain ⟨h1, h2⟩ := h
    rcases List.mem_cons.1 hm with e | hm
    · cases e
      rcases h1 with h1 | h1
      · exact absurd (Nat.eq_of_beq_eq_true h1) hne
      · rw [hp, hq] at h1
        exact h1
    · exact startB_spec h2 i j hm hne p q hp hq
theorem evU_disj : ∀ {U : List (Nat × Iop)} {s sF : St}, Disj s → (∀ p ∈ U, cls p.2.op ≤ 6) → evU c cl nt k base U s = some sF → Disj sF
  | [], s, sF, hd, hc, h => by
    simp only [evU, Option.some.injEq] at h
    subst h
    exact hd
  | (i, o) :: r, s, sF, hd, hc, h => by
    simp only [evU] at h
    split at h
    · rename_i s1 h1
      obtain ⟨v, g1, d1, hX⟩ := stepX hd h1 (hc (i, o) (by simp))
      exact evU_disj d1 (fun p hp => hc p (by simp [hp])) h
    · cases h
theorem drawOk (hP : c.P.follows .mixedOrders = true) : DrawOk c drawA := by
  intro cl hcl nt A E id ops ios k s s' a w Q hc hk hS h hQ
  obtain ⟨an, hD⟩ := drawGo_spec (ops := ops.toList) (ios := ios) (pre := []) (ipre := []) rfl rfl rfl rfl hk
  simp only [List.nil_append, List.length_nil] at hD
  unfold drawA at h
  rw [cond_eq_ite] at h
  split at h
  · rename_i hst
    cases hev : evDs c cl nt k s.nx ios 0 s with
    | none => rw [hev] at h; cases h
    | some sF =>
      rw [hev] at h
      have h' : endD (s.nx + 2 * ios.length) sF = some s' := h
      simp only [endD, Option.some.injEq] at h'
      subst h'
      rw [evDs_eq] at hev
      have hlen := (compOps_get hc).1
      have hosz : ops.toList.length = ops.size := by simp
      have hcls : ∀ p ∈ numb 0 ios, cls p.2.op ≤ 6 := fun p hp => by
        obtain ⟨j, o⟩ := p
        obtain ⟨t, h1, h2⟩ := numb_mem hp
        exact hD.cls6 t o (Nat.zero_le _) h2
      have hdF := evU_disj hS.disj hcls hev
      refine wp_region_any hP ?_
      have hfuel : ops.size = (numb 0 ios).length := by rw [numb_len]; omega
      rw [hfuel]
      obtain ⟨ρ, r1, r2, r3, r4⟩ := hS.ex
      have hsm := SameMem.drawn w (w.drawn + 1)
      have hfree : ∀ j, ρ (s.nx + j) = none := fun j => by
        cases hh : ρ (s.nx + j) with
        | none => rfl
        | some x => have := r1.ltR _ x hh; omega
      refine drw_any (A := A) (E := E) (base := s.nx) (s0 := s) (sT := sF) (N := s.nx + 2 * ios.length) hcl hc hD (startB_spec hst) hdF (fun a' w' m' s1 F hs1 hm he => ?_) (numb 0 ios) _ s sF (s.nx + ios.length) a _ (numb_up _ _) ?_ ?_ ?_ (fun p hp => rfl) ?_ ?_ ?_ hev ⟨fun _ => rfl, fun _ => rfl, hdF⟩
      · exact hQ a' w' (SR_eqv hs1 he hdF hm)
      · intro j y
        constructor
        · intro hm
          obtain ⟨t, h1, h2⟩ := numb_mem hm
          have : j = t := by omega
          subst this
          have hj := lt_of_getElem? h2
          refine ⟨h2, ?_⟩
          have : j < (numb 0 ios).length := by rw [numb_len]; exact hj
          simp [this]
        · rintro ⟨h1, _⟩
          have := numb_has (i := 0) h1
          simpa using this
      · simp [numb_len]
      · intro j a' hj ha' b hb
        exfalso
        have : j < (numb 0 ios).length := by
          rw [numb_len, hlen, ← hD.len]
          exact lt_of_getElem? ha'
        simp [this] at hj
      · intro p hp
        cases hh : lk s.H (s.nx + p.1) with
        | none => rfl
        | some o => have := r1.ltH _ o hh; omega
      · refine ⟨hS.disj, hS.size, hS.defers, r3.le, ?_, ρ, ?_, fun t => VR_mono (hsm.stay _) _ _ _ _ (Ext.refl _) (r2 t), ⟨r3.ext, r3.cl, Nat.le_trans r3.le (Nat.le_add_right _ _)⟩, r4.trans (hsm.fr ρ s.H), fun i _ => hfree i⟩
        · rintro i ⟨y, hy⟩
          obtain ⟨t, h1, h2⟩ := numb_mem hy
          have := lt_of_getElem? h2
          omega
        · have r1' := hsm.rep r1
          exact
            { ob := r1'.ob
              inj := r1'.inj
              ltH := fun i o hi => Nat.lt_of_lt_of_le (r1'.ltH i o hi) (Nat.le_add_right _ _)
              ltR := fun i x hi => Nat.lt_of_lt_of_le (r1'.ltR i x hi) (Nat.le_add_right _ _)
              ltA := r1'.ltA
              apart := r1'.apart }
      · rw [numb_len]; omega
  · cases h
end
end Go.Proofs.Ytcmejocmohohpaa.R

