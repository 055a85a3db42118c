/- Every operation that calls nothing. -/
import Derived.Test.YtefjblgmnoheiaaROne
set_option linter.unusedVariables false
set_option linter.unusedSectionVars false
set_option linter.unusedSimpArgs false
noncomputable section
namespace Go.Proofs.Ytefjblgmnoheiaa.R
open Go
section
variable {P : Program} {w : World} {A : Nat → Nat → Prop} {ρ : Rho} {s s' : St} {v : AV} {o : Oper} {a : Act} {c : Cfg} {cl : Callee} {ip : IP}
theorem goes_bin (hr : Rep A ρ s.H s.nx w) (hv : Vals w (UU A ρ s.H) ρ s a) {op : BinOp} {t ty2 : TypeId} {x y : Operand} (ho : o.op = .binOp op t x y ty2) {X Y : Opd} (hx : opd x = some X) (hy : opd y = some Y) (hc : compBin P op t X Y = some ip) (h : evOp c cl s ip = some (v, s')) : Goes P A ρ s w v s' o a := by
  have h1 := VR_opd hv hx
  have h2 := VR_opd hv hy
  have hexec : execOp a.eval o = (do pure (Next.value (← (do eqGuard op t x y (a.eval x) (a.eval y); binOp op t (a.eval x) (a.eval y))))) := by
    simp only [execOp, ho]
  unfold compBin at hc
  split at hc
  · rename_i ti hti
    split at hc
    · simp only [Option.some.injEq] at hc
      subst hc
      exact goes_p hr hexec h fun hg => snd_bin h1 h2 hg
    · simp only [Option.some.injEq] at hc
      subst hc
      exact goes_p hr hexec h fun hg => snd_bin h1 h2 hg
    · rename_i hd
      split at hc
      · simp only [Option.some.injEq] at hc
        subst hc
        exact goes_p hr hexec h fun hg => snd_eqb (neg := false) hti hd h1 h2 hg
      · simp only [Option.some.injEq] at hc
        subst hc
        exact goes_p hr hexec h fun hg => snd_eqb (neg := true) hti hd h1 h2 hg
      · cases hc
    · rename_i fs hd
      split at hc
      · cases hc
      · rename_i hgd
        have hgd' : P.stoodInHeld t = false ∧ P.eqGuardType P.depth t = false := by
          simpa [Bool.or_eq_true] using hgd
        split at hc
        · rename_i l hl
          split at hc
          · simp only [Option.some.injEq] at hc
            subst hc
            exact goes_p hr hexec h fun hg => snd_eqc (neg := false) hti hd hgd'.1 hgd'.2 hl h1 h2 hg
          · simp only [Option.some.injEq] at hc
            subst hc
            exact goes_p hr hexec h fun hg => snd_eqc (neg := true) hti hd hgd'.1 hgd'.2 hl h1 h2 hg
          · cases hc
        · cases hc
    · rename_i n e hd
      split at hc
      · cases hc
      · rename_i hgd
        have hgd' : P.eqGuardType P.depth t = false := by simpa using hgd
        split at hc
        · rename_i te hte
          split at hc
          · rename_i q hq
            split at hc
            · rename_i hz
              have hz := Nat.eq_of_beq_eq_true hz
              split at hc
              · simp only [Option.some.injEq] at hc
                subst hc
                exact goes_p hr hexec h fun hg => snd_eqa (neg := false) hti hd hgd' hte hq hz h1 h2 hg
              · simp only [Option.some.injEq] at hc
                subst hc
                exact goes_p hr hexec h fun hg => snd_eqa (neg := true) hti hd hgd' hte hq hz h1 h2 hg
              · cases hc
            · cases hc
          · cases hc
        · cases hc
    · rename_i e hd
      split at hc
      · rename_i hy0
        have hY : a.eval y = .slice none 0 0 := by
          cases Y with
          | t n => simp [nilC] at hy0
          | c u =>
            cases u <;> simp [nilC] at hy0
            simpa [St.ev, VR] using h2
        rw [hY] at hexec
        split at hc
        · simp only [Option.some.injEq] at hc
          subst hc
          exact goes_p hr hexec h fun hg => snd_eqn (neg := false) hti hd h1 hg
        · simp only [Option.some.injEq] at hc
          subst hc
          exact goes_p hr hexec h fun hg => snd_eqn (neg := true) hti hd h1 hg
        · cases hc
      · cases hc
    · cases hc
  · cases hc
theorem goes_conv (hr : Rep A ρ s.H s.nx w) (hv : Vals w (UU A ρ s.H) ρ s a) {t t2 : TypeId} {x : Operand} (ho : o.op = .convert t t2 x) {X : Opd} (hx : opd x = some X) (hc : compConv P t t2 X = some ip) (h : evOp c cl s ip = some (v, s')) : Goes P A ρ s w v s' o a := by
  have h1 := VR_opd hv hx
  have hexec : execOp a.eval o = (do pure (Next.value (← convert t t2 (a.eval x)))) := by simp only [execOp, ho]
  unfold compConv at hc
  split at hc
  · rename_i xs xd hxs hxd
    split at hc
    · rename_i k e1 e2
      simp only [Option.some.injEq] at hc
      subst hc
      exact goes_p hr hexec h fun hg => snd_cvt hxs hxd e2 h1 hg
    · rename_i e1 e2
      simp only [Option.some.injEq] at hc
      subst hc
      exact goes_p hr hexec h fun hg => snd_cst hxs hxd e2 h1 hg
    · rename_i e e1 e2
      split at hc
      · rename_i _ _ _ hte
        simp only [Option.some.injEq] at hc
        subst hc
        exact goes_v hexec (snd_s2b hr hxs hxd e2 hte rfl h1 h)
      · cases hc
    · rename_i e e1 e2
      split at hc
      · rename_i _ _ _ hte
        simp only [Option.some.injEq] at hc
        subst hc
        exact goes_p hr hexec h fun hg => snd_b2s hr hxs e1 hxd e2 hte rfl h1 hg
      · cases hc
    · cases hc
  · cases hc
theorem VRq_eq {pl : List (Nat × Operand)} {parts : Array (Nat × Operand)} (h : parts.toList = pl) : (parts.map fun (i, x) => (i, a.eval x)).toList = pl.map fun p => (p.1, a.eval p.2) := by
  subst h; simp
theorem goes_plain (hr : Rep A ρ s.H s.nx w) (hv : Vals w (UU A ρ s.H) ρ s a) (hc : comp0 P o.op = some ip) (hn : callB ip = false) (h : evOp c cl s ip = some (v, s')) : Goes P A ρ s w v s' o a := by
  cases ho : o.op <;> simp only [ho, comp0] at hc
  case move x =>
    split at hc
    · rename_i X hx
      simp only [Option.some.injEq] at hc
      subst hc
      simp only [evOp, Option.some.injEq, Prod.mk.injEq] at h
      obtain ⟨rfl, rfl⟩ := h
      refine goes_v (m := pure (a.eval x)) (by simp only [execOp, ho, pure_bind]) ⟨_, w, Sem.run_pure .., Post.same hr (VR_opd hv hx)⟩
    · cases hc
  case assign x =>
    split at hc
    · rename_i X hx
      simp only [Option.some.injEq] at hc
      subst hc
      simp only [evOp, Option.some.injEq, Prod.mk.injEq] at h
      obtain ⟨rfl, rfl⟩ := h
      refine goes_v (m := pure (a.eval x)) (by simp only [execOp, ho, pure_bind]) ⟨_, w, Sem.run_pure .., Post.same hr (VR_opd hv hx)⟩
    · cases hc
  case pick b x y =>
    split at hc
    · rename_i B X Y hb hx hy
      simp only [Option.some.injEq] at hc
      subst hc
      obtain ⟨hg, rfl⟩ := keep_inv h
      obtain ⟨z, h1, h2⟩ := snd_pick (P := P) (VR_opd hv hb) (VR_opd hv hx) (VR_opd hv hy) hg
      intro K Q hK
      unfold Oper.wp
      have : (execOp a.eval o).run P w = .ok (.value z) w := by
        rw [← h1]
        simp only [execOp, ho]
      rw [this]
      exact hK z w (Post.same hr h2)
    · cases hc
  case binOp op t x y t2 =>
    split at hc
    · rename_i X Y hx hy
      exact goes_bin hr hv ho hx hy hc h
    · cases hc
  case unOp op t x =>
    split at hc
    · rename_i X hx
      simp only [Option.some.injEq] at hc
      subst hc
      exact goes_p (m := Op.unary .neg (a.eval x)) hr (by simp only [execOp, ho]) h fun hg => snd_ngt (VR_opd hv hx) hg
    · rename_i X hx
      simp only [Option.some.injEq] at hc
      subst hc
      exact goes_p (m := Op.unary .not (a.eval x)) hr (by simp only [execOp, ho]) h fun hg => snd_nt (VR_opd hv hx) hg
    · cases hc
  case convert t t2 x =>
    split at hc
    · rename_i X hx
      exact goes_conv hr hv ho hx hc h
    · cases hc
  case build t parts =>
    split at hc
    · rename_i ti ps ht hp
      split at hc
      · rename_i z l hz hl
        split at hc
        · rename_i hcond
          simp only [Option.some.injEq] at hc
          subst hc
          simp only [Bool.and_eq_true] at hcond
          exact goes_p (m := Instr.build t (parts.map fun (i, x) => (i, a.eval x))) hr (by simp only [execOp, ho]) h fun hg => snd_build hv ht hp hz hl hcond.1 hcond.2 hg
        · cases hc
      · cases hc
    · cases hc
  case buildSlice t len parts =>
    split at hc
    · rename_i xe ps hxe hp
      split at hc
      · rename_i z hz
        split at hc
        · rename_i hcond
          simp only [Option.some.injEq] at hc
          subst hc
          obtain ⟨e, g1, g2⟩ := elTy_of hxe
          refine goes_v (m := Instr.buildSlice t len (parts.map fun (i, x) => (i, a.eval x))) (by simp only [execOp, ho]) ?_
          refine snd_bsl hr ⟨e, xe, g1, g2, ⟨z, hz, rfl⟩, hcond.1, by rw [frzs_length]; exact hcond.2.2.1, rfl, hcond.2.1⟩ hcond.2.2.2 ?_ h
          rw [VRq_eq rfl]
          exact VRq_evp hv hp
        · cases hc
      · cases hc
    · cases hc
  case load t p =>
    split at hc
    · rename_i x p' ht hp
      simp only [Option.some.injEq] at hc
      subst hc
      exact goes_p (m := Instr.loadAt t (a.eval p)) hr (by simp only [execOp, ho]) h fun hg => snd_load hr ht (VR_opd hv hp) hg
    · cases hc
  case store t p x =>
    split at hc
    · rename_i ti p' x' ht hp hx
      simp only [Option.some.injEq] at hc
      subst hc
      simp only [evOp] at h
      split at h
      · rename_i H hH
        simp only [Option.some.injEq, Prod.mk.injEq] at h
        obtain ⟨rfl, rfl⟩ := h
        exact goes_u (m := Instr.storeAt t (a.eval p) (a.eval x)) (by simp only [execOp, ho]) (snd_store hr ht (VR_opd hv hp) (VR_opd hv hx) hH)
      · cases h
    · cases hc
  case nilCheck x =>
    split at hc
    · rename_i X hx
      simp only [Option.some.injEq] at hc
      subst hc
      obtain ⟨hg, rfl⟩ := keep_inv h
      obtain ⟨z, h1, h2⟩ := snd_nc (P := P) (VR_opd hv hx) hg
      intro K Q hK
      unfold Oper.wp
      have : (execOp a.eval o).run P w = .ok (.value z) w := by
        rw [← h1]
        simp only [execOp, ho]
        rfl
      rw [this]
      exact hK z w (Post.same hr h2)
    · cases hc
  case alloc t =>
    split at hc
    · rename_i x ht
      split at hc
      · rename_i z hz
        simp only [Option.some.injEq] at hc
        subst hc
        simp only [evOp, Option.some.injEq, Prod.mk.injEq] at h
        obtain ⟨rfl, rfl⟩ := h
        exact goes_v (m := Instr.alloc t true (.tuple #[])) (by simp only [execOp, ho]) (snd_alloc hr ht hz)
      · cases hc
    · cases hc
  case box t x =>
    split at hc
    · rename_i X hx
      simp only [Option.some.injEq] at hc
      subst hc
      simp only [evOp] at h
      split at h
      · rename_i cs hcs
        split at h
        · simp only [Option.some.injEq, Prod.mk.injEq] at h
          obtain ⟨rfl, rfl⟩ := h
          exact goes_v (m := Instr.box t (a.eval x)) (by simp only [execOp, ho]) (snd_box hr (VR_opd hv hx) hcs)
        · cases h
      · cases h
    · cases hc
  case makeFunc f pre post =>
    cases f with
    | func f =>
      simp only at hc
      split at hc
      · rename_i X Y hx hy
        simp only [Option.some.injEq] at hc
        subst hc
        simp only [evOp, Option.some.injEq, Prod.mk.injEq] at h
        obtain ⟨rfl, rfl⟩ := h
        refine goes_v (m := Instr.makeFunc (.func f) (pre.map a.eval) (post.map a.eval)) (by simp only [execOp, ho]) ⟨.func (.func f) (pre.map a.eval) (post.map a.eval), w, rfl, Post.same hr ?_⟩
        simp only [VR]
        exact ⟨_, _, rfl, by rw [eval_map]; exact VRs_opds hv hx, by rw [eval_map]; exact VRs_opds hv hy⟩
      · cases hc
    | _ => simp at hc
  case makeSlice t l m =>
    split at hc
    · rename_i xe L M hxe hl hm
      split at hc
      · rename_i z hz
        split at hc
        · rename_i hcond
          simp only [Option.some.injEq] at hc
          subst hc
          obtain ⟨e, g1, g2⟩ := elTy_of hxe
          exact goes_v (m := Instr.makeSlice t (a.eval l) (a.eval m)) (by simp only [execOp, ho]) (snd_mks hr ⟨e, xe, g1, g2, ⟨z, hz, rfl⟩, hcond.1, by rw [frzs_length]; exact hcond.2.2, rfl, hcond.2.1⟩ (VR_opd hv hl) (VR_opd hv hm) h)
        · cases hc
      · cases hc
    · cases hc
  case slice t x lo hi mx =>
    split at hc
    · rename_i ti X LO HI MX ht hx hlo hhi hmx
      split at hc
      · rename_i hd
        split at hc
        · simp only [Option.some.injEq] at hc
          subst hc
          have hm : mx = none := by
            cases mx with
            | none => rfl
            | some m =>
              simp only [oopd] at hmx
              split at hmx <;> cases hmx
          subst hm
          exact goes_p (m := Instr.sliceAt t (a.eval x) (lo.map a.eval) (hi.map a.eval) none) hr (by simp only [execOp, ho]; rfl) h fun hg => snd_sls ht hd (VR_opd hv hx) (VRo_oopd hv hlo) (VRo_oopd hv hhi) hg
        · cases hc
      · rename_i e hd
        split at hc
        · rename_i xe hxe
          split at hc
          · rename_i hz
            simp only [Option.some.injEq] at hc
            subst hc
            exact goes_p (m := Instr.sliceAt t (a.eval x) (lo.map a.eval) (hi.map a.eval) (mx.map a.eval)) hr (by simp only [execOp, ho]) h fun hg => snd_sll ht hd hxe hz (VR_opd hv hx) (VRo_oopd hv hlo) (VRo_oopd hv hhi) (VRo_oopd hv hmx) hg
          · cases hc
        · cases hc
      · cases hc
    · cases hc
  case fieldAddr t x f =>
    split at hc
    · rename_i fs _ _ _ X ht hx
      split at hc
      · rename_i fl hfl
        split at hc
        · rename_i xf hxf
          split at hc
          · rename_i hz
            simp only [Option.some.injEq] at hc
            subst hc
            exact goes_p (m := Instr.fieldAt t (a.eval x) f) hr (by simp only [execOp, ho]) h fun hg => snd_fa ht rfl hfl hxf hz (VR_opd hv hx) hg
          · cases hc
        · cases hc
      · cases hc
    · cases hc
  case field t x f =>
    split at hc
    · rename_i fs _ _ _ X ht hx
      split at hc
      · rename_i fl hfl
        split at hc
        · rename_i xf hxf
          simp only [Option.some.injEq] at hc
          subst hc
          exact goes_p (m := Instr.field t (a.eval x) f) hr (by simp only [execOp, ho]) h fun hg => snd_fld ht rfl hfl hxf (VR_opd hv hx) hg
        · cases hc
      · cases hc
    · cases hc
  case indexAddr t x i =>
    split at hc
    · rename_i ti X I ht hx hi
      split at hc
      · rename_i e hd
        split at hc
        · rename_i xe hxe
          split at hc
          · simp only [Option.some.injEq] at hc
            subst hc
            exact goes_p (m := Instr.indexAt t (a.eval x) (a.eval i)) hr (by simp only [execOp, ho]) h fun hg => snd_ias ht hd hxe (VR_opd hv hx) (VR_opd hv hi) hg
          · cases hc
        · cases hc
      · rename_i n e hd
        split at hc
        · rename_i xe hxe
          simp only [Option.some.injEq] at hc
          subst hc
          exact goes_p (m := Instr.indexAt t (a.eval x) (a.eval i)) hr (by simp only [execOp, ho]) h fun hg => snd_iaa ht hd hxe (VR_opd hv hx) (VR_opd hv hi) hg
        · cases hc
      · cases hc
    · cases hc
  case index t x i =>
    split at hc
    · rename_i ti X I ht hx hi
      split at hc
      · rename_i hd
        simp only [Option.some.injEq] at hc
        subst hc
        exact goes_p (m := Instr.index t (a.eval x) (a.eval i)) hr (by simp only [execOp, ho]) h fun hg => snd_ixs ht hd (VR_opd hv hx) (VR_opd hv hi) hg
      · rename_i n e hd
        split at hc
        · rename_i xe hxe
          simp only [Option.some.injEq] at hc
          subst hc
          exact goes_p (m := Instr.index t (a.eval x) (a.eval i)) hr (by simp only [execOp, ho]) h fun hg => snd_ixa ht hd hxe (VR_opd hv hx) (VR_opd hv hi) hg
        · cases hc
      · cases hc
    · cases hc
  case extract x i =>
    split at hc
    · rename_i X hx
      simp only [Option.some.injEq] at hc
      subst hc
      exact goes_p (m := Instr.extract (a.eval x) i) hr (by simp only [execOp, ho]) h fun hg => snd_ext (VR_opd hv hx) hg
    · cases hc
  case call cc =>
    obtain ⟨callee, args, ts⟩ := cc
    simp only at hc
    split at hc
    · rename_i as has
      split at hc
      · rename_i b
        exact goes_builtin hr hv ho has hc h
      · simp only [Option.some.injEq] at hc
        subst hc
        simp [callB] at hn
      · split at hc
        · simp only [Option.some.injEq] at hc
          subst hc
          simp [callB] at hn
        · cases hc
      · cases hc
    · cases hc
  all_goals (cases hc)
end
end Go.Proofs.Ytefjblgmnoheiaa.R
