/- Calls. -/
import Derived.Test.YtefjblgmnoheiaaRRen
set_option linter.unusedVariables false
set_option linter.unusedSectionVars false
set_option linter.unusedSimpArgs false
noncomputable section
namespace Go.Proofs.Ytefjblgmnoheiaa.R
open Go
/-- What a function leaves behind that answers r over a heap H'. -/
def Ret (A : Nat → Nat → Prop) (ρ : Rho) (H : Heap) (w : World) (m : Nat) (r : AV) (H' : Heap) (n' : Nat) : Ending → World → Prop
  | .returned x, w' => ∃ ρ', Rep A ρ' H' n' w' ∧ VR w' (UU A ρ' H') ρ' r x ∧ Ext2 ρ m ρ' n' ∧ Fr ρ H w ρ' H' w'
  | _, _ => False
/-- What is asked of slices.Clone. -/
def ClnOk (P : Program) : Prop := ∀ {f es : Nat}, cloneF P f = some es → ∀ {A : Nat → Nat → Prop} {ρ : Rho} {w : World} {s s' : St} {v r : AV} {X : Value}, Rep A ρ s.H s.nx w → VR w (UU A ρ s.H) ρ v X → clnAV es s v = some (r, s') →
  (callFunc f #[X]).run P w = .ok (.enter f #[X]) w ∧ Calls P f #[X] w (fun e w' => ∃ x, e = .returned x ∧ Post A ρ s w r s' x w')
/-- An evaluator of calls that tells the truth. -/
structure Sound (P : Program) (cl : Callee) : Prop where
  cln : ClnOk P
  fn : ∀ {f args H m r}, cl f args H m = some r → ∃ fn, P.funcs[f]? = some fn ∧ (fn.name == "runtime.NumGoroutine") = false ∧ fn.body.isNone = false
  calls : ∀ {f args H m r H' n'}, cl f args H m = some (r, H', n') → ∀ {A ρ w} {xs : Array Value}, Rep A ρ H m w → VRs w (UU A ρ H) ρ args xs.toList → Calls P f xs w (Ret A ρ H w m r H' n')
def PostE (A : Nat → Nat → Prop) (ρ : Rho) (s : St) (w : World) (v : AV) (s' : St) : Ending → World → Prop
  | .returned x, w' => Post A ρ s w v s' x w'
  | _, _ => False
theorem run_callFunc {P : Program} {w : World} {f : FuncId} {args : Array Value} {fn : Func} (hf : P.funcs[f]? = some fn) (hn : (fn.name == "runtime.NumGoroutine") = false) (hb : fn.body.isNone = false) : (callFunc f args).run P w = .ok (.enter f args) w := by
  have h1 : fn.name ≠ "runtime.NumGoroutine" := by simpa using hn
  have h2 : fn.body ≠ none := by
    intro e
    rw [e] at hb
    cases hb
  simp [callFunc, hf, h1, h2]
section
variable {P : Program} {w : World} {A : Nat → Nat → Prop} {ρ : Rho} {s s' : St} {v : AV} {c : Cfg} {cl : Callee}
theorem call_fz (hcl : Sound P cl) (hr : Rep A ρ s.H s.nx w) {f : FuncId} {args : List AV} {xs : Array Value} (hx : VRs w (UU A ρ s.H) ρ args xs.toList) {r : AV} {H1 : Heap} {n1 : Nat} (h1 : cl f (frzs s.H args) [] 0 = some (r, H1, n1)) (h : fzRet s args (frz H1 r) = some (v, s')) :
    Calls P f xs w (PostE A ρ s w v s') := by
  let A' := UU A ρ (leakVs s.H args)
  have hlk := leakVs_leaked args s.H
  have hr1 : Rep A ρ (leakVs s.H args) s.nx w := Rep_leak hr hlk
  have hrep : Rep A' noRho [] 0 w := Rep_start fun b o ha => UU_lt hr1 ha
  have hxs := VRs_frz hr args s.H (Leaked.refl _) (leakVs s.H args) (Leaked.refl _) _ hx
  have hU0 : ∀ b o, UU A' noRho [] b o → A' b o := by
    rintro b o (h | ⟨id, es, ob, h1, _⟩)
    · exact h
    · simp at h1
  refine Calls.mono (hcl.calls h1 hrep (VRs_mono (Stay.less hU0) _ _ _ _ (Ext.refl _) hxs)) fun e w' he => ?_
  cases e with
  | returned x =>
    obtain ⟨ρ', g1, g2, g3, g4⟩ := he
    have g5 := VR_frz g1 r H1 (Leaked.refl _) (leakV H1 r) (Leaked.refl _) x g2
    obtain ⟨q1, q2⟩ := Rep_quiet hr g4
    unfold fzRet at h
    split at h
    · rename_i hp
      simp only [Option.some.injEq, Prod.mk.injEq] at h
      obtain ⟨rfl, rfl⟩ := h
      exact ⟨rfl, rfl, ρ, q1, VR_plain _ _ hp g5, Ext2.refl _ _, q2⟩
    · split at h
      · rename_i hp
        simp only [Option.some.injEq, Prod.mk.injEq] at h
        obtain ⟨rfl, rfl⟩ := h
        refine ⟨rfl, rfl, ρ, Rep_leak q1 hlk, ?_, Ext2.refl _ _, q2.trans (Fr_less fun b o => Wr_leak hlk)⟩
        have g6 := VR_mono (Stay.less (U' := A') fun b o ha => .inl ha) _ _ _ _ (Ext.refl _) g5
        exact VR_free _ _ hp g6
      · cases h
  | panicked chain => exact he.elim
  | outgrown => exact he.elim
theorem backId_old {l : List Nat} {n1 nx j : Nat} (h : j < l.length) : backId l l.length n1 nx j = l[j]? := by simp [backId, h]
theorem backId_new {l : List Nat} {n1 nx j i : Nat} (h : ¬ j < l.length) (hb : backId l l.length n1 nx j = some i) : j < n1 ∧ i = nx + (j - l.length) := by
  unfold backId at hb
  rw [if_neg h] at hb
  split at hb
  · rename_i h1
    exact ⟨h1, (Option.some.inj hb).symm⟩
  · cases hb
theorem call_at (hcl : Sound P cl) {H0 : Heap} {nx : Nat} (hr : Rep A ρ H0 nx w) {f : FuncId} {args : List AV} {xs : Array Value} (hx : VRs w (UU A ρ H0) ρ args xs.toList) {l : List Nat} (hl : l.Nodup) (hlH : ∀ id ∈ l, ∃ o, lk H0 id = some o) {r : AV} {H1 : Heap} {n1 : Nat}
    (h1 : cl f (rens (pos l) args) (canG (renH (pos l) H0) l.length) l.length = some (r, H1, n1)) (q n' : Nat) (hq : ∀ t, q ≤ t → t < q + (n1 - l.length) → ρ t = none ∧ lk H0 t = none) (hqn : q + (n1 - l.length) ≤ n') (hmn : nx ≤ n') :
    Calls P f xs w (fun e w' => ∃ x ρ2, e = .returned x ∧ Rep A ρ2 (renH (backId l l.length n1 q) H1 ++ dropAll H0 l) n' w' ∧ VR w' (UU A ρ2 (renH (backId l l.length n1 q) H1 ++ dropAll H0 l)) ρ2 (ren (backId l l.length n1 q) r) x ∧ Ext ρ ρ2 ∧
      (∀ k, ρ k = none → ¬ (q ≤ k ∧ k < q + (n1 - l.length)) → ρ2 k = none) ∧ Fr ρ H0 w ρ2 (renH (backId l l.length n1 q) H1 ++ dropAll H0 l) w') := by
  let Hr := dropAll H0 l
  let A' := UU A ρ Hr
  let back := backId l l.length n1 q
  have hHr : ∀ k o, lk Hr k = some o → lk H0 k = some o ∧ k ∉ l := fun k o h => lk_dropAll h
  have hWr : ∀ b o, Wr ρ Hr b o → Wr ρ H0 b o := fun b o h => Wr_sub (fun k o hk => (hHr k o hk).1) h
  have hi : Inj (pos l) := fun i i' j h h' => pos_inj h h'
  obtain ⟨e1, e2⟩ := Rep_ren (A' := A') (ρ' := rhoOf l ρ) (n := l.length) hr hi (fun i j h => rhoOf_pos h) (fun i j h => pos_lt h) (fun j x h => rhoOf_lt h)
    (fun b o h => UU_lt hr (h.imp_right (hWr b o))) (fun b o h => h.imp_right (hWr b o)) (fun i j o b es off hp ho hρ => by
      rintro (h | ⟨id, es', ob, g1, g2, _⟩)
      · exact hr.apart i o b es off ho hρ h
      · obtain ⟨g3, g4⟩ := hHr _ _ g1
        have := hr.inj i id o ob b es es' ho g3 hρ g2
        subst this
        exact g4 (List.mem_of_getElem? (pos_get hp)))
  have hargs := VRs_ren (f := pos l) (ρ' := rhoOf l ρ) (fun id j y hj hy => by rw [rhoOf_pos hj]; exact hy) args _ hx
  have hcan : ∀ k o, lk (canG (renH (pos l) H0) l.length) k = some o → lk (renH (pos l) H0) k = some o := by
    intro k o hk
    rw [lk_canG] at hk
    split at hk
    · exact hk
    · cases hk
  have e1 := Rep_sub e1 hcan
  have e2 : ∀ b o, UU A' (rhoOf l ρ) (canG (renH (pos l) H0) l.length) b o → UU A ρ H0 b o := fun b o h => e2 b o (h.imp_right (Wr_sub hcan))
  refine Calls.mono (hcl.calls h1 e1 (VRs_mono (Stay.less e2) _ _ _ _ (Ext.refl _) hargs)) fun e w' he => ?_
  cases e with
  | panicked chain => exact he.elim
  | outgrown => exact he.elim
  | returned x =>
    obtain ⟨ρ', g1, g2, g3, g4⟩ := he
    let ρ2 : Rho := fun id => match pos l id with | some j => ρ' j | none => if q ≤ id ∧ id < q + (n1 - l.length) then ρ' (l.length + (id - q)) else ρ id
    have hlnx : ∀ id ∈ l, id < nx := fun id hid => by
      obtain ⟨o, ho⟩ := hlH id hid
      exact hr.ltH id o ho
    have hlq : ∀ t, q ≤ t → t < q + (n1 - l.length) → pos l t = none := fun t h1 h2 => by
      cases hp : pos l t with
      | none => rfl
      | some u =>
        obtain ⟨o, ho⟩ := hlH t (List.mem_of_getElem? (pos_get hp))
        rw [(hq t h1 h2).2] at ho
        cases ho
    have hback : ∀ j i, back j = some i → ρ2 i = ρ' j := by
      intro j i hj
      by_cases hlt : j < l.length
      · have hj' : l[j]? = some i := by rw [← backId_old hlt (n1 := n1) (nx := q)]; exact hj
        simp only [ρ2, get_pos hl hj']
      · obtain ⟨hj1, rfl⟩ := backId_new hlt hj
        simp only [ρ2, hlq (q + (j - l.length)) (by omega) (by omega)]
        rw [if_pos (by omega)]
        congr 1; omega
    have hext : Ext ρ ρ2 := by
      intro id y hy
      cases hp : pos l id with
      | none =>
        have : ¬ (q ≤ id ∧ id < q + (n1 - l.length)) := fun hh => by rw [(hq id hh.1 hh.2).1] at hy; cases hy
        simp only [ρ2, hp, if_neg this]; exact hy
      | some j =>
        simp only [ρ2, hp]
        exact g3.ext j y (by rw [rhoOf_pos hp]; exact hy)
    have hlH' : ∀ t, q ≤ t → t < q + (n1 - l.length) → t ∉ l := fun t h1 h2 hm => by
      obtain ⟨o, ho⟩ := hlH t hm
      rw [(hq t h1 h2).2] at ho
      cases ho
    have hinj : Inj back := by
      intro i i' j h h'
      by_cases hlt : i < l.length
      · have hi' : l[i]? = some j := by rw [← backId_old hlt (n1 := n1) (nx := q)]; exact h
        by_cases hlt' : i' < l.length
        · have hi2 : l[i']? = some j := by rw [← backId_old hlt' (n1 := n1) (nx := q)]; exact h'
          have a1 := get_pos hl hi'
          have a2 := get_pos hl hi2
          rw [a1] at a2
          exact Option.some.inj a2
        · obtain ⟨b1, rfl⟩ := backId_new hlt' h'
          exact absurd (List.mem_of_getElem? hi') (hlH' _ (by omega) (by omega))
      · obtain ⟨b1, b2⟩ := backId_new hlt h
        by_cases hlt' : i' < l.length
        · have hi2 : l[i']? = some j := by rw [← backId_old hlt' (n1 := n1) (nx := q)]; exact h'
          subst b2
          exact absurd (List.mem_of_getElem? hi2) (hlH' _ (by omega) (by omega))
        · obtain ⟨b3, b4⟩ := backId_new hlt' h'
          omega
    let H2 := renH back H1 ++ Hr
    have hlk : ∀ i o, lk H2 i = some o → (∃ j o', lk H1 j = some o' ∧ back j = some i ∧ o = renOb back o' ∧ ρ2 i = ρ' j) ∨ (lk H0 i = some o ∧ i ∉ l ∧ i < nx ∧ ρ2 i = ρ i ∧ lk Hr i = some o) := by
      intro i o h
      rcases lk_append h with h | h
      · obtain ⟨j, o', a1, a2, a3⟩ := lk_renH hinj h
        exact .inl ⟨j, o', a1, a2, a3, hback j i a2⟩
      · obtain ⟨a1, a2⟩ := hHr i o h
        have a3 := hr.ltH i o a1
        refine .inr ⟨a1, a2, a3, ?_, h⟩
        have hp : pos l i = none := by
          cases hp : pos l i with
          | none => rfl
          | some q => exact absurd (List.mem_of_getElem? (pos_get hp)) a2
        have : ¬ (q ≤ i ∧ i < q + (n1 - l.length)) := fun hh => by rw [(hq i hh.1 hh.2).2] at a1; cases a1
        simp only [ρ2, hp, if_neg this]
    have hW2 : ∀ b o, Wr ρ2 H2 b o → Wr ρ' H1 b o ∨ Wr ρ Hr b o := by
      rintro b o ⟨i, es, ob, a1, a2, a3⟩
      rcases hlk i ob a1 with ⟨j, o', b1, b2, rfl, b4⟩ | ⟨b1, b2, b3, b4, b5⟩
      · rw [b4] at a2
        exact .inl ⟨j, es, o', b1, a2, wrOb_ren.1 a3⟩
      · rw [b4] at a2
        exact .inr ⟨i, es, ob, b5, a2, a3⟩
    have hU2 : ∀ b o, UU A ρ2 H2 b o → UU A' ρ' H1 b o := by
      rintro b o (h | h)
      · exact .inl (.inl h)
      · rcases hW2 b o h with h | h
        · exact .inr h
        · exact .inl (.inr h)
    have hWc : ∀ b o, Wr (rhoOf l ρ) (canG (renH (pos l) H0) l.length) b o → ∃ i j es ob, lk H0 i = some ob ∧ pos l i = some j ∧ ρ i = some (b, es) ∧ wrOb es o ob := fun b o h => Wr_ren hi (fun i j h => rhoOf_pos h) (Wr_sub hcan h)
    have hfr : Fr ρ H0 w ρ2 H2 w' :=
      { size := g4.size
        os := g4.os
        tape := g4.tape
        output := g4.output
        cells := fun b C e fr hb => by
          obtain ⟨C', a1, a2, a3⟩ := g4.cells b C e fr hb
          refine ⟨C', a1, a2, fun o ho => a3 o fun hw => ho ?_⟩
          obtain ⟨i, j, es, ob, q1, _, q2, q3⟩ := hWc b o hw
          exact ⟨i, es, ob, q1, q2, q3⟩
        other := g4.other
        shrink := fun b o hb hw => by
          rcases hW2 b o hw with h | h
          · obtain ⟨i, j, es, ob, q1, _, q2, q3⟩ := hWc b o (g4.shrink b o hb h)
            exact ⟨i, es, ob, q1, q2, q3⟩
          · exact hWr b o h }
    have hmix : ∀ j o' b es, lk H1 j = some o' → ρ' j = some (b, es) → ∀ i ob es', lk Hr i = some ob → ρ i = some (b, es') → False := by
      intro j o' b es a1 a2 i ob es' a3 a4
      cases ob with
      | box cells => exact g1.apart j o' b es 0 a1 a2 (.inr ⟨i, es', _, a3, a4, trivial⟩)
      | arr es2 rows leak => exact g1.apart j o' b es (leak * es') a1 a2 (.inr ⟨i, es', _, a3, a4, Nat.le_refl _⟩)
      | arx es2 rows => exact g1.apart j o' b es 0 a1 a2 (.inr ⟨i, es', _, a3, a4, trivial⟩)
    have hcl0 : ∀ k, ρ k = none → ¬ (q ≤ k ∧ k < q + (n1 - l.length)) → ρ2 k = none := by
      intro k hk hn
      cases hp : pos l k with
      | none => simp only [ρ2, hp, if_neg hn]; exact hk
      | some j =>
        simp only [ρ2, hp]
        exact g3.cl j (pos_lt hp) (by rw [rhoOf_pos hp]; exact hk)
    refine ⟨x, ρ2, rfl, ?_, ?_, hext, hcl0, hfr⟩
    · exact
        { ob := fun i o b es a1 a2 => by
            rcases hlk i o a1 with ⟨j, o', b1, b2, rfl, b4⟩ | ⟨b1, b2, b3, b4, b5⟩
            · rw [b4] at a2
              have h6 := g1.ob j o' b es b1 a2
              cases o' with
              | box cells =>
                obtain ⟨C, e, fr, k1, k2, k3⟩ := h6
                refine ⟨C, e, fr, k1, k2, ?_⟩
                have := VRs_ren (f := back) (ρ' := ρ2) (fun id j y hj hy => by rw [hback id j hj]; exact hy) cells _ k3
                exact VRs_mono (Stay.less hU2) _ _ _ _ (Ext.refl _) this
              | arr es' rows leak =>
                obtain ⟨k0, k0', C, e, fr, k1, k2, k3⟩ := h6
                exact ⟨k0, k0', C, e, fr, k1, k2, ARs_mono (Stay.less hU2) k3⟩
              | arx es' rows =>
                obtain ⟨k0, k0', C, e, fr, k1, k2, k3⟩ := h6
                exact ⟨k0, k0', C, e, fr, k1, k2, AXs_ren (fun id j y hj hy => by rw [hback id j hj]; exact hy) hU2 k3⟩
            · rw [b4] at a2
              have h6 := hr.ob i o b es b1 a2
              refine ObR_mono hfr.stay hext ?_ h6
              have hn : ∀ off, ¬ Wr (rhoOf l ρ) (canG (renH (pos l) H0) l.length) b off := by
                intro off hw
                obtain ⟨i2, j, es2, ob, q1, q2, q3, _⟩ := hWc b off hw
                have := hr.inj i i2 o ob b es es2 b1 q1 a2 q3
                subst this
                exact b2 (List.mem_of_getElem? (pos_get q2))
              cases o with
              | box cells => obtain ⟨C, e, fr, h7, _⟩ := h6; exact blk_same g4 h7 hn
              | arr es' rows leak => obtain ⟨_, _, C, e, fr, h7, _⟩ := h6; exact blk_same g4 h7 hn
              | arx es' rows => obtain ⟨_, _, C, e, fr, h7, _⟩ := h6; exact blk_same g4 h7 hn
          inj := fun i i' oi oi' b ei ei' a1 a2 a3 a4 => by
            rcases hlk i oi a1 with ⟨j, o', b1, b2, rfl, b4⟩ | ⟨b1, b2, b3, b4, b5⟩ <;> rcases hlk i' oi' a2 with ⟨j', o2, c1, c2, rfl, c4⟩ | ⟨c1, c2, c3, c4, c5⟩
            · rw [b4] at a3
              rw [c4] at a4
              have := g1.inj j j' o' o2 b ei ei' b1 c1 a3 a4
              subst this
              exact Option.some.inj (b2.symm.trans c2)
            · rw [b4] at a3
              rw [c4] at a4
              exact (hmix j o' b ei b1 a3 i' oi' ei' c5 a4).elim
            · rw [b4] at a3
              rw [c4] at a4
              exact (hmix j' o2 b ei' c1 a4 i oi ei b5 a3).elim
            · rw [b4] at a3
              rw [c4] at a4
              exact hr.inj i i' oi oi' b ei ei' b1 c1 a3 a4
          ltH := fun i o a1 => by
            rcases hlk i o a1 with ⟨j, o', b1, b2, rfl, b4⟩ | ⟨b1, b2, b3, b4, b5⟩
            · have hj1 := g1.ltH j o' b1
              by_cases hlt : j < l.length
              · have hj' : l[j]? = some i := by rw [← backId_old hlt (n1 := n1) (nx := q)]; exact b2
                have := hlnx i (List.mem_of_getElem? hj')
                omega
              · obtain ⟨b5, b6⟩ := backId_new hlt b2
                omega
            · omega
          ltR := fun i x hx => by
            simp only [ρ2] at hx
            split at hx
            · rename_i j hp
              have := hlnx i (List.mem_of_getElem? (pos_get hp))
              omega
            · split at hx
              · omega
              · have := hr.ltR i x hx
                omega
          ltA := fun b o ha => Nat.lt_of_lt_of_le (hr.ltA b o ha) g4.size
          apart := fun i o b es off a1 a2 => by
            rcases hlk i o a1 with ⟨j, o', b1, b2, rfl, b4⟩ | ⟨b1, b2, b3, b4, b5⟩
            · rw [b4] at a2
              exact fun ha => g1.apart j o' b es off b1 a2 (.inl ha)
            · rw [b4] at a2
              exact hr.apart i o b es off b1 a2 }
    · have := VR_ren (f := back) (ρ' := ρ2) (fun id j y hj hy => by rw [hback id j hj]; exact hy) r x g2
      exact VR_mono (Stay.less hU2) _ _ _ _ (Ext.refl _) this
theorem snd_call (hcl : Sound P cl) (hr : Rep A ρ s.H s.nx w) {f : FuncId} {args : List AV} {xs : Array Value} (hx : VRs w (UU A ρ s.H) ρ args xs.toList) (h : callAV c cl s f args = some (v, s')) :
    (callFunc f xs).run P w = .ok (.enter f xs) w ∧ Calls P f xs w (PostE A ρ s w v s') := by
  unfold callAV at h
  split at h
  · split at h
    · rename_i r H1 n1 h1
      obtain ⟨fn, k1, k2, k3⟩ := hcl.fn h1
      exact ⟨run_callFunc k1 k2 k3, call_fz hcl hr hx h1 h⟩
    · cases h
  · simp only at h
    split at h
    · rename_i r H1 n1 h1
      obtain ⟨fn, k1, k2, k3⟩ := hcl.fn h1
      simp only [Option.some.injEq, Prod.mk.injEq] at h
      obtain ⟨rfl, rfl⟩ := h
      obtain ⟨q1, _, q3⟩ := reach_spec s.H fuelR args [] List.nodup_nil
      refine ⟨run_callFunc k1 k2 k3, Calls.mono (call_at hcl hr hx q1 (fun id hid => ?_) h1 s.nx (s.nx + (n1 - (reach s.H fuelR args []).length)) (fun t h1 h2 => ?_) (Nat.le_refl _) (Nat.le_add_right _ _)) fun e w' hp => ?_⟩
      · rcases q3 id hid with h | h
        · simp at h
        · exact h
      · refine ⟨?_, ?_⟩
        · cases hh : ρ t with
          | none => rfl
          | some x => have := hr.ltR t x hh; omega
        · cases hh : lk s.H t with
          | none => rfl
          | some o => have := hr.ltH t o hh; omega
      · obtain ⟨x, ρ2, rfl, p1, p2, p3, p4, p5⟩ := hp
        exact ⟨rfl, rfl, ρ2, p1, p2, ⟨p3, fun k hk h0 => p4 k h0 (by omega), Nat.le_add_right _ _⟩, p5⟩
    · cases h
theorem goes_call (hcl : Sound P cl) {o : Oper} {a : Act} (hr : Rep A ρ s.H s.nx w) {f : FuncId} {args : List AV} {xs : Array Value} (he : (execOp a.eval o).run P w = (callFunc f xs).run P w) (hx : VRs w (UU A ρ s.H) ρ args xs.toList) (h : callAV c cl s f args = some (v, s')) : Goes P A ρ s w v s' o a := by
  intro K Q hK
  obtain ⟨h1, h2⟩ := snd_call hcl hr hx h
  unfold Oper.wp
  rw [he, h1, Oper.upon_enter]
  refine Calls.mono h2 fun e w' hp => ?_
  cases e with
  | returned x => exact hK x w' hp
  | panicked chain => exact hp.elim
  | outgrown => exact hp.elim
theorem comp0_call {o : Oper} {ip : IP} (hc : comp0 P o.op = some ip) (hn : ¬ callB ip = false) : ∃ callee args ts as, o.op = .call ⟨callee, args, ts⟩ ∧ opds args.toList = some as ∧ ((∃ f, callee = .value (.func f) ∧ ip = .call f as) ∨ ∃ x g, callee = .value x ∧ opd x = some g ∧ ip = .callv g as) := by
  cases ho : o.op <;> simp only [ho, comp0] at hc
  case call cc =>
    obtain ⟨callee, args, ts⟩ := cc
    simp only at hc
    split at hc
    · rename_i as has
      split at hc
      · rename_i b
        exfalso
        unfold compBuiltin at hc
        apply hn
        repeat' split at hc
        all_goals first
          | (cases hc; done)
          | (simp only [Option.some.injEq] at hc; subst hc; rfl)
      · rename_i f
        simp only [Option.some.injEq] at hc
        exact ⟨_, args, ts, as, rfl, has, .inl ⟨f, rfl, hc.symm⟩⟩
      · rename_i x _
        split at hc
        · rename_i g hg
          simp only [Option.some.injEq] at hc
          exact ⟨_, args, ts, as, rfl, has, .inr ⟨x, g, rfl, hg, hc.symm⟩⟩
        · cases hc
      · cases hc
    · cases hc
  case makeFunc f pre post =>
    exfalso
    apply hn
    cases f with
    | func f =>
      simp only at hc
      split at hc
      · simp only [Option.some.injEq] at hc
        subst hc
        rfl
      · cases hc
    | _ => simp at hc
  all_goals
    exfalso
    apply hn
    (try simp only [compBin, compConv] at hc)
    repeat' split at hc
    all_goals first
      | (cases hc; done)
      | (simp only [Option.some.injEq] at hc; subst hc; rfl)
/-- Every operation but the copies. -/
theorem goes0 (hcl : Sound P cl) {o : Oper} {a : Act} {ip : IP} (hr : Rep A ρ s.H s.nx w) (hv : Vals w (UU A ρ s.H) ρ s a) (hc : comp0 P o.op = some ip) (h : evOp c cl s ip = some (v, s')) : Goes P A ρ s w v s' o a := by
  by_cases hn : callB ip = false
  · exact goes_plain hr hv hc hn h
  · have key := comp0_call hc hn
    obtain ⟨callee, args, ts, as, ho, has, hcase⟩ := key
    have hvs := VRs_opds hv has
    rw [← eval_map] at hvs
    rcases hcase with ⟨f, rfl, rfl⟩ | ⟨x, g, rfl, hg, rfl⟩
    · simp only [evOp] at h
      refine goes_call hcl (xs := args.map a.eval) hr ?_ hvs h
      simp only [execOp, ho, resolve, Act.eval, Deferred.ofValue, invoke, Sem.run_bind, Sem.run_pure, Result.andThen_ok]
      simp
    · simp only [evOp] at h
      have hgv := VR_opd hv hg
      unfold callvAV at h
      split at h
      · rename_i f pre post heq
        rw [heq] at hgv
        simp only [VR] at hgv
        obtain ⟨ps, qs, h1, h2, h3⟩ := hgv
        refine goes_call hcl (xs := ps ++ args.map a.eval ++ qs) hr ?_ ?_ h
        · simp only [execOp, ho, resolve, h1, Deferred.ofValue, invoke, Sem.run_bind, Sem.run_pure, Result.andThen_ok]
        · simp only [Array.toList_append, List.append_assoc]
          exact VRs_append h2 (VRs_append hvs h3)
      · cases h
/-- The function that is called, and with what. -/
theorem call_run {o : Oper} {a : Act} {ip : IP} (hv : Vals w (UU A ρ s.H) ρ s a) (hc : comp0 P o.op = some ip) {fn : Nat} {L : List AV}
    (hip : (∃ as, ip = .call fn as ∧ L = s.evs as) ∨ ∃ g as pre post, ip = .callv g as ∧ s.ev g = .fn (.func fn) pre post ∧ L = pre ++ (s.evs as ++ post)) : ∃ xs : Array Value, (execOp a.eval o).run P w = (callFunc fn xs).run P w ∧ VRs w (UU A ρ s.H) ρ L xs.toList := by
  have hn : ¬ callB ip = false := by
    rcases hip with ⟨as, rfl, _⟩ | ⟨g, as, pre, post, rfl, _⟩ <;> simp [callB]
  obtain ⟨callee, args, ts, as, ho, has, hcase⟩ := comp0_call hc hn
  have hvs := VRs_opds hv has
  rw [← eval_map] at hvs
  rcases hcase with ⟨f, rfl, rfl⟩ | ⟨x, g, rfl, hg, rfl⟩
  · rcases hip with ⟨as', h1, rfl⟩ | ⟨g, as', pre, post, h1, _⟩
    · simp only [IP.call.injEq] at h1
      obtain ⟨rfl, rfl⟩ := h1
      refine ⟨args.map a.eval, ?_, hvs⟩
      simp only [execOp, ho, resolve, Act.eval, Deferred.ofValue, invoke, Sem.run_bind, Sem.run_pure, Result.andThen_ok]
      simp
    · cases h1
  · rcases hip with ⟨as', h1, rfl⟩ | ⟨g', as', pre, post, h1, h2, rfl⟩
    · cases h1
    · simp only [IP.callv.injEq] at h1
      obtain ⟨rfl, rfl⟩ := h1
      have hgv := VR_opd hv hg
      rw [h2] at hgv
      simp only [VR] at hgv
      obtain ⟨ps, qs, k1, k2, k3⟩ := hgv
      refine ⟨ps ++ args.map a.eval ++ qs, ?_, ?_⟩
      · simp only [execOp, ho, resolve, k1, Deferred.ofValue, invoke, Sem.run_bind, Sem.run_pure, Result.andThen_ok]
      · simp only [Array.toList_append, List.append_assoc]
        exact VRs_append k2 (VRs_append hvs k3)
theorem compCln_spec {o : Op} {ip : IP} (h : compCln P o = some ip) : ∃ f args ts x X es, o = .call ⟨.value (.func f), args, ts⟩ ∧ args.toList = [x] ∧ cloneF P f = some es ∧ opd x = some X ∧ ip = .cln es X := by
  unfold compCln at h
  split at h
  · rename_i f args ts
    split at h
    · rename_i x hx
      split at h
      · rename_i es X h1 h2
        simp only [Option.some.injEq] at h
        exact ⟨f, args, ts, x, X, es, rfl, hx, h1, h2, h.symm⟩
      · cases h
    · cases h
  · cases h
/-- Only other words for what an array is. -/
theorem Rep_toX {H : Heap} {nx : Nat} (hr : Rep A ρ H nx w) {id es : Nat} {rows : List (List AV)} (hid : lk H id = some (.arr es rows 0)) {H' : Heap} (hH : ∀ k, lk H' k = if k = id then some (.arx es rows) else lk H k) : Rep A ρ H' nx w ∧ Fr ρ H w ρ H' w := by
  have old : ∀ k o, lk H' k = some o → ∃ o', lk H k = some o' := fun k o hk => by
    rw [hH] at hk
    by_cases hi : k = id
    · subst hi; exact ⟨_, hid⟩
    · rw [if_neg hi] at hk; exact ⟨o, hk⟩
  have hw : ∀ b o, Wr ρ H' b o → Wr ρ H b o := by
    rintro b' o ⟨id', es', o', g1, g2, g3⟩
    rw [hH] at g1
    by_cases hi : id' = id
    · subst hi
      exact ⟨id', es', _, hid, g2, by simp [wrOb]⟩
    · rw [if_neg hi] at g1
      exact ⟨id', es', o', g1, g2, g3⟩
  have hs : Stay w (UU A ρ H) w (UU A ρ H') := Stay.less fun b o hu => hu.imp_right (hw b o)
  refine ⟨?_, Fr_less hw⟩
  exact
    { ob := fun i o b' es' g1 g2 => by
        rw [hH] at g1
        by_cases hi : i = id
        · subst hi
          rw [if_pos rfl] at g1
          obtain rfl := Option.some.inj g1
          obtain ⟨q1, q2, C, e, fr, q3, q4, q5⟩ := hr.ob i _ b' es' hid g2
          exact ⟨q1, q2, C, e, fr, q3, q4, AXs_of ρ (ARs_mono hs q5)⟩
        · rw [if_neg hi] at g1
          exact ObR_mono hs (Ext.refl _) rfl (hr.ob i o b' es' g1 g2)
      inj := fun i j oi oj b' ei ej g1 g2 g3 g4 => by
        obtain ⟨o1, g5⟩ := old i oi g1
        obtain ⟨o2, g6⟩ := old j oj g2
        exact hr.inj i j o1 o2 b' ei ej g5 g6 g3 g4
      ltH := fun i o g1 => by
        obtain ⟨o1, g5⟩ := old i o g1
        exact hr.ltH i o1 g5
      ltR := hr.ltR
      ltA := hr.ltA
      apart := fun i o b' es' off g1 g2 => by
        obtain ⟨o1, g5⟩ := old i o g1
        exact hr.apart i o1 b' es' off g5 g2 }
theorem clnX_cases {ax es : Nat} {s : St} {x r : AV} {s' : St} (h : clnX ax es s x = some (r, s')) : clnAV es s x = some (r, s') ∨ ∃ rows, clnAV es s x = some (r, s.add (.arr es rows 0)) ∧ s' = s.add (.arx es rows) := by
  unfold clnX at h
  split at h
  · exact .inl h
  · cases hb : Nat.beq es _ <;> rw [hb] at h
    · exact .inl h
    · simp only [cond_true, clnY] at h
      split at h
      · rename_i rows hrows
        split at h
        · rename_i hl
          simp only [Option.some.injEq, Prod.mk.injEq] at h
          obtain ⟨rfl, rfl⟩ := h
          have h0 : clnAV es s x = some (.own es s.nx 0 rows.length false, s.add (.arr es rows 0)) := by
            simp only [clnAV, hrows, newArr, if_pos hl]
          cases he : rows.isEmpty with
          | true => exact .inl h0
          | false => exact .inr ⟨rows, h0, rfl⟩
        · cases h
      · cases h
theorem clnX_inv {ax es : Nat} {s : St} {x r : AV} {s' : St} (h : clnX ax es s x = some (r, s')) : ∃ rows ob, rowsOf es s.H x = some rows ∧ (∀ s1 : St, rowsOf es s1.H x = some rows → clnX ax es s1 x = some (.own es s1.nx 0 rows.length false, s1.add ob)) ∧ (r = .own es s.nx 0 rows.length false ∧ s' = s.add ob) := by
  have plain : ∀ {r s'}, clnAV es s x = some (r, s') → ∃ rows, rowsOf es s.H x = some rows ∧ (∀ s1 : St, rowsOf es s1.H x = some rows → clnAV es s1 x = some (.own es s1.nx 0 rows.length false, s1.add (.arr es rows 0))) ∧ (r = .own es s.nx 0 rows.length false ∧ s' = s.add (.arr es rows 0)) := by
    intro r s' h
    unfold clnAV at h
    split at h
    · rename_i rows hrows
      unfold newArr at h
      split at h
      · rename_i hl
        simp only [Option.some.injEq, Prod.mk.injEq] at h
        obtain ⟨rfl, rfl⟩ := h
        exact ⟨rows, hrows, fun s1 h1 => by simp only [clnAV, h1, newArr, if_pos hl], rfl, rfl⟩
      · cases h
    · cases h
  unfold clnX at h
  split at h
  · obtain ⟨rows, h1, h2, h3⟩ := plain h
    exact ⟨rows, _, h1, fun s1 q => h2 s1 q, h3⟩
  · rename_i k
    cases hb : Nat.beq es (k + 1) <;> rw [hb] at h
    · obtain ⟨rows, h1, h2, h3⟩ := plain h
      exact ⟨rows, _, h1, fun s1 q => by simp only [clnX, hb, cond_false]; exact h2 s1 q, h3⟩
    · simp only [cond_true, clnY] at h
      split at h
      · rename_i rows hrows
        split at h
        · rename_i hl
          simp only [Option.some.injEq, Prod.mk.injEq] at h
          obtain ⟨rfl, rfl⟩ := h
          exact ⟨rows, _, hrows, fun s1 q => by simp only [clnX, hb, cond_true, clnY, q, if_pos hl], rfl, rfl⟩
        · cases h
      · cases h
theorem Post_toX {es : Nat} {rows : List (List AV)} {r : AV} {x : Value} {w' : World} (h : Post A ρ s w r (s.add (.arr es rows 0)) x w') : Post A ρ s w r (s.add (.arx es rows)) x w' := by
  obtain ⟨h1, h2, ρ', h3, h4, h5, h6⟩ := h
  obtain ⟨g1, g2⟩ := Rep_toX (id := s.nx) (es := es) (rows := rows) h3 (by show lk ((s.nx, Ob.arr es rows 0) :: s.H) s.nx = _; rw [lk_cons, if_pos rfl]) (H' := (s.add (.arx es rows)).H) (fun k => by
    simp only [St.add, lk_cons]
    by_cases hk : s.nx = k
    · subst hk; simp
    · rw [if_neg hk, if_neg (fun e => hk e.symm), if_neg hk])
  exact ⟨h1, h2, ρ', g1, VR_fr g2 (Ext.refl _) h4, h5, h6.trans g2⟩
theorem comp_call {o : Op} {ip : IP} (hc : comp P o = some ip) (hn : callB ip = true) : comp0 P o = some ip := by
  unfold comp at hc
  split at hc
  · rename_i ip' hq
    obtain ⟨f, args, ts, x, X, es, _, _, _, _, rfl⟩ := compCln_spec hq
    simp only [Option.some.injEq] at hc
    subst hc
    simp [callB] at hn
  · split at hc
    · rename_i hq
      simp only [Option.some.injEq] at hc
      subst hc
      exact hq
    · simp only [Option.some.injEq] at hc
      subst hc
      simp [callB] at hn
/-- Every operation. -/
theorem goes (hcl : Sound P cl) {o : Oper} {a : Act} {ip : IP} (hr : Rep A ρ s.H s.nx w) (hv : Vals w (UU A ρ s.H) ρ s a) (hc : comp P o.op = some ip) (h : evOp c cl s ip = some (v, s')) : Goes P A ρ s w v s' o a := by
  unfold comp at hc
  split at hc
  · rename_i ip' hq
    simp only [Option.some.injEq] at hc
    subst hc
    obtain ⟨f, args, ts, x, X, es, ho, hx, h1, h2, rfl⟩ := compCln_spec hq
    simp only [evOp] at h
    obtain ⟨k1, k2⟩ : (callFunc f #[a.eval x]).run P w = .ok (.enter f #[a.eval x]) w ∧ Calls P f #[a.eval x] w (fun e w' => ∃ x, e = .returned x ∧ Post A ρ s w v s' x w') := by
      rcases clnX_cases h with h0 | ⟨rows, h0, hs⟩
      · exact hcl.cln h1 hr (VR_opd hv h2) h0
      · obtain ⟨k1, k2⟩ := hcl.cln h1 hr (VR_opd hv h2) h0
        subst hs
        exact ⟨k1, Calls.mono k2 fun e w' he => by
          obtain ⟨x, rfl, he⟩ := he
          exact ⟨x, rfl, Post_toX he⟩⟩
    have hargs : args.map a.eval = #[a.eval x] := by
      apply Array.ext'
      simp [hx]
    have he : (execOp a.eval o).run P w = (callFunc f #[a.eval x]).run P w := by
      rw [← hargs]
      simp only [execOp, ho, resolve, Act.eval, Deferred.ofValue, invoke, Sem.run_bind, Sem.run_pure, Result.andThen_ok]
      simp
    intro K Q hK
    unfold Oper.wp
    rw [he, k1, Oper.upon_enter]
    refine Calls.mono k2 fun e w' hp => ?_
    obtain ⟨x', rfl, hp⟩ := hp
    exact hK x' w' hp
  · split at hc
    · rename_i hq
      simp only [Option.some.injEq] at hc
      subst hc
      exact goes0 hcl hr hv hq h
    · simp only [Option.some.injEq] at hc
      subst hc
      simp only [evOp] at h
      cases h
end
end Go.Proofs.Ytefjblgmnoheiaa.R
