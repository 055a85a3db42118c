/- Code: regions in the program's order, branches, loops. -/
import Derived.Test.YtefjblgmnoheiaaRCall
import Derived.Tactics
import Derived.LoopN
set_option linter.unusedVariables false
set_option linter.unusedSectionVars false
set_option linter.unusedSimpArgs false
noncomputable section
namespace Go.Proofs.Ytefjblgmnoheiaa.R
open Go
/-- A slot is kept at one place. -/
def Disj (s : St) : Prop := ∀ t x, lk s.env t = some x → lk s.loc t = none
/-- Where a function was entered. -/
structure Entry where
  ρ : Rho
  H : Heap
  w : World
  m : Nat
/-- An activation's state, as the program has it. -/
structure SR (A : Nat → Nat → Prop) (E : Entry) (nt : Nat) (s : St) (a : Act) (w : World) : Prop where
  disj : Disj s
  size : a.tmps.size = nt
  defers : a.defers = []
  ex : ∃ ρ, Rep A ρ s.H s.nx w ∧ Vals w (UU A ρ s.H) ρ s a ∧ Ext2 E.ρ E.m ρ s.nx ∧ Fr E.ρ E.H E.w ρ s.H w
theorem get_eq (s : St) (t : Nat) : s.get t = (lk s.loc t).getD ((lk s.env t).getD .bad) := by
  obtain ⟨e, l, H, n⟩ := s
  exact get_mk e l H n t
theorem put_spec {s : St} (hd : Disj s) (d : Nat) (v : AV) : (∀ t, (s.put d v).get t = if t = d then v else s.get t) ∧ Disj (s.put d v) ∧ (s.put d v).H = s.H ∧ (s.put d v).nx = s.nx := by
  obtain ⟨e, l, H, n⟩ := s
  rw [put_mk]
  cases hu : upd e d v with
  | some e' =>
    rw [updD_some]
    have hle := lk_upd hu
    have hed : ∃ x, lk e d = some x := by
      cases h : lk e d with
      | some x => exact ⟨x, rfl⟩
      | none =>
        exfalso
        have : ∀ (e e' : List (Nat × AV)), upd e d v = some e' → lk e d = none → False := by
          intro e
          induction e with
          | nil => intro e' h; simp at h
          | cons p r ih =>
            obtain ⟨k, y⟩ := p
            intro e' h h2
            rw [upd_cons] at h
            rw [lk_cons] at h2
            split at h2
            · cases h2
            · rename_i hk
              rw [if_neg hk] at h
              cases hr : upd r d v with
              | none => simp [hr] at h
              | some r' => exact ih r' hr h2
        exact this e e' hu h
    obtain ⟨x, hx⟩ := hed
    have hl : lk l d = none := hd d x hx
    refine ⟨fun t => ?_, fun t y hy => ?_, rfl, rfl⟩
    · rw [get_eq, get_eq]
      simp only [hle]
      by_cases ht : t = d
      · subst ht
        rw [if_pos rfl, if_pos rfl, hl]
        rfl
      · rw [if_neg ht, if_neg ht]
    · simp only [hle] at hy
      by_cases ht : t = d
      · subst ht; exact hl
      · rw [if_neg ht] at hy
        exact hd t y hy
  | none =>
    rw [updD_none]
    have hed : lk e d = none := by
      cases h : lk e d with
      | none => rfl
      | some x =>
        obtain ⟨e', he⟩ := upd_isSome (x := v) h
        rw [he] at hu
        cases hu
    refine ⟨fun t => ?_, fun t y hy => ?_, rfl, rfl⟩
    · rw [get_eq, get_eq]
      simp only [lk_cons]
      by_cases ht : d = t
      · subst ht; simp
      · have : ¬ t = d := fun e => ht e.symm
        simp [ht, this]
    · simp only [lk_cons]
      rw [if_neg]
      · exact hd t y hy
      · intro e
        subst e
        simp only at hy
        rw [hed] at hy
        cases hy
theorem putO_spec {s : St} (hd : Disj s) (d : Option Nat) (v : AV) : (∀ t, (s.putO d v).get t = if d = some t then v else s.get t) ∧ Disj (s.putO d v) ∧ (s.putO d v).H = s.H ∧ (s.putO d v).nx = s.nx := by
  cases d with
  | none => exact ⟨fun t => by simp [putO_none], hd, rfl, rfl⟩
  | some d =>
    obtain ⟨h1, h2, h3, h4⟩ := put_spec hd d v
    refine ⟨fun t => ?_, h2, h3, h4⟩
    rw [putO_some, h1]
    by_cases ht : t = d
    · subst ht; simp
    · have : ¬ (some d : Option Nat) = some t := fun e => ht (Option.some.inj e).symm
      simp [ht, this]
theorem act_put {a : Act} {nt : Nat} (hs : a.tmps.size = nt) {d : Option Nat} (hd : dstOk nt d = true) (x : Value) : (∀ t, (a.put d x).tmps.getD t undef = if d = some t then x else a.tmps.getD t undef) ∧ (a.put d x).tmps.size = nt ∧ (a.put d x).defers = a.defers := by
  cases d with
  | none => exact ⟨fun t => by simp [Act.put], hs, rfl⟩
  | some d =>
    have hlt : d < nt := by have : Nat.blt d nt = true := hd; rwa [Nat.blt_eq] at this
    refine ⟨fun t => ?_, by simpa [Act.put] using hs, rfl⟩
    simp only [Act.put]
    by_cases ht : d = t
    · subst ht
      have : d < a.tmps.size := by omega
      simp [this]
    · have : ¬ (some d : Option Nat) = some t := fun e => ht (Option.some.inj e)
      rw [if_neg this]
      simp [Array.getElem?_setIfInBounds_ne ht]
section
variable {P : Program} {A : Nat → Nat → Prop} {E : Entry} {nt : Nat} {c : Cfg} {cl : Callee} {s s' : St} {a : Act} {w : World}
/-- After an operation. -/
theorem SR_post (h : SR A E nt s a w) {ρ : Rho} (hr : Rep A ρ s.H s.nx w) (hv : Vals w (UU A ρ s.H) ρ s a) (he : Ext2 E.ρ E.m ρ s.nx) (hf : Fr E.ρ E.H E.w ρ s.H w) {v : AV} {s1 : St} {x : Value} {w' : World} (hp : Post A ρ s w v s1 x w') {d : Option Nat} (hd : dstOk nt d = true) :
    SR A E nt (s1.putO d v) (a.put d x) w' := by
  obtain ⟨h1, h2, ρ', h3, h4, h5, h6⟩ := hp
  have hd1 : Disj s1 := by
    intro t y hy
    rw [h1] at hy
    rw [h2]
    exact h.disj t y hy
  obtain ⟨g1, g2, g3, g4⟩ := putO_spec hd1 d v
  obtain ⟨k1, k2, k3⟩ := act_put h.size hd x
  refine ⟨g2, k2, by rw [k3]; exact h.defers, ρ', by rw [g3, g4]; exact h3, fun t => ?_, by rw [g4]; exact he.trans h5, by rw [g3]; exact hf.trans h6⟩
  rw [g1, k1, g3]
  split
  · exact h4
  · have hg : s1.get t = s.get t := by rw [get_eq, get_eq, h1, h2]
    rw [hg]
    exact VR_fr h6 h5.ext (hv t)
theorem SR_skip (h : SR A E nt s a w) {d : Option Nat} (hd : dstOk nt d = true) : SR A E nt (s.putO d .un) (a.put d undef) w := by
  obtain ⟨ρ, hr, hv, he, hf⟩ := h.ex
  exact SR_post h hr hv he hf (Post.same (s := s) (v := .un) hr (by simp [VR])) hd
theorem yielded_of {ops : Array Oper} {j : Nat} {q : Oper} {d : Nat} (hj : ops[j]? = some q) (hd : q.dst = some d) (tmps : Array Value) : yielded ops tmps j = match tmps.getD d undef with | .bool b => some b | _ => none := by
  unfold yielded
  simp only [hj, Option.bind_some, hd]
  cases h : tmps[d]? with
  | none =>
    have : tmps.getD d undef = undef := by simp [h]
    rw [this]
    rfl
  | some v =>
    have : tmps.getD d undef = v := by simp [h]
    rw [this]
    cases v <;> rfl
/-- Wanted here, wanted there. -/
theorem want_spec (h : SR A E nt s a w) {ops : Array Oper} {o : Oper} {io : Iop} (hc : compOp P ops.toList o = some io) {b : Bool} (hw : wantA s io.guard = some b) : comp P o.op = some io.op ∧ io.dst = o.dst ∧ Region.wanted o (yielded ops a.tmps) = b := by
  obtain ⟨ρ, hr, hv, _⟩ := h.ex
  unfold compOp at hc
  split at hc
  · rename_i ip hip
    split at hc
    · rename_i hg
      simp only [Option.some.injEq] at hc
      subst hc
      simp only [wantA, Option.some.injEq] at hw
      subst hw
      exact ⟨hip, rfl, by simp [Region.wanted, hg]⟩
    · rename_i j want hg
      split at hc
      · rename_i q hq
        split at hc
        · rename_i d hd
          simp only [Option.some.injEq] at hc
          subst hc
          refine ⟨hip, rfl, ?_⟩
          have hj : ops[j]? = some q := by simpa using hq
          simp only [Region.wanted, hg, yielded_of hj hd]
          have hvd := hv d
          simp only [wantA] at hw
          split at hw
          · rename_i b' hb'
            rw [hb'] at hvd
            simp only [VR] at hvd
            rw [hvd]
            simpa using hw
          · rename_i hu
            rw [hu] at hvd
            simp only [VR] at hvd
            rw [hvd]
            simp only [Option.some.injEq] at hw
            subst hw
            rfl
          · cases hw
        · cases hc
      · cases hc
  · cases hc
/-- One operation of a region. -/
theorem snd_io (hcl : Sound P cl) (h : SR A E nt s a w) {ops : Array Oper} {o : Oper} {io : Iop} (hc : compOp P ops.toList o = some io) (he : evIO c cl nt io s = some s') {K : Act → World → Prop} {Q : Exit → Act → World → Prop} (hK : ∀ a' w', SR A E nt s' a' w' → K a' w') :
    if Region.wanted o (yielded ops a.tmps) then o.wp P a w K Q else K (a.put o.dst undef) w := by
  unfold evIO at he
  rw [cond_eq_ite] at he
  split at he
  · rename_i hd
    split at he
    · rename_i b hb
      obtain ⟨h1, h2, h3⟩ := want_spec h hc hb
      rw [h3]
      rw [cond_eq_ite] at he
      cases b with
      | true =>
        simp only [if_true] at he ⊢
        split at he
        · rename_i v s1 hv
          rw [nowS_eq] at he
          simp only [Option.some.injEq] at he
          subst he
          obtain ⟨ρ, hr, hvs, hx, hf⟩ := h.ex
          refine goes hcl hr hvs h1 hv K Q fun x w' hp => hK _ _ ?_
          rw [← h2]
          exact SR_post h hr hvs hx hf hp hd
        · cases he
      | false =>
        simp only [Bool.false_eq_true, if_false] at he ⊢
        rw [nowS_eq] at he
        simp only [Option.some.injEq] at he
        subst he
        rw [← h2]
        exact hK _ _ (SR_skip h hd)
    · cases he
  · cases he
/-- Operations in the program's order. -/
theorem snd_ops (hcl : Sound P cl) {ops : Array Oper} {Q : Exit → Act → World → Prop} : ∀ {l : List Oper} {ios : List Iop} {s s' : St} {a : Act} {w : World}, compOps P ops.toList l = some ios → SR A E nt s a w → evOps c cl nt ios s = some s' → (∀ a' w', SR A E nt s' a' w' → Q .normal a' w') → wpList P ops Q l a w
  | [], ios, s, s', a, w, hc, h, he, hQ => by
    simp only [compOps, Option.some.injEq] at hc
    subst hc
    rw [evOps_nil] at he
    simp only [Option.some.injEq] at he
    subst he
    exact hQ a w h
  | o :: l, ios, s, s', a, w, hc, h, he, hQ => by
    simp only [compOps] at hc
    split at hc
    · rename_i io r h1 h2
      simp only [Option.some.injEq] at hc
      subst hc
      rw [evOps_cons] at he
      cases h3 : evIO c cl nt io s with
      | none => rw [h3, andThen_none] at he; cases he
      | some s1 =>
        rw [h3, andThen_some] at he
        refine wpList_step fun K hK => ?_
        exact snd_io hcl h h1 h3 fun a' w' hs => hK a' w' (snd_ops hcl h2 hs he hQ)
    · cases hc
theorem evOps_loc {s s1 : St} (h : SR A E nt s a w) : SR A E nt ⟨s.env, [], s.H, s.nx⟩ a w := by
  obtain ⟨ρ, hr, hv, hx, hf⟩ := h.ex
  refine ⟨fun t x _ => rfl, h.size, h.defers, ρ, hr, fun t => ?_, hx, hf⟩
  have h1 := hv t
  rw [get_eq] at h1 ⊢
  show VR w (UU A ρ s.H) ρ ((lk s.env t).getD .bad) _
  cases he : lk s.env t with
  | none => simp [VR]
  | some x =>
    rw [h.disj t x he, he] at h1
    exact h1
theorem lk_renEnv (f : Nat → Option Nat) : ∀ (e : List (Nat × AV)) (t : Nat), lk (renEnv f e) t = (lk e t).map (ren f)
  | [], t => by simp [renEnv]
  | (k, v) :: r, t => by
    simp only [renEnv, lk_cons]
    split
    · rfl
    · exact lk_renEnv f r t
/-- Places named anew. -/
theorem SR_tidy (hm : ∀ i x, E.ρ i = some x → i < E.m) (h : SR A E nt s a w) : SR A E nt (s.tidy E.m) a w := by
  obtain ⟨ρ, hr, hv, hx, hf⟩ := h.ex
  obtain ⟨p1, p2⟩ := places_spec s.H E.m (valsOf s.env)
  obtain ⟨q1, q2, q3⟩ := Rep_pos (l := places s.H E.m (valsOf s.env)) hr
  refine ⟨fun t x _ => rfl, h.size, h.defers, rhoOf (places s.H E.m (valsOf s.env)) ρ, q1, fun t => ?_, Ext_pos hx hm p2, hf.trans q3⟩
  have h1 := hv t
  rw [get_eq] at h1 ⊢
  show VR w _ _ ((lk (renEnv (pos (places s.H E.m (valsOf s.env))) s.env) t).getD .bad) _
  rw [lk_renEnv]
  cases he : lk s.env t with
  | none => simp [VR]
  | some x =>
    rw [h.disj t x he, he] at h1
    exact VR_pos hr h1
theorem SR_head (hm : ∀ i x, E.ρ i = some x → i < E.m) (h : SR A E nt s a w) (n0 : Nat) : SR A E nt (s.head E.m n0) a w := by
  unfold St.head
  rw [cond_eq_ite]
  split
  · exact h
  · exact SR_tidy hm h
def exOf : Ex → Exit
  | .norm => .normal
  | .out id => .exit id
  | .ret => .ret
/-- How a region that draws its order goes. -/
def DrawS (P : Program) (rg : List (Nat × Nat) → List Iop → St → Option St) (nt : Nat) : Prop :=
  ∀ (A : Nat → Nat → Prop) (E : Entry) (id : Nat) (ops : Array Oper) (ios : List Iop) (k : List (Nat × Nat)) (s s' : St) (a : Act) (w : World) (Q : Exit → Act → World → Prop), compOps P ops.toList ops.toList = some ios → drawGo ios ops.toList ios [] = some k → SR A E nt s a w → rg k ios s = some s' →
    (∀ a' w', SR A E nt s' a' w' → Q .normal a' w') → (Code.region id ops true).wp P Q a w
theorem snd_loop {b : Code} {body : St → Run} (hm : ∀ i x, E.ρ i = some x → i < E.m)
    (hb : ∀ {s s' : St} {e : Ex} {a : Act} {w : World} {Q : Exit → Act → World → Prop}, SR A E nt s a w → body s = some (e, s') → (∀ a' w', SR A E nt s' a' w' → Q (exOf e) a' w') → b.wp P Q a w) :
    ∀ (n n0 : Nat) {s s' : St} {e : Ex} {a : Act} {w : World} {Q : Exit → Act → World → Prop}, SR A E nt s a w → evLoop E.m body n n0 s = some (e, s') → (∀ a' w', SR A E nt s' a' w' → Q (exOf e) a' w') → Code.rounds P b Q n a w
  | 0, n0, s, s', e, a, w, Q, h, he, hQ => by rw [evLoop_zero] at he; cases he
  | n + 1, n0, s, s', e, a, w, Q, h, he, hQ => by
    rw [evLoop_succ] at he
    rw [rounds_succ]
    have h1 := SR_head hm h n0
    cases hbd : body (s.head E.m n0) with
    | none => rw [hbd, seqK_none] at he; cases he
    | some r =>
      obtain ⟨e1, s1⟩ := r
      rw [hbd] at he
      refine hb h1 hbd fun a' w' hs => ?_
      cases e1 with
      | norm =>
        rw [seqK_norm] at he
        exact snd_loop hm hb n _ hs he hQ
      | out id =>
        rw [seqK_out] at he
        simp only [Option.some.injEq, Prod.mk.injEq] at he
        obtain ⟨rfl, rfl⟩ := he
        exact hQ a' w' hs
      | ret =>
        rw [seqK_ret] at he
        simp only [Option.some.injEq, Prod.mk.injEq] at he
        obtain ⟨rfl, rfl⟩ := he
        exact hQ a' w' hs
theorem snd_code (hcl : Sound P cl) {rg : List (Nat × Nat) → List Iop → St → Option St} (hrg : DrawS P rg nt) (hm : ∀ i x, E.ρ i = some x → i < E.m) {n : Nat} : ∀ (code : Code) {ic : IC} {s s' : St} {e : Ex} {a : Act} {w : World} {Q : Exit → Act → World → Prop},
    compC P code = some ic → SR A E nt s a w → evC c cl rg nt E.m n ic s = some (e, s') → (∀ a' w', SR A E nt s' a' w' → Q (exOf e) a' w') → code.wp P Q a w := by
  intro code
  induction code with
  | skip =>
    intro ic s s' e a w Q hc h he hQ
    simp only [compC, Option.some.injEq] at hc
    subst hc
    rw [evC_skip] at he
    simp only [Option.some.injEq, Prod.mk.injEq] at he
    obtain ⟨rfl, rfl⟩ := he
    exact wp_skip (hQ a w h)
  | label l =>
    intro ic s s' e a w Q hc h he hQ
    simp only [compC, Option.some.injEq] at hc
    subst hc
    rw [evC_skip] at he
    simp only [Option.some.injEq, Prod.mk.injEq] at he
    obtain ⟨rfl, rfl⟩ := he
    exact wp_label (hQ a w h)
  | region id ops draw =>
    intro ic s s' e a w Q hc h he hQ
    simp only [compC] at hc
    split at hc
    · rename_i l hl
      split at hc
      · rename_i hdraw
        subst hdraw
        split at hc
        · rename_i k hk
          simp only [Option.some.injEq] at hc
          subst hc
          rw [evC_regd] at he
          cases h1 : rg k l s with
          | none => rw [h1, regK_none] at he; cases he
          | some s1 =>
            rw [h1, regK_some] at he
            simp only [Option.some.injEq, Prod.mk.injEq] at he
            obtain ⟨rfl, rfl⟩ := he
            exact hrg A E id ops l k s s1 a w Q hl hk h h1 fun a' w' hs => hQ a' w' (evOps_loc (s1 := s1) hs)
        · cases hc
      · rename_i hdraw
        have hdraw' : draw = false := by simpa using hdraw
        subst hdraw'
        simp only [Option.some.injEq] at hc
        subst hc
        rw [evC_reg] at he
        cases h1 : evOps c cl nt l s with
        | none => rw [h1, regK_none] at he; cases he
        | some s1 =>
          rw [h1, regK_some] at he
          simp only [Option.some.injEq, Prod.mk.injEq] at he
          obtain ⟨rfl, rfl⟩ := he
          exact wp_region_list (snd_ops hcl hl h h1 fun a' w' hs => hQ a' w' (evOps_loc (s1 := s1) hs))
    · cases hc
  | seq x y ihx ihy =>
    intro ic s s' e a w Q hc h he hQ
    simp only [compC] at hc
    split at hc
    · rename_i x' y' hx hy
      simp only [Option.some.injEq] at hc
      subst hc
      rw [evC_seq] at he
      cases h1 : evC c cl rg nt E.m n x' s with
      | none => rw [h1, seqK_none] at he; cases he
      | some r =>
        obtain ⟨e1, s1⟩ := r
        rw [h1] at he
        refine wp_seq (ihx hx h h1 fun a' w' hs => ?_)
        cases e1 with
        | norm =>
          rw [seqK_norm] at he
          exact ihy hy hs he hQ
        | out id =>
          rw [seqK_out] at he
          simp only [Option.some.injEq, Prod.mk.injEq] at he
          obtain ⟨rfl, rfl⟩ := he
          exact hQ a' w' hs
        | ret =>
          rw [seqK_ret] at he
          simp only [Option.some.injEq, Prod.mk.injEq] at he
          obtain ⟨rfl, rfl⟩ := he
          exact hQ a' w' hs
    · cases hc
  | cond x t f iht ihf =>
    intro ic s s' e a w Q hc h he hQ
    simp only [compC] at hc
    split at hc
    · rename_i x' t' f' hx ht hf
      simp only [Option.some.injEq] at hc
      subst hc
      rw [evC_cond] at he
      obtain ⟨ρ, hr, hv, _⟩ := h.ex
      have hxv := VR_opd hv hx
      cases hb : s.ev x' with
      | bool b =>
        rw [hb] at hxv he
        simp only [VR] at hxv
        rw [condK_bool] at he
        refine wp_cond hxv ?_
        cases b with
        | true => exact iht ht h he hQ
        | false => exact ihf hf h he hQ
      | _ => rw [hb] at he; simp [condK] at he
    · cases hc
  | block id b ih =>
    intro ic s s' e a w Q hc h he hQ
    simp only [compC] at hc
    split at hc
    · rename_i b' hb
      simp only [Option.some.injEq] at hc
      subst hc
      rw [evC_block] at he
      cases h1 : evC c cl rg nt E.m n b' s with
      | none => rw [h1, blockK_none] at he; cases he
      | some r =>
        obtain ⟨e1, s1⟩ := r
        rw [h1] at he
        refine wp_block (ih hb h h1 fun a' w' hs => ?_)
        cases e1 with
        | norm =>
          rw [blockK_norm] at he
          simp only [Option.some.injEq, Prod.mk.injEq] at he
          obtain ⟨rfl, rfl⟩ := he
          exact hQ a' w' hs
        | out j =>
          rw [blockK_out] at he
          simp only [exOf, Exit.inBlock]
          split at he
          · rename_i hj
            rw [if_pos hj]
            simp only [Option.some.injEq, Prod.mk.injEq] at he
            obtain ⟨rfl, rfl⟩ := he
            exact hQ a' w' hs
          · rename_i hj
            rw [if_neg hj]
            simp only [Option.some.injEq, Prod.mk.injEq] at he
            obtain ⟨rfl, rfl⟩ := he
            exact hQ a' w' hs
        | ret =>
          rw [blockK_ret] at he
          simp only [Option.some.injEq, Prod.mk.injEq] at he
          obtain ⟨rfl, rfl⟩ := he
          exact hQ a' w' hs
    · cases hc
  | loop b ih =>
    intro ic s s' e a w Q hc h he hQ
    simp only [compC] at hc
    split at hc
    · rename_i b' hb
      simp only [Option.some.injEq] at hc
      subst hc
      rw [evC_loop] at he
      exact wp_loop_rounds n (snd_loop hm (fun hs hbd hq => ih hb hs hbd hq) n 0 h he hQ)
    · cases hc
  | exit id =>
    intro ic s s' e a w Q hc h he hQ
    simp only [compC, Option.some.injEq] at hc
    subst hc
    rw [evC_out] at he
    simp only [Option.some.injEq, Prod.mk.injEq] at he
    obtain ⟨rfl, rfl⟩ := he
    exact wp_exit (hQ a w h)
  | ret =>
    intro ic s s' e a w Q hc h he hQ
    simp only [compC, Option.some.injEq] at hc
    subst hc
    rw [evC_ret] at he
    simp only [Option.some.injEq, Prod.mk.injEq] at he
    obtain ⟨rfl, rfl⟩ := he
    exact wp_ret (hQ a w h)
  | _ =>
    intro ic s s' e a w Q hc
    simp [compC] at hc
end
end Go.Proofs.Ytefjblgmnoheiaa.R
