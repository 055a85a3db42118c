/- What code does, from a state on: rules, one for each kind of code. -/
import Derived.Test.YtefjblgmnoheiaaRRow
set_option linter.unusedVariables false
set_option linter.unusedSectionVars false
set_option linter.unusedSimpArgs false
noncomputable section
namespace Go.Proofs.Ytefjblgmnoheiaa.R
open Go
/-! ### What code was compiled from -/
section
variable {P : Program}
theorem compC_seq {code : Code} {x y : IC} (h : compC P code = some (.seq x y)) : ∃ a b, code = .seq a b ∧ compC P a = some x ∧ compC P b = some y := by
  cases code <;> simp only [compC] at h
  case seq a b =>
    split at h
    · rename_i h1 h2
      simp only [Option.some.injEq, IC.seq.injEq] at h
      obtain ⟨rfl, rfl⟩ := h
      exact ⟨a, b, rfl, h1, h2⟩
    · cases h
  all_goals (repeat' split at h) <;> cases h
theorem compC_cond {code : Code} {x : Opd} {y z : IC} (h : compC P code = some (.cond x y z)) : ∃ o a b, code = .cond o a b ∧ opd o = some x ∧ compC P a = some y ∧ compC P b = some z := by
  cases code <;> simp only [compC] at h
  case cond o a b =>
    split at h
    · rename_i h0 h1 h2
      simp only [Option.some.injEq, IC.cond.injEq] at h
      obtain ⟨rfl, rfl, rfl⟩ := h
      exact ⟨o, a, b, rfl, h0, h1, h2⟩
    · cases h
  all_goals (repeat' split at h) <;> cases h
theorem compC_block {code : Code} {id : Nat} {x : IC} (h : compC P code = some (.block id x)) : ∃ a, code = .block id a ∧ compC P a = some x := by
  cases code <;> simp only [compC] at h
  case block i a =>
    split at h
    · rename_i h1
      simp only [Option.some.injEq, IC.block.injEq] at h
      obtain ⟨rfl, rfl⟩ := h
      exact ⟨a, rfl, h1⟩
    · cases h
  all_goals (repeat' split at h) <;> cases h
theorem compC_loop {code : Code} {x : IC} (h : compC P code = some (.loop x)) : ∃ a, code = .loop a ∧ compC P a = some x := by
  cases code <;> simp only [compC] at h
  case loop a =>
    split at h
    · rename_i h1
      simp only [Option.some.injEq, IC.loop.injEq] at h
      obtain rfl := h
      exact ⟨a, rfl, h1⟩
    · cases h
  all_goals (repeat' split at h) <;> cases h
theorem compC_out {code : Code} {id : Nat} (h : compC P code = some (.out id)) : code = .exit id := by
  cases code <;> simp only [compC] at h
  case exit i => simp only [Option.some.injEq, IC.out.injEq] at h; subst h; rfl
  all_goals (repeat' split at h) <;> cases h
theorem compC_ret {code : Code} (h : compC P code = some .ret) : code = .ret := by
  cases code <;> simp only [compC] at h
  case ret => rfl
  all_goals (repeat' split at h) <;> cases h
theorem compC_skip {code : Code} (h : compC P code = some .skip) : code = .skip ∨ ∃ l, code = .label l := by
  cases code <;> simp only [compC] at h
  case skip => exact .inl rfl
  case label l => exact .inr ⟨l, rfl⟩
  all_goals (repeat' split at h) <;> cases h
theorem compC_reg {code : Code} {k : Option (List (Nat × Nat))} {l : List Iop} (h : compC P code = some (.reg k l)) : ∃ id ops draw, code = .region id ops draw ∧ compOps P ops.toList ops.toList = some l ∧ ((draw = false ∧ k = none) ∨ (draw = true ∧ ∃ q, k = some q ∧ drawGo l ops.toList l [] = some q)) := by
  cases code <;> simp only [compC] at h
  case region id ops draw =>
    split at h
    · rename_i l' h1
      split at h
      · rename_i hd
        split at h
        · rename_i q hq
          simp only [Option.some.injEq, IC.reg.injEq] at h
          obtain ⟨rfl, rfl⟩ := h
          exact ⟨id, ops, draw, rfl, h1, .inr ⟨hd, q, rfl, hq⟩⟩
        · cases h
      · rename_i hd
        simp only [Option.some.injEq, IC.reg.injEq] at h
        obtain ⟨rfl, rfl⟩ := h
        exact ⟨id, ops, draw, rfl, h1, .inl ⟨by simpa using hd, rfl⟩⟩
    · cases h
  all_goals (repeat' split at h) <;> cases h
end

/-! ### Code -/
/-- Whatever the program does from a state on that s tells, it ends as Q tells. -/
def Wp (P : Program) (nt m : Nat) (ic : IC) (s : St) (Q : Ex → St → Prop) : Prop :=
  ∀ (code : Code), compC P code = some ic → ∀ (A : Nat → Nat → Prop) (E : Entry) (a : Act) (w : World), E.m = m → (∀ i x, E.ρ i = some x → i < E.m) → SR A E nt s a w →
    ∀ K : Exit → Act → World → Prop, (∀ e s' a' w', Q e s' → SR A E nt s' a' w' → K (exOf e) a' w') → code.wp P K a w
/-- Rounds of a loop that has begun. -/
def LoopIn (P : Program) (c : Code) (K : Exit → Act → World → Prop) (a : Act) (w : World) : Prop :=
  ∀ b k cs, ∃ e a' w', K e a' w' ∧ Arrives P (lone (b.at a (.code c :: .inLoop c :: k)) cs w) b k cs e a' w'
theorem LoopIn.step {P : Program} {c : Code} {K : Exit → Act → World → Prop} {a : Act} {w : World} (h : c.wp P (Exit.then (LoopIn P c K) K) a w) : LoopIn P c K a w := by
  intro b k cs
  obtain ⟨e, a₁, w₁, hq, harr⟩ := h b (.inLoop c :: k) cs
  cases e with
  | normal =>
    obtain ⟨e₂, a₂, w₂, hq₂, harr₂⟩ := hq b k cs
    exact ⟨e₂, a₂, w₂, hq₂, .of_steps (Steps.trans harr (.one step_inLoop)) harr₂⟩
  | exit id => exact ⟨_, a₁, w₁, hq, .pass (x := .inLoop c) rfl (fun _ _ => .inl (by simp)) harr⟩
  | goto l => exact ⟨_, a₁, w₁, hq, .pass (x := .inLoop c) rfl (fun _ _ => .inl (by simp)) harr⟩
  | ret => exact ⟨_, a₁, w₁, hq, .pass (x := .inLoop c) rfl (fun _ _ => .inl (by simp)) harr⟩
  | panic ch => exact ⟨_, a₁, w₁, hq, .pass (x := .inLoop c) rfl (fun _ _ => .inl (by simp)) harr⟩
  | outgrown => exact ⟨_, a₁, w₁, hq, .pass (x := .inLoop c) rfl (fun _ _ => .inl (by simp)) harr⟩
theorem LoopIn.wp {P : Program} {c : Code} {K : Exit → Act → World → Prop} {a : Act} {w : World} (h : LoopIn P c K a w) : (Code.loop c).wp P K a w := by
  intro b k cs
  obtain ⟨e, a', w', hq, harr⟩ := h b k cs
  exact ⟨e, a', w', hq, .of_steps (.one step_loop) harr⟩
def LWp (P : Program) (nt m : Nat) (b : IC) (s : St) (Q : Ex → St → Prop) : Prop :=
  ∀ (c : Code), compC P c = some b → ∀ (A : Nat → Nat → Prop) (E : Entry) (a : Act) (w : World), E.m = m → (∀ i x, E.ρ i = some x → i < E.m) → SR A E nt s a w →
    ∀ K : Exit → Act → World → Prop, (∀ e s' a' w', Q e s' → SR A E nt s' a' w' → K (exOf e) a' w') → LoopIn P c K a w

def seqQ (P : Program) (nt m : Nat) (b : IC) (Q : Ex → St → Prop) : Ex → St → Prop
  | .norm, s => Wp P nt m b s Q
  | e, s => Q e s
def loopQ (P : Program) (nt m : Nat) (b : IC) (Q : Ex → St → Prop) : Ex → St → Prop
  | .norm, s => LWp P nt m b s Q
  | e, s => Q e s
def blockQ (id : Nat) (Q : Ex → St → Prop) : Ex → St → Prop
  | .out j, s => if j = id then Q .norm s else Q (.out j) s
  | e, s => Q e s
/-- A state tells no more than another one. -/
def Weak (m : Nat) (s s' : St) : Prop :=
  ∀ (nt : Nat) (A : Nat → Nat → Prop) (E : Entry) (a : Act) (w : World), E.m = m → (∀ i x, E.ρ i = some x → i < E.m) → SR A E nt s a w → SR A E nt s' a w
theorem Weak.refl (m : Nat) (s : St) : Weak m s s := fun _ _ _ _ _ _ _ h => h
theorem Weak.trans {m : Nat} {s s' s'' : St} (h : Weak m s s') (h' : Weak m s' s'') : Weak m s s'' := fun nt A E a w hm hE hs => h' nt A E a w hm hE (h nt A E a w hm hE hs)
section
variable {P : Program} {nt m : Nat} {s s' s1 : St} {Q : Ex → St → Prop}
theorem Wp.seq {a b : IC} (h : Wp P nt m a s (seqQ P nt m b Q)) : Wp P nt m (.seq a b) s Q := by
  intro code hc A E act w hm hE hs K hK
  obtain ⟨x, y, rfl, h1, h2⟩ := compC_seq hc
  refine wp_seq (h x h1 A E act w hm hE hs _ ?_)
  intro e s' a' w' hq hs'
  cases e with
  | norm => exact hq y h2 A E a' w' hm hE hs' K hK
  | out id => exact hK _ _ a' w' hq hs'
  | ret => exact hK _ _ a' w' hq hs'
theorem Wp.block {id : Nat} {b : IC} (h : Wp P nt m b s (blockQ id Q)) : Wp P nt m (.block id b) s Q := by
  intro code hc A E act w hm hE hs K hK
  obtain ⟨x, rfl, h1⟩ := compC_block hc
  refine wp_block (h x h1 A E act w hm hE hs _ ?_)
  intro e s' a' w' hq hs'
  cases e with
  | norm => exact hK _ _ a' w' hq hs'
  | out j =>
    simp only [exOf, Exit.inBlock]
    simp only [blockQ] at hq
    split at hq
    · rename_i hj
      rw [if_pos hj]
      exact hK _ _ a' w' hq hs'
    · rename_i hj
      rw [if_neg hj]
      exact hK _ _ a' w' hq hs'
  | ret => exact hK _ _ a' w' hq hs'
theorem Wp.loop {b : IC} (h : LWp P nt m b s Q) : Wp P nt m (.loop b) s Q := by
  intro code hc A E act w hm hE hs K hK
  obtain ⟨x, rfl, h1⟩ := compC_loop hc
  exact (h x h1 A E act w hm hE hs K hK).wp
theorem LWp.step {b : IC} (h : Wp P nt m b s (loopQ P nt m b Q)) : LWp P nt m b s Q := by
  intro c hc A E act w hm hE hs K hK
  refine LoopIn.step (h c hc A E act w hm hE hs _ ?_)
  intro e s' a' w' hq hs'
  cases e with
  | norm => exact hq c hc A E a' w' hm hE hs' K hK
  | out id => exact hK _ _ a' w' hq hs'
  | ret => exact hK _ _ a' w' hq hs'
theorem Wp.condT {x : Opd} {a b : IC} (hx : s.ev x = .bool true) (h : Wp P nt m a s Q) : Wp P nt m (.cond x a b) s Q := by
  intro code hc A E act w hm hE hs K hK
  obtain ⟨o, y, z, rfl, h0, h1, h2⟩ := compC_cond hc
  obtain ⟨ρ, hr, hv, _⟩ := hs.ex
  have hxv := VR_opd hv h0
  rw [hx] at hxv
  simp only [VR] at hxv
  exact wp_cond_true hxv (h y h1 A E act w hm hE hs K hK)
theorem Wp.condF {x : Opd} {a b : IC} (hx : s.ev x = .bool false) (h : Wp P nt m b s Q) : Wp P nt m (.cond x a b) s Q := by
  intro code hc A E act w hm hE hs K hK
  obtain ⟨o, y, z, rfl, h0, h1, h2⟩ := compC_cond hc
  obtain ⟨ρ, hr, hv, _⟩ := hs.ex
  have hxv := VR_opd hv h0
  rw [hx] at hxv
  simp only [VR] at hxv
  exact wp_cond_false hxv (h z h2 A E act w hm hE hs K hK)
theorem Wp.skip (h : Q .norm s) : Wp P nt m .skip s Q := by
  intro code hc A E act w hm hE hs K hK
  rcases compC_skip hc with rfl | ⟨l, rfl⟩
  · exact wp_skip (hK _ _ act w h hs)
  · exact wp_label (hK _ _ act w h hs)
theorem Wp.out {id : Nat} (h : Q (.out id) s) : Wp P nt m (.out id) s Q := by
  intro code hc A E act w hm hE hs K hK
  obtain rfl := compC_out hc
  exact wp_exit (hK _ _ act w h hs)
theorem Wp.ret (h : Q .ret s) : Wp P nt m .ret s Q := by
  intro code hc A E act w hm hE hs K hK
  obtain rfl := compC_ret hc
  exact wp_ret (hK _ _ act w h hs)
theorem Wp.weak {ic : IC} (hw : Weak m s s') (h : Wp P nt m ic s' Q) : Wp P nt m ic s Q :=
  fun code hc A E act w hm hE hs K hK => h code hc A E act w hm hE (hw nt A E act w hm hE hs) K hK
theorem LWp.weak {ic : IC} (hw : Weak m s s') (h : LWp P nt m ic s' Q) : LWp P nt m ic s Q :=
  fun code hc A E act w hm hE hs K hK => h code hc A E act w hm hE (hw nt A E act w hm hE hs) K hK
end
/-! ### Regions -/
/-- A state behind a region. -/
def St.clr (s : St) : St := ⟨s.env, [], s.H, s.nx⟩
def OpsW (P : Program) (nt m : Nat) (l : List Iop) (s : St) (Q : St → Prop) : Prop :=
  ∀ (all : Array Oper) (ops : List Oper), compOps P all.toList ops = some l → ∀ (A : Nat → Nat → Prop) (E : Entry) (a : Act) (w : World), E.m = m → (∀ i x, E.ρ i = some x → i < E.m) → SR A E nt s a w →
    ∀ K : Exit → Act → World → Prop, (∀ s' a' w', Q s' → SR A E nt s' a' w' → K .normal a' w') → wpList P all K ops a w
section
variable {P : Program} {nt m : Nat} {s s1 : St} {Q : Ex → St → Prop} {T : St → Prop} {c : Cfg} {cl : Callee}
theorem OpsW.nil (h : T s) : OpsW P nt m [] s T := by
  intro all ops hc A E a w hm hE hs K hK
  cases ops with
  | nil => exact hK _ _ _ h hs
  | cons o r =>
    simp only [compOps] at hc
    split at hc <;> cases hc
theorem OpsW.one {o : Iop} {l : List Iop} (hcl : Sound P cl) (h1 : evIO c cl nt o s = some s1) (h : OpsW P nt m l s1 T) : OpsW P nt m (o :: l) s T := by
  intro all ops hc A E a w hm hE hs K hK
  cases ops with
  | nil => simp [compOps] at hc
  | cons p r =>
    simp only [compOps] at hc
    split at hc
    · rename_i io rr h2 h3
      simp only [Option.some.injEq, List.cons.injEq] at hc
      obtain ⟨rfl, rfl⟩ := hc
      refine wpList_step fun K' hK' => ?_
      exact snd_io hcl hs h2 h1 fun a' w' hs' => hK' a' w' (h all r h3 A E a' w' hm hE hs' K hK)
    · cases hc
theorem OpsW.chunk (hcl : Sound P cl) : ∀ {l1 l2 : List Iop} {s s1 : St}, evOps c cl nt l1 s = some s1 → OpsW P nt m l2 s1 T → OpsW P nt m (l1 ++ l2) s T
  | [], l2, s, s1, h, h2 => by
    rw [evOps_nil] at h
    obtain rfl := Option.some.inj h
    exact h2
  | o :: l1, l2, s, s1, h, h2 => by
    rw [evOps_cons] at h
    cases h3 : evIO c cl nt o s with
    | none => rw [h3, andThen_none] at h; cases h
    | some s2 =>
      rw [h3, andThen_some] at h
      exact OpsW.one hcl h3 (OpsW.chunk hcl h h2)
theorem OpsW.end (hcl : Sound P cl) {l : List Iop} (h : evOps c cl nt l s = some s1) (h2 : T s1) : OpsW P nt m l s T := by
  have := OpsW.chunk (l2 := []) hcl h (OpsW.nil (P := P) (nt := nt) (m := m) h2)
  rwa [List.append_nil] at this
theorem OpsW.weak {l : List Iop} {s' : St} (hw : Weak m s s') (h : OpsW P nt m l s' T) : OpsW P nt m l s T :=
  fun all ops hc A E a w hm hE hs K hK => h all ops hc A E a w hm hE (hw nt A E a w hm hE hs) K hK
theorem Wp.reg {l : List Iop} (h : OpsW P nt m l s (fun s' => Q .norm s'.clr)) : Wp P nt m (.reg none l) s Q := by
  intro code hc A E a w hm hE hs K hK
  obtain ⟨id, ops, draw, rfl, h1, h2⟩ := compC_reg hc
  rcases h2 with ⟨rfl, _⟩ | ⟨_, q, h3, _⟩
  · exact wp_region_list (h ops ops.toList h1 A E a w hm hE hs K fun s' a' w' hq hs' => hK .norm _ a' w' hq (evOps_loc (s1 := s') hs'))
  · cases h3
theorem Wp.regf {l : List Iop} {k : List (Nat × Nat)} (hP : P.follows .mixedOrders = true) {c : Cfg} (hcP : c.P = P) {cl : Nat → Callee} (hcl : ∀ i, Sound P (cl i)) (h : drawF c cl nt k l s = some s1) (h2 : Q .norm s1.clr) : Wp P nt m (.reg (some k) l) s Q := by
  intro code hc A E a w hm hE hs K hK
  subst hcP
  obtain ⟨id, ops, draw, rfl, h1, h3⟩ := compC_reg hc
  rcases h3 with ⟨_, h4⟩ | ⟨rfl, q, h4, h5⟩
  · cases h4
  · obtain rfl := Option.some.inj h4
    exact drawFOk hP hcl h1 h5 hs h fun a' w' hs' => hK .norm _ a' w' h2 (evOps_loc (s1 := s1) hs')
end
end Go.Proofs.Ytefjblgmnoheiaa.R
