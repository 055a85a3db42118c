/- The abstract heap in a world; what an operation leaves alone. -/
import Derived.Test.YtefjblgmnoheiaaRRel
import Derived.Below
set_option linter.unusedVariables false
set_option linter.unusedSectionVars false
noncomputable section
namespace Go.Proofs.Ytefjblgmnoheiaa.R
open Go

/-- The cells that may be written. -/
def wrOb (es o : Nat) : Ob → Prop
  | .box _ => True
  | .arr _ _ leak => leak * es ≤ o
  | .arx _ _ => True
def Wr (ρ : Rho) (H : Heap) (b o : Nat) : Prop := ∃ id es ob, lk H id = some ob ∧ ρ id = some (b, es) ∧ wrOb es o ob
/-- With those that others may write. -/
def UU (A : Nat → Nat → Prop) (ρ : Rho) (H : Heap) (b o : Nat) : Prop := A b o ∨ Wr ρ H b o
def unfr (fr : Nat × Nat) (n : Nat) : Prop := ∀ o, o ≤ n → ¬ (fr.1 ≤ o ∧ o < fr.2)
/-- Rows, laid out one behind the other. -/
def ARs (w : World) (U : Nat → Nat → Prop) (es : Nat) : List (List AV) → List Value → Prop
  | [], _ => True
  | r :: rs, C => r.length = es ∧ es ≤ C.length ∧ (VRs w U noRho r (C.take es) ∧ ∀ x ∈ C.take es, oneB x = true) ∧ ARs w U es rs (C.drop es)
/-- Rows that lead to other places. -/
def AXs (w : World) (U : Nat → Nat → Prop) (ρ : Rho) (es : Nat) : List (List AV) → List Value → Prop
  | [], _ => True
  | r :: rs, C => r.length = es ∧ es ≤ C.length ∧ (VRs w U ρ r (C.take es) ∧ ∀ x ∈ C.take es, oneB x = true) ∧ AXs w U ρ es rs (C.drop es)
def ObR (w : World) (U : Nat → Nat → Prop) (ρ : Rho) (b es : Nat) : Ob → Prop
  | .box cells => ∃ C e fr, w.heap[b]? = some (Obj.cells C e fr) ∧ unfr fr C.size ∧ VRs w U ρ cells C.toList
  | .arr es' rows leak => es' = es ∧ 0 < es ∧ ∃ C e fr, w.heap[b]? = some (Obj.cells C e fr) ∧ unfr fr C.size ∧ ARs w U es rows C.toList
  | .arx es' rows => es' = es ∧ 0 < es ∧ ∃ C e fr, w.heap[b]? = some (Obj.cells C e fr) ∧ unfr fr C.size ∧ AXs w U ρ es rows C.toList

structure Rep (A : Nat → Nat → Prop) (ρ : Rho) (H : Heap) (nx : Nat) (w : World) : Prop where
  ob : ∀ id o b es, lk H id = some o → ρ id = some (b, es) → ObR w (UU A ρ H) ρ b es o
  inj : ∀ i j oi oj b ei ej, lk H i = some oi → lk H j = some oj → ρ i = some (b, ei) → ρ j = some (b, ej) → i = j
  ltH : ∀ id o, lk H id = some o → id < nx
  ltR : ∀ id x, ρ id = some x → id < nx
  ltA : ∀ b o, A b o → b < w.heap.size
  apart : ∀ id o b es off, lk H id = some o → ρ id = some (b, es) → ¬ A b off

/-- What an activation leaves alone. -/
structure Fr (ρ : Rho) (H : Heap) (w : World) (ρ' : Rho) (H' : Heap) (w' : World) : Prop where
  size : w.heap.size ≤ w'.heap.size
  os : w'.os = w.os
  tape : w'.tape = w.tape
  output : w'.output = w.output
  cells : ∀ (b : Nat) (C : Array Value) (e : TypeId) (fr : Nat × Nat), w.heap[b]? = some (Obj.cells C e fr) →
    ∃ C', w'.heap[b]? = some (Obj.cells C' e fr) ∧ C'.size = C.size ∧ ∀ o, ¬ Wr ρ H b o → C'[o]? = C[o]?
  other : ∀ (b : Nat) (ob : Obj), w.heap[b]? = some ob → (∀ C e fr, ob ≠ Obj.cells C e fr) → w'.heap[b]? = some ob
  shrink : ∀ b o, b < w.heap.size → Wr ρ' H' b o → Wr ρ H b o

theorem Fr.refl (ρ : Rho) (H : Heap) (w : World) : Fr ρ H w ρ H w :=
  ⟨Nat.le_refl _, rfl, rfl, rfl, fun b C e fr h => ⟨C, h, rfl, fun _ _ => rfl⟩, fun b ob h _ => h, fun _ _ _ h => h⟩
theorem lt_of_heap {w : World} {b : Nat} {o : Obj} (h : w.heap[b]? = some o) : b < w.heap.size := by
  rcases Nat.lt_or_ge b w.heap.size with h' | h'
  · exact h'
  · rw [Array.getElem?_eq_none h'] at h; cases h
theorem Fr.trans {ρ ρ' ρ'' : Rho} {H H' H'' : Heap} {w w' w'' : World} (h : Fr ρ H w ρ' H' w') (h' : Fr ρ' H' w' ρ'' H'' w'') : Fr ρ H w ρ'' H'' w'' where
  size := Nat.le_trans h.size h'.size
  os := h'.os.trans h.os
  tape := h'.tape.trans h.tape
  output := h'.output.trans h.output
  cells b C e fr hb := by
    obtain ⟨C1, h1, s1, k1⟩ := h.cells b C e fr hb
    obtain ⟨C2, h2, s2, k2⟩ := h'.cells b C1 e fr h1
    exact ⟨C2, h2, s2.trans s1, fun o ho => (k2 o (fun hw => ho (h.shrink b o (lt_of_heap hb) hw))).trans (k1 o ho)⟩
  other b ob hb hn := h'.other b ob (h.other b ob hb hn) hn
  shrink b o hb hw := h.shrink b o hb (h'.shrink b o (Nat.lt_of_lt_of_le hb h.size) hw)
/-- The cells that nobody may write stay as they are. -/
theorem Fr.stay {A : Nat → Nat → Prop} {ρ ρ' : Rho} {H H' : Heap} {w w' : World} (h : Fr ρ H w ρ' H' w') : Stay w (UU A ρ H) w' (UU A ρ' H') where
  cell b o v hu hc := by
    have hb : b < w.heap.size := World.block_lt_of_cell? w _ hc
    unfold World.cell? at hc
    cases hob : w.heap[b]? with
    | none => simp [hob] at hc
    | some ob =>
      cases ob with
      | cells C e fr =>
        simp only [hob] at hc
        obtain ⟨C', h1, h2, h3⟩ := h.cells b C e fr hob
        refine ⟨?_, fun hu' => ?_⟩
        · unfold World.cell?
          simp only [h1]
          have := h3 o (fun hw => hu (.inr hw))
          simp only [Option.isSome] at hc ⊢
          rw [this]; exact hc
        · rcases hu' with ha | hw
          · exact hu (.inl ha)
          · exact hu (.inr (h.shrink b o hb hw))
      | _ => simp [hob] at hc
  size b C e fr hb := by
    obtain ⟨C', h1, h2, _⟩ := h.cells b C e fr hb
    exact ⟨C', fr, h1, h2⟩
theorem VR_fr {A : Nat → Nat → Prop} {ρ ρ' : Rho} {H H' : Heap} {w w' : World} (h : Fr ρ H w ρ' H' w') (he : Ext ρ ρ') {a : AV} {x : Value} (hv : VR w (UU A ρ H) ρ a x) : VR w' (UU A ρ' H') ρ' a x :=
  VR_mono h.stay a x ρ ρ' he hv

theorem AXs_mono {w w' : World} {U U' : Nat → Nat → Prop} (hs : Stay w U w' U') {ρ ρ' : Rho} (he : Ext ρ ρ') {es : Nat} : ∀ {rs : List (List AV)} {C : List Value}, AXs w U ρ es rs C → AXs w' U' ρ' es rs C
  | [], _, _ => trivial
  | _ :: _, _, h => ⟨h.1, h.2.1, ⟨VRs_mono hs _ _ _ _ he h.2.2.1.1, h.2.2.1.2⟩, AXs_mono hs he h.2.2.2⟩
theorem ARs_mono {w w' : World} {U U' : Nat → Nat → Prop} (hs : Stay w U w' U') {es : Nat} : ∀ {rs : List (List AV)} {C : List Value}, ARs w U es rs C → ARs w' U' es rs C
  | [], _, _ => by simp [ARs]
  | r :: rs, C, h => by
    simp only [ARs] at h ⊢
    exact ⟨h.1, h.2.1, ⟨VRs_mono hs r _ noRho noRho (Ext.refl _) h.2.2.1.1, h.2.2.1.2⟩, ARs_mono hs h.2.2.2⟩
theorem ARs_get {w : World} {U : Nat → Nat → Prop} {es : Nat} : ∀ {rs : List (List AV)} {C : List Value}, ARs w U es rs C → ∀ {i : Nat} {r : List AV}, rs[i]? = some r → r.length = es ∧ (i + 1) * es ≤ C.length ∧ VRs w U noRho r ((C.drop (i * es)).take es) ∧ ∀ x ∈ (C.drop (i * es)).take es, oneB x = true
  | [], _, h, i, r, hi => by simp at hi
  | r' :: rs, C, h, i, r, hi => by
    simp only [ARs] at h
    cases i with
    | zero => simp at hi; subst hi; refine ⟨h.1, by simpa using h.2.1, ?_⟩; rw [Nat.zero_mul, List.drop_zero]; exact h.2.2.1
    | succ i =>
      simp at hi
      have := ARs_get h.2.2.2 hi
      have hl := h.2.1
      rw [List.length_drop, List.drop_drop] at this
      refine ⟨this.1, ?_, ?_⟩
      · have h2 := this.2.1
        rw [Nat.succ_mul (i + 1)]; omega
      · rw [show (i + 1) * es = es + i * es by rw [Nat.succ_mul]; omega]; exact this.2.2
theorem ARs_mk {w : World} {U : Nat → Nat → Prop} {es : Nat} : ∀ {rs : List (List AV)} {C : List Value}, (∀ i r, rs[i]? = some r → r.length = es ∧ (i + 1) * es ≤ C.length ∧ VRs w U noRho r ((C.drop (i * es)).take es) ∧ ∀ x ∈ (C.drop (i * es)).take es, oneB x = true) → ARs w U es rs C
  | [], _, _ => by simp [ARs]
  | r :: rs, C, h => by
    simp only [ARs]
    have h0 := h 0 r rfl
    simp only [Nat.zero_mul, List.drop_zero, Nat.zero_add, Nat.one_mul] at h0
    refine ⟨h0.1, h0.2.1, h0.2.2, ARs_mk fun i r' hi => ?_⟩
    have := h (i + 1) r' (by simpa using hi)
    rw [List.length_drop, List.drop_drop]
    refine ⟨this.1, ?_, ?_⟩
    · have h2 := this.2.1
      rw [Nat.succ_mul (i + 1)] at h2; omega
    · rw [show es + i * es = (i + 1) * es by rw [Nat.succ_mul]; omega]; exact this.2.2
theorem ARs_len {w : World} {U : Nat → Nat → Prop} {es : Nat} : ∀ {rs : List (List AV)} {C : List Value}, ARs w U es rs C → rs.length * es ≤ C.length
  | [], _, _ => by simp
  | r :: rs, C, h => by
    simp only [ARs] at h
    have h1 := ARs_len h.2.2.2
    rw [List.length_drop] at h1
    have := h.2.1
    simp only [List.length_cons, Nat.succ_mul]; omega

theorem AXs_get {w : World} {U : Nat → Nat → Prop} {ρ : Rho} {es : Nat} : ∀ {rs : List (List AV)} {C : List Value}, AXs w U ρ es rs C → ∀ {i : Nat} {r : List AV}, rs[i]? = some r → r.length = es ∧ (i + 1) * es ≤ C.length ∧ VRs w U ρ r ((C.drop (i * es)).take es) ∧ ∀ x ∈ (C.drop (i * es)).take es, oneB x = true
  | [], _, h, i, r, hi => by simp at hi
  | r' :: rs, C, h, i, r, hi => by
    simp only [AXs] at h
    cases i with
    | zero => simp at hi; subst hi; refine ⟨h.1, by simpa using h.2.1, ?_⟩; rw [Nat.zero_mul, List.drop_zero]; exact h.2.2.1
    | succ i =>
      simp at hi
      have := AXs_get h.2.2.2 hi
      have hl := h.2.1
      rw [List.length_drop, List.drop_drop] at this
      refine ⟨this.1, ?_, ?_⟩
      · have h2 := this.2.1
        rw [Nat.succ_mul (i + 1)]; omega
      · rw [show (i + 1) * es = es + i * es by rw [Nat.succ_mul]; omega]; exact this.2.2
theorem AXs_mk {w : World} {U : Nat → Nat → Prop} {ρ : Rho} {es : Nat} : ∀ {rs : List (List AV)} {C : List Value}, (∀ i r, rs[i]? = some r → r.length = es ∧ (i + 1) * es ≤ C.length ∧ VRs w U ρ r ((C.drop (i * es)).take es) ∧ ∀ x ∈ (C.drop (i * es)).take es, oneB x = true) → AXs w U ρ es rs C
  | [], _, _ => trivial
  | r :: rs, C, h => by
    simp only [AXs]
    have h0 := h 0 r rfl
    simp only [Nat.zero_mul, List.drop_zero, Nat.zero_add, Nat.one_mul] at h0
    refine ⟨h0.1, h0.2.1, h0.2.2, AXs_mk fun i r' hi => ?_⟩
    have := h (i + 1) r' (by simpa using hi)
    rw [List.length_drop, List.drop_drop]
    refine ⟨this.1, ?_, ?_⟩
    · have h2 := this.2.1
      rw [Nat.succ_mul (i + 1)] at h2; omega
    · rw [show es + i * es = (i + 1) * es by rw [Nat.succ_mul]; omega]; exact this.2.2
theorem AXs_of {w : World} {U : Nat → Nat → Prop} (ρ : Rho) {es : Nat} {rs : List (List AV)} {C : List Value} (h : ARs w U es rs C) : AXs w U ρ es rs C :=
  AXs_mk fun i r hi => by
    obtain ⟨h1, h2, h3, h4⟩ := ARs_get h hi
    exact ⟨h1, h2, VRs_mono (Stay.refl w U) _ _ _ _ (fun _ _ h => by cases h) h3, h4⟩

theorem ObR_mono {w w' : World} {U U' : Nat → Nat → Prop} (hs : Stay w U w' U') {ρ ρ' : Rho} (he : Ext ρ ρ') {b es : Nat} {o : Ob} (hb : w'.heap[b]? = w.heap[b]?) (h : ObR w U ρ b es o) : ObR w' U' ρ' b es o := by
  cases o with
  | box cells =>
    obtain ⟨C, e, fr, h1, h2, h3⟩ := h
    exact ⟨C, e, fr, hb.trans h1, h2, VRs_mono hs _ _ ρ ρ' he h3⟩
  | arr es' rows leak =>
    obtain ⟨h0, h0', C, e, fr, h1, h2, h3⟩ := h
    exact ⟨h0, h0', C, e, fr, hb.trans h1, h2, ARs_mono hs h3⟩
  | arx es' rows =>
    obtain ⟨h0, h0', C, e, fr, h1, h2, h3⟩ := h
    exact ⟨h0, h0', C, e, fr, hb.trans h1, h2, AXs_mono hs he h3⟩

/-! ### The heap's list -/
theorem lk_upd {α : Type} : ∀ {l l' : List (Nat × α)} {t : Nat} {x : α}, upd l t x = some l' → ∀ k, lk l' k = if k = t then some x else lk l k
  | [], l', t, x, h, k => by simp at h
  | (k0, v) :: r, l', t, x, h, k => by
    rw [upd_cons] at h
    by_cases ht : k0 = t
    · rw [if_pos ht] at h
      obtain rfl := Option.some.inj h
      subst ht
      rw [lk_cons, lk_cons]
      by_cases hk : k0 = k
      · simp [hk]
      · have : ¬ k = k0 := fun e => hk e.symm
        simp [hk, this]
    · rw [if_neg ht] at h
      cases hu : upd r t x with
      | none => simp [hu] at h
      | some r' =>
        simp only [hu, Option.map_some, Option.some.injEq] at h
        subst h
        rw [lk_cons, lk_cons]
        by_cases hk : k0 = k
        · subst hk
          simp [ht]
        · simp only [hk, if_false]
          exact lk_upd hu k
theorem lk_rmv {α : Type} : ∀ (l : List (Nat × α)) (t k : Nat), lk (rmv l t) k = if k = t then none else lk l k
  | [], t, k => by simp
  | (k0, v) :: r, t, k => by
    rw [rmv_cons]
    by_cases ht : k0 = t
    · rw [if_pos ht, lk_rmv r t k, lk_cons]
      by_cases hk : k = t
      · simp [hk]
      · have : ¬ k0 = k := fun e => hk (e.symm.trans ht)
        simp [hk, this]
    · rw [if_neg ht, lk_cons, lk_rmv r t k, lk_cons]
      by_cases hk0 : k0 = k
      · have : ¬ k = t := fun e => ht (hk0.trans e)
        simp [hk0, this]
      · simp [hk0]
theorem upd_isSome {α : Type} : ∀ {l : List (Nat × α)} {t : Nat} {x y : α}, lk l t = some y → ∃ l', upd l t x = some l'
  | [], t, x, y, h => by simp at h
  | (k0, v) :: r, t, x, y, h => by
    rw [upd_cons]
    rw [lk_cons] at h
    by_cases ht : k0 = t
    · exact ⟨_, by rw [if_pos ht]⟩
    · rw [if_neg ht] at h
      obtain ⟨l', hl⟩ := upd_isSome (x := x) h
      exact ⟨(k0, v) :: l', by rw [if_neg ht, hl]; rfl⟩

/-! ### Cells of blocks -/
theorem cell_of_block {w : World} {b o : Nat} {C : Array Value} {e : TypeId} {fr : Nat × Nat} (h : w.heap[b]? = some (Obj.cells C e fr)) : w.cell? ⟨b, o, none⟩ = C[o]? := by
  unfold World.cell?
  simp [h]
theorem frozen_of_block {w : World} {b o : Nat} {C : Array Value} {e : TypeId} {fr : Nat × Nat} (h : w.heap[b]? = some (Obj.cells C e fr)) (hu : unfr fr C.size) (ho : o ≤ C.size) : w.frozen? ⟨b, o, none⟩ = false := by
  unfold World.frozen?
  simp only [h]
  have := hu o ho
  simp only [Bool.and_eq_false_iff, decide_eq_false_iff_not]
  omega
end Go.Proofs.Ytefjblgmnoheiaa.R
