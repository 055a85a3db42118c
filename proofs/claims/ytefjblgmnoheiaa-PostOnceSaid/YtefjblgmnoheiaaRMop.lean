/- Events of memory: a new block, a written one, less that may be written. -/
import Derived.Test.YtefjblgmnoheiaaROpv
import Derived.Laws.IdiomCopy
set_option linter.unusedVariables false
set_option linter.unusedSectionVars false
set_option linter.unusedSimpArgs false
noncomputable section
namespace Go.Proofs.Ytefjblgmnoheiaa.R
open Go
theorem push_get (w : World) (o : Obj) (k : Nat) : (w.heap.push o)[k]? = if k = w.heap.size then some o else w.heap[k]? := Array.getElem?_push
theorem Stay.less {w : World} {U U' : Nat → Nat → Prop} (h : ∀ b o, U' b o → U b o) : Stay w U w U' :=
  ⟨fun b o v hu hc => ⟨hc, fun hu' => hu (h b o hu')⟩, fun b C e fr hb => ⟨C, fr, hb, rfl⟩⟩
section
variable {A : Nat → Nat → Prop} {ρ : Rho} {H H' : Heap} {nx : Nat} {w : World}

/-! ### Less -/
theorem Wr_sub (h : ∀ k o, lk H' k = some o → lk H k = some o) {b o : Nat} (hw : Wr ρ H' b o) : Wr ρ H b o := by
  obtain ⟨id, es, ob, h1, h2, h3⟩ := hw
  exact ⟨id, es, ob, h _ _ h1, h2, h3⟩
theorem Fr_less (h : ∀ b o, Wr ρ H' b o → Wr ρ H b o) : Fr ρ H w ρ H' w :=
  { Fr.refl ρ H w with shrink := fun b o _ hw => h b o hw }
theorem Rep_sub (hr : Rep A ρ H nx w) (h : ∀ k o, lk H' k = some o → lk H k = some o) : Rep A ρ H' nx w where
  ob id o b es h1 h2 := ObR_mono (Stay.less fun b o hu => hu.imp_right (Wr_sub h)) (Ext.refl _) rfl (hr.ob id o b es (h _ _ h1) h2)
  inj i j oi oj b ei ej h1 h2 := hr.inj i j oi oj b ei ej (h _ _ h1) (h _ _ h2)
  ltH id o h1 := hr.ltH id o (h _ _ h1)
  ltR := hr.ltR
  ltA := hr.ltA
  apart id o b es off h1 := hr.apart id o b es off (h _ _ h1)
theorem lk_leakAt (id n : Nat) : ∀ (H : Heap) (k : Nat), lk (leakAt H id n) k = (lk H k).map fun o => if k = id then leakOb n o else o
  | [], k => by simp [leakAt]
  | (k0, o) :: r, k => by
    have ih := lk_leakAt id n r k
    unfold leakAt at ih ⊢
    simp only [List.map_cons]
    by_cases h0 : k0 = id
    · subst h0
      simp only [if_true, lk_cons]
      by_cases hk : k0 = k
      · subst hk; simp
      · simp only [hk, if_false]; exact ih
    · simp only [h0, if_false, lk_cons]
      by_cases hk : k0 = k
      · subst hk; simp [h0]
      · simp only [hk, if_false]; exact ih
theorem wrOb_leak {es o n : Nat} {ob : Ob} (h : wrOb es o (leakOb n ob)) : wrOb es o ob := by
  cases ob with
  | box cells => trivial
  | arr es' rows leak =>
    simp only [leakOb, wrOb] at h ⊢
    exact Nat.le_trans (Nat.mul_le_mul_right _ (Nat.le_max_left _ _)) h
  | arx es' rows => trivial
/-- The heap with more that may not be written any more: objects are as they were. -/
structure Leaked (H H' : Heap) : Prop where
  get : ∀ k o, lk H k = some o → ∃ n, lk H' k = some (leakOb n o)
  back : ∀ k o', lk H' k = some o' → ∃ o n, lk H k = some o ∧ o' = leakOb n o
theorem leakOb_zero (o : Ob) : leakOb 0 o = o := by cases o <;> simp [leakOb]
theorem leakOb_leakOb (n m : Nat) (o : Ob) : leakOb m (leakOb n o) = leakOb (max n m) o := by cases o <;> simp [leakOb, Nat.max_assoc]
theorem Leaked.refl (H : Heap) : Leaked H H := ⟨fun k o h => ⟨0, by rw [leakOb_zero]; exact h⟩, fun k o h => ⟨o, 0, h, (leakOb_zero o).symm⟩⟩
theorem Leaked.trans {H H' H'' : Heap} (h : Leaked H H') (h' : Leaked H' H'') : Leaked H H'' where
  get k o hk := by
    obtain ⟨n, h1⟩ := h.get k o hk
    obtain ⟨m, h2⟩ := h'.get k _ h1
    exact ⟨max n m, by rw [h2, leakOb_leakOb]⟩
  back k o'' hk := by
    obtain ⟨o', m, h1, rfl⟩ := h'.back k o'' hk
    obtain ⟨o, n, h2, rfl⟩ := h.back k o' h1
    exact ⟨o, max n m, h2, leakOb_leakOb n m o⟩
theorem Leaked.at (H : Heap) (id n : Nat) : Leaked H (leakAt H id n) where
  get k o hk := by
    rw [lk_leakAt, hk]
    by_cases h : k = id
    · exact ⟨n, by simp [h]⟩
    · exact ⟨0, by simp [h, leakOb_zero]⟩
  back k o' hk := by
    rw [lk_leakAt] at hk
    cases h : lk H k with
    | none => simp [h] at hk
    | some o =>
      simp only [h, Option.map_some, Option.some.injEq] at hk
      subst hk
      by_cases h' : k = id
      · exact ⟨o, n, rfl, by simp [h']⟩
      · exact ⟨o, 0, rfl, by simp [h', leakOb_zero]⟩
theorem Wr_leak (hl : Leaked H H') {b o : Nat} (hw : Wr ρ H' b o) : Wr ρ H b o := by
  obtain ⟨id, es, ob, h1, h2, h3⟩ := hw
  obtain ⟨o', n, h4, rfl⟩ := hl.back _ _ h1
  exact ⟨id, es, o', h4, h2, wrOb_leak h3⟩
theorem ObR_leak {U : Nat → Nat → Prop} {b es n : Nat} {o : Ob} (h : ObR w U ρ b es o) : ObR w U ρ b es (leakOb n o) := by
  cases o with
  | box cells => exact h
  | arr es' rows leak => exact h
  | arx es' rows => exact h
theorem Rep_leak (hr : Rep A ρ H nx w) (hl : Leaked H H') : Rep A ρ H' nx w where
  ob id o b es h1 h2 := by
    obtain ⟨o', n, h3, rfl⟩ := hl.back _ _ h1
    exact ObR_leak (ObR_mono (Stay.less fun b o hu => hu.imp_right (Wr_leak hl)) (Ext.refl _) rfl (hr.ob id o' b es h3 h2))
  inj i j oi oj b ei ej h1 h2 := by
    obtain ⟨o1, _, h3, _⟩ := hl.back _ _ h1
    obtain ⟨o2, _, h4, _⟩ := hl.back _ _ h2
    exact hr.inj i j o1 o2 b ei ej h3 h4
  ltH id o h1 := by
    obtain ⟨o', n, h3, rfl⟩ := hl.back _ _ h1
    exact hr.ltH id o' h3
  ltR := hr.ltR
  ltA := hr.ltA
  apart id o b es off h1 := by
    obtain ⟨o', n, h3, rfl⟩ := hl.back _ _ h1
    exact hr.apart id o' b es off h3

/-! ### A new block -/
def putRho (ρ : Rho) (id : Nat) (x : Nat × Nat) : Rho := fun k => if k = id then some x else ρ k
theorem putRho_new (ρ : Rho) (id : Nat) (x : Nat × Nat) : putRho ρ id x id = some x := by simp [putRho]
theorem putRho_old {ρ : Rho} {id k : Nat} {x : Nat × Nat} (h : k ≠ id) : putRho ρ id x k = ρ k := by simp [putRho, h]
theorem Rep.ext (hr : Rep A ρ H nx w) (x : Nat × Nat) : Ext ρ (putRho ρ nx x) := by
  intro id y hy
  have := hr.ltR id y hy
  rw [putRho_old (by omega)]; exact hy
/-- The world with a new block. -/
def pushW (w : World) (o : Obj) : World := { w with heap := w.heap.push o }
theorem lk_new {ob : Ob} {k : Nat} {o : Ob} (h : lk ((nx, ob) :: H) k = some o) : (k = nx ∧ o = ob) ∨ (k ≠ nx ∧ lk H k = some o) := by
  rw [lk_cons] at h
  by_cases hk : nx = k
  · rw [if_pos hk] at h; exact .inl ⟨hk.symm, (Option.some.inj h).symm⟩
  · rw [if_neg hk] at h; exact .inr ⟨fun e => hk e.symm, h⟩
theorem Fr_new (hr : Rep A ρ H nx w) (ob : Ob) (C : Array Value) (e : TypeId) (fr : Nat × Nat) (es : Nat) :
    Fr ρ H w (putRho ρ nx (w.heap.size, es)) ((nx, ob) :: H) (pushW w (.cells C e fr)) where
  size := by simp [pushW]
  os := rfl
  tape := rfl
  output := rfl
  cells b C' e' fr' hb := ⟨C', by simp only [pushW, push_get]; rw [if_neg (by have := lt_of_heap hb; omega)]; exact hb, rfl, fun _ _ => rfl⟩
  other b o hb _ := by simp only [pushW, push_get]; rw [if_neg (by have := lt_of_heap hb; omega)]; exact hb
  shrink b o hb hw := by
    obtain ⟨id, es', ob', h1, h2, h3⟩ := hw
    rcases lk_new h1 with ⟨rfl, rfl⟩ | ⟨h4, h5⟩
    · rw [putRho_new] at h2
      simp only [Option.some.injEq, Prod.mk.injEq] at h2
      omega
    · rw [putRho_old h4] at h2
      exact ⟨id, es', ob', h5, h2, h3⟩
theorem Rep_new (hr : Rep A ρ H nx w) {ob : Ob} {C : Array Value} {e : TypeId} {fr : Nat × Nat} {es : Nat}
    (ho : ObR (pushW w (.cells C e fr)) (UU A (putRho ρ nx (w.heap.size, es)) ((nx, ob) :: H)) (putRho ρ nx (w.heap.size, es)) w.heap.size es ob) :
    Rep A (putRho ρ nx (w.heap.size, es)) ((nx, ob) :: H) (nx + 1) (pushW w (.cells C e fr)) where
  ob id o b es' h1 h2 := by
    rcases lk_new h1 with ⟨rfl, rfl⟩ | ⟨h4, h5⟩
    · rw [putRho_new] at h2
      simp only [Option.some.injEq, Prod.mk.injEq] at h2
      obtain ⟨rfl, rfl⟩ := h2
      exact ho
    · rw [putRho_old h4] at h2
      have h6 := hr.ob id o b es' h5 h2
      refine ObR_mono (Fr_new hr ob C e fr es).stay (hr.ext _) ?_ h6
      have hlt : b < w.heap.size := by
        cases o with
        | box cells => obtain ⟨C, e, fr, h7, _⟩ := h6; exact lt_of_heap h7
        | arr es' rows leak => obtain ⟨_, _, C, e, fr, h7, _⟩ := h6; exact lt_of_heap h7
        | arx es' rows => obtain ⟨_, _, C, e, fr, h7, _⟩ := h6; exact lt_of_heap h7
      simp only [pushW, push_get]
      rw [if_neg (by omega)]
  inj i j oi oj b ei ej h1 h2 h3 h4 := by
    have old : ∀ k ok eb, lk H k = some ok → ρ k = some (b, eb) → b < w.heap.size := by
      intro k ok eb hk hρ
      have h6 := hr.ob k ok b eb hk hρ
      cases ok with
      | box cells => obtain ⟨C, e, fr, h7, _⟩ := h6; exact lt_of_heap h7
      | arr es' rows leak => obtain ⟨_, _, C, e, fr, h7, _⟩ := h6; exact lt_of_heap h7
      | arx es' rows => obtain ⟨_, _, C, e, fr, h7, _⟩ := h6; exact lt_of_heap h7
    rcases lk_new h1 with ⟨rfl, rfl⟩ | ⟨h5, h6⟩ <;> rcases lk_new h2 with ⟨rfl, rfl⟩ | ⟨h7, h8⟩
    · rfl
    · rw [putRho_new] at h3
      rw [putRho_old h7] at h4
      simp only [Option.some.injEq, Prod.mk.injEq] at h3
      have := old j oj ej h8 h4
      omega
    · rw [putRho_new] at h4
      rw [putRho_old h5] at h3
      simp only [Option.some.injEq, Prod.mk.injEq] at h4
      have := old i oi ei h6 h3
      omega
    · rw [putRho_old h5] at h3
      rw [putRho_old h7] at h4
      exact hr.inj i j oi oj b ei ej h6 h8 h3 h4
  ltH id o h1 := by
    rcases lk_new h1 with ⟨rfl, rfl⟩ | ⟨h5, h6⟩
    · omega
    · have := hr.ltH id o h6; omega
  ltR id x h1 := by
    by_cases h : id = nx
    · omega
    · rw [putRho_old h] at h1
      have := hr.ltR id x h1; omega
  ltA b o h := by have := hr.ltA b o h; simp [pushW]; omega
  apart id o b es' off h1 h2 := by
    rcases lk_new h1 with ⟨rfl, rfl⟩ | ⟨h5, h6⟩
    · rw [putRho_new] at h2
      simp only [Option.some.injEq, Prod.mk.injEq] at h2
      intro ha
      have := hr.ltA b off ha
      omega
    · rw [putRho_old h5] at h2
      exact hr.apart id o b es' off h6 h2
/-- A new place that has no block: an array without elements. -/
theorem Rep_none (hr : Rep A ρ H nx w) (ob : Ob) : Rep A ρ ((nx, ob) :: H) (nx + 1) w ∧ Fr ρ H w ρ ((nx, ob) :: H) w := by
  have hn : ρ nx = none := by
    cases h : ρ nx with
    | none => rfl
    | some x => have := hr.ltR nx x h; omega
  have hw : ∀ b o, Wr ρ ((nx, ob) :: H) b o → Wr ρ H b o := by
    rintro b o ⟨id, es, o', h1, h2, h3⟩
    rcases lk_new h1 with ⟨rfl, rfl⟩ | ⟨h5, h6⟩
    · rw [hn] at h2; cases h2
    · exact ⟨id, es, o', h6, h2, h3⟩
  have old : ∀ k o x, lk ((nx, ob) :: H) k = some o → ρ k = some x → lk H k = some o := by
    intro k o x h1 h2
    rcases lk_new h1 with ⟨rfl, rfl⟩ | ⟨h5, h6⟩
    · rw [hn] at h2; cases h2
    · exact h6
  refine ⟨?_, Fr_less hw⟩
  exact
    { ob := fun id o b es h1 h2 => ObR_mono (Stay.less fun b o hu => hu.imp_right (hw b o)) (Ext.refl _) rfl (hr.ob id o b es (old _ _ _ h1 h2) h2)
      inj := fun i j oi oj b ei ej h1 h2 h3 h4 => hr.inj i j oi oj b ei ej (old _ _ _ h1 h3) (old _ _ _ h2 h4) h3 h4
      ltH := fun id o h1 => by
        rcases lk_new h1 with ⟨rfl, rfl⟩ | ⟨h5, h6⟩
        · omega
        · have := hr.ltH id o h6; omega
      ltR := fun id x h1 => by have := hr.ltR id x h1; omega
      ltA := hr.ltA
      apart := fun id o b es off h1 h2 => hr.apart id o b es off (old _ _ _ h1 h2) h2 }

/-! ### A written block -/
theorem blk_update (hr : Rep A ρ H nx w) {id b es : Nat} {ob ob' : Ob} (hid : lk H id = some ob) (hρ : ρ id = some (b, es)) {C C' : Array Value} {e : TypeId} {fr : Nat × Nat} (hb : w.heap[b]? = some (Obj.cells C e fr))
    {w' : World} (h1 : w'.heap[b]? = some (Obj.cells C' e fr)) (h2 : ∀ k, k ≠ b → w'.heap[k]? = w.heap[k]?) (hsz : w'.heap.size = w.heap.size) (ho : w'.os = w.os) (ht : w'.tape = w.tape) (hout : w'.output = w.output)
    (hs : C'.size = C.size) (hch : ∀ o, ¬ wrOb es o ob → C'[o]? = C[o]?) (hH : ∀ k, lk H' k = if k = id then some ob' else lk H k) (hwr : ∀ o, wrOb es o ob' → wrOb es o ob) :
    Fr ρ H w ρ H' w' ∧ (ObR w' (UU A ρ H') ρ b es ob' → Rep A ρ H' nx w') := by
  have hw : ∀ b o, Wr ρ H' b o → Wr ρ H b o := by
    rintro b' o ⟨id', es', o', g1, g2, g3⟩
    rw [hH] at g1
    by_cases hi : id' = id
    · subst hi
      rw [if_pos rfl] at g1
      obtain rfl := Option.some.inj g1
      rw [hρ] at g2
      simp only [Option.some.injEq, Prod.mk.injEq] at g2
      obtain ⟨rfl, rfl⟩ := g2
      exact ⟨id', es, ob, hid, hρ, hwr o g3⟩
    · rw [if_neg hi] at g1
      exact ⟨id', es', o', g1, g2, g3⟩
  have hfr : Fr ρ H w ρ H' w' :=
    { size := by omega
      os := ho
      tape := ht
      output := hout
      cells := fun k D e' fr' hk => by
        by_cases hkb : k = b
        · subst hkb
          rw [hb] at hk
          simp only [Option.some.injEq, Obj.cells.injEq] at hk
          obtain ⟨rfl, rfl, rfl⟩ := hk
          exact ⟨C', h1, hs, fun o hn => hch o fun hwo => hn ⟨id, es, ob, hid, hρ, hwo⟩⟩
        · exact ⟨D, by rw [h2 k hkb]; exact hk, rfl, fun _ _ => rfl⟩
      other := fun k o hk hn => by
        by_cases hkb : k = b
        · subst hkb
          rw [hb] at hk
          exact absurd (Option.some.inj hk).symm (hn _ _ _)
        · rw [h2 k hkb]; exact hk
      shrink := fun b o _ h => hw b o h }
  refine ⟨hfr, fun hobr => ?_⟩
  exact
    { ob := fun i o b' es' g1 g2 => by
        rw [hH] at g1
        by_cases hi : i = id
        · subst hi
          rw [if_pos rfl] at g1
          obtain rfl := Option.some.inj g1
          rw [hρ] at g2
          simp only [Option.some.injEq, Prod.mk.injEq] at g2
          obtain ⟨rfl, rfl⟩ := g2
          exact hobr
        · rw [if_neg hi] at g1
          refine ObR_mono hfr.stay (Ext.refl _) (h2 b' fun hbb => ?_) (hr.ob i o b' es' g1 g2)
          subst hbb
          exact hi (hr.inj i id o ob b' es' es g1 hid g2 hρ)
      inj := fun i j oi oj b' ei ej g1 g2 g3 g4 => by
        have old : ∀ k o, lk H' k = some o → ∃ o', lk H k = some o' := by
          intro k o hk
          rw [hH] at hk
          by_cases hi : k = id
          · subst hi; exact ⟨ob, hid⟩
          · rw [if_neg hi] at hk; exact ⟨o, hk⟩
        obtain ⟨o1, g5⟩ := old i oi g1
        obtain ⟨o2, g6⟩ := old j oj g2
        exact hr.inj i j o1 o2 b' ei ej g5 g6 g3 g4
      ltH := fun i o g1 => by
        rw [hH] at g1
        by_cases hi : i = id
        · subst hi; exact hr.ltH i ob hid
        · rw [if_neg hi] at g1; exact hr.ltH i o g1
      ltR := hr.ltR
      ltA := fun b o h => by have := hr.ltA b o h; omega
      apart := fun i o b' es' off g1 g2 => by
        rw [hH] at g1
        by_cases hi : i = id
        · subst hi; exact hr.apart i ob b' es' off hid g2
        · rw [if_neg hi] at g1; exact hr.apart i o b' es' off g1 g2 }
end

/-! ### A world with the same memory -/
structure SameMem (w w' : World) : Prop where
  heap : w'.heap = w.heap
  os : w'.os = w.os
  tape : w'.tape = w.tape
  output : w'.output = w.output
theorem SameMem.cell {w w' : World} (h : SameMem w w') (x : Addr) : w'.cell? x = w.cell? x := by unfold World.cell?; rw [h.heap]
theorem SameMem.stay {w w' : World} (h : SameMem w w') (U : Nat → Nat → Prop) : Stay w U w' U :=
  ⟨fun b o v hu hc => ⟨by rw [h.cell]; exact hc, hu⟩, fun b C e fr hb => ⟨C, fr, by rw [h.heap]; exact hb, rfl⟩⟩
theorem SameMem.fr {w w' : World} (h : SameMem w w') (ρ : Rho) (H : Heap) : Fr ρ H w ρ H w' where
  size := by rw [h.heap]; exact Nat.le_refl _
  os := h.os
  tape := h.tape
  output := h.output
  cells b C e fr hb := ⟨C, by rw [h.heap]; exact hb, rfl, fun _ _ => rfl⟩
  other b o hb _ := by rw [h.heap]; exact hb
  shrink b o _ hw := hw
theorem SameMem.rep {w w' : World} (h : SameMem w w') {A : Nat → Nat → Prop} {ρ : Rho} {H : Heap} {nx : Nat} (hr : Rep A ρ H nx w) : Rep A ρ H nx w' where
  ob id o b es h1 h2 := ObR_mono (h.stay _) (Ext.refl _) (by rw [h.heap]) (hr.ob id o b es h1 h2)
  inj := hr.inj
  ltH := hr.ltH
  ltR := hr.ltR
  ltA b o ha := by rw [h.heap]; exact hr.ltA b o ha
  apart := hr.apart
theorem SameMem.drawn (w : World) (n : Nat) : SameMem w { w with drawn := n } := ⟨rfl, rfl, rfl, rfl⟩
section
variable {w : World} {A : Nat → Nat → Prop} {ρ : Rho}
theorem UU_lt {H : Heap} {nx : Nat} (hr : Rep A ρ H nx w) {b o : Nat} (h : UU A ρ H b o) : b < w.heap.size := by
  rcases h with h | ⟨id, es, ob, h1, h2, _⟩
  · exact hr.ltA b o h
  · have h6 := hr.ob id ob b es h1 h2
    cases ob with
    | box cells => obtain ⟨C, e, fr, h7, _⟩ := h6; exact lt_of_heap h7
    | arr es' rows leak => obtain ⟨_, _, C, e, fr, h7, _⟩ := h6; exact lt_of_heap h7
    | arx es' rows => obtain ⟨_, _, C, e, fr, h7, _⟩ := h6; exact lt_of_heap h7
/-- Nothing was written. -/
theorem blk_same {ρ' : Rho} {H H' : Heap} {w' : World} (h : Fr ρ H w ρ' H' w') {b : Nat} {C : Array Value} {e : TypeId} {fr : Nat × Nat} (hb : w.heap[b]? = some (Obj.cells C e fr)) (hn : ∀ o, ¬ Wr ρ H b o) : w'.heap[b]? = w.heap[b]? := by
  obtain ⟨C', h1, h2, h3⟩ := h.cells b C e fr hb
  have : C' = C := by
    apply Array.ext h2
    intro i hi hi'
    have := h3 i (hn i)
    rw [Array.getElem?_eq_getElem hi, Array.getElem?_eq_getElem hi'] at this
    exact Option.some.inj this
  rw [h1, this, hb]
theorem Rep_quiet {ρ' : Rho} {H H' : Heap} {nx : Nat} {w' : World} (hr : Rep A ρ H nx w) (h : Fr noRho [] w ρ' H' w') : Rep A ρ H nx w' ∧ Fr ρ H w ρ H w' := by
  have hno : ∀ b o, ¬ Wr noRho [] b o := fun b o hw => by
    obtain ⟨id, es, ob, h1, _⟩ := hw
    simp at h1
  have hfr : Fr ρ H w ρ H w' :=
    { size := h.size
      os := h.os
      tape := h.tape
      output := h.output
      cells := fun b C e fr hb => by
        obtain ⟨C', h1, h2, h3⟩ := h.cells b C e fr hb
        exact ⟨C', h1, h2, fun o _ => h3 o (hno b o)⟩
      other := h.other
      shrink := fun _ _ _ hw => hw }
  refine ⟨?_, hfr⟩
  exact
    { ob := fun id o b es h1 h2 => by
        have h6 := hr.ob id o b es h1 h2
        refine ObR_mono hfr.stay (Ext.refl _) ?_ h6
        cases o with
        | box cells => obtain ⟨C, e, fr, h7, _⟩ := h6; exact blk_same h h7 (hno b)
        | arr es' rows leak => obtain ⟨_, _, C, e, fr, h7, _⟩ := h6; exact blk_same h h7 (hno b)
        | arx es' rows => obtain ⟨_, _, C, e, fr, h7, _⟩ := h6; exact blk_same h h7 (hno b)
      inj := hr.inj
      ltH := hr.ltH
      ltR := hr.ltR
      ltA := fun b o ha => Nat.lt_of_lt_of_le (hr.ltA b o ha) h.size
      apart := hr.apart }
theorem Rep_start {w : World} {A' : Nat → Nat → Prop} (hA : ∀ b o, A' b o → b < w.heap.size) : Rep A' noRho [] 0 w where
  ob id o b es h := by simp at h
  inj i j oi oj b ei ej h := by simp at h
  ltH id o h := by simp at h
  ltR id x h := by simp [noRho] at h
  ltA := hA
  apart id o b es off h := by simp at h
end
end Go.Proofs.Ytefjblgmnoheiaa.R

/- Operations on memory: new places, reading, writing. -/
set_option linter.unusedVariables false
set_option linter.unusedSectionVars false
set_option linter.unusedSimpArgs false
noncomputable section
namespace Go.Proofs.Ytefjblgmnoheiaa.R
open Go
/-- The places that were, and no other of theirs. -/
structure Ext2 (ρ : Rho) (n : Nat) (ρ' : Rho) (n' : Nat) : Prop where
  ext : Ext ρ ρ'
  cl : ∀ k, k < n → ρ k = none → ρ' k = none
  le : n ≤ n'
theorem Ext2.refl (ρ : Rho) (n : Nat) : Ext2 ρ n ρ n := ⟨Ext.refl _, fun _ _ h => h, Nat.le_refl _⟩
theorem Ext2.trans {ρ ρ' ρ'' : Rho} {n n' n'' : Nat} (h : Ext2 ρ n ρ' n') (h' : Ext2 ρ' n' ρ'' n'') : Ext2 ρ n ρ'' n'' :=
  ⟨h.ext.trans h'.ext, fun k hk h0 => h'.cl k (Nat.lt_of_lt_of_le hk h.le) (h.cl k hk h0), Nat.le_trans h.le h'.le⟩
theorem Rep.ext2 {A : Nat → Nat → Prop} {ρ : Rho} {H : Heap} {nx : Nat} {w : World} (hr : Rep A ρ H nx w) (x : Nat × Nat) : Ext2 ρ nx (putRho ρ nx x) (nx + 1) :=
  ⟨hr.ext x, fun k hk h0 => by rw [putRho_old (by omega)]; exact h0, Nat.le_succ _⟩
theorem Ext2.more (ρ : Rho) (n : Nat) : Ext2 ρ n ρ (n + 1) := ⟨Ext.refl _, fun _ _ h => h, Nat.le_succ _⟩
/-- What an operation leaves behind. -/
def Post (A : Nat → Nat → Prop) (ρ : Rho) (s : St) (w : World) (v : AV) (s' : St) (x : Value) (w' : World) : Prop :=
  s'.env = s.env ∧ s'.loc = s.loc ∧ ∃ ρ', Rep A ρ' s'.H s'.nx w' ∧ VR w' (UU A ρ' s'.H) ρ' v x ∧ Ext2 ρ s.nx ρ' s'.nx ∧ Fr ρ s.H w ρ' s'.H w'
theorem Post.same {A : Nat → Nat → Prop} {ρ : Rho} {s : St} {w : World} {v : AV} {x : Value} (hr : Rep A ρ s.H s.nx w) (hv : VR w (UU A ρ s.H) ρ v x) : Post A ρ s w v s x w :=
  ⟨rfl, rfl, ρ, hr, hv, Ext2.refl _ _, Fr.refl _ _ _⟩

/-! ### Cells that are written -/
def putV (C : Array Value) : Nat → List Value → Array Value
  | _, [] => C
  | o, v :: r => putV (C.setIfInBounds o v) (o + 1) r
theorem putV_size : ∀ (vs : List Value) (C : Array Value) (o : Nat), (putV C o vs).size = C.size
  | [], _, _ => rfl
  | v :: r, C, o => by simp [putV, putV_size r]
theorem putV_get : ∀ (vs : List Value) (C : Array Value) (o i : Nat), (putV C o vs)[i]? = if o ≤ i ∧ i < o + vs.length ∧ i < C.size then vs[i - o]? else C[i]?
  | [], C, o, i => by simp [putV]; intro h1 h2; omega
  | v :: r, C, o, i => by
    simp only [putV, putV_get r, Array.size_setIfInBounds, List.length_cons]
    by_cases h1 : i = o
    · subst h1
      by_cases h2 : i < C.size
      · rw [if_neg (by omega), if_pos (by omega)]
        simp [h2]
      · rw [if_neg (by omega), if_neg (by omega)]
        rw [Array.getElem?_eq_none (by simp; omega), Array.getElem?_eq_none (by omega)]
    · rw [Array.getElem?_setIfInBounds_ne (fun e => h1 e.symm)]
      by_cases h3 : o + 1 ≤ i ∧ i < o + 1 + r.length ∧ i < C.size
      · rw [if_pos h3, if_pos (by omega)]
        rw [show i - o = (i - (o + 1)) + 1 by omega, List.getElem?_cons_succ]
      · rw [if_neg h3, if_neg (by omega)]
theorem setCell_heap {w : World} {b : Nat} {C : Array Value} {e : TypeId} {fr : Nat × Nat} (h : w.heap[b]? = some (Obj.cells C e fr)) (o : Nat) (v : Value) :
    (w.setCell ⟨b, o, none⟩ v).heap[b]? = some (Obj.cells (C.setIfInBounds o v) e fr) := by
  simp [World.setCell, Array.getElem?_modify, h]
theorem setCells_heap (b : Nat) (e : TypeId) (fr : Nat × Nat) : ∀ (vs : List Value) (o : Nat) (w : World) (C : Array Value), w.heap[b]? = some (Obj.cells C e fr) →
    (w.setCells b o vs).heap[b]? = some (Obj.cells (putV C o vs) e fr) ∧ (∀ k, k ≠ b → (w.setCells b o vs).heap[k]? = w.heap[k]?) ∧ (w.setCells b o vs).heap.size = w.heap.size ∧
      (w.setCells b o vs).os = w.os ∧ (w.setCells b o vs).tape = w.tape ∧ (w.setCells b o vs).output = w.output
  | [], o, w, C, h => ⟨h, fun _ _ => rfl, rfl, rfl, rfl, rfl⟩
  | v :: r, o, w, C, h => by
    obtain ⟨h1, h2, h3, h4, h5, h6⟩ := setCells_heap b e fr r (o + 1) (w.setCell ⟨b, o, none⟩ v) _ (setCell_heap h o v)
    refine ⟨h1, fun k hk => (h2 k hk).trans ?_, h3.trans (by simp [World.setCell]), h4, h5, h6⟩
    simp only [World.setCell, Array.getElem?_modify]
    rw [if_neg (by simpa using fun e => hk e.symm)]
section
variable {P : Program} {w : World} {A : Nat → Nat → Prop} {U : Nat → Nat → Prop} {ρ : Rho}
theorem VRs_putV {as vs : List AV} {xs : Array Value} {ys : List Value} {off : Nat} (ha : VRs w U ρ as xs.toList) (hv : VRs w U ρ vs ys) (hl : off + vs.length ≤ as.length) :
    VRs w U ρ (setAt as off vs) (putV xs off ys).toList := by
  have hlen := VRs_length ha
  have hlen2 := VRs_length hv
  have hx : xs.toList.length = xs.size := by simp
  refine VRs_of_get ?_ fun i a hi => ?_
  · rw [setAt_length, hlen, hx]
    simp [putV_size]
  · rw [setAt_get] at hi
    have hg : (putV xs off ys).toList[i]? = if off ≤ i ∧ i < off + ys.length ∧ i < xs.size then ys[i - off]? else xs[i]? := by
      rw [← putV_get ys xs off i]; simp
    rw [hg]
    split at hi
    · rename_i hc
      rw [if_pos (by omega)]
      exact VRs_get hv hi
    · rename_i hc
      rw [if_neg (by omega)]
      obtain ⟨x, h1, h2⟩ := VRs_get ha hi
      exact ⟨x, by simpa using h1, h2⟩
theorem oneCell_of_oneB {x : Value} (h : oneB x = true) : x.oneCell' = true := by cases x <;> simp [oneB] at h <;> rfl

/-! ### Reading -/
/-- Cells that hold values, from a place on. -/
def At (w : World) (U : Nat → Nat → Prop) (ρ : Rho) (as : List AV) (b o : Nat) : Prop := ∀ (j : Nat) (a : AV), as[j]? = some a → ∃ v, w.cell? ⟨b, o + j, none⟩ = some v ∧ VR w U ρ a v
theorem At.list : ∀ {as : List AV} {b o : Nat}, At w U ρ as b o → ∃ cs, VRs w U ρ as cs ∧ ∀ (j : Nat) (v : Value), cs[j]? = some v → w.cell? ⟨b, o + j, none⟩ = some v
  | [], b, o, h => ⟨[], by simp [VRs], by simp⟩
  | a :: as, b, o, h => by
    obtain ⟨v, h1, h2⟩ := h 0 a rfl
    have hr : At w U ρ as b (o + 1) := fun j a' hj => by
      obtain ⟨v, h3, h4⟩ := h (j + 1) a' (by simpa using hj)
      exact ⟨v, by rw [show o + 1 + j = o + (j + 1) by omega]; exact h3, h4⟩
    obtain ⟨cs, h3, h4⟩ := At.list hr
    refine ⟨v :: cs, by simp only [VRs]; exact ⟨v, cs, rfl, h2, h3⟩, fun j v' hj => ?_⟩
    cases j with
    | zero => simp at hj; subst hj; exact h1
    | succ j => simp at hj; rw [show o + (j + 1) = o + 1 + j by omega]; exact h4 j v' hj
theorem At.sub {as : List AV} {b o : Nat} (h : At w U ρ as b o) (n m : Nat) : At w U ρ ((as.drop n).take m) b (o + n) := by
  intro j a hj
  rw [List.getElem?_take] at hj
  split at hj
  · rw [List.getElem?_drop] at hj
    obtain ⟨v, h1, h2⟩ := h _ a hj
    exact ⟨v, by rw [Nat.add_assoc]; exact h1, h2⟩
  · cases hj
theorem snd_loadVar {t : TypeId} {x : TI} (ht : tyOf P t = some x) {as : List AV} {b o off : Nat} {v : AV} (ha : At w U ρ as b o) (h : part (aggB x.desc) x.size as off = some v) :
    ∃ z, (loadVar t ⟨b, o + off, none⟩).run P w = .ok z w ∧ VR w U ρ v z := by
  unfold part at h
  split at h
  · rename_i hagg
    split at h
    · rename_i hle
      simp only [Option.some.injEq] at h
      subst h
      obtain ⟨cs, h1, h2⟩ := (ha.sub off x.size).list
      have hl := VRs_length h1
      rw [List.length_take, List.length_drop, Nat.min_eq_left (by omega)] at hl
      refine ⟨.agg cs.toArray, ?_, by simp only [VR]; exact ⟨_, rfl, by simpa using h1⟩⟩
      have := run_loadCells_list (P := P) w ⟨b, o + off, none⟩ cs (fun j v hj => by rw [add_off]; exact h2 j v hj)
      rw [← hl] at this
      simp only [loadVar, Sem.run_bind, run_isAgg' ht, hagg, Result.andThen_ok, if_true, run_sizeOf' ht, this, Sem.run_pure]
    · cases h
  · rename_i hagg
    split at h
    · rename_i v' hv'
      split at h
      · simp only [Option.some.injEq] at h
        subst h
        obtain ⟨z, h1, h2⟩ := ha off v' hv'
        refine ⟨z, ?_, h2⟩
        have hagg' : aggB x.desc = false := by simpa using hagg
        simp [loadVar, run_isAgg' ht, hagg', h1]
      · cases h
    · cases h
theorem At_box {H : Heap} {nx : Nat} (hr : Rep A ρ H nx w) {id b es : Nat} {cells : List AV} (hid : lk H id = some (.box cells)) (hρ : ρ id = some (b, es)) : At w (UU A ρ H) ρ cells b 0 := by
  obtain ⟨C, e, fr, h1, h2, h3⟩ := hr.ob id _ b es hid hρ
  intro j a hj
  obtain ⟨x, h4, h5⟩ := VRs_get h3 hj
  exact ⟨x, by rw [cell_of_block h1]; simpa using h4, h5⟩
theorem At_row {H : Heap} {nx : Nat} (hr : Rep A ρ H nx w) {id b es es' leak : Nat} {rows : List (List AV)} (hid : lk H id = some (.arr es' rows leak)) (hρ : ρ id = some (b, es)) {i : Nat} {row : List AV} (hi : rows[i]? = some row) :
    row.length = es ∧ At w (UU A ρ H) noRho row b (i * es) := by
  obtain ⟨h0, hz, C, e, fr, h1, h2, h3⟩ := hr.ob id _ b es hid hρ
  obtain ⟨g1, g2, g3, _⟩ := ARs_get h3 hi
  refine ⟨g1, fun j a hj => ?_⟩
  obtain ⟨x, h4, h5⟩ := VRs_get g3 hj
  rw [List.getElem?_take] at h4
  split at h4
  · rw [List.getElem?_drop] at h4
    exact ⟨x, by rw [cell_of_block h1]; simpa using h4, h5⟩
  · cases h4
theorem At_rowx {H : Heap} {nx : Nat} (hr : Rep A ρ H nx w) {id b es es' : Nat} {rows : List (List AV)} (hid : lk H id = some (.arx es' rows)) (hρ : ρ id = some (b, es)) {i : Nat} {row : List AV} (hi : rows[i]? = some row) :
    row.length = es ∧ At w (UU A ρ H) ρ row b (i * es) := by
  obtain ⟨h0, hz, C, e, fr, h1, h2, h3⟩ := hr.ob id _ b es hid hρ
  obtain ⟨g1, g2, g3, _⟩ := AXs_get h3 hi
  refine ⟨g1, fun j a hj => ?_⟩
  obtain ⟨x, h4, h5⟩ := VRs_get g3 hj
  rw [List.getElem?_take] at h4
  split at h4
  · rw [List.getElem?_drop] at h4
    exact ⟨x, by rw [cell_of_block h1]; simpa using h4, h5⟩
  · cases h4
theorem Ext_no (ρ : Rho) : Ext noRho ρ := fun _ _ h => by simp [noRho] at h
theorem VR_up {a : AV} {x : Value} (h : VR w U noRho a x) : VR w U ρ a x := VR_mono (Stay.refl w U) a x noRho ρ (Ext_no ρ) h
theorem At.up {as : List AV} {b o : Nat} (h : At w U noRho as b o) : At w U ρ as b o := fun j a hj => let ⟨v, h1, h2⟩ := h j a hj; ⟨v, h1, VR_up h2⟩
theorem snd_load {H : Heap} {nx : Nat} (hr : Rep A ρ H nx w) {t : TypeId} {x : TI} (ht : tyOf P t = some x) {X : Value} {p v : AV} (hp : VR w (UU A ρ H) ρ p X) (h : loadAV (aggB x.desc) x.size H p = some v) :
    ∃ z, (Instr.loadAt t X).run P w = .ok z w ∧ VR w (UU A ρ H) ρ v z := by
  unfold loadAV at h
  split at h
  · rename_i id off
    split at h
    · rename_i cells hid
      simp only [VR] at hp
      obtain ⟨b, es, hρ, rfl⟩ := hp
      have := snd_loadVar (P := P) ht (At_box hr hid hρ) h
      simpa [Instr.loadAt, Instr.sureAddr] using this
    · cases h
  · rename_i id i f
    split at h
    · rename_i es' rows leak hid
      split at h
      · rename_i row hrow
        simp only [VR] at hp
        obtain ⟨b, es, hρ, rfl⟩ := hp
        have := snd_loadVar (P := P) (ρ := ρ) ht (At_row hr hid hρ hrow).2.up h
        simpa [Instr.loadAt, Instr.sureAddr] using this
      · cases h
    · rename_i es' rows hid
      split at h
      · rename_i row hrow
        simp only [VR] at hp
        obtain ⟨b, es, hρ, rfl⟩ := hp
        have := snd_loadVar (P := P) (ρ := ρ) ht (At_rowx hr hid hρ hrow).2 h
        simpa [Instr.loadAt, Instr.sureAddr] using this
      · cases h
    · cases h
  · rename_i row f
    simp only [VR] at hp
    obtain ⟨b, o, rfl, hc⟩ := hp
    have hat : At w (UU A ρ H) ρ row b o := fun j a hj => let ⟨v, h1, _, _, h3⟩ := CLs_get hc hj; ⟨v, h1, VR_up h3⟩
    have := snd_loadVar (P := P) ht hat h
    simpa [Instr.loadAt, Instr.sureAddr] using this
  · cases h

/-! ### New boxes -/
theorem unfr_none (n : Nat) : unfr (0, 0) n := fun o _ h => by omega
theorem snd_newBox {s : St} (hr : Rep A ρ s.H s.nx w) {cs : List AV} {C : Array Value} {e : TypeId} (hc : VRs w (UU A ρ s.H) ρ cs C.toList) :
    Post A ρ s w (.ptr s.nx 0) (s.add (.box cs)) (.pointer (some ⟨w.heap.size, 0, none⟩)) (pushW w (.cells C e)) := by
  have hfr := Fr_new hr (.box cs) C e (0, 0) 0
  refine ⟨rfl, rfl, putRho ρ s.nx (w.heap.size, 0), Rep_new hr ?_, ?_, hr.ext2 _, hfr⟩
  · refine ⟨C, e, (0, 0), ?_, unfr_none _, VRs_mono hfr.stay _ _ _ _ (hr.ext _) hc⟩
    simp only [pushW, push_get, if_true]
  · simp only [VR]
    exact ⟨w.heap.size, 0, putRho_new _ _ _, rfl⟩
theorem snd_alloc {s : St} (hr : Rep A ρ s.H s.nx w) {t : TypeId} {ti : TI} (ht : tyOf P t = some ti) {z : List AV} (hz : zeroCells ti = some z) :
    ∃ x w', (Instr.alloc t true (.tuple #[])).run P w = .ok x w' ∧ Post A ρ s w (.ptr s.nx 0) (s.add (.box z)) x w' := by
  obtain ⟨zv, hzv, _, hz2⟩ := zeroCells_spec hz
  refine ⟨_, _, ?_, snd_newBox (e := t) hr (hz2 (w := w) (U := UU A ρ s.H) (ρ := ρ))⟩
  simp only [Instr.alloc, Sem.run_bind, run_zero' ht hzv, Result.andThen_ok, newVar, newRow, run_newObj, Sem.run_pure]
  rfl
theorem snd_box {s : St} (hr : Rep A ρ s.H s.nx w) {t : TypeId} {a : AV} {X : Value} (ha : VR w (UU A ρ s.H) ρ a X) {cs : List AV} (hc : cellsOf a = some cs) :
    ∃ x w', (Instr.box t X).run P w = .ok x w' ∧ Post A ρ s w (.ptr s.nx 0) (s.add (.box cs)) x w' := by
  refine ⟨_, _, ?_, snd_newBox (e := t) hr (VRs_cells hc ha)⟩
  simp only [Instr.box, Sem.run_bind, newVar, newRow, run_newObj, Result.andThen_ok, Sem.run_pure]
  rfl
end
end Go.Proofs.Ytefjblgmnoheiaa.R

