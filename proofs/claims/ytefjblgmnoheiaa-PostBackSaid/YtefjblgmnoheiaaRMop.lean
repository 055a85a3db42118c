/- Operations on memory: new places, reading, writing. -/
import Derived.Test.YtefjblgmnoheiaaRMem
import Derived.Laws.IdiomCopy
set_option linter.unusedVariables false
set_option linter.unusedSectionVars false
set_option linter.unusedSimpArgs false
noncomputable section
namespace Go.Proofs.Ytefjblgmnoheiaa.R
open Go
/-- The places that were, and no other of theirs. -/
structure Ext2 (ρ : Rho) (n : Nat) (ρ' : Rho) (n' : Nat) : Prop where
  ext : Ext ρ ρ'
  cl : ∀ k, k < n → ρ k = none → ρ' k = none
  le : n ≤ n'
theorem Ext2.refl (ρ : Rho) (n : Nat) : Ext2 ρ n ρ n := ⟨Ext.refl _, fun _ _ h => h, Nat.le_refl _⟩
theorem Ext2.trans {ρ ρ' ρ'' : Rho} {n n' n'' : Nat} (h : Ext2 ρ n ρ' n') (h' : Ext2 ρ' n' ρ'' n'') : Ext2 ρ n ρ'' n'' :=
  ⟨h.ext.trans h'.ext, fun k hk h0 => h'.cl k (Nat.lt_of_lt_of_le hk h.le) (h.cl k hk h0), Nat.le_trans h.le h'.le⟩
theorem Rep.ext2 {A : Nat → Nat → Prop} {ρ : Rho} {H : Heap} {nx : Nat} {w : World} (hr : Rep A ρ H nx w) (x : Nat × Nat) : Ext2 ρ nx (putRho ρ nx x) (nx + 1) :=
  ⟨hr.ext x, fun k hk h0 => by rw [putRho_old (by omega)]; exact h0, Nat.le_succ _⟩
theorem Ext2.more (ρ : Rho) (n : Nat) : Ext2 ρ n ρ (n + 1) := ⟨Ext.refl _, fun _ _ h => h, Nat.le_succ _⟩
/-- What an operation leaves behind. -/
def Post (A : Nat → Nat → Prop) (ρ : Rho) (s : St) (w : World) (v : AV) (s' : St) (x : Value) (w' : World) : Prop :=
  s'.env = s.env ∧ s'.loc = s.loc ∧ ∃ ρ', Rep A ρ' s'.H s'.nx w' ∧ VR w' (UU A ρ' s'.H) ρ' v x ∧ Ext2 ρ s.nx ρ' s'.nx ∧ Fr ρ s.H w ρ' s'.H w'
theorem Post.same {A : Nat → Nat → Prop} {ρ : Rho} {s : St} {w : World} {v : AV} {x : Value} (hr : Rep A ρ s.H s.nx w) (hv : VR w (UU A ρ s.H) ρ v x) : Post A ρ s w v s x w :=
  ⟨rfl, rfl, ρ, hr, hv, Ext2.refl _ _, Fr.refl _ _ _⟩

/-! ### Cells that are written -/
def putV (C : Array Value) : Nat → List Value → Array Value
  | _, [] => C
  | o, v :: r => putV (C.setIfInBounds o v) (o + 1) r
theorem putV_size : ∀ (vs : List Value) (C : Array Value) (o : Nat), (putV C o vs).size = C.size
  | [], _, _ => rfl
  | v :: r, C, o => by simp [putV, putV_size r]
theorem putV_get : ∀ (vs : List Value) (C : Array Value) (o i : Nat), (putV C o vs)[i]? = if o ≤ i ∧ i < o + vs.length ∧ i < C.size then vs[i - o]? else C[i]?
  | [], C, o, i => by simp [putV]; intro h1 h2; omega
  | v :: r, C, o, i => by
    simp only [putV, putV_get r, Array.size_setIfInBounds, List.length_cons]
    by_cases h1 : i = o
    · subst h1
      by_cases h2 : i < C.size
      · rw [if_neg (by omega), if_pos (by omega)]
        simp [h2]
      · rw [if_neg (by omega), if_neg (by omega)]
        rw [Array.getElem?_eq_none (by simp; omega), Array.getElem?_eq_none (by omega)]
    · rw [Array.getElem?_setIfInBounds_ne (fun e => h1 e.symm)]
      by_cases h3 : o + 1 ≤ i ∧ i < o + 1 + r.length ∧ i < C.size
      · rw [if_pos h3, if_pos (by omega)]
        rw [show i - o = (i - (o + 1)) + 1 by omega, List.getElem?_cons_succ]
      · rw [if_neg h3, if_neg (by omega)]
theorem setCell_heap {w : World} {b : Nat} {C : Array Value} {e : TypeId} {fr : Nat × Nat} (h : w.heap[b]? = some (Obj.cells C e fr)) (o : Nat) (v : Value) :
    (w.setCell ⟨b, o, none⟩ v).heap[b]? = some (Obj.cells (C.setIfInBounds o v) e fr) := by
  simp [World.setCell, Array.getElem?_modify, h]
theorem setCells_heap (b : Nat) (e : TypeId) (fr : Nat × Nat) : ∀ (vs : List Value) (o : Nat) (w : World) (C : Array Value), w.heap[b]? = some (Obj.cells C e fr) →
    (w.setCells b o vs).heap[b]? = some (Obj.cells (putV C o vs) e fr) ∧ (∀ k, k ≠ b → (w.setCells b o vs).heap[k]? = w.heap[k]?) ∧ (w.setCells b o vs).heap.size = w.heap.size ∧
      (w.setCells b o vs).os = w.os ∧ (w.setCells b o vs).tape = w.tape ∧ (w.setCells b o vs).output = w.output
  | [], o, w, C, h => ⟨h, fun _ _ => rfl, rfl, rfl, rfl, rfl⟩
  | v :: r, o, w, C, h => by
    obtain ⟨h1, h2, h3, h4, h5, h6⟩ := setCells_heap b e fr r (o + 1) (w.setCell ⟨b, o, none⟩ v) _ (setCell_heap h o v)
    refine ⟨h1, fun k hk => (h2 k hk).trans ?_, h3.trans (by simp [World.setCell]), h4, h5, h6⟩
    simp only [World.setCell, Array.getElem?_modify]
    rw [if_neg (by simpa using fun e => hk e.symm)]
section
variable {P : Program} {w : World} {A : Nat → Nat → Prop} {U : Nat → Nat → Prop} {ρ : Rho}
theorem VRs_putV {as vs : List AV} {xs : Array Value} {ys : List Value} {off : Nat} (ha : VRs w U ρ as xs.toList) (hv : VRs w U ρ vs ys) (hl : off + vs.length ≤ as.length) :
    VRs w U ρ (setAt as off vs) (putV xs off ys).toList := by
  have hlen := VRs_length ha
  have hlen2 := VRs_length hv
  have hx : xs.toList.length = xs.size := by simp
  refine VRs_of_get ?_ fun i a hi => ?_
  · rw [setAt_length, hlen, hx]
    simp [putV_size]
  · rw [setAt_get] at hi
    have hg : (putV xs off ys).toList[i]? = if off ≤ i ∧ i < off + ys.length ∧ i < xs.size then ys[i - off]? else xs[i]? := by
      rw [← putV_get ys xs off i]; simp
    rw [hg]
    split at hi
    · rename_i hc
      rw [if_pos (by omega)]
      exact VRs_get hv hi
    · rename_i hc
      rw [if_neg (by omega)]
      obtain ⟨x, h1, h2⟩ := VRs_get ha hi
      exact ⟨x, by simpa using h1, h2⟩
theorem oneCell_of_oneB {x : Value} (h : oneB x = true) : x.oneCell' = true := by cases x <;> simp [oneB] at h <;> rfl

/-! ### Reading -/
/-- Cells that hold values, from a place on. -/
def At (w : World) (U : Nat → Nat → Prop) (ρ : Rho) (as : List AV) (b o : Nat) : Prop := ∀ (j : Nat) (a : AV), as[j]? = some a → ∃ v, w.cell? ⟨b, o + j, none⟩ = some v ∧ VR w U ρ a v
theorem At.list : ∀ {as : List AV} {b o : Nat}, At w U ρ as b o → ∃ cs, VRs w U ρ as cs ∧ ∀ (j : Nat) (v : Value), cs[j]? = some v → w.cell? ⟨b, o + j, none⟩ = some v
  | [], b, o, h => ⟨[], by simp [VRs], by simp⟩
  | a :: as, b, o, h => by
    obtain ⟨v, h1, h2⟩ := h 0 a rfl
    have hr : At w U ρ as b (o + 1) := fun j a' hj => by
      obtain ⟨v, h3, h4⟩ := h (j + 1) a' (by simpa using hj)
      exact ⟨v, by rw [show o + 1 + j = o + (j + 1) by omega]; exact h3, h4⟩
    obtain ⟨cs, h3, h4⟩ := At.list hr
    refine ⟨v :: cs, by simp only [VRs]; exact ⟨v, cs, rfl, h2, h3⟩, fun j v' hj => ?_⟩
    cases j with
    | zero => simp at hj; subst hj; exact h1
    | succ j => simp at hj; rw [show o + (j + 1) = o + 1 + j by omega]; exact h4 j v' hj
theorem At.sub {as : List AV} {b o : Nat} (h : At w U ρ as b o) (n m : Nat) : At w U ρ ((as.drop n).take m) b (o + n) := by
  intro j a hj
  rw [List.getElem?_take] at hj
  split at hj
  · rw [List.getElem?_drop] at hj
    obtain ⟨v, h1, h2⟩ := h _ a hj
    exact ⟨v, by rw [Nat.add_assoc]; exact h1, h2⟩
  · cases hj
theorem snd_loadVar {t : TypeId} {x : TI} (ht : tyOf P t = some x) {as : List AV} {b o off : Nat} {v : AV} (ha : At w U ρ as b o) (h : part (aggB x.desc) x.size as off = some v) :
    ∃ z, (loadVar t ⟨b, o + off, none⟩).run P w = .ok z w ∧ VR w U ρ v z := by
  unfold part at h
  split at h
  · rename_i hagg
    split at h
    · rename_i hle
      simp only [Option.some.injEq] at h
      subst h
      obtain ⟨cs, h1, h2⟩ := (ha.sub off x.size).list
      have hl := VRs_length h1
      rw [List.length_take, List.length_drop, Nat.min_eq_left (by omega)] at hl
      refine ⟨.agg cs.toArray, ?_, by simp only [VR]; exact ⟨_, rfl, by simpa using h1⟩⟩
      have := run_loadCells_list (P := P) w ⟨b, o + off, none⟩ cs (fun j v hj => by rw [add_off]; exact h2 j v hj)
      rw [← hl] at this
      simp only [loadVar, Sem.run_bind, run_isAgg' ht, hagg, Result.andThen_ok, if_true, run_sizeOf' ht, this, Sem.run_pure]
    · cases h
  · rename_i hagg
    split at h
    · rename_i v' hv'
      split at h
      · simp only [Option.some.injEq] at h
        subst h
        obtain ⟨z, h1, h2⟩ := ha off v' hv'
        refine ⟨z, ?_, h2⟩
        have hagg' : aggB x.desc = false := by simpa using hagg
        simp [loadVar, run_isAgg' ht, hagg', h1]
      · cases h
    · cases h
theorem At_box {H : Heap} {nx : Nat} (hr : Rep A ρ H nx w) {id b es : Nat} {cells : List AV} (hid : lk H id = some (.box cells)) (hρ : ρ id = some (b, es)) : At w (UU A ρ H) ρ cells b 0 := by
  obtain ⟨C, e, fr, h1, h2, h3⟩ := hr.ob id _ b es hid hρ
  intro j a hj
  obtain ⟨x, h4, h5⟩ := VRs_get h3 hj
  exact ⟨x, by rw [cell_of_block h1]; simpa using h4, h5⟩
theorem At_row {H : Heap} {nx : Nat} (hr : Rep A ρ H nx w) {id b es es' leak : Nat} {rows : List (List AV)} (hid : lk H id = some (.arr es' rows leak)) (hρ : ρ id = some (b, es)) {i : Nat} {row : List AV} (hi : rows[i]? = some row) :
    row.length = es ∧ At w (UU A ρ H) noRho row b (i * es) := by
  obtain ⟨h0, hz, C, e, fr, h1, h2, h3⟩ := hr.ob id _ b es hid hρ
  obtain ⟨g1, g2, g3, _⟩ := ARs_get h3 hi
  refine ⟨g1, fun j a hj => ?_⟩
  obtain ⟨x, h4, h5⟩ := VRs_get g3 hj
  rw [List.getElem?_take] at h4
  split at h4
  · rw [List.getElem?_drop] at h4
    exact ⟨x, by rw [cell_of_block h1]; simpa using h4, h5⟩
  · cases h4
theorem At_rowx {H : Heap} {nx : Nat} (hr : Rep A ρ H nx w) {id b es es' : Nat} {rows : List (List AV)} (hid : lk H id = some (.arx es' rows)) (hρ : ρ id = some (b, es)) {i : Nat} {row : List AV} (hi : rows[i]? = some row) :
    row.length = es ∧ At w (UU A ρ H) ρ row b (i * es) := by
  obtain ⟨h0, hz, C, e, fr, h1, h2, h3⟩ := hr.ob id _ b es hid hρ
  obtain ⟨g1, g2, g3, _⟩ := AXs_get h3 hi
  refine ⟨g1, fun j a hj => ?_⟩
  obtain ⟨x, h4, h5⟩ := VRs_get g3 hj
  rw [List.getElem?_take] at h4
  split at h4
  · rw [List.getElem?_drop] at h4
    exact ⟨x, by rw [cell_of_block h1]; simpa using h4, h5⟩
  · cases h4
theorem Ext_no (ρ : Rho) : Ext noRho ρ := fun _ _ h => by simp [noRho] at h
theorem VR_up {a : AV} {x : Value} (h : VR w U noRho a x) : VR w U ρ a x := VR_mono (Stay.refl w U) a x noRho ρ (Ext_no ρ) h
theorem VRs_up {as : List AV} {xs : List Value} (h : VRs w U noRho as xs) : VRs w U ρ as xs := VRs_mono (Stay.refl w U) as xs noRho ρ (Ext_no ρ) h
theorem At.up {as : List AV} {b o : Nat} (h : At w U noRho as b o) : At w U ρ as b o := fun j a hj => let ⟨v, h1, h2⟩ := h j a hj; ⟨v, h1, VR_up h2⟩
theorem snd_load {H : Heap} {nx : Nat} (hr : Rep A ρ H nx w) {t : TypeId} {x : TI} (ht : tyOf P t = some x) {X : Value} {p v : AV} (hp : VR w (UU A ρ H) ρ p X) (h : loadAV (aggB x.desc) x.size H p = some v) :
    ∃ z, (Instr.loadAt t X).run P w = .ok z w ∧ VR w (UU A ρ H) ρ v z := by
  unfold loadAV at h
  split at h
  · rename_i id off
    split at h
    · rename_i cells hid
      simp only [VR] at hp
      obtain ⟨b, es, hρ, rfl⟩ := hp
      have := snd_loadVar (P := P) ht (At_box hr hid hρ) h
      simpa [Instr.loadAt, Instr.sureAddr] using this
    · cases h
  · rename_i id i f
    split at h
    · rename_i es' rows leak hid
      split at h
      · rename_i row hrow
        simp only [VR] at hp
        obtain ⟨b, es, hρ, rfl⟩ := hp
        have := snd_loadVar (P := P) (ρ := ρ) ht (At_row hr hid hρ hrow).2.up h
        simpa [Instr.loadAt, Instr.sureAddr] using this
      · cases h
    · rename_i es' rows hid
      split at h
      · rename_i row hrow
        simp only [VR] at hp
        obtain ⟨b, es, hρ, rfl⟩ := hp
        have := snd_loadVar (P := P) (ρ := ρ) ht (At_rowx hr hid hρ hrow).2 h
        simpa [Instr.loadAt, Instr.sureAddr] using this
      · cases h
    · cases h
  · rename_i row f
    simp only [VR] at hp
    obtain ⟨b, o, rfl, hc⟩ := hp
    have hat : At w (UU A ρ H) ρ row b o := fun j a hj => let ⟨v, h1, _, _, h3⟩ := CLs_get hc hj; ⟨v, h1, VR_up h3⟩
    have := snd_loadVar (P := P) ht hat h
    simpa [Instr.loadAt, Instr.sureAddr] using this
  · cases h

/-! ### New boxes -/
theorem unfr_none (n : Nat) : unfr (0, 0) n := fun o _ h => by omega
theorem snd_newBox {s : St} (hr : Rep A ρ s.H s.nx w) {cs : List AV} {C : Array Value} {e : TypeId} (hc : VRs w (UU A ρ s.H) ρ cs C.toList) :
    Post A ρ s w (.ptr s.nx 0) (s.add (.box cs)) (.pointer (some ⟨w.heap.size, 0, none⟩)) (pushW w (.cells C e)) := by
  have hfr := Fr_new hr (.box cs) C e (0, 0) 0
  refine ⟨rfl, rfl, putRho ρ s.nx (w.heap.size, 0), Rep_new hr ?_, ?_, hr.ext2 _, hfr⟩
  · refine ⟨C, e, (0, 0), ?_, unfr_none _, VRs_mono hfr.stay _ _ _ _ (hr.ext _) hc⟩
    simp only [pushW, push_get, if_true]
  · simp only [VR]
    exact ⟨w.heap.size, 0, putRho_new _ _ _, rfl⟩
theorem snd_alloc {s : St} (hr : Rep A ρ s.H s.nx w) {t : TypeId} {ti : TI} (ht : tyOf P t = some ti) {z : List AV} (hz : zeroCells ti = some z) :
    ∃ x w', (Instr.alloc t true (.tuple #[])).run P w = .ok x w' ∧ Post A ρ s w (.ptr s.nx 0) (s.add (.box z)) x w' := by
  obtain ⟨zv, hzv, _, hz2⟩ := zeroCells_spec hz
  refine ⟨_, _, ?_, snd_newBox (e := t) hr (hz2 (w := w) (U := UU A ρ s.H) (ρ := ρ))⟩
  simp only [Instr.alloc, Sem.run_bind, run_zero' ht hzv, Result.andThen_ok, newVar, newRow, run_newObj, Sem.run_pure]
  rfl
theorem snd_box {s : St} (hr : Rep A ρ s.H s.nx w) {t : TypeId} {a : AV} {X : Value} (ha : VR w (UU A ρ s.H) ρ a X) {cs : List AV} (hc : cellsOf a = some cs) :
    ∃ x w', (Instr.box t X).run P w = .ok x w' ∧ Post A ρ s w (.ptr s.nx 0) (s.add (.box cs)) x w' := by
  refine ⟨_, _, ?_, snd_newBox (e := t) hr (VRs_cells hc ha)⟩
  simp only [Instr.box, Sem.run_bind, newVar, newRow, run_newObj, Result.andThen_ok, Sem.run_pure]
  rfl
end
end Go.Proofs.Ytefjblgmnoheiaa.R
