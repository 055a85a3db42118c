/- Structs that are built; operands. -/
import Derived.Test.YtefjblgmnoheiaaROpu
set_option linter.unusedVariables false
set_option linter.unusedSectionVars false
set_option linter.unusedSimpArgs false
noncomputable section
namespace Go.Proofs.Ytefjblgmnoheiaa.R
open Go
section
variable {P : Program} {w : World} {U : Nat → Nat → Prop} {ρ : Rho}
theorem zeroCells_spec {x : TI} {z : List AV} (h : zeroCells x = some z) : ∃ v, x.zero = some v ∧ cellBs z = true ∧ ∀ {w : World} {U : Nat → Nat → Prop} {ρ : Rho}, VRs w U ρ z v.cells.toList := by
  unfold zeroCells at h
  split at h
  · rename_i cs hz
    split at h
    · rename_i hc
      simp only [Option.some.injEq] at h
      subst h
      exact ⟨_, hz, hc, VRs_ofCells _⟩
    · cases h
  · rename_i v hn hz
    split at h
    · rename_i hc
      simp only [Option.some.injEq] at h
      subst h
      refine ⟨v, hz, by simp [cellBs, hc], ?_⟩
      intro w U ρ
      have h1 : VR w U ρ (ofCell v) v := VR_ofCell v
      have h2 := cells_one (VR_cell hc h1)
      rw [h2]
      simp only [VRs]
      exact ⟨v, [], rfl, h1, rfl⟩
    · cases h
  · cases h
theorem ofCell_free (v : Value) : idFree (ofCell v) = true ∨ ofCell v = .bad := by
  unfold ofCell
  split <;> simp [idFree]
theorem zeroCells_free {x : TI} {z : List AV} (h : zeroCells x = some z) : idFrees z = true := by
  have key : ∀ vs : List Value, cellBs (vs.map ofCell) = true → idFrees (vs.map ofCell) = true := by
    intro vs
    induction vs with
    | nil => intro _; simp [idFrees]
    | cons v vs ih =>
      intro hc
      simp only [List.map_cons, cellBs, Bool.and_eq_true] at hc
      simp only [List.map_cons, idFrees, Bool.and_eq_true]
      refine ⟨?_, ih hc.2⟩
      rcases ofCell_free v with h | h
      · exact h
      · rw [h] at hc; simp [cellB] at hc
  unfold zeroCells at h
  split at h
  · split at h
    · rename_i hc
      simp only [Option.some.injEq] at h
      subst h
      exact key _ hc
    · cases h
  · rename_i v hn hz
    split at h
    · rename_i hc
      simp only [Option.some.injEq] at h
      subst h
      exact key [v] (by simp [cellBs, hc])
    · cases h
  · cases h

theorem frzs_length (H : Heap) : ∀ vs : List AV, (frzs H vs).length = vs.length
  | [] => rfl
  | v :: r => by simp [frzs, frzs_length H r]
theorem frz_ofCell {w : World} {U : Nat → Nat → Prop} {ρ : Rho} (v : Value) : VR w U ρ (frz [] (ofCell v)) v := by
  unfold ofCell
  split <;> simp [frz, VR, oneB, canI]
theorem frzs_ofCells {w : World} {U : Nat → Nat → Prop} {ρ : Rho} : ∀ vs : List Value, VRs w U ρ (frzs [] (vs.map ofCell)) vs
  | [] => by simp [frzs, VRs]
  | v :: vs => by
    simp only [List.map_cons, frzs, VRs]
    exact ⟨v, vs, rfl, frz_ofCell v, frzs_ofCells vs⟩
theorem frz_cell_ofCell {v : Value} (h : cellB (ofCell v) = true) : cellB (frz [] (ofCell v)) = true := by
  unfold ofCell at h ⊢
  split at h <;> simp_all [frz, cellB, canI]
theorem frzs_cell_ofCells : ∀ {vs : List Value}, cellBs (vs.map ofCell) = true → cellBs (frzs [] (vs.map ofCell)) = true
  | [], _ => rfl
  | v :: vs, h => by
    simp only [List.map_cons, cellBs, Bool.and_eq_true] at h
    simp only [List.map_cons, frzs, cellBs, Bool.and_eq_true]
    exact ⟨frz_cell_ofCell h.1, frzs_cell_ofCells h.2⟩
/-- Zero cells in one form. -/
theorem zeroCells_specF {x : TI} {z : List AV} (h : zeroCells x = some z) : ∃ v, x.zero = some v ∧ cellBs (frzs [] z) = true ∧ ∀ {w : World} {U : Nat → Nat → Prop} {ρ : Rho}, VRs w U ρ (frzs [] z) v.cells.toList := by
  unfold zeroCells at h
  split at h
  · rename_i cs hz
    split at h
    · rename_i hc
      simp only [Option.some.injEq] at h
      subst h
      exact ⟨_, hz, frzs_cell_ofCells hc, frzs_ofCells _⟩
    · cases h
  · rename_i v hn hz
    split at h
    · rename_i hc
      simp only [Option.some.injEq] at h
      subst h
      refine ⟨v, hz, frzs_cell_ofCells (vs := [v]) (by simp [cellBs, hc]), ?_⟩
      intro w U ρ
      have h1 : VR w U ρ (ofCell v) v := VR_ofCell v
      have h2 := cells_one (VR_cell hc h1)
      rw [h2]
      exact frzs_ofCells [v]
    · cases h
  · cases h
/-- Operands stand for what they are read as. -/
def Vals (w : World) (U : Nat → Nat → Prop) (ρ : Rho) (s : St) (a : Act) : Prop := ∀ t, VR w U ρ (s.get t) (a.tmps.getD t undef)
variable {s : St} {a : Act}
theorem VR_opd (hv : Vals w U ρ s a) {x : Operand} {y : Opd} (h : opd x = some y) : VR w U ρ (s.ev y) (a.eval x) := by
  cases x with
  | tmp t => simp only [opd, Option.some.injEq] at h; subst h; exact hv t
  | const v => simp only [opd, Option.some.injEq] at h; subst h; exact VR_ofConst v
  | global g => simp [opd] at h
  | func f =>
    simp only [opd, Option.some.injEq] at h
    subst h
    simp only [St.ev, Act.eval, VR]
    exact ⟨_, _, rfl, by simp [VRs], by simp [VRs]⟩
theorem VRs_opds (hv : Vals w U ρ s a) : ∀ {xs : List Operand} {ys : List Opd}, opds xs = some ys → VRs w U ρ (s.evs ys) (xs.map a.eval)
  | [], ys, h => by simp only [opds, Option.some.injEq] at h; subst h; simp [St.evs, VRs]
  | x :: xs, ys, h => by
    simp only [opds] at h
    split at h
    · rename_i y l h1 h2
      simp only [Option.some.injEq] at h
      subst h
      simp only [St.evs, List.map_cons, VRs]
      exact ⟨_, _, rfl, VR_opd hv h1, VRs_opds hv h2⟩
    · cases h
theorem VRo_oopd (hv : Vals w U ρ s a) {x : Option Operand} {y : Option Opd} (h : oopd x = some y) : VRo w U ρ (s.evo y) (x.map a.eval) := by
  cases x with
  | none => simp only [oopd, Option.some.injEq] at h; subst h; trivial
  | some x =>
    simp only [oopd] at h
    split at h
    · rename_i y' h1
      simp only [Option.some.injEq] at h
      subst h
      exact VR_opd hv h1
    · cases h
theorem VRp_placed (hv : Vals w U ρ s a) {d : TypeDesc} : ∀ {pl : List (Nat × Operand)} {ps : List (Nat × Opd)} {l : List (Nat × Nat × Opd)}, partsOf pl = some ps → placedOf P d ps = some l →
    VRp w U ρ (s.evq l) (pl.map fun p => (p.1, a.eval p.2)) (placeOf P d)
  | [], ps, l, h1, h2 => by
    simp only [partsOf, Option.some.injEq] at h1
    subst h1
    simp only [placedOf, Option.some.injEq] at h2
    subst h2
    simp [St.evq, VRp]
  | (i, x) :: pl, ps, l, h1, h2 => by
    simp only [partsOf] at h1
    split at h1
    · rename_i y q e1 e2
      simp only [Option.some.injEq] at h1
      subst h1
      simp only [placedOf] at h2
      split at h2
      · rename_i off size l' e3 e4
        simp only [Option.some.injEq] at h2
        subst h2
        simp only [St.evq, List.map_cons, VRp]
        exact ⟨i, _, _, rfl, e3, VR_opd hv e1, VRp_placed hv e2 e4⟩
      · cases h2
    · cases h1
theorem VRp_congr {place place' : Nat → Option (Nat × Nat)} (h : ∀ i x, place i = some x → place' i = some x) : ∀ {l : List (Nat × Nat × AV)} {ps : List (Nat × Value)}, VRp w U ρ l ps place → VRp w U ρ l ps place'
  | [], ps, hp => by simpa [VRp] using hp
  | (off, size, a) :: l, ps, hp => by
    simp only [VRp] at hp ⊢
    obtain ⟨i, x, q, h1, h2, h3, h4⟩ := hp
    exact ⟨i, x, q, h1, h _ _ h2, h3, VRp_congr h h4⟩
theorem run_mapM {α β : Type} (f : α → Sem β) (g : α → β) (w : World) : ∀ (l : List α), (∀ x ∈ l, (f x).run P w = .ok (g x) w) → (l.mapM f).run P w = .ok (l.map g) w
  | [], _ => by simp
  | x :: l, h => by
    rw [List.mapM_cons]
    simp only [Sem.run_bind, h x (by simp), Result.andThen_ok, run_mapM f g w l (fun y hy => h y (by simp [hy])), Sem.run_pure, List.map_cons]
theorem run_places {fs : Array Field} (h : fieldsOk P (.struct fs) = true) : ∃ pl : Array (Nat × Nat), (fs.mapM fun f => do pure (f.offset, ← sizeOf f.type) : Sem (Array (Nat × Nat))).run P w = .ok pl w ∧ ∀ i x, placeOf P (.struct fs) i = some x → pl[i]? = some x := by
  simp only [fieldsOk, List.all_eq_true] at h
  refine ⟨(fs.toList.map fun f => (f.offset, ((tyOf P f.type).map (·.size)).getD 0)).toArray, ?_, ?_⟩
  · rw [Array.mapM_eq_mapM_toList]
    rw [Sem.run_map, run_mapM _ (fun f => (f.offset, ((tyOf P f.type).map (·.size)).getD 0)) w fs.toList]
    · rfl
    · intro f hf
      obtain ⟨x, hx⟩ := Option.isSome_iff_exists.1 (h f hf)
      simp only [Sem.run_bind, run_sizeOf' hx, Result.andThen_ok, Sem.run_pure, hx, Option.map_some, Option.getD_some]
  · intro i x hx
    simp only [placeOf] at hx
    split at hx
    · rename_i f hf
      split at hx
      · rename_i xf hxf
        simp only [Option.some.injEq] at hx
        subst hx
        have hf' : fs.toList[i]? = some f := by simpa using hf
        simp [hf', hxf]
      · cases hx
    · cases hx
theorem snd_build (hv : Vals w U ρ s a) {t : TypeId} {ti : TI} (ht : tyOf P t = some ti) {parts : Array (Nat × Operand)} {ps : List (Nat × Opd)} (hp : partsOf parts.toList = some ps) {z : List AV} (hz : zeroCells ti = some z)
    {l : List (Nat × Nat × Opd)} (hl : placedOf P ti.desc ps = some l) (hagg : aggB ti.desc = true) (hok : fieldsOk P ti.desc = true) {v : AV} (h : buildAV z (s.evq l) = some v) :
    ∃ x, (Instr.build t (parts.map fun (i, x) => (i, a.eval x))).run P w = .ok x w ∧ VR w U ρ v x := by
  unfold buildAV at h
  split at h
  · rename_i cs hcs
    simp only [Option.some.injEq] at h
    subst h
    obtain ⟨zv, hzv, _, hz2⟩ := zeroCells_spec hz
    have h3 := run_underlying' ht w
    have hpl := VRp_placed (P := P) hv hp hl
    have hmap : (parts.map fun (i, x) => (i, a.eval x)).toList = parts.toList.map fun p => (p.1, a.eval p.2) := by simp
    cases hd : ti.desc with
    | struct fs =>
      rw [hd] at h3 hok hpl
      obtain ⟨pl, hr, hpc⟩ := run_places (P := P) (w := w) hok
      obtain ⟨ys, h1, h2⟩ := fill_spec (VRp_congr hpc hpl) (hz2 (w := w) (U := U) (ρ := ρ)) hcs
      refine ⟨.agg ys, ?_, by simp only [VR]; exact ⟨ys, rfl, h2⟩⟩
      simp only [Instr.build, Sem.run_bind, run_zero' ht hzv, h3, Result.andThen_ok, hr, hmap, h1, Sem.run_pure]
    | array n e =>
      rw [hd] at h3 hok hpl
      obtain ⟨x, hx⟩ := Option.isSome_iff_exists.1 (by simpa [fieldsOk] using hok)
      have hpc : ∀ i y, placeOf P (.array n e) i = some y → (fun i => some (i * x.size, x.size) : Nat → Option (Nat × Nat)) i = some y := by
        intro i y hy
        simpa [placeOf, hx] using hy
      obtain ⟨ys, h1, h2⟩ := fill_spec (VRp_congr hpc hpl) (hz2 (w := w) (U := U) (ρ := ρ)) hcs
      refine ⟨.agg ys, ?_, by simp only [VR]; exact ⟨ys, rfl, h2⟩⟩
      simp only [Instr.build, Sem.run_bind, run_zero' ht hzv, h3, Result.andThen_ok, run_sizeOf' hx, hmap, h1, Sem.run_pure]
    | _ => rw [hd] at hagg; simp [aggB] at hagg
  · cases h
end
end Go.Proofs.Ytefjblgmnoheiaa.R
