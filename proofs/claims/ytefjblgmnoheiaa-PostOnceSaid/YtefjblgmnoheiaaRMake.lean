/- make, literal slices, bytes of texts, copy. -/
import Derived.Test.YtefjblgmnoheiaaRApp
import Derived.Laws.BytesString
import Derived.IntWalk
import Derived.Laws.MakeOwn
set_option linter.unusedVariables false
set_option linter.unusedSectionVars false
set_option linter.unusedSimpArgs false
noncomputable section
namespace Go.Proofs.Ytefjblgmnoheiaa.R
open Go
structure ElTy (P : Program) (t : TypeId) (es : Nat) (z : List AV) : Prop where
  ex : ∃ e xe, P.underlying t = some (.slice e) ∧ tyOf P e = some xe ∧ (∃ z0, zeroCells xe = some z0 ∧ z = frzs [] z0) ∧ 0 < xe.size ∧ z.length = xe.size ∧ es = xe.size ∧ xe.bytes ≤ 256
section
variable {P : Program} {w : World} {A : Nat → Nat → Prop} {U : Nat → Nat → Prop} {ρ : Rho}
/-- Cells of zero values, one behind the other. -/
def zeros (zs : Array Value) (n : Nat) : Array Value := (Array.range n).map (zs[· % zs.size]!)
theorem zeros_toList (zs : Array Value) (n : Nat) : (zeros zs n).toList = (List.range n).map (zs[· % zs.size]!) := by simp [zeros]
theorem ARs_zeros {es n c : Nat} {z : List AV} {zs : Array Value} (hz : 0 < es) (hl : z.length = es) (hzs : VRs w U noRho z zs.toList) (hone : ∀ x ∈ zs.toList, oneB x = true) (hn : n ≤ c) : ARs w U es (List.replicate n z) (zeros zs (c * es)).toList := by
  have hsz : zs.size = es := by have := VRs_length hzs; simp at this; omega
  refine ARs_mk fun i r hi => ?_
  rw [List.getElem?_replicate] at hi
  split at hi
  · rename_i hlt
    obtain rfl := Option.some.inj hi
    have hle : (i + 1) * es ≤ c * es := Nat.mul_le_mul_right _ (by omega)
    have heq : ((zeros zs (c * es)).toList.drop (i * es)).take es = zs.toList := by
      rw [zeros_toList]
      apply List.ext_getElem?
      intro j
      rw [List.getElem?_take]
      split
      · rename_i hj
        rw [List.getElem?_drop, List.getElem?_map, List.getElem?_range (by rw [Nat.succ_mul] at hle; omega)]
        simp only [Option.map_some, hsz]
        rw [show (i * es + j) % es = j by rw [Nat.mul_comm, Nat.mul_add_mod]; exact Nat.mod_eq_of_lt hj]
        rw [List.getElem?_eq_getElem (by simpa [hsz] using hj)]
        simp [hsz, hj]
      · rename_i hj
        rw [List.getElem?_eq_none (by simp [hsz]; omega)]
    rw [heq]
    refine ⟨hl, ?_, hzs, hone⟩
    rw [zeros_toList]; simpa using hle
  · cases hi
theorem snd_mks {s s' : St} (hr : Rep A ρ s.H s.nx w) {t : TypeId} {es : Nat} {z : List AV} (hT : ElTy P t es z) {l m v : AV} {L M : Value} (hl : VR w U ρ l L) (hm : VR w U ρ m M) (h : mksAV es z s l m = some (v, s')) :
    ∃ x w', (Instr.makeSlice t L M).run P w = .ok x w' ∧ Post A ρ s w v s' x w' := by
  unfold mksAV at h
  split at h
  · rename_i n c
    split at h
    · rename_i hc
      obtain ⟨h0, h1, h2⟩ := hc
      simp only [Option.some.injEq, Prod.mk.injEq] at h
      obtain ⟨rfl, rfl⟩ := h
      simp only [VR] at hl hm
      subst hl; subst hm
      obtain ⟨e, xe, g1, g2, g3, g4, g5, rfl, g6⟩ := hT.ex
      obtain ⟨_, i, hi1, hi2, hi3, hi4⟩ := tyOf_spec g2
      obtain ⟨z0, g3, rfl⟩ := g3
      obtain ⟨zv, hz1, hz2, hz3⟩ := zeroCells_specF g3
      have hlim : c ≤ 549755813888 := h2
      have hb : (i.bytes : Int) * c ≤ 281474976710656 := by
        have h4 : (i.bytes : Int) ≤ 256 := by rw [hi3]; omega
        have h3 : (i.bytes : Int) * c ≤ 256 * c := Int.mul_le_mul_of_nonneg_right h4 (by omega)
        omega
      have hvz : VRs w (UU A ρ s.H) noRho (frzs [] z0) zv.cells.toList := hz3
      have hA := ARs_zeros (w := w) (U := UU A ρ s.H) (n := n.toNat) (c := c.toNat) g4 g5 hvz (VRs_one hz2 hvz) (by omega)
      have hrun : (Instr.makeSlice t (.int .i64 n) (.int .i64 c)).run P w = .ok (.slice (some ⟨w.heap.size, 0, none⟩) n.toNat c.toNat) (pushW w (.cells (zeros zv.cells (c.toNat * xe.size)) e)) := by
        rw [run_make w t e i zv g1 hi1 (by rw [hi4]; exact hz1) .i64 .i64 n c h0 h1 hb (by omega), hi2]
        rfl
      refine ⟨_, _, hrun, ?_⟩
      have hsz : (zeros zv.cells (c.toNat * xe.size)).size = c.toNat * xe.size := by simp [zeros]
      have := snd_newBlock (A := A) (fr := (0, 0)) (e := e) hr g4 hA (unfr_none _) (cap := c.toNat) (ex := n == c) (by rw [hsz]; exact Nat.le_refl _) (by simp; omega) (by simp; intro hh; omega) 0
      simpa using this
    · cases h
  · cases h
end
end Go.Proofs.Ytefjblgmnoheiaa.R
