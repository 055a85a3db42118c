/- Typed lists: one more element at a number, another element at a number. -/
import Derived.Test.YtefjblgmnoheiaaRInE
import Derived.Test.YtefjblgmnoheiaaRBun
set_option linter.unusedVariables false
noncomputable section
namespace Go.Proofs.Ytefjblgmnoheiaa.R
open Go
/-- One more element at a number. -/
def insI {α : Type} (l : List α) (k : Int) (x : α) : List α := l.take k.toNat ++ x :: l.drop k.toNat
theorem insI_len {α : Type} {l : List α} {k : Int} {x : α} (h : k.toNat ≤ l.length) : (insI l k x).length = l.length + 1 := by
  simp [insI]
  omega
end Go.Proofs.Ytefjblgmnoheiaa.R

/- Typed lists: one more element of some cells, elements taken away, elements cleared. -/
set_option linter.unusedVariables false
noncomputable section
namespace Go.Proofs.Ytefjblgmnoheiaa.R
open Go
theorem w_insE {P : Program} {fs : List Nat} (hS : Sound P (insPE fs)) {f : Nat} (hf : fs.contains f = true) {α : Type} {c : α → List AV} {l : List α} {k : Int} {x : α} {xa : List AV} (hx : c x = xa)
    (h0 : decide (0 ≤ k) = true) (h1 : decide (k ≤ (l.length : Int)) = true) (h2 : capB (l.length + 1) = true) (ex : Bool) :
    Spec P f [.own 6 0 0 l.length ex, .int .i64 k, .own 6 1 0 1 true] [(0, .arr 6 (List.map c l) 0), (1, .arr 6 [xa] 0)] 2 (.own 6 2 0 (insI l k x).length false) [(2, .arr 6 (List.map c (insI l k x)) 0), (1, .arr 6 [xa] 0)] 3 := by
  have e0 : 0 ≤ k := by simpa using h0
  have e1 : k.toNat ≤ l.length := by
    have : k ≤ (l.length : Int) := by simpa using h1
    omega
  have e2 : l.length + 1 ≤ limN := by simpa [capB] using h2
  refine insE_spec hS ?_
  unfold insPE
  rw [if_pos hf]
  have ht : List.take l.length (List.map c l) = List.map c l := List.take_of_length_le (by simp)
  have hm : List.map c (insI l k x) = (List.map c l).take k.toNat ++ xa :: (List.map c l).drop k.toNat := by
    rw [insI, List.map_append, List.map_cons, hx, List.map_take, List.map_drop]
  simp [insAVE, insKE, lk, e0, e1, e2, ht, hm, insI_len e1, St.setH, St.add, rmv]
  rfl
/-- Elements from one number to another taken away. -/
def delI {α : Type} (l : List α) (i j : Int) : List α := l.take i.toNat ++ l.drop j.toNat
theorem delI_len {α : Type} {l : List α} {i j : Int} (h0 : 0 ≤ i) (h : i < j) (h' : j ≤ (l.length : Int)) : (delI l i j).length = l.length - (j.toNat - i.toNat) := by
  simp [delI]
  omega
theorem w_del {P : Program} {fs : List (Nat × Nat)} (hS : Sound P (delP fs)) {f es : Nat} (hf : fs.contains (f, es) = true) {α : Type} {c : α → List AV} [R : Row c es] {l : List α} {i j : Int}
    (h0 : decide (0 ≤ i) = true) (h1 : decide (i < j) = true) (h2 : decide (j ≤ (l.length : Int)) = true) (h3 : capB l.length = true) (ex : Bool) (hz : Nat.blt 0 es = true := by rfl) :
    Spec P f [.own es 0 0 l.length ex, .int .i64 i, .int .i64 j] [(0, .arr es (List.map c l) 0)] 1 (.own es 0 0 (delI l i j).length false) [(0, .arr es (List.map c (delI l i j)) 0)] 1 := by
  have e0 : 0 ≤ i := by simpa using h0
  have e1 : i < j := by simpa using h1
  have e2 : j ≤ (l.length : Int) := by simpa using h2
  have e3 : l.length ≤ limN := by simpa [capB] using h3
  have e4 : 0 < es := by rwa [Nat.blt_eq] at hz
  refine del_spec hS ?_
  unfold delP
  simp only [hf, if_true]
  have ht : List.take l.length (List.map c l) = List.map c l := List.take_of_length_le (by simp)
  have hm : List.map c (delI l i j) = (List.map c l).take i.toNat ++ (List.map c l).drop j.toNat := by
    rw [delI, List.map_append, List.map_take, List.map_drop]
  have e5 : j.toNat ≤ l.length := by omega
  simp [delAV, lk, upd, e0, e1, e3, e4, e5, ht, hm, delI_len e0 e1 e2, St.setH]
/-- Elements from a place on become zero. -/
def clrI {α : Type} (l : List α) (k : Nat) (z : α) : List α := l.take k ++ List.replicate (l.length - k) z
theorem clr_len {α : Type} {l v : List α} {k : Int} (z : α) (h : sliceL l k l.length = some v) : (clrI l k.toNat z).length = l.length := by
  unfold sliceL at h
  split at h
  · simp [clrI]
    omega
  · cases h
theorem clr_own {α : Type} {c : α → List AV} {es : Nat} {l v : List α} {k : Int} (z : α) (zc : List AV) (hz : c z = zc) (h : sliceL l k l.length = some v) {s : St} {id : Nat} (hid : lk s.H id = some (.arr es (List.map c l) 0)) {ex : Bool} :
    clrAV es zc s (.own es id k.toNat v.length ex) = match upd s.H id (.arr es (List.map c (clrI l k.toNat z)) 0) with | some H => some (.tup [], s.setH H) | none => none := by
  unfold sliceL at h
  split at h
  · rename_i hc
    obtain rfl := Option.some.inj h
    have hk : k.toNat ≤ l.length := by omega
    have hl : ((l.take (l.length : Int).toNat).drop k.toNat).length = l.length - k.toNat := by simp
    have hr : copyRows (List.map c l) k.toNat (List.replicate (l.length - k.toNat) zc) = List.map c (clrI l k.toNat z) := by
      rw [copyRows_eq _ _ _ (by simp; omega)]
      simp only [clrI, List.map_append, List.map_take, List.map_replicate, hz, List.length_replicate]
      rw [List.drop_eq_nil_of_le (by simp; omega), List.append_nil]
    unfold clrAV
    rw [hl]
    have h2 : k.toNat + (l.length - k.toNat) ≤ (List.map c l).length := by simp; omega
    simp only [hid, hr, Nat.zero_le, true_and, h2, if_true]
    rfl
  · cases h
end Go.Proofs.Ytefjblgmnoheiaa.R

