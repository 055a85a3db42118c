/- Typed lists: one more element at a number, another element at a number. -/
import Derived.Test.YtjhnlgelcfplaaaRIns
import Derived.Test.YtjhnlgelcfplaaaRBun
set_option linter.unusedVariables false
noncomputable section
namespace Go.Proofs.Ytjhnlgelcfplaaa.R
open Go
/-- One more element at a number. -/
def insI {α : Type} (l : List α) (k : Int) (x : α) : List α := l.take k.toNat ++ x :: l.drop k.toNat
theorem setI_len {α : Type} (l : List α) (k : Int) (x : α) : (setI l k x).length = l.length := by simp [setI]
theorem insI_len {α : Type} {l : List α} {k : Int} {x : α} (h : k.toNat ≤ l.length) : (insI l k x).length = l.length + 1 := by
  simp [insI]
  omega
theorem w_ins {P : Program} {fs : List Nat} (hS : Sound P (insP fs)) {f : Nat} (hf : fs.contains f = true) {α : Type} {c : α → List AV} {l : List α} {k : Int} {x : α} {xa : AV} (hx : c x = [xa])
    (h0 : decide (0 ≤ k) = true) (h1 : decide (k ≤ (l.length : Int)) = true) (h2 : capB (l.length + 1) = true) (ex : Bool) :
    Spec P f [.own 1 0 0 l.length ex, .int .i64 k, .own 1 1 0 1 true] [(0, .arr 1 (List.map c l) 0), (1, .arr 1 [[xa]] 0)] 2 (.own 1 2 0 (insI l k x).length false) [(2, .arr 1 (List.map c (insI l k x)) 0), (1, .arr 1 [[xa]] 0)] 3 := by
  have e0 : 0 ≤ k := by simpa using h0
  have e1 : k.toNat ≤ l.length := by
    have : k ≤ (l.length : Int) := by simpa using h1
    omega
  have e2 : l.length + 1 ≤ limN := by simpa [capB] using h2
  refine ins_spec hS hf ?_
  unfold insP
  rw [if_pos hf]
  have ht : List.take l.length (List.map c l) = List.map c l := List.take_of_length_le (by simp)
  have hm : List.map c (insI l k x) = (List.map c l).take k.toNat ++ [xa] :: (List.map c l).drop k.toNat := by
    rw [insI, List.map_append, List.map_cons, hx, List.map_take, List.map_drop]
  simp [insAV, insK, lk, e0, e1, e2, ht, hm, insI_len e1, St.setH, St.add, rmv]
  rfl
end Go.Proofs.Ytjhnlgelcfplaaa.R
