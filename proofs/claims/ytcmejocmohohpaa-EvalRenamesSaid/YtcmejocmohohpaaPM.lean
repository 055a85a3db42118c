/- Plain laws: folded trees. -/
import Derived.Test.YtcmejocmohohpaaPK
set_option maxRecDepth 100000
set_option linter.unusedVariables false
set_option linter.unusedSimpArgs false
noncomputable section
namespace Go.Proofs.Ytcmejocmohohpaa.R
open Go
theorem kind_mk (k n : Int) (s : ByteArray) (l : List TExpr) : (TExpr.mk k n s l).Kind = k := rfl
theorem n_mk (k n : Int) (s : ByteArray) (l : List TExpr) : (TExpr.mk k n s l).N = n := rfl
theorem name_mk (k n : Int) (s : ByteArray) (l : List TExpr) : (TExpr.mk k n s l).Name = s := rfl
theorem kids_mk (k n : Int) (s : ByteArray) (l : List TExpr) : (TExpr.mk k n s l).Kids = l := rfl
/-! ### Deeper bounds change nothing -/
theorem firstE_all {f : TExpr → Int} : ∀ {l : List TExpr}, (∀ y ∈ l, f y = 0) → firstE f l = 0
  | [], _ => rfl
  | x :: r, h => by
    rw [firstE, if_pos (h x (by simp)), firstE_all fun y hy => h y (by simp [hy])]
theorem chk_succ : ∀ (k : Nat) (x : TExpr), chk k x = 0 → chk (k + 1) x = 0
  | 0, x, h => by simp [chk] at h
  | k + 1, x, h => by
    rw [chk] at h
    split at h
    · rename_i hn
      rw [chk, if_pos hn]
      exact firstE_all fun y hy => chk_succ k y (firstE_zero h y hy)
    · cases h
theorem typB_mono : ∀ (k : Nat) (x : TExpr), typB k x = true → typB (k + 1) x = true
  | 0, x, h => by simp [typB] at h
  | k + 1, x, h => by
    rw [typB_succ, List.all_eq_true] at *
    intro y hy
    have := h y hy
    unfold kidB at *
    rw [Bool.and_eq_true] at *
    exact ⟨typB_mono k y this.1, this.2⟩
/-! ### What folding makes -/
structure FoldOk (k : Nat) (x y : TExpr) : Prop where
  kid : KidOk k y
  tru : truK y.Kind = truK x.Kind
  val : ∀ v, OkV v → (evalS k x v).2 = 0 → evalS k y v = evalS k x v
theorem KidOk.up {k : Nat} {y : TExpr} (h : KidOk k y) : KidOk (k + 1) y := ⟨h.ok, chk_succ _ _ h.chk, typB_mono _ _ h.typ⟩
def yesE (b : Bool) : TExpr := if b = true then .mk 3 0 ⟨#[]⟩ [] else .mk 4 0 ⟨#[]⟩ []
/-! ### Values of what folding makes -/
/-- A plain tree's value is its own. -/
structure Plain (k : Nat) (a : TExpr) : Prop where
  kind : a.Kind = 1 ∨ a.Kind = 3 ∨ a.Kind = 4
  n0 : 0 ≤ a.N
  nz : a.Kind ≠ 1 → a.N = 0
  val : ∀ v, evalS k a v = if a.Kind = 1 then (⟨false, a.N⟩, 0) else (valT (decide (a.Kind = 3)), 0)
/-! ### Sums of plain numbers -/
structure SumOk (kd a b : Int) (o : Option (TExpr × Bool)) : Prop where
  ex : ∃ r f, o = some (r, f) ∧ (f = true → (kd = 12 ∧ r = yesE (decide (a < b))) ∨ (kd ≠ 12 ∧ kd ≠ 11 ∧ ∃ n, r = .mk 1 n ⟨#[]⟩ [] ∧ 0 ≤ n ∧ inR n ∧ numS kd a b = (n, 0)))
end Go.Proofs.Ytcmejocmohohpaa.R
