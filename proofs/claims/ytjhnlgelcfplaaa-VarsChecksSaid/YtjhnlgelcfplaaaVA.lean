/- Plain laws: numbers, elements, lists compared. -/
import Derived.Test.YtjhnlgelcfplaaaMF
import Derived.IntWalk
set_option maxRecDepth 100000
set_option linter.unusedVariables false
set_option linter.unusedSimpArgs false
noncomputable section
namespace Go.Proofs.Ytjhnlgelcfplaaa.R
open Go
/-! ### Ranges -/
def inR (n : Int) : Prop := -9223372036854775808 ≤ n ∧ n ≤ 9223372036854775807
instance (n : Int) : Decidable (inR n) := inferInstanceAs (Decidable (_ ∧ _))
theorem wrap_in {n : Int} (h : inR n) : IntKind.i64.wrap n = n := IntWalk.i64_in n h
theorem wrap_r (n : Int) : inR (IntKind.i64.wrap n) := by
  unfold inR
  rw [IntKind.wrap_i64]
  omega
theorem u64_in {n : Int} (h0 : 0 ≤ n) (h1 : n < 18446744073709551616) : IntKind.u64.wrap n = n := by
  simp only [IntKind.wrap, IntKind.signed, IntKind.bits]
  simp
  omega
theorem u64_mod (n : Int) : IntKind.u64.wrap n = n % 18446744073709551616 := by
  simp only [IntKind.wrap, IntKind.signed, IntKind.bits]
  simp
theorem tmod_nn {a b : Int} (ha : 0 ≤ a) : a.tmod b = a % b := Int.tmod_eq_emod_of_nonneg ha
theorem tdiv_nn {a b : Int} (ha : 0 ≤ a) : a.tdiv b = a / b := Int.tdiv_eq_ediv_of_nonneg ha
theorem wrap_succ {k : Nat} (h : k < 9223372036854775807) : IntKind.i64.wrap ((k : Int) + 1) = ((k + 1 : Nat) : Int) := by
  rw [wrap_in (by unfold inR; omega)]
  rfl
theorem wrap_succ' {i : Int} (h0 : 0 ≤ i) (h : i < 9223372036854775807) : IntKind.i64.wrap (i + 1) = i + 1 := wrap_in (by unfold inR; omega)
/-! ### Elements -/
theorem nthI_nat {α : Type} (l : List α) (k : Nat) : nthI l (k : Int) = l[k]? := by simp [nthI]
theorem nthI_lt {α : Type} {l : List α} {k : Nat} (h : k < l.length) : nthI l (k : Int) = some l[k] := by rw [nthI_nat, List.getElem?_eq_getElem h]
theorem nthI_zero {α : Type} (l : List α) : nthI l 0 = l[0]? := by simp [nthI]
theorem nthI_one {α : Type} (l : List α) : nthI l 1 = l[1]? := by simp [nthI]
theorem bytesI_len (s : ByteArray) : (bytesI s).length = s.size := by simp [bytesI]
theorem nthS_eq (s : ByteArray) (i : Int) : nthS s i = nthI (bytesI s) i := by
  unfold nthS nthI bytesI
  split
  · rw [List.getElem?_map]
  · rfl
theorem maxLen_eq : maxLen = 9223372036854775807 := rfl
theorem capB_small {n : Nat} (h : n ≤ 549755813888) : capB n = true := by
  unfold capB limN
  simpa using h
/-! ### Two lists compared -/
def all2 {α : Type} (p : α → α → Bool) : List α → List α → Bool
  | x :: a, y :: b => p x y && all2 p a b
  | _, _ => true
def same2 {α : Type} (p : α → α → Bool) (a b : List α) : Bool := decide (a.length = b.length) && all2 p a b
theorem all2_loop {α : Type} {p : α → α → Bool} {a b : List α} (hab : a.length = b.length) (hl : a.length ≤ maxLen) {f : Nat → Int → Option Bool}
    (hf : ∀ n (k : Nat), f (n + 1) (k : Int) = if k < a.length then bnd (nthI a (k : Int)) fun x => bnd (nthI b (k : Int)) fun y => if p x y = true then f n (IntKind.i64.wrap ((k : Int) + 1)) else some false else some true) :
    ∀ (m k n : Nat), a.length - k = m → k ≤ a.length → m < n → f n (k : Int) = some (all2 p (a.drop k) (b.drop k)) := by
  intro m
  induction m with
  | zero =>
    intro k n hm hk hn
    obtain ⟨n, rfl⟩ : ∃ n', n = n' + 1 := ⟨n - 1, by omega⟩
    rw [hf, if_neg (by omega), List.drop_eq_nil_of_le (as := a) (by omega)]
    rfl
  | succ m ih =>
    intro k n hm hk hn
    obtain ⟨n, rfl⟩ : ∃ n', n = n' + 1 := ⟨n - 1, by omega⟩
    have h1 : k < a.length := by omega
    have h2 : k < b.length := by omega
    rw [maxLen_eq] at hl
    rw [hf, if_pos h1, nthI_lt h1, nthI_lt h2, bnd_some, bnd_some, wrap_succ (by omega), ih (k + 1) n (by omega) (by omega) (by omega), List.drop_eq_getElem_cons h1, List.drop_eq_getElem_cons h2]
    cases h : p a[k] b[k] <;> simp [all2, h]
theorem all2_loop0 {α : Type} {p : α → α → Bool} {a b : List α} (hab : a.length = b.length) (hl : a.length ≤ maxLen) {f : Nat → Int → Option Bool}
    (hf : ∀ n (k : Nat), f (n + 1) (k : Int) = if k < a.length then bnd (nthI a (k : Int)) fun x => bnd (nthI b (k : Int)) fun y => if p x y = true then f n (IntKind.i64.wrap ((k : Int) + 1)) else some false else some true) :
    f ((((a.length : Int)) - ((0 : Int))).toNat + 1) (0 : Int) = some (all2 p a b) := by
  have := all2_loop hab hl hf _ 0 ((((a.length : Int)) - ((0 : Int))).toNat + 1) rfl (Nat.zero_le _) (by omega)
  simpa using this
theorem all2_refl {α : Type} {p : α → α → Bool} (h : ∀ x, p x x = true) : ∀ (a : List α), all2 p a a = true
  | [] => rfl
  | x :: a => by simp [all2, h x, all2_refl h a]
theorem same2_refl {α : Type} {p : α → α → Bool} (h : ∀ x, p x x = true) (a : List α) : same2 p a a = true := by simp [same2, all2_refl h a]
theorem all2_iff {α : Type} {p : α → α → Bool} (h : ∀ x y, p x y = true ↔ x = y) : ∀ (a b : List α), a.length = b.length → (all2 p a b = true ↔ a = b)
  | [], [], _ => by simp [all2]
  | x :: a, y :: b, hl => by
    have := all2_iff h a b (by simpa using hl)
    simp [all2, h, this]
theorem same2_iff {α : Type} {p : α → α → Bool} (h : ∀ x y, p x y = true ↔ x = y) (a b : List α) : same2 p a b = true ↔ a = b := by
  unfold same2
  by_cases hl : a.length = b.length
  · simp [hl, all2_iff h a b hl]
  · simp [hl]
    rintro rfl
    exact hl rfl
end Go.Proofs.Ytjhnlgelcfplaaa.R
