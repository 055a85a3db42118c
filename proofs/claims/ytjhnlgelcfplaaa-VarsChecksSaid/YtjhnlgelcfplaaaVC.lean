/- Plain laws: variables checked, compared, copied. -/
import Derived.Test.YtjhnlgelcfplaaaVB
set_option maxRecDepth 100000
set_option linter.unusedVariables false
set_option linter.unusedSimpArgs false
noncomputable section
namespace Go.Proofs.Ytjhnlgelcfplaaa.R
open Go
def eqI (x y : Int) : Bool := decide (x = y)
theorem eqI_iff (x y : Int) : eqI x y = true ↔ x = y := by simp [eqI]
theorem big_max {n : Nat} (h : n ≤ big63) : n ≤ maxLen := by rw [maxLen_eq]; exact h
theorem eqtexts_eq {a b : List ByteArray} (hl : a.length ≤ maxLen) : m_slices_Equal_string_string a b = some (same2 eqS a b) := by
  unfold m_slices_Equal_string_string same2
  by_cases h : a.length = b.length
  · have h1 : ¬ ((a.length : Int) ≠ (b.length : Int)) := by omega
    rw [decide_eq_false h1, if_neg (by simp), all2_loop0 (f := m_slices_Equal_string_string_l1 a b) (p := eqS) h hl, decide_eq_true h, Bool.true_and]
    intro n k
    rw [m_slices_Equal_string_string_l1, m_slices_Equal_string_string_l1_B]
    simp only [decide_eq_true_eq, Int.ofNat_lt]
  · have h1 : ((a.length : Int) ≠ (b.length : Int)) := by omega
    simp [h1, h]
theorem texts_eq {a b : List ByteArray} (hl : a.length ≤ maxLen) : m_ref08_Texts a b = some (same2 eqS a b) := by
  unfold m_ref08_Texts same2
  by_cases h : a.length = b.length
  · have h1 : ¬ ((a.length : Int) ≠ (b.length : Int)) := by omega
    rw [decide_eq_false h1, if_neg (by simp), all2_loop0 (f := m_ref08_Texts_l1 a b) (p := eqS) h hl, decide_eq_true h, Bool.true_and]
    intro n k
    rw [m_ref08_Texts_l1, m_ref08_Texts_l1_B]
    simp only [decide_eq_true_eq, Int.ofNat_lt]
  · have h1 : ((a.length : Int) ≠ (b.length : Int)) := by omega
    simp [h1, h]
theorem eqints_eq {a b : List Int} (hl : a.length ≤ maxLen) : m_slices_Equal_int64_int64 a b = some (same2 eqI a b) := by
  unfold m_slices_Equal_int64_int64 same2
  by_cases h : a.length = b.length
  · have h1 : ¬ ((a.length : Int) ≠ (b.length : Int)) := by omega
    rw [decide_eq_false h1, if_neg (by simp), all2_loop0 (f := m_slices_Equal_int64_int64_l1 a b) (p := eqI) h hl, decide_eq_true h, Bool.true_and]
    intro n k
    rw [m_slices_Equal_int64_int64_l1, m_slices_Equal_int64_int64_l1_B]
    simp only [decide_eq_true_eq, Int.ofNat_lt]
    congr 1
    congr 1; funext x; congr 1; funext y
    by_cases ht : x = y <;> simp [ht, eqI]
  · have h1 : ((a.length : Int) ≠ (b.length : Int)) := by omega
    simp [h1, h]
def sameV (a b : TVars) : Bool := same2 eqS a.Names b.Names && same2 eqI a.Vals b.Vals
theorem sameV_iff (a b : TVars) : sameV a b = true ↔ a = b := by
  unfold sameV
  rw [Bool.and_eq_true, same2_iff (fun x y => eqS_iff), same2_iff eqI_iff]
  cases a; cases b
  simp
theorem vars_Same {a b : TVars} (ha : OkV a) : m_vars_Same a b = some (sameV a b) := by
  unfold m_vars_Same sameV
  rw [eqtexts_eq (big_max ha.len), eqints_eq (big_max ha.lenV)]
  simp only [bnd_some]
  cases same2 eqS a.Names b.Names <;> simp
theorem ref09_Same {a b : TVars} (ha : OkV a) : m_ref09_Same a b = some (sameV a b) := by
  unfold m_ref09_Same sameV m_ref09_Same_k1
  rw [texts_eq (big_max ha.len)]
  simp only [bnd_some]
  cases same2 eqS a.Names b.Names with
  | false => simp
  | true =>
    simp only [if_true, Bool.true_and]
    unfold same2
    by_cases h : a.Vals.length = b.Vals.length
    · have h1 : ¬ ((a.Vals.length : Int) ≠ (b.Vals.length : Int)) := by omega
      rw [decide_eq_false h1, if_neg (by simp), all2_loop0 (f := m_ref09_Same_l1 a b) (p := eqI) h (big_max ha.lenV), decide_eq_true h, Bool.true_and]
      intro n k
      rw [m_ref09_Same_l1, m_ref09_Same_l1_B]
      simp only [decide_eq_true_eq, Int.ofNat_lt]
      congr 1
      congr 1; funext x; congr 1; funext y
      by_cases ht : x = y <;> simp [ht, eqI]
    · have h1 : ((a.Vals.length : Int) ≠ (b.Vals.length : Int)) := by omega
      simp [h1, h]
/-- Variables that are not more than is waited for. -/
structure Light (v : TVars) : Prop where
  n : v.Names.length ≤ 200
  vl : v.Vals.length ≤ 200
  s : ∀ x ∈ v.Names, x.size ≤ 60
theorem light_loop {v : TVars} (hv : OkV v) : ∀ (m k n : Nat), v.Names.length - k = m → k ≤ v.Names.length → m < n → m_law09_light_l1 v n (k : Int) = some ((v.Names.drop k).all fun x => decide (x.size ≤ 60)) := by
  intro m
  induction m with
  | zero =>
    intro k n hm hk hn
    obtain ⟨n, rfl⟩ : ∃ n', n = n' + 1 := ⟨n - 1, by omega⟩
    have hk' : ¬ ((k : Int) < (v.Names.length : Int)) := by omega
    rw [m_law09_light_l1, m_law09_light_l1_B, decide_eq_false hk', if_neg (by simp), List.drop_eq_nil_of_le (by omega)]
    rfl
  | succ m ih =>
    intro k n hm hk hn
    obtain ⟨n, rfl⟩ : ∃ n', n = n' + 1 := ⟨n - 1, by omega⟩
    have hlt : k < v.Names.length := by omega
    have hk' : ((k : Int) < (v.Names.length : Int)) := by omega
    have hw : IntKind.i64.wrap ((k : Int) + 1) = ((k + 1 : Nat) : Int) := wrap_succ (by have := hv.len; unfold big63 at this; omega)
    rw [m_law09_light_l1, m_law09_light_l1_B, decide_eq_true hk', if_pos rfl, nthI_lt hlt, bnd_some, hw, ih (k + 1) n (by omega) (by omega) (by omega), List.drop_eq_getElem_cons hlt, List.all_cons]
    by_cases h : 60 < v.Names[k].size
    · have h1 : ((60 : Int) < (v.Names[k].size : Int)) := by omega
      have h2 : ¬ v.Names[k].size ≤ 60 := by omega
      simp [h1, h2]
    · have h1 : ¬ ((60 : Int) < (v.Names[k].size : Int)) := by omega
      have h2 : v.Names[k].size ≤ 60 := by omega
      simp [h1, h2]
theorem light_ok {v : TVars} (hv : OkV v) : ∃ b, m_law09_light v = some b ∧ (b = true → Light v) := by
  unfold m_law09_light m_law09_light_k1
  have hl : m_law09_light_l1 v ((((v.Names.length : Int)) - ((0 : Int))).toNat + 1) (0 : Int) = some ((v.Names.drop 0).all fun x => decide (x.size ≤ 60)) := light_loop hv _ 0 ((((v.Names.length : Int)) - ((0 : Int))).toNat + 1) rfl (Nat.zero_le _) (by omega)
  rw [hl]
  by_cases h1 : (200 : Int) < (v.Names.length : Int)
  · exact ⟨false, by simp [h1], by simp⟩
  · by_cases h2 : (200 : Int) < (v.Vals.length : Int)
    · exact ⟨false, by simp [h1, h2], by simp⟩
    · refine ⟨_, by simp only [h1, h2, decide_false, Bool.false_eq_true, if_false]; rfl, fun h => ⟨by omega, by omega, fun x hx => ?_⟩⟩
      have := List.all_eq_true.1 h x (by simpa using hx)
      simpa using this
theorem copy_eq {v : TVars} (h : Light v) : m_vars_Copy v = some v := by
  have h1 : capB v.Names.length = true := capB_small (by have := h.n; omega)
  have h2 : capB v.Vals.length = true := capB_small (by have := h.vl; omega)
  simp [m_vars_Copy, h1, h2]
theorem ans_VarsChecks {v w : TVars} (hv : OkV v) (hw : OkV w) : m_law09_VarsChecks v w = some true := by
  obtain ⟨b, hb, hl⟩ := light_ok hv
  obtain ⟨b', hb', _⟩ := light_ok hw
  unfold m_law09_VarsChecks m_law09_VarsChecks_k1
  rw [hb, hb']
  have hwk : m_law09_works = some true := rfl
  simp only [bnd_some, hwk, if_true]
  cases b with
  | false => simp
  | true =>
    cases b' with
    | false => simp
    | true =>
      have h1 : sameV v v = true := (sameV_iff v v).2 rfl
      simp [vars_Check hv, ref09_Check hv, vars_Same hv, ref09_Same hv, copy_eq (hl rfl), bnd_some, h1]
end Go.Proofs.Ytjhnlgelcfplaaa.R
