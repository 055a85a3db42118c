/- Plain laws: numbers, indices. -/
import Derived.Test.YtcmejocmohohpaaMF
import Derived.IntWalk
set_option maxRecDepth 100000
set_option linter.unusedVariables false
set_option linter.unusedSimpArgs false
noncomputable section
namespace Go.Proofs.Ytcmejocmohohpaa.R
open Go
/-! ### Ranges -/
def inR (n : Int) : Prop := -9223372036854775808 ≤ n ∧ n ≤ 9223372036854775807
instance (n : Int) : Decidable (inR n) := inferInstanceAs (Decidable (_ ∧ _))
theorem wrap_in {n : Int} (h : inR n) : IntKind.i64.wrap n = n := IntWalk.i64_in n h
theorem wrap_r (n : Int) : inR (IntKind.i64.wrap n) := by
  unfold inR
  rw [IntKind.wrap_i64]
  omega
theorem u64_in {n : Int} (h0 : 0 ≤ n) (h1 : n < 18446744073709551616) : IntKind.u64.wrap n = n := by
  simp only [IntKind.wrap, IntKind.signed, IntKind.bits]
  simp
  omega
theorem tdiv_nn {a b : Int} (ha : 0 ≤ a) : a.tdiv b = a / b := Int.tdiv_eq_ediv_of_nonneg ha
theorem wrap_succ {k : Nat} (h : k < 9223372036854775807) : IntKind.i64.wrap ((k : Int) + 1) = ((k + 1 : Nat) : Int) := by
  rw [wrap_in (by unfold inR; omega)]
  rfl
theorem wrap_succ' {i : Int} (h0 : 0 ≤ i) (h : i < 9223372036854775807) : IntKind.i64.wrap (i + 1) = i + 1 := wrap_in (by unfold inR; omega)
/-! ### Elements -/
theorem nthI_nat {α : Type} (l : List α) (k : Nat) : nthI l (k : Int) = l[k]? := by simp [nthI]
theorem nthI_lt {α : Type} {l : List α} {k : Nat} (h : k < l.length) : nthI l (k : Int) = some l[k] := by rw [nthI_nat, List.getElem?_eq_getElem h]
theorem nthI_zero {α : Type} (l : List α) : nthI l 0 = l[0]? := by simp [nthI]
theorem nthI_one {α : Type} (l : List α) : nthI l 1 = l[1]? := by simp [nthI]
theorem bytesI_len (s : ByteArray) : (bytesI s).length = s.size := by simp [bytesI]
theorem nthS_eq (s : ByteArray) (i : Int) : nthS s i = nthI (bytesI s) i := by
  unfold nthS nthI bytesI
  split
  · rw [List.getElem?_map]
  · rfl
/-! ### Numbers -/
/-- What two numbers come to. -/
def numS (kind a b : Int) : Int × Int :=
  if kind = 7 then (if inR (a + b) then (a + b, 0) else (0, 13))
  else if kind = 8 then (if inR (a - b) then (a - b, 0) else (0, 13))
  else if kind = 9 then (if inR (a * b) then (a * b, 0) else (0, 13))
  else if kind = 10 then (if b = 0 then (0, 12) else if inR (a.tdiv b) then (a.tdiv b, 0) else (0, 13))
  else (0, 0)
theorem add_flag {a b : Int} (ha : inR a) (hb : inR b) : (decide (IntKind.i64.wrap (a + b) < a) == decide (b < 0)) = decide (inR (a + b)) := by
  unfold inR at *
  rw [IntKind.wrap_i64]
  by_cases h1 : b < 0 <;> by_cases h2 : -9223372036854775808 ≤ a + b ∧ a + b ≤ 9223372036854775807 <;> simp [h1, h2] <;> omega
theorem sub_flag {a b : Int} (ha : inR a) (hb : inR b) : (decide (a < IntKind.i64.wrap (a - b)) == decide (b < 0)) = decide (inR (a - b)) := by
  unfold inR at *
  rw [IntKind.wrap_i64]
  by_cases h1 : b < 0 <;> by_cases h2 : -9223372036854775808 ≤ a - b ∧ a - b ≤ 9223372036854775807 <;> simp [h1, h2] <;> omega
theorem mul_flag {a b : Int} (ha : inR a) (hb : inR b) (h0 : b ≠ 0) (ha0 : a ≠ 0) :
    (IntKind.i64.wrap ((IntKind.i64.wrap (a * b)).tdiv b) = a ∧ (decide (IntKind.i64.wrap (a * b) < 0) = (decide (a < 0) != decide (b < 0)))) ↔ inR (a * b) := by
  constructor
  · rintro ⟨h1, h2⟩
    have hc := wrap_r (a * b)
    generalize IntKind.i64.wrap (a * b) = c at h1 h2 hc
    unfold inR at *
    have hq : -9223372036854775808 ≤ c.tdiv b ∧ c.tdiv b ≤ 9223372036854775808 := by
      have h3 := Int.natAbs_tdiv_le_natAbs c b
      omega
    -- the quotient, where it fits, is a
    have key : c.tdiv b = a ∨ (c.tdiv b = 9223372036854775808 ∧ a = -9223372036854775808) := by
      rw [IntKind.wrap_i64] at h1
      omega
    rcases key with key | ⟨k1, k2⟩
    · have h4 := Int.natAbs_mul a b
      have h5 : (c.tdiv b * b).natAbs ≤ c.natAbs := by
        rw [Int.natAbs_mul, Int.natAbs_tdiv]
        exact Nat.div_mul_le_self _ _
      rw [key] at h5
      by_cases sa : a < 0 <;> by_cases sb : b < 0 <;> by_cases sc : c < 0 <;> simp [sa, sb, sc] at h2
      · have := Int.mul_pos_of_neg_of_neg sa sb; omega
      · have := Int.mul_neg_of_neg_of_pos sa (by omega : 0 < b); omega
      · have := Int.mul_neg_of_pos_of_neg (by omega : 0 < a) sb; omega
      · have := Int.mul_nonneg (by omega : 0 ≤ a) (by omega : 0 ≤ b); omega
    · have hb1 : b = -1 := by
        have h5 : (c.tdiv b).natAbs = c.natAbs / b.natAbs := Int.natAbs_tdiv ..
        rw [k1] at h5
        have h6 : c.natAbs ≤ 9223372036854775808 := by omega
        have h7 : b.natAbs = 1 := by
          rcases Nat.lt_or_ge b.natAbs 2 with h | h
          · omega
          · have : c.natAbs / b.natAbs ≤ c.natAbs / 2 := Nat.div_le_div_left h (by omega)
            omega
        rcases Int.natAbs_eq b with e | e
        · rw [h7] at e
          have e : b = 1 := by simpa using e
          rw [e] at k1
          simp at k1
          omega
        · rw [h7] at e; simpa using e
      subst hb1
      subst k2
      have : c = -9223372036854775808 := by
        rw [Int.tdiv_neg, Int.tdiv_one] at k1
        omega
      subst this
      simp at h2
  · intro h
    rw [wrap_in h, Int.mul_tdiv_cancel _ h0, wrap_in ha]
    refine ⟨rfl, ?_⟩
    by_cases sa : a < 0 <;> by_cases sb : b < 0
    · have := Int.mul_pos_of_neg_of_neg sa sb
      have h3 : ¬ a * b < 0 := by omega
      simp [sa, sb, h3]
    · have := Int.mul_neg_of_neg_of_pos sa (by omega : 0 < b)
      simp [sa, sb, this]
    · have := Int.mul_neg_of_pos_of_neg (by omega : 0 < a) sb
      simp [sa, sb, this]
    · have := Int.mul_nonneg (by omega : 0 ≤ a) (by omega : 0 ≤ b)
      have h3 : ¬ a * b < 0 := by omega
      simp [sa, sb, h3]
theorem div_in {a b : Int} (ha : inR a) (h0 : b ≠ 0) (h : ¬ (b = -1 ∧ a = -9223372036854775808)) : inR (a.tdiv b) := by
  unfold inR at *
  have h3 := Int.natAbs_tdiv_le_natAbs a b
  by_cases h4 : a = -9223372036854775808
  · have hb1 : b ≠ -1 := fun e => h ⟨e, h4⟩
    by_cases h5 : 0 < b
    · have h8 : 0 ≤ (-a).tdiv b := Int.tdiv_nonneg (by omega) (by omega)
      rw [Int.neg_tdiv] at h8
      omega
    · have h6 : (a.tdiv b).natAbs = a.natAbs / b.natAbs := Int.natAbs_tdiv ..
      have h7 : a.natAbs / b.natAbs ≤ a.natAbs / 2 := Nat.div_le_div_left (by omega) (by omega)
      omega
  · omega
theorem add_eq {a b : Int} (ha : inR a) (hb : inR b) : m_eval_add a b = some (IntKind.i64.wrap (a + b), decide (inR (a + b))) := by
  unfold m_eval_add
  rw [add_flag ha hb]
theorem mul_eq {a b : Int} (ha : inR a) (hb : inR b) : ∃ n, m_eval_mul a b = some (n, decide (inR (a * b))) ∧ (inR (a * b) → n = a * b) := by
  unfold m_eval_mul
  by_cases h1 : a = 0
  · subst h1
    exact ⟨0, by simp [m_eval_mul_k1, show inR 0 by decide], by simp⟩
  · by_cases h2 : b = 0
    · subst h2
      exact ⟨0, by simp [m_eval_mul_k1, h1, show inR 0 by decide], by simp⟩
    · have hf := mul_flag ha hb h2 h1
      refine ⟨IntKind.i64.wrap (a * b), ?_, fun h => wrap_in h⟩
      by_cases hq : IntKind.i64.wrap ((IntKind.i64.wrap (a * b)).tdiv b) = a
      · have h3 : (decide (IntKind.i64.wrap (a * b) < 0) == !(decide (a < 0) == decide (b < 0))) = decide (inR (a * b)) := by
          by_cases hi : inR (a * b)
          · have := (hf.2 hi).2
            simp only [hi, decide_true, this]
            cases decide (a < 0) <;> cases decide (b < 0) <;> rfl
          · have h3 : ¬ decide (IntKind.i64.wrap (a * b) < 0) = (decide (a < 0) != decide (b < 0)) := fun e => hi (hf.1 ⟨hq, e⟩)
            simp only [hi, decide_false]
            revert h3
            cases decide (a < 0) <;> cases decide (b < 0) <;> cases decide (IntKind.i64.wrap (a * b) < 0) <;> simp
        simp [m_eval_mul_k1, h1, h2, hq, h3]
      · have hi : ¬ inR (a * b) := fun e => hq (hf.2 e).1
        simp [m_eval_mul_k1, h1, h2, hq, hi]
theorem number_eq {kind a b : Int} (ha : inR a) (hb : inR b) : m_eval_number kind a b = some (numS kind a b) := by
  unfold m_eval_number numS
  by_cases h7 : kind = 7
  · subst h7
    simp only [add_eq ha hb, bnd_some, m_eval_number_k2]
    by_cases h : inR (a + b)
    · simp [h, wrap_in h]
    · simp [h]
  · by_cases h8 : kind = 8
    · subst h8
      have hf := sub_flag ha hb
      by_cases h : inR (a - b)
      · simp only [h, decide_true] at hf
        simp [hf, h, m_eval_number_k2, wrap_in h]
        omega
      · simp only [h, decide_false] at hf
        simp [hf, h, m_eval_number_k2]
    · by_cases h9 : kind = 9
      · subst h9
        obtain ⟨n, h1, h2⟩ := mul_eq ha hb
        by_cases h : inR (a * b)
        · have := h2 h
          subst this
          simp [h1, h, bnd_some, m_eval_number_k2]
        · simp [h1, h, bnd_some, m_eval_number_k2]
      · by_cases h10 : kind = 10
        · subst h10
          by_cases hb0 : b = 0
          · simp [hb0]
          · by_cases hm : b = -1 ∧ a = -9223372036854775808
            · obtain ⟨rfl, rfl⟩ := hm
              simp [m_eval_number_k1, m_eval_number_k2]
              decide
            · have hd := div_in ha hb0 hm
              by_cases hb1 : b = -1
              · have ha1 : ¬ a = -9223372036854775808 := fun e => hm ⟨hb1, e⟩
                simp [hb0, hb1, ha1, m_eval_number_k1, m_eval_number_k2]
                subst hb1
                simp [hd, wrap_in hd] at hd ⊢
                have : inR (-a) := by simpa using hd
                simp [this, wrap_in this]
              · simp [hb0, hb1, m_eval_number_k1, m_eval_number_k2, hd, wrap_in hd]
        · simp [h7, h8, h9, h10, m_eval_number_k2]
end Go.Proofs.Ytcmejocmohohpaa.R

/- Plain laws: numbers by halves. -/
set_option maxRecDepth 100000
set_option linter.unusedVariables false
set_option linter.unusedSimpArgs false
noncomputable section
namespace Go.Proofs.Ytcmejocmohohpaa.R
open Go
end Go.Proofs.Ytcmejocmohohpaa.R

/- Plain laws: what two numbers come to. -/
set_option maxRecDepth 100000
set_option linter.unusedVariables false
set_option linter.unusedSimpArgs false
noncomputable section
namespace Go.Proofs.Ytcmejocmohohpaa.R
open Go
end Go.Proofs.Ytcmejocmohohpaa.R

/- Plain laws: names, trees that may be, their types. -/
set_option maxRecDepth 100000
set_option linter.unusedVariables false
set_option linter.unusedSimpArgs false
noncomputable section
namespace Go.Proofs.Ytcmejocmohohpaa.R
open Go
def big63 : Nat := 9223372036854775807
/-! ### Names -/
def letB (c : Int) : Bool := decide (97 ≤ c) && decide (c ≤ 122)
def digB (c : Int) : Bool := decide (48 ≤ c) && decide (c ≤ 57)
def nameL (l : List Int) : Bool := l.all (fun c => letB c || digB c) && ((match l with | [] => false | c :: _ => letB c) && decide (l.length ≤ 32))
def nameB (s : ByteArray) : Bool := nameL (bytesI s)
def firstB : List Int → Bool
  | [] => true
  | c :: _ => letB c
theorem firstB_get : ∀ (l : List Int) (h : 0 < l.length), firstB l = letB l[0]
  | [], h => by simp at h
  | c :: r, _ => rfl
theorem ref02_loop (s : ByteArray) (hs : s.size ≤ big63) : ∀ (m k n : Nat), (bytesI s).length - k = m → k ≤ (bytesI s).length → m < n → m_ref02_Name_l1 s n (k : Int) = some (((bytesI s).drop k).all (fun c => letB c || digB c)) := by
  intro m
  induction m with
  | zero =>
    intro k n hm hk hn
    obtain ⟨n, rfl⟩ : ∃ n', n = n' + 1 := ⟨n - 1, by omega⟩
    have hk' : ¬ ((k : Int) < (s.size : Int)) := by rw [← bytesI_len]; omega
    rw [m_ref02_Name_l1, m_ref02_Name_l1_B]
    simp only [hk', decide_false, Bool.false_eq_true, if_false]
    rw [List.drop_eq_nil_of_le (by omega)]
    rfl
  | succ m ih =>
    intro k n hm hk hn
    obtain ⟨n, rfl⟩ : ∃ n', n = n' + 1 := ⟨n - 1, by omega⟩
    have hlt : k < (bytesI s).length := by omega
    have hk' : ((k : Int) < (s.size : Int)) := by rw [← bytesI_len]; omega
    have hc : nthS s (k : Int) = some (bytesI s)[k] := by rw [nthS_eq]; exact nthI_lt hlt
    have hw : IntKind.i64.wrap ((k : Int) + 1) = ((k + 1 : Nat) : Int) := wrap_succ (by have := bytesI_len s; unfold big63 at hs; omega)
    have hih : m_ref02_Name_l1 s n ((k : Int) + 1) = _ := ih (k + 1) n (by omega) (by omega) (by omega)
    rw [m_ref02_Name_l1, m_ref02_Name_l1_B, List.drop_eq_getElem_cons hlt, List.all_cons]
    simp only [hk', decide_true, if_true, hc, bnd_some]
    generalize (bytesI s)[k] = c at *
    have k3 : ∀ d e : Bool, m_ref02_Name_k3 (m_ref02_Name_l1 s n) (k : Int) d e = some ((d || e) && ((bytesI s).drop (k + 1)).all (fun c => letB c || digB c)) := by
      intro d e
      cases d <;> cases e <;> simp [m_ref02_Name_k3, m_ref02_Name_k4, hw, hih]
    have k2 : ∀ d : Bool, m_ref02_Name_k2 (m_ref02_Name_l1 s n) s (k : Int) d = some ((d || letB c) && ((bytesI s).drop (k + 1)).all (fun c => letB c || digB c)) := by
      intro d
      unfold m_ref02_Name_k2
      rw [hc, bnd_some]
      by_cases h : 97 ≤ c
      · simp only [h, decide_true, if_true, bnd_some, k3, letB, Bool.true_and]
      · simp only [h, decide_false, Bool.false_eq_true, if_false, k3, letB, Bool.false_and]
    by_cases h : 48 ≤ c
    · simp only [h, decide_true, if_true, k2, digB, Bool.true_and]
      cases decide (c ≤ 57) <;> cases letB c <;> rfl
    · simp only [h, decide_false, Bool.false_eq_true, if_false, k2, digB, Bool.false_and]
      cases letB c <;> rfl
theorem ref02_name {s : ByteArray} (hs : s.size ≤ big63) : m_ref02_Name s = some (nameB s) := by
  have hlen := bytesI_len s
  unfold m_ref02_Name nameB nameL
  by_cases h0 : s.size = 0
  · have : bytesI s = [] := List.eq_nil_of_length_eq_zero (by omega)
    simp [h0, m_ref02_Name_k1, this]
  · have h0' : ¬ ((s.size : Int) = 0) := by omega
    by_cases h1 : 32 < s.size
    · have h1' : (32 : Int) < (s.size : Int) := by omega
      have : ¬ (bytesI s).length ≤ 32 := by omega
      simp [h0', h1', m_ref02_Name_k1, this]
    · have h1' : ¬ ((32 : Int) < (s.size : Int)) := by omega
      have h32 : (bytesI s).length ≤ 32 := by omega
      have hl := ref02_loop s hs _ 0 ((((s.size : Int)) - 0).toNat + 1) rfl (Nat.zero_le _) (by omega)
      have hl : m_ref02_Name_l1 s ((((s.size : Int)) - 0).toNat + 1) 0 = _ := hl
      cases hb : bytesI s with
      | nil => rw [hb] at hlen; simp at hlen; omega
      | cons c r =>
        have hc : nthS s 0 = some c := by rw [nthS_eq, nthI_zero, hb]; rfl
        simp only [h0', h1', decide_false, Bool.false_eq_true, if_false, hc, bnd_some]
        rw [hb] at hl h32
        simp only [List.drop_zero] at hl
        unfold m_ref02_Name_k1
        by_cases h97 : c < 97
        · have : letB c = false := by unfold letB; simp; omega
          simp [h97, this]
        · simp only [h97, decide_false, Bool.false_eq_true, if_false, hl]
          have hd : letB c = (letB c || digB c) := by
            unfold letB digB
            by_cases h5 : c ≤ 57
            · omega
            · simp [h5]
          simp only [h32, decide_true, Bool.and_true, List.all_cons]
          cases hx : letB c with
          | true => simp
          | false =>
            rw [hx] at hd
            simp [← hd]
theorem pack_loop (s : ByteArray) (hs : s.size ≤ big63) : ∀ (m k n : Nat), (bytesI s).length - k = m → k ≤ (bytesI s).length → m < n →
    m_pack_Name_l1 s n (k : Int) = some (((bytesI s).drop k).all (fun c => letB c || digB c) && ((decide (k ≠ 0) || firstB (bytesI s)) && (decide (1 ≤ s.size) && decide (s.size ≤ 32)))) := by
  intro m
  induction m with
  | zero =>
    intro k n hm hk hn
    obtain ⟨n, rfl⟩ : ∃ n', n = n' + 1 := ⟨n - 1, by omega⟩
    have hk' : ¬ ((k : Int) < (((bytesI s).length : Nat) : Int)) := by omega
    rw [m_pack_Name_l1, m_pack_Name_l1_B]
    simp only [hk', decide_false, Bool.false_eq_true, if_false, m_pack_Name_k3]
    rw [List.drop_eq_nil_of_le (by omega)]
    have e1 : decide ((1 : Int) ≤ (s.size : Int)) = decide (1 ≤ s.size) := by congr 1; apply propext; omega
    have e2 : decide ((s.size : Int) ≤ 32) = decide (s.size ≤ 32) := by congr 1; apply propext; omega
    rw [e1, e2]
    by_cases h0 : k = 0
    · subst h0
      have hz : bytesI s = [] := List.eq_nil_of_length_eq_zero (by omega)
      have hz' : s.size = 0 := by rw [← bytesI_len, hz]; rfl
      simp [hz, hz', firstB]
    · simp [h0]
      by_cases h1 : 1 ≤ s.size <;> simp [h1]
  | succ m ih =>
    intro k n hm hk hn
    obtain ⟨n, rfl⟩ : ∃ n', n = n' + 1 := ⟨n - 1, by omega⟩
    have hlt : k < (bytesI s).length := by omega
    have hk' : ((k : Int) < (((bytesI s).length : Nat) : Int)) := by omega
    have hw : IntKind.i64.wrap ((k : Int) + 1) = ((k + 1 : Nat) : Int) := wrap_succ (by have := bytesI_len s; unfold big63 at hs; omega)
    have hih : m_pack_Name_l1 s n ((k : Int) + 1) = _ := ih (k + 1) n (by omega) (by omega) (by omega)
    simp only [ne_eq, Nat.add_eq_zero_iff, Nat.one_ne_zero, and_false, not_false_eq_true, decide_true, Bool.true_or, Bool.true_and] at hih
    have hnth : nthI (bytesI s) (k : Int) = some (bytesI s)[k] := nthI_lt hlt
    rw [m_pack_Name_l1, m_pack_Name_l1_B, List.drop_eq_getElem_cons hlt, List.all_cons]
    simp only [hk', decide_true, if_true, hnth, bnd_some]
    have hfirst : (decide (k ≠ 0) || firstB (bytesI s)) = (decide (k ≠ 0) || letB (bytesI s)[k]) := by
      by_cases h0 : k = 0
      · subst h0
        rw [firstB_get _ hlt]
      · simp [h0]
    rw [hfirst]
    generalize (bytesI s)[k] = c at *
    have k2 : ∀ b : Bool, m_pack_Name_k2 (m_pack_Name_l1 s n) (k : Int) b = some (!b && (((bytesI s).drop (k + 1)).all (fun c => letB c || digB c) && (decide (1 ≤ s.size) && decide (s.size ≤ 32)))) := by
      intro b
      cases b <;> simp [m_pack_Name_k2, hw, hih]
    have hk0 : decide ((k : Int) = 0) = !decide (k ≠ 0) := by
      by_cases h0 : k = 0 <;> simp [h0]
    have k1 : ∀ b : Bool, m_pack_Name_k1 (m_pack_Name_l1 s n) (k : Int) c b = some ((b || (decide (k ≠ 0) && digB c)) && (((bytesI s).drop (k + 1)).all (fun c => letB c || digB c) && (decide (1 ≤ s.size) && decide (s.size ≤ 32)))) := by
      intro b
      unfold m_pack_Name_k1
      rw [hk0]
      simp only [k2]
      cases b
      · by_cases h0 : k = 0
        · simp [h0]
        · by_cases h1 : c < 48
          · have : digB c = false := by unfold digB; simp; omega
            simp [h0, h1, this]
          · have : digB c = !decide (57 < c) := by
              unfold digB
              by_cases h2 : c ≤ 57
              · have : ¬ 57 < c := by omega
                simp [h2, this]; omega
              · have : 57 < c := by omega
                simp [h2, this]
            simp [h0, h1, this]
      · simp
    by_cases h : 97 ≤ c
    · simp only [h, decide_true, if_true, k1]
      have : letB c = decide (c ≤ 122) := by simp [letB, h]
      rw [this]
      cases decide (c ≤ 122) <;> cases digB c <;> cases decide (k ≠ 0) <;> simp
    · simp only [h, decide_false, Bool.false_eq_true, if_false, k1]
      have : letB c = false := by simp [letB, h]
      rw [this]
      cases digB c <;> cases decide (k ≠ 0) <;> simp
theorem pack_name {s : ByteArray} (hs : s.size ≤ big63) : m_pack_Name s = some (nameB s) := by
  have hlen := bytesI_len s
  unfold m_pack_Name nameB nameL
  have hl := pack_loop s hs _ 0 ((((((bytesI s).length : Nat) : Int)) - 0).toNat + 1) rfl (Nat.zero_le _) (by omega)
  have hl : m_pack_Name_l1 s ((((((bytesI s).length : Nat) : Int)) - 0).toNat + 1) 0 = _ := hl
  rw [hl]
  cases hb : bytesI s with
  | nil =>
    have : s.size = 0 := by rw [← hlen, hb]; rfl
    simp [this]
  | cons c r =>
    have h1 : 1 ≤ s.size := by rw [← hlen, hb]; simp
    have h2 : s.size = (c :: r).length := by rw [← hlen, hb]
    have h3 : 1 ≤ (c :: r).length := by simp
    simp only [h1, h3, decide_true, Bool.true_and, h2, List.drop_zero, ne_eq, not_true_eq_false, decide_false, Bool.false_or, firstB]
end Go.Proofs.Ytcmejocmohohpaa.R

/- Plain laws: trees that may be. -/
set_option maxRecDepth 100000
set_option linter.unusedVariables false
set_option linter.unusedSimpArgs false
noncomputable section
namespace Go.Proofs.Ytcmejocmohohpaa.R
open Go
/-! ### Trees whose numbers, texts and lists are as such may be -/
mutual
def OkE : TExpr → Prop
  | .mk k n s ks => inR k ∧ inR n ∧ s.size ≤ big63 ∧ ks.length ≤ big63 ∧ OkEs ks
def OkEs : List TExpr → Prop
  | [] => True
  | x :: r => OkE x ∧ OkEs r
end
theorem OkEs_mem : ∀ {l : List TExpr}, OkEs l ↔ ∀ x ∈ l, OkE x
  | [] => by simp [OkEs]
  | x :: r => by simp [OkEs, OkEs_mem (l := r)]
theorem OkE_iff (x : TExpr) : OkE x ↔ inR x.Kind ∧ inR x.N ∧ x.Name.size ≤ big63 ∧ x.Kids.length ≤ big63 ∧ ∀ y ∈ x.Kids, OkE y := by
  cases x
  simp only [OkE, OkEs_mem, TExpr.Kind, TExpr.N, TExpr.Name, TExpr.Kids]
structure OkE' (x : TExpr) : Prop where
  kind : inR x.Kind
  n : inR x.N
  name : x.Name.size ≤ big63
  len : x.Kids.length ≤ big63
  kids : ∀ y ∈ x.Kids, OkE y
theorem OkE.of {x : TExpr} (h : OkE x) : OkE' x := by
  obtain ⟨h1, h2, h3, h4, h5⟩ := (OkE_iff x).1 h
  exact ⟨h1, h2, h3, h4, h5⟩
/-! ### 7.4 -/
def yesS : ByteArray := ⟨#[121, 101, 115]⟩
def noS : ByteArray := ⟨#[110, 111]⟩
def kidsOf (k : Int) : Int := if k = 1 ∨ k = 2 ∨ k = 3 ∨ k = 4 then 0 else if k = 5 ∨ k = 6 then 1 else 2
def varB (s : ByteArray) : Bool := nameB s && (!eqS s yesS && !eqS s noS)
def nodeB (x : TExpr) : Bool :=
  (decide (1 ≤ x.Kind) && decide (x.Kind ≤ 14)) && (decide ((x.Kids.length : Int) = kidsOf x.Kind) && (decide (0 ≤ x.N) && ((decide (x.N = 0) || decide (x.Kind = 1)) && (if x.Kind = 2 then varB x.Name else eqS x.Name ⟨#[]⟩))))
def firstE (f : TExpr → Int) : List TExpr → Int
  | [] => 0
  | x :: r => if f x = 0 then firstE f r else f x
def chk : Nat → TExpr → Int
  | 0, _ => 6
  | k + 1, x => if nodeB x = true then firstE (chk k) x.Kids else 1
theorem ref07_node {x : TExpr} (hn : x.Name.size ≤ big63) : m_ref07_node x = some (nodeB x) := by
  have k6 : ∀ b : Bool, m_ref07_node_k6 x b = some (!b && (if x.Kind = 2 then varB x.Name else eqS x.Name ⟨#[]⟩)) := by
    intro b
    unfold m_ref07_node_k6
    cases b
    · by_cases h : x.Kind = 2
      · simp only [h, decide_true, if_true, Bool.false_eq_true, if_false, ref02_name hn, bnd_some, varB, Bool.not_false, Bool.true_and]
        cases nameB x.Name
        · rfl
        · change (if eqS x.Name yesS = true then some false else some (!eqS x.Name noS)) = _
          cases eqS x.Name yesS <;> rfl
      · simp [h]
    · rfl
  have k5 : ∀ b : Bool, m_ref07_node_k5 x b = some (!b && (decide (0 ≤ x.N) && ((decide (x.N = 0) || decide (x.Kind = 1)) && (if x.Kind = 2 then varB x.Name else eqS x.Name ⟨#[]⟩)))) := by
    intro b
    unfold m_ref07_node_k5
    cases b
    · by_cases h : x.N < 0
      · have : ¬ 0 ≤ x.N := by omega
        simp [h, this, k6]
      · have h0 : 0 ≤ x.N := by omega
        by_cases h1 : 0 < x.N
        · have : ¬ x.N = 0 := by omega
          simp [h, h0, h1, this, k6]
        · have : x.N = 0 := by omega
          simp [this, k6]
    · rfl
  have k4 : ∀ m : Int, m_ref07_node_k4 x m = some ((decide (1 ≤ x.Kind) && decide (x.Kind ≤ 14)) && (decide ((x.Kids.length : Int) = m) && (decide (0 ≤ x.N) && ((decide (x.N = 0) || decide (x.Kind = 1)) && (if x.Kind = 2 then varB x.Name else eqS x.Name ⟨#[]⟩))))) := by
    intro m
    unfold m_ref07_node_k4
    by_cases h : x.Kind < 1
    · have : ¬ 1 ≤ x.Kind := by omega
      simp [h, this, k5]
    · by_cases h1 : 14 < x.Kind
      · have : ¬ x.Kind ≤ 14 := by omega
        simp [h, h1, this, k5]
      · have e1 : 1 ≤ x.Kind := by omega
        have e2 : x.Kind ≤ 14 := by omega
        simp [h, h1, e1, e2, k5]
  have k23 : ∀ m : Int, m_ref07_node_k2 x m = m_ref07_node_k4 x (if x.Kind = 5 ∨ x.Kind = 6 then 1 else m) := by
    intro m
    unfold m_ref07_node_k2 m_ref07_node_k3
    by_cases h5 : x.Kind = 5
    · simp [h5]
    · by_cases h6 : x.Kind = 6 <;> simp [h5, h6]
  unfold m_ref07_node m_ref07_node_k1 nodeB
  by_cases h1 : 1 ≤ x.Kind
  · by_cases h4 : x.Kind ≤ 4
    · have e : kidsOf x.Kind = 0 := by
        unfold kidsOf
        rw [if_pos (by omega)]
      have h5 : ¬ (x.Kind = 5 ∨ x.Kind = 6) := by omega
      simp only [h1, h4, decide_true, if_true, k23, h5, if_false, k4, e]
    · have e : kidsOf x.Kind = if x.Kind = 5 ∨ x.Kind = 6 then 1 else 2 := by
        unfold kidsOf
        rw [if_neg (by omega)]
      simp only [h1, h4, decide_true, decide_false, if_true, Bool.false_eq_true, if_false, k23, k4, e]
  · have e : kidsOf x.Kind = if x.Kind = 5 ∨ x.Kind = 6 then 1 else 2 := by
      unfold kidsOf
      rw [if_neg (by omega)]
    simp only [h1, decide_false, Bool.false_eq_true, if_false, k23, k4, e]
theorem expr_head {x : TExpr} (hn : x.Name.size ≤ big63) (rc : TExpr → Int → Option Int) (deep : Int) (hd : ¬ 16 < deep) :
    m_expr_check_B rc x deep = if nodeB x = true then m_expr_check_l1 rc x deep ((((x.Kids.length : Int)) - 0).toNat + 1) 0 else some 1 := by
  have k6 : ∀ b : Bool, m_expr_check_k6 rc x deep b = if (!b) = true then m_expr_check_l1 rc x deep ((((x.Kids.length : Int)) - 0).toNat + 1) 0 else some 1 := by
    intro b
    cases b <;> rfl
  have k5 : ∀ b : Bool, m_expr_check_k5 rc x deep b = if (!b && (if x.Kind = 2 then varB x.Name else eqS x.Name ⟨#[]⟩)) = true then m_expr_check_l1 rc x deep ((((x.Kids.length : Int)) - 0).toNat + 1) 0 else some 1 := by
    intro b
    unfold m_expr_check_k5
    cases b
    · by_cases h : x.Kind = 2
      · simp only [h, decide_true, if_true, Bool.false_eq_true, if_false, pack_name hn, bnd_some, varB, Bool.not_false, Bool.true_and, ne_eq, not_true_eq_false, decide_false, k6]
        cases nameB x.Name
        · rfl
        · change (if eqS x.Name yesS = true then _ else if (!eqS x.Name noS) = true then _ else _) = _
          cases eqS x.Name yesS <;> rfl
      · simp only [h, ne_eq, not_false_eq_true, decide_true, decide_false, if_true, Bool.false_eq_true, if_false, k6, Bool.not_false, Bool.true_and]
        cases eqS x.Name ⟨#[]⟩ <;> rfl
    · rfl
  have k4 : ∀ b : Bool, m_expr_check_k4 rc x deep b = if (!b && (decide (0 ≤ x.N) && ((decide (x.N = 0) || decide (x.Kind = 1)) && (if x.Kind = 2 then varB x.Name else eqS x.Name ⟨#[]⟩)))) = true then m_expr_check_l1 rc x deep ((((x.Kids.length : Int)) - 0).toNat + 1) 0 else some 1 := by
    intro b
    unfold m_expr_check_k4
    cases b
    · by_cases h : x.N < 0
      · have : ¬ 0 ≤ x.N := by omega
        simp [h, this, k5]
      · have h0 : 0 ≤ x.N := by omega
        by_cases h1 : x.N = 0
        · simp [h1, k5]
        · simp [h, h0, h1, k5]
    · rfl
  have k3 : ∀ m : Int, m_expr_check_k3 rc x deep m = if ((decide (1 ≤ x.Kind) && decide (x.Kind ≤ 14)) && (decide ((x.Kids.length : Int) = m) && (decide (0 ≤ x.N) && ((decide (x.N = 0) || decide (x.Kind = 1)) && (if x.Kind = 2 then varB x.Name else eqS x.Name ⟨#[]⟩))))) = true then m_expr_check_l1 rc x deep ((((x.Kids.length : Int)) - 0).toNat + 1) 0 else some 1 := by
    intro m
    unfold m_expr_check_k3
    by_cases h : x.Kind < 1
    · have : ¬ 1 ≤ x.Kind := by omega
      simp [h, this, k4]
    · by_cases h1 : 14 < x.Kind
      · have : ¬ x.Kind ≤ 14 := by omega
        simp [h, h1, this, k4]
      · have e1 : 1 ≤ x.Kind := by omega
        have e2 : x.Kind ≤ 14 := by omega
        by_cases h3 : (x.Kids.length : Int) = m
        · simp [h, h1, e1, e2, k4, h3]
        · simp [h, h1, e1, e2, k4, h3]
  have head : m_expr_check_B rc x deep = m_expr_check_k3 rc x deep (kidsOf x.Kind) := by
    unfold m_expr_check_B m_expr_check_k1 m_expr_check_k2 kidsOf
    simp only [hd, decide_false, Bool.false_eq_true, if_false]
    by_cases h1 : x.Kind = 1
    · simp [h1]
    · by_cases h2 : x.Kind = 2
      · simp [h2]
      · by_cases h3 : x.Kind = 3
        · simp [h3]
        · by_cases h4 : x.Kind = 4
          · simp [h4]
          · by_cases h5 : x.Kind = 5
            · simp [h5]
            · by_cases h6 : x.Kind = 6 <;> simp [h1, h2, h3, h4, h5, h6]
  rw [head, k3]
  rfl
/-- The parts of a tree, one behind the other. -/
theorem expr_loop {x : TExpr} (hl : x.Kids.length ≤ big63) {rc : TExpr → Int → Option Int} {deep : Int} {f : TExpr → Int} (hrc : ∀ y ∈ x.Kids, rc y (IntKind.i64.wrap (deep + 1)) = some (f y)) :
    ∀ (m k n : Nat), x.Kids.length - k = m → k ≤ x.Kids.length → m < n → m_expr_check_l1 rc x deep n (k : Int) = some (firstE f (x.Kids.drop k)) := by
  intro m
  induction m with
  | zero =>
    intro k n hm hk hn
    obtain ⟨n, rfl⟩ : ∃ n', n = n' + 1 := ⟨n - 1, by omega⟩
    have hk' : ¬ ((k : Int) < (x.Kids.length : Int)) := by omega
    rw [m_expr_check_l1, m_expr_check_l1_B, List.drop_eq_nil_of_le (by omega)]
    simp [hk', firstE]
  | succ m ih =>
    intro k n hm hk hn
    obtain ⟨n, rfl⟩ : ∃ n', n = n' + 1 := ⟨n - 1, by omega⟩
    have hlt : k < x.Kids.length := by omega
    have hk' : ((k : Int) < (x.Kids.length : Int)) := by omega
    have hw : IntKind.i64.wrap ((k : Int) + 1) = (k : Int) + 1 := wrap_succ' (by omega) (by unfold big63 at hl; omega)
    have hih : m_expr_check_l1 rc x deep n ((k : Int) + 1) = _ := ih (k + 1) n (by omega) (by omega) (by omega)
    rw [m_expr_check_l1, m_expr_check_l1_B, List.drop_eq_getElem_cons hlt]
    simp only [hk', decide_true, if_true, nthI_lt hlt, bnd_some, hrc _ (List.getElem_mem hlt), firstE, hw, hih]
    by_cases h : f x.Kids[k] = 0 <;> simp [h]
theorem ref07_loop {x : TExpr} (hl : x.Kids.length ≤ big63) {rc : TExpr → Int → Option Int} {deep : Int} {f : TExpr → Int} (hrc : ∀ y ∈ x.Kids, rc y (IntKind.i64.wrap (deep + 1)) = some (f y)) :
    ∀ (m k n : Nat), x.Kids.length - k = m → k ≤ x.Kids.length → m < n → m_ref07_check_l1 rc x deep n (k : Int) = some (firstE f (x.Kids.drop k)) := by
  intro m
  induction m with
  | zero =>
    intro k n hm hk hn
    obtain ⟨n, rfl⟩ : ∃ n', n = n' + 1 := ⟨n - 1, by omega⟩
    have hk' : ¬ ((k : Int) < (x.Kids.length : Int)) := by omega
    rw [m_ref07_check_l1, m_ref07_check_l1_B, List.drop_eq_nil_of_le (by omega)]
    simp [hk', firstE]
  | succ m ih =>
    intro k n hm hk hn
    obtain ⟨n, rfl⟩ : ∃ n', n = n' + 1 := ⟨n - 1, by omega⟩
    have hlt : k < x.Kids.length := by omega
    have hk' : ((k : Int) < (x.Kids.length : Int)) := by omega
    have hw : IntKind.i64.wrap ((k : Int) + 1) = (k : Int) + 1 := wrap_succ' (by omega) (by unfold big63 at hl; omega)
    have hih : m_ref07_check_l1 rc x deep n ((k : Int) + 1) = _ := ih (k + 1) n (by omega) (by omega) (by omega)
    rw [m_ref07_check_l1, m_ref07_check_l1_B, List.drop_eq_getElem_cons hlt]
    simp only [hk', decide_true, if_true, nthI_lt hlt, bnd_some, hrc _ (List.getElem_mem hlt), firstE, hw, hih]
    by_cases h : f x.Kids[k] = 0 <;> simp [h]
theorem expr_check_eq : ∀ (k : Nat) (x : TExpr) (deep : Int) (n : Nat), OkE x → deep = 17 - (k : Int) → k ≤ 16 → k < n → m_expr_check n x deep = some (chk k x)
  | 0, x, deep, n, hx, hd, hk, hn => by
    obtain ⟨n, rfl⟩ : ∃ n', n = n' + 1 := ⟨n - 1, by omega⟩
    have : 16 < deep := by omega
    simp [m_expr_check, m_expr_check_B, this, chk]
  | k + 1, x, deep, n, hx, hd, hk, hn => by
    obtain ⟨n, rfl⟩ : ∃ n', n = n' + 1 := ⟨n - 1, by omega⟩
    have h := hx.of
    rw [m_expr_check, expr_head h.name _ _ (by omega), chk]
    split
    · have hw : IntKind.i64.wrap (deep + 1) = deep + 1 := wrap_in (by unfold inR; omega)
      have := expr_loop (rc := m_expr_check n) (deep := deep) (f := chk k) h.len (fun y hy => by rw [hw]; exact expr_check_eq k y (deep + 1) n (h.kids y hy) (by omega) (by omega) (by omega)) _ 0 ((((x.Kids.length : Int)) - 0).toNat + 1) rfl (Nat.zero_le _) (by omega)
      simpa using this
    · rfl
theorem ref07_check_eq : ∀ (k : Nat) (x : TExpr) (deep : Int) (n : Nat), OkE x → deep = 17 - (k : Int) → k ≤ 16 → k < n → m_ref07_check n x deep = some (chk k x)
  | 0, x, deep, n, hx, hd, hk, hn => by
    obtain ⟨n, rfl⟩ : ∃ n', n = n' + 1 := ⟨n - 1, by omega⟩
    have : 16 < deep := by omega
    simp [m_ref07_check, m_ref07_check_B, this, chk]
  | k + 1, x, deep, n, hx, hd, hk, hn => by
    obtain ⟨n, rfl⟩ : ∃ n', n = n' + 1 := ⟨n - 1, by omega⟩
    have h := hx.of
    have hd' : ¬ 16 < deep := by omega
    rw [m_ref07_check, m_ref07_check_B, chk]
    simp only [hd', decide_false, Bool.false_eq_true, if_false, ref07_node h.name, bnd_some]
    split
    · have hw : IntKind.i64.wrap (deep + 1) = deep + 1 := wrap_in (by unfold inR; omega)
      have := ref07_loop (rc := m_ref07_check n) (deep := deep) (f := chk k) h.len (fun y hy => by rw [hw]; exact ref07_check_eq k y (deep + 1) n (h.kids y hy) (by omega) (by omega) (by omega)) _ 0 ((((x.Kids.length : Int)) - 0).toNat + 1) rfl (Nat.zero_le _) (by omega)
      simpa using this
    · rfl
theorem expr_Check {x : TExpr} (hx : OkE x) : m_expr_Check x = some (chk 16 x) := by
  rw [m_expr_Check, expr_check_eq 16 x 1 100 hx (by decide) (by decide) (by decide)]
  rfl
theorem ref07_Check {x : TExpr} (hx : OkE x) : m_ref07_Check x = some (chk 16 x) := by
  rw [m_ref07_Check, ref07_check_eq 16 x 1 100 hx (by decide) (by decide) (by decide)]
  rfl
end Go.Proofs.Ytcmejocmohohpaa.R

/- Plain laws: what trees come to, ahead of any value. -/
set_option maxRecDepth 100000
set_option linter.unusedVariables false
set_option linter.unusedSimpArgs false
noncomputable section
namespace Go.Proofs.Ytcmejocmohohpaa.R
open Go
theorem firstE_zero {f : TExpr → Int} : ∀ {l : List TExpr}, firstE f l = 0 → ∀ y ∈ l, f y = 0
  | [], _, y, hy => by simp at hy
  | x :: r, h, y, hy => by
    rw [firstE] at h
    split at h
    · rename_i h0
      rcases List.mem_cons.1 hy with rfl | hy
      · exact h0
      · exact firstE_zero h y hy
    · rename_i h0
      exact absurd h h0
/-! ### 8.1 -/
def truK (k : Int) : Bool := decide (k = 3) || (decide (k = 4) || (decide (k = 6) || (decide (k = 11) || (decide (k = 12) || (decide (k = 13) || decide (k = 14))))))
/-- What the parts of a kind must come to: a truth? none: either, but all as the first. -/
def wantK (k : Int) : Option Bool := if k = 11 then none else some (decide (k = 6) || (decide (k = 13) || decide (k = 14)))
def typB : Nat → TExpr → Bool
  | 0, _ => false
  | n + 1, x => x.Kids.all fun y => typB n y && (match wantK x.Kind with | some w => truK y.Kind == w | none => match x.Kids with | z :: _ => truK y.Kind == truK z.Kind | [] => true)
/-- All kids of a list are such as they must be. -/
def kidB (n : Nat) (x : TExpr) (y : TExpr) : Bool := typB n y && (match wantK x.Kind with | some w => truK y.Kind == w | none => match x.Kids with | z :: _ => truK y.Kind == truK z.Kind | [] => true)
theorem typB_succ (n : Nat) (x : TExpr) : typB (n + 1) x = x.Kids.all (kidB n x) := rfl
/-! ### The program's own -/
def b2i (b : Bool) : Int := if b = true then 1 else 0
def tk (x : TExpr) : Int := b2i (truK x.Kind)
def typR (k : Nat) (x : TExpr) : Int × Int := if typB k x = true then (tk x, 0) else (0, 7)
theorem b2i_eq {a b : Bool} : b2i a = b2i b ↔ a = b := by cases a <;> cases b <;> simp [b2i]
def wantI (k : Int) : Int := match wantK k with | some w => b2i w | none => -1
theorem shape_eq {k : Int} (h1 : 1 ≤ k) (h2 : k ≤ 14) : m_types_shape k = some (if k = 3 ∨ k = 4 then 1 else wantI k, b2i (truK k)) := by
  have : k = 1 ∨ k = 2 ∨ k = 3 ∨ k = 4 ∨ k = 5 ∨ k = 6 ∨ k = 7 ∨ k = 8 ∨ k = 9 ∨ k = 10 ∨ k = 11 ∨ k = 12 ∨ k = 13 ∨ k = 14 := by omega
  rcases this with h | h | h | h | h | h | h | h | h | h | h | h | h | h <;> subst h <;> decide
def wantP (x : TExpr) (k : Nat) (w : Int) : Prop :=
  match wantK x.Kind with
  | some b => w = b2i b
  | none => if k = 0 then w = -1 else ∃ z r, x.Kids = z :: r ∧ w = tk z
theorem types_loop {x : TExpr} (hl : x.Kids.length ≤ big63) {rc : TExpr → Option (Int × Int)} {n0 : Nat} {r0 : Int × Int} (hrc : ∀ y ∈ x.Kids, rc y = some (typR n0 y)) :
    ∀ (m k n : Nat) (w : Int), x.Kids.length - k = m → k ≤ x.Kids.length → m < n → wantP x k w → m_types_of_l1 rc x r0 n w (k : Int) = some (if (x.Kids.drop k).all (kidB n0 x) = true then (r0.2, 0) else (0, 7)) := by
  intro m
  induction m with
  | zero =>
    intro k n w hm hk hn hw
    obtain ⟨n, rfl⟩ : ∃ n', n = n' + 1 := ⟨n - 1, by omega⟩
    have hk' : ¬ ((k : Int) < (x.Kids.length : Int)) := by omega
    rw [m_types_of_l1, m_types_of_l1_B, List.drop_eq_nil_of_le (by omega)]
    simp [hk', m_types_of_k3]
  | succ m ih =>
    intro k n w hm hk hn hwp
    obtain ⟨n, rfl⟩ : ∃ n', n = n' + 1 := ⟨n - 1, by omega⟩
    have hlt : k < x.Kids.length := by omega
    have hk' : ((k : Int) < (x.Kids.length : Int)) := by omega
    have hw : IntKind.i64.wrap ((k : Int) + 1) = (k : Int) + 1 := wrap_succ' (by omega) (by unfold big63 at hl; omega)
    have hih : ∀ w', wantP x (k + 1) w' → m_types_of_l1 rc x r0 n w' ((k : Int) + 1) = _ := fun w' h => ih (k + 1) n w' (by omega) (by omega) (by omega) h
    rw [m_types_of_l1, m_types_of_l1_B, List.drop_eq_getElem_cons hlt, List.all_cons]
    simp only [hk', decide_true, if_true, nthI_lt hlt, bnd_some, hrc _ (List.getElem_mem hlt)]
    obtain ⟨z, r, hz⟩ : ∃ z r, x.Kids = z :: r := by
      cases h : x.Kids with
      | nil => rw [h] at hlt; simp at hlt
      | cons z r => exact ⟨z, r, rfl⟩
    have hfirst : k = 0 → x.Kids[k] = z := by
      intro h0
      subst h0
      simp [hz]
    generalize x.Kids[k] = y at *
    have hkid : kidB n0 x y = (typB n0 y && (match wantK x.Kind with | some w => truK y.Kind == w | none => truK y.Kind == truK z.Kind)) := by
      unfold kidB
      rw [hz]
    rw [hkid]
    unfold typR
    cases hty : typB n0 y
    · simp
    · simp only [if_true, Bool.true_and, ne_eq, not_true_eq_false, decide_false, Bool.false_eq_true, if_false]
      have k2 : ∀ w' : Int, wantP x (k + 1) w' → m_types_of_k2 (m_types_of_l1 rc x r0 n) (k : Int) (tk y, 0) w' = some (if (decide (tk y = w') && (x.Kids.drop (k + 1)).all (kidB n0 x)) = true then (r0.2, 0) else (0, 7)) := by
        intro w' hw'
        unfold m_types_of_k2
        rw [hw, hih w' hw']
        by_cases h : tk y = w' <;> simp [h]
      unfold wantP at hwp
      cases hwk : wantK x.Kind with
      | some b =>
        rw [hwk] at hwp
        simp only at hwp
        have hwp' : wantP x (k + 1) w := by unfold wantP; rw [hwk]; exact hwp
        have hn0 : ¬ w < 0 := by rw [hwp]; unfold b2i; split <;> omega
        have hd : decide (tk y = w) = (truK y.Kind == b) := by
          rw [hwp]
          unfold tk
          by_cases h : truK y.Kind = b
          · simp [h]
          · have : ¬ b2i (truK y.Kind) = b2i b := fun e => h (b2i_eq.1 e)
            simp [h, this]
        have hk1 := k2 w hwp'
        rw [hd] at hk1
        by_cases h0 : (k : Int) = 0
        · rw [h0] at hk1 ⊢
          simp only [decide_true, if_true, hn0, decide_false, m_types_of_k1, Bool.false_eq_true, if_false, hk1]
        · simp only [h0, decide_false, m_types_of_k1, Bool.false_eq_true, if_false, hk1]
      | none =>
        rw [hwk] at hwp
        simp only at hwp
        by_cases h0 : k = 0
        · have hy := hfirst h0
          subst hy
          rw [if_pos h0] at hwp
          have hwp' : wantP x (k + 1) (tk y) := by
            unfold wantP
            rw [hwk]
            simp only
            rw [if_neg (by omega)]
            exact ⟨y, r, hz, rfl⟩
          have hk0 : (k : Int) = 0 := by omega
          have := k2 (tk y) hwp'
          simp only [hk0] at this ⊢
          have hm1 : ((-1 : Int) < 0) := by decide
          simp only [hwp, decide_true, if_true, hm1, m_types_of_k1, this, beq_self_eq_true]
        · rw [if_neg h0] at hwp
          obtain ⟨z', r', e1, e2⟩ := hwp
          rw [hz] at e1
          simp only [List.cons.injEq] at e1
          obtain ⟨rfl, rfl⟩ := e1
          have hwp' : wantP x (k + 1) w := by
            unfold wantP
            rw [hwk]
            simp only
            rw [if_neg (by omega)]
            exact ⟨z, r, hz, e2⟩
          have hk0 : ¬ (k : Int) = 0 := by omega
          have hd : decide (tk y = w) = (truK y.Kind == truK z.Kind) := by
            rw [e2]
            unfold tk
            by_cases h : truK y.Kind = truK z.Kind
            · simp [h]
            · have : ¬ b2i (truK y.Kind) = b2i (truK z.Kind) := fun e => h (b2i_eq.1 e)
              simp [h, this]
          have hk1 := k2 w hwp'
          rw [hd] at hk1
          simp only [hk0, decide_false, m_types_of_k1, Bool.false_eq_true, if_false, hk1]
theorem node_kind {x : TExpr} (h : nodeB x = true) : 1 ≤ x.Kind ∧ x.Kind ≤ 14 ∧ (x.Kids.length : Int) = kidsOf x.Kind := by
  unfold nodeB at h
  simp only [Bool.and_eq_true, decide_eq_true_eq] at h
  exact ⟨h.1.1, h.1.2, h.2.1⟩
theorem types_of : ∀ (k : Nat) (x : TExpr) (n : Nat), OkE x → chk k x = 0 → k < n → m_types_of n x = some (typR k x)
  | 0, x, n, hx, hc, hn => by simp [chk] at hc
  | k + 1, x, n, hx, hc, hn => by
    obtain ⟨n, rfl⟩ : ∃ n', n = n' + 1 := ⟨n - 1, by omega⟩
    have h := hx.of
    rw [chk] at hc
    split at hc
    · rename_i hnode
      obtain ⟨g1, g2, g3⟩ := node_kind hnode
      have hkids := firstE_zero hc
      rw [m_types_of, m_types_of_B, shape_eq g1 g2, bnd_some]
      have hwp : x.Kids = [] ∨ wantP x 0 (if x.Kind = 3 ∨ x.Kind = 4 then 1 else wantI x.Kind) := by
        by_cases h34 : x.Kind = 3 ∨ x.Kind = 4
        · left
          have : kidsOf x.Kind = 0 := by unfold kidsOf; rw [if_pos (by omega)]
          rw [this] at g3
          exact List.eq_nil_of_length_eq_zero (by omega)
        · right
          rw [if_neg h34]
          unfold wantP wantI
          cases wantK x.Kind <;> simp
      rcases hwp with h0 | hwp
      · have : m_types_of_l1 (m_types_of n) x (if x.Kind = 3 ∨ x.Kind = 4 then 1 else wantI x.Kind, b2i (truK x.Kind)) ((((x.Kids.length : Int)) - 0).toNat + 1) (if x.Kind = 3 ∨ x.Kind = 4 then 1 else wantI x.Kind, b2i (truK x.Kind)).1 0 = some (b2i (truK x.Kind), 0) := by
          rw [m_types_of_l1, m_types_of_l1_B]
          simp [h0, m_types_of_k3]
        rw [this]
        simp [typR, typB_succ, h0, tk]
      · have := types_loop (rc := m_types_of n) (n0 := k) (r0 := (if x.Kind = 3 ∨ x.Kind = 4 then 1 else wantI x.Kind, b2i (truK x.Kind))) h.len (fun y hy => types_of k y n (h.kids y hy) (hkids y hy) (by omega)) _ 0 ((((x.Kids.length : Int)) - 0).toNat + 1) _ rfl (Nat.zero_le _) (by omega) hwp
        rw [show (((0 : Nat) : Int)) = 0 from rfl] at this
        rw [this]
        simp [typR, typB_succ, tk]
    · cases hc
/-- 8.1: what a condition comes to. -/
def truR (x : TExpr) : Bool × Int := if chk 16 x = 0 then (if typB 16 x = true then (truK x.Kind, 0) else (false, 7)) else (false, chk 16 x)
theorem types_Truth {x : TExpr} (hx : OkE x) : m_types_Truth x = some (truR x) := by
  rw [m_types_Truth, expr_Check hx, bnd_some]
  unfold truR
  by_cases h : chk 16 x = 0
  · have := types_of 16 x 100 hx h (by decide)
    simp only [h, ne_eq, not_true_eq_false, decide_false, Bool.false_eq_true, if_false, this, bnd_some, if_true, typR]
    cases typB 16 x
    · rfl
    · simp only [if_true, tk]
      cases truK x.Kind <;> rfl
  · simp [h]
end Go.Proofs.Ytcmejocmohohpaa.R

/- Plain laws: variables. -/
set_option maxRecDepth 100000
set_option linter.unusedVariables false
set_option linter.unusedSimpArgs false
noncomputable section
namespace Go.Proofs.Ytcmejocmohohpaa.R
open Go
/-! ### The order of texts -/
theorem bl_irr : ∀ x : List UInt8, Op.bytesLess x x = false
  | [] => rfl
  | a :: x => by simp [Op.bytesLess, bl_irr x]
theorem bl_trans : ∀ {x y z : List UInt8}, Op.bytesLess x y = true → Op.bytesLess y z = true → Op.bytesLess x z = true
  | [], [], z, h, h' => by simp [Op.bytesLess] at h
  | [], b :: y, [], h, h' => by simp [Op.bytesLess] at h'
  | [], b :: y, c :: z, h, h' => by simp [Op.bytesLess]
  | a :: x, [], z, h, h' => by simp [Op.bytesLess] at h
  | a :: x, b :: y, [], h, h' => by simp [Op.bytesLess] at h'
  | a :: x, b :: y, c :: z, h, h' => by
    simp only [Op.bytesLess, Bool.or_eq_true, decide_eq_true_eq, Bool.and_eq_true, beq_iff_eq] at h h' ⊢
    rcases h with h | ⟨rfl, h⟩
    · rcases h' with h' | ⟨rfl, h'⟩
      · exact .inl (UInt8.lt_trans h h')
      · exact .inl h
    · rcases h' with h' | ⟨rfl, h'⟩
      · exact .inl h'
      · exact .inr ⟨rfl, bl_trans h h'⟩
theorem bl_tri : ∀ (x y : List UInt8), Op.bytesLess x y = true ∨ x = y ∨ Op.bytesLess y x = true
  | [], [] => .inr (.inl rfl)
  | [], b :: y => .inl rfl
  | a :: x, [] => .inr (.inr rfl)
  | a :: x, b :: y => by
    simp only [Op.bytesLess, Bool.or_eq_true, decide_eq_true_eq, Bool.and_eq_true, beq_iff_eq]
    rcases Nat.lt_trichotomy a.toNat b.toNat with h | h | h
    · exact .inl (.inl (UInt8.lt_iff_toNat_lt.2 h))
    · have : a = b := UInt8.toNat_inj.1 h
      subst this
      rcases bl_tri x y with h | h | h
      · exact .inl (.inr ⟨rfl, h⟩)
      · subst h; exact .inr (.inl rfl)
      · exact .inr (.inr (.inr ⟨rfl, h⟩))
    · exact .inr (.inr (.inl (UInt8.lt_iff_toNat_lt.2 h)))
theorem ltS_irr (a : ByteArray) : ltS a a = false := bl_irr _
theorem ltS_trans {a b c : ByteArray} (h : ltS a b = true) (h' : ltS b c = true) : ltS a c = true := bl_trans h h'
theorem ltS_tri (a b : ByteArray) : ltS a b = true ∨ a = b ∨ ltS b a = true := by
  rcases bl_tri a.toList b.toList with h | h | h
  · exact .inl h
  · exact .inr (.inl (toList_inj h))
  · exact .inr (.inr h)
theorem ltS_asymm {a b : ByteArray} (h : ltS a b = true) : ltS b a = false := by
  cases hb : ltS b a with
  | false => rfl
  | true => have := ltS_trans h hb; rw [ltS_irr] at this; cases this
theorem eqS_self (a : ByteArray) : eqS a a = true := eqS_iff.2 rfl
/-! ### 9.1 -/
structure OkV (v : TVars) : Prop where
  len : v.Names.length ≤ big63
  lenV : v.Vals.length ≤ big63
  names : ∀ s ∈ v.Names, s.size ≤ big63
  vals : ∀ n ∈ v.Vals, inR n
def afterB : Option ByteArray → ByteArray → Bool
  | none, _ => true
  | some q, x => ltS q x
/-- Names that may be, rising, behind one. -/
def namesB : Option ByteArray → List ByteArray → Bool
  | _, [] => true
  | p, x :: r => varB x && (afterB p x && namesB (some x) r)
def vchk (v : TVars) : Int := if v.Names.length ≠ v.Vals.length then 1 else if 64 < v.Names.length then 6 else if namesB none v.Names = true then 0 else 1
def prevO (l : List ByteArray) (k : Nat) : Option ByteArray := if k = 0 then none else l[k - 1]?
theorem prevO_succ {l : List ByteArray} {k : Nat} (h : k < l.length) : prevO l (k + 1) = some l[k] := by
  unfold prevO
  rw [if_neg (by omega), Nat.add_sub_cancel, List.getElem?_eq_getElem h]
theorem ref09_chk_loop {v : TVars} (hv : OkV v) : ∀ (m k n : Nat), v.Names.length - k = m → k ≤ v.Names.length → m < n →
    m_ref09_Check_l1 v n (k : Int) = some (if namesB (prevO v.Names k) (v.Names.drop k) = true then 0 else 1) := by
  intro m
  induction m with
  | zero =>
    intro k n hm hk hn
    obtain ⟨n, rfl⟩ : ∃ n', n = n' + 1 := ⟨n - 1, by omega⟩
    have hk' : ¬ ((k : Int) < (v.Names.length : Int)) := by omega
    rw [m_ref09_Check_l1, m_ref09_Check_l1_B, List.drop_eq_nil_of_le (by omega)]
    simp [hk', namesB]
  | succ m ih =>
    intro k n hm hk hn
    obtain ⟨n, rfl⟩ : ∃ n', n = n' + 1 := ⟨n - 1, by omega⟩
    have hlt : k < v.Names.length := by omega
    have hk' : ((k : Int) < (v.Names.length : Int)) := by omega
    have hw : IntKind.i64.wrap ((k : Int) + 1) = (k : Int) + 1 := wrap_succ' (by omega) (by have := hv.len; unfold big63 at this; omega)
    have hih : m_ref09_Check_l1 v n ((k : Int) + 1) = _ := ih (k + 1) n (by omega) (by omega) (by omega)
    rw [prevO_succ hlt] at hih
    rw [m_ref09_Check_l1, m_ref09_Check_l1_B, List.drop_eq_getElem_cons hlt]
    simp only [hk', decide_true, if_true, nthI_lt hlt, bnd_some, ref02_name (hv.names _ (List.getElem_mem hlt)), namesB]
    have k1 : ∀ b : Bool, m_ref09_Check_k1 (m_ref09_Check_l1 v n) (k : Int) b = some (if (!b && namesB (some v.Names[k]) (v.Names.drop (k + 1))) = true then 0 else 1) := by
      intro b
      unfold m_ref09_Check_k1
      rw [hw, hih]
      cases b <;> simp
    have hp : (if decide ((0 : Int) < (k : Int)) = true then bnd (nthI v.Names (IntKind.i64.wrap ((k : Int) - 1))) fun e_1 => m_ref09_Check_k1 (m_ref09_Check_l1 v n) (k : Int) (!(ltS e_1 v.Names[k])) else m_ref09_Check_k1 (m_ref09_Check_l1 v n) (k : Int) false) = some (if (afterB (prevO v.Names k) v.Names[k] && namesB (some v.Names[k]) (v.Names.drop (k + 1))) = true then 0 else 1) := by
      by_cases h0 : k = 0
      · subst h0
        have hk1 := k1 false
        rw [show (((0 : Nat) : Int)) = 0 from rfl] at hk1 ⊢
        rw [show decide ((0 : Int) < 0) = false from rfl, if_neg (by decide), hk1]
        rfl
      · have e1 : (0 : Int) < (k : Int) := by omega
        have e2 : IntKind.i64.wrap ((k : Int) - 1) = ((k - 1 : Nat) : Int) := by
          rw [wrap_in (by have := hv.len; unfold inR; unfold big63 at this; omega)]
          omega
        have e3 : nthI v.Names ((k - 1 : Nat) : Int) = some v.Names[k - 1] := nthI_lt (by omega)
        have e4 : prevO v.Names k = some v.Names[k - 1] := by
          unfold prevO
          rw [if_neg h0, List.getElem?_eq_getElem (by omega)]
        simp only [e1, decide_true, if_true, e2, e3, bnd_some, k1, e4, Bool.not_not, afterB]
    generalize v.Names[k] = x at *
    unfold varB
    rcases Bool.eq_false_or_eq_true (nameB x) with hb | hb
    · simp only [hb, if_true, Bool.true_and]
      change (if eqS x yesS = true then _ else if eqS x noS = true then _ else _) = _
      rcases Bool.eq_false_or_eq_true (eqS x yesS) with hy | hy
      · simp [hy, k1]
      · simp only [hy, Bool.false_eq_true, if_false, Bool.not_false, Bool.true_and]
        rcases Bool.eq_false_or_eq_true (eqS x noS) with ho | ho
        · simp [ho, k1]
        · simp only [ho, Bool.false_eq_true, if_false, Bool.not_false, Bool.true_and, hp]
    · simp [hb, k1]
theorem vars_chk_loop {v : TVars} (hv : OkV v) : ∀ (m k n : Nat), v.Names.length - k = m → k ≤ v.Names.length → m < n →
    m_vars_Check_l1 v n (k : Int) = some (if namesB (prevO v.Names k) (v.Names.drop k) = true then 0 else 1) := by
  intro m
  induction m with
  | zero =>
    intro k n hm hk hn
    obtain ⟨n, rfl⟩ : ∃ n', n = n' + 1 := ⟨n - 1, by omega⟩
    have hk' : ¬ ((k : Int) < (v.Names.length : Int)) := by omega
    rw [m_vars_Check_l1, m_vars_Check_l1_B, List.drop_eq_nil_of_le (by omega)]
    simp [hk', namesB]
  | succ m ih =>
    intro k n hm hk hn
    obtain ⟨n, rfl⟩ : ∃ n', n = n' + 1 := ⟨n - 1, by omega⟩
    have hlt : k < v.Names.length := by omega
    have hk' : ((k : Int) < (v.Names.length : Int)) := by omega
    have hw : IntKind.i64.wrap ((k : Int) + 1) = (k : Int) + 1 := wrap_succ' (by omega) (by have := hv.len; unfold big63 at this; omega)
    have hih : m_vars_Check_l1 v n ((k : Int) + 1) = _ := ih (k + 1) n (by omega) (by omega) (by omega)
    rw [prevO_succ hlt] at hih
    rw [m_vars_Check_l1, m_vars_Check_l1_B, List.drop_eq_getElem_cons hlt]
    simp only [hk', decide_true, if_true, nthI_lt hlt, bnd_some, pack_name (hv.names _ (List.getElem_mem hlt)), namesB]
    have k2 : ∀ b : Bool, m_vars_Check_k2 (m_vars_Check_l1 v n) (k : Int) b = some (if (!b && namesB (some v.Names[k]) (v.Names.drop (k + 1))) = true then 0 else 1) := by
      intro b
      unfold m_vars_Check_k2
      rw [hw, hih]
      cases b <;> simp
    have k1 : ∀ b : Bool, m_vars_Check_k1 (m_vars_Check_l1 v n) v (k : Int) v.Names[k] b = some (if (!b && (afterB (prevO v.Names k) v.Names[k] && namesB (some v.Names[k]) (v.Names.drop (k + 1)))) = true then 0 else 1) := by
      intro b
      unfold m_vars_Check_k1
      cases b
      · by_cases h0 : k = 0
        · subst h0
          have hk2 := k2 false
          rw [show (((0 : Nat) : Int)) = 0 from rfl] at hk2 ⊢
          rw [show decide ((0 : Int) < 0) = false from rfl, if_neg (by decide), if_neg (by decide), hk2]
          rfl
        · have e1 : (0 : Int) < (k : Int) := by omega
          have e2 : IntKind.i64.wrap ((k : Int) - 1) = ((k - 1 : Nat) : Int) := by
            rw [wrap_in (by have := hv.len; unfold inR; unfold big63 at this; omega)]
            omega
          have e3 : nthI v.Names ((k - 1 : Nat) : Int) = some v.Names[k - 1] := nthI_lt (by omega)
          have e4 : prevO v.Names k = some v.Names[k - 1] := by
            unfold prevO
            rw [if_neg h0, List.getElem?_eq_getElem (by omega)]
          simp only [e1, decide_true, if_true, e2, e3, bnd_some, k2, e4, Bool.not_not, afterB, Bool.false_eq_true, if_false, Bool.not_false, Bool.true_and]
      · rfl
    generalize v.Names[k] = x at *
    unfold varB
    rcases Bool.eq_false_or_eq_true (nameB x) with hb | hb
    · simp only [hb, if_true, Bool.true_and]
      change (if eqS x yesS = true then _ else m_vars_Check_k1 _ v (k : Int) x (eqS x noS)) = _
      rcases Bool.eq_false_or_eq_true (eqS x yesS) with hy | hy
      · simp [hy, k1]
      · simp only [hy, Bool.false_eq_true, if_false, Bool.not_false, Bool.true_and, k1]
    · simp [hb, k1]
theorem ref09_Check {v : TVars} (hv : OkV v) : m_ref09_Check v = some (vchk v) := by
  unfold m_ref09_Check vchk
  have hlp := ref09_chk_loop hv _ 0 ((((v.Names.length : Int)) - 0).toNat + 1) rfl (Nat.zero_le _) (by omega)
  have hlp : m_ref09_Check_l1 v ((((v.Names.length : Int)) - 0).toNat + 1) 0 = some (if namesB none v.Names = true then 0 else 1) := hlp
  by_cases h1 : v.Names.length = v.Vals.length
  · have h1' : decide ((v.Names.length : Int) ≠ (v.Vals.length : Int)) = false := by simp; omega
    rw [h1', hlp]
    simp only [Bool.false_eq_true, if_false, h1, ne_eq, not_true_eq_false]
    rw [← h1]
    by_cases h2 : 64 < v.Names.length
    · have h2' : decide ((64 : Int) < (v.Names.length : Int)) = true := by simp; omega
      rw [h2']
      simp [h2]
    · have h2' : decide ((64 : Int) < (v.Names.length : Int)) = false := by simp; omega
      rw [h2']
      simp [h2]
  · have h1' : decide ((v.Names.length : Int) ≠ (v.Vals.length : Int)) = true := by simp; omega
    rw [h1']
    simp [h1]
theorem vars_Check {v : TVars} (hv : OkV v) : m_vars_Check v = some (vchk v) := by
  unfold m_vars_Check vchk
  have hlp := vars_chk_loop hv _ 0 ((((v.Names.length : Int)) - 0).toNat + 1) rfl (Nat.zero_le _) (by omega)
  have hlp : m_vars_Check_l1 v ((((v.Names.length : Int)) - 0).toNat + 1) 0 = some (if namesB none v.Names = true then 0 else 1) := hlp
  by_cases h1 : v.Names.length = v.Vals.length
  · have h1' : decide ((v.Names.length : Int) ≠ (v.Vals.length : Int)) = false := by simp; omega
    rw [h1', hlp]
    simp only [Bool.false_eq_true, if_false, h1, ne_eq, not_true_eq_false]
    rw [← h1]
    by_cases h2 : 64 < v.Names.length
    · have h2' : decide ((64 : Int) < (v.Names.length : Int)) = true := by simp; omega
      rw [h2']
      simp [h2]
    · have h2' : decide ((64 : Int) < (v.Names.length : Int)) = false := by simp; omega
      rw [h2']
      simp [h2]
  · have h1' : decide ((v.Names.length : Int) ≠ (v.Vals.length : Int)) = true := by simp; omega
    rw [h1']
    simp [h1]
end Go.Proofs.Ytcmejocmohohpaa.R

/- Plain laws: what a variable has. -/
set_option maxRecDepth 100000
set_option linter.unusedVariables false
set_option linter.unusedSimpArgs false
noncomputable section
namespace Go.Proofs.Ytcmejocmohohpaa.R
open Go
theorem namesB_pw : ∀ {l : List ByteArray} {p : Option ByteArray}, namesB p l = true → (∀ q, p = some q → ∀ x ∈ l, ltS q x = true) ∧ l.Pairwise (fun a b => ltS a b = true) ∧ ∀ x ∈ l, varB x = true
  | [], p, h => ⟨by simp, List.Pairwise.nil, by simp⟩
  | x :: r, p, h => by
    simp only [namesB, Bool.and_eq_true] at h
    obtain ⟨h0, h1, h2⟩ := h
    obtain ⟨g1, g2, g3⟩ := namesB_pw h2
    refine ⟨fun q hq y hy => ?_, List.Pairwise.cons (fun y hy => g1 x rfl y hy) g2, fun y hy => ?_⟩
    · subst hq
      have hx : ltS q x = true := h1
      rcases List.mem_cons.1 hy with rfl | hy
      · exact hx
      · exact ltS_trans hx (g1 x rfl y hy)
    · rcases List.mem_cons.1 hy with rfl | hy
      · exact h0
      · exact g3 y hy
theorem vchk_zero {v : TVars} (h : vchk v = 0) : v.Names.length = v.Vals.length ∧ v.Names.length ≤ 64 ∧ namesB none v.Names = true := by
  unfold vchk at h
  split at h
  · cases h
  · split at h
    · cases h
    · split at h
      · rename_i h1 h2 h3
        exact ⟨by simpa using h1, by omega, h3⟩
      · cases h
/-! ### 9.2 -/
def getV : List ByteArray → List Int → ByteArray → Option Int
  | [], _, _ => none
  | x :: r, vs, name => if x = name then vs.head? else getV r vs.tail name
def getR : Option Int → Int × Bool
  | some n => (n, true)
  | none => (0, false)
theorem ref09_get_loop {v : TVars} {name : ByteArray} (hl : v.Names.length = v.Vals.length) (hb : v.Names.length ≤ big63) : ∀ (m k n : Nat), v.Names.length - k = m → k ≤ v.Names.length → m < n →
    m_ref09_Get_l1 v name n (k : Int) = some (getR (getV (v.Names.drop k) (v.Vals.drop k) name)) := by
  intro m
  induction m with
  | zero =>
    intro k n hm hk hn
    obtain ⟨n, rfl⟩ : ∃ n', n = n' + 1 := ⟨n - 1, by omega⟩
    have hk' : ¬ ((k : Int) < (v.Names.length : Int)) := by omega
    rw [m_ref09_Get_l1, m_ref09_Get_l1_B, List.drop_eq_nil_of_le (by omega)]
    simp [hk', getV, getR]
  | succ m ih =>
    intro k n hm hk hn
    obtain ⟨n, rfl⟩ : ∃ n', n = n' + 1 := ⟨n - 1, by omega⟩
    have hlt : k < v.Names.length := by omega
    have hltv : k < v.Vals.length := by omega
    have hk' : ((k : Int) < (v.Names.length : Int)) := by omega
    have hw : IntKind.i64.wrap ((k : Int) + 1) = (k : Int) + 1 := wrap_succ' (by omega) (by unfold big63 at hb; omega)
    have hih : m_ref09_Get_l1 v name n ((k : Int) + 1) = _ := ih (k + 1) n (by omega) (by omega) (by omega)
    rw [m_ref09_Get_l1, m_ref09_Get_l1_B, List.drop_eq_getElem_cons hlt, List.drop_eq_getElem_cons hltv]
    simp only [hk', decide_true, if_true, nthI_lt hlt, nthI_lt hltv, bnd_some, hw, hih, getV, List.head?_cons, List.tail_cons, eqS_dec, decide_eq_true_eq]
    by_cases h : v.Names[k] = name <;> simp [h, getR]
theorem ref09_Get {v : TVars} {name : ByteArray} (hl : v.Names.length = v.Vals.length) (hb : v.Names.length ≤ big63) : m_ref09_Get v name = some (getR (getV v.Names v.Vals name)) := by
  have := ref09_get_loop (name := name) hl hb _ 0 ((((v.Names.length : Int)) - 0).toNat + 1) rfl (Nat.zero_le _) (by omega)
  exact this
theorem cmp_Less (x y : ByteArray) : m_cmp_Less_string x y = some (ltS x y) := by
  simp [m_cmp_Less_string, m_cmp_isNaN_string, eqS_self, bnd_some]
theorem bs_loop {l : List ByteArray} {t : ByteArray} (hs : l.Pairwise (fun a b => ltS a b = true)) (hb : l.length ≤ 4611686018427387904) : ∀ (m i j n : Nat), j - i = m → i ≤ j → j ≤ l.length → m < n →
    (∀ q (h : q < l.length), q < i → ltS l[q] t = true) → (∀ q (h : q < l.length), j ≤ q → ltS l[q] t = false) →
    ∃ (p : Nat) (b : Bool), m_slices_BinarySearch_string_string_l1 l t n (i : Int) (j : Int) = some ((p : Int), b) ∧ (b = true → l[p]? = some t) ∧ (b = false → t ∉ l) := by
  intro m
  induction m using Nat.strongRecOn with
  | _ m ih =>
    intro i j n hm hij hj hn h1 h2
    obtain ⟨n, rfl⟩ : ∃ n', n = n' + 1 := ⟨n - 1, by omega⟩
    rw [m_slices_BinarySearch_string_string_l1, m_slices_BinarySearch_string_string_l1_B]
    by_cases hlt : i < j
    · have hlt' : (i : Int) < (j : Int) := by omega
      have hw : IntKind.i64.wrap (shrI .u64 (IntKind.u64.wrap (IntKind.i64.wrap ((i : Int) + (j : Int)))) 1) = (((i + j) / 2 : Nat) : Int) := by
        have e1 : IntKind.i64.wrap ((i : Int) + (j : Int)) = ((i + j : Nat) : Int) := by
          rw [wrap_in (by unfold inR; omega)]
          omega
        have e2 : IntKind.u64.wrap ((i + j : Nat) : Int) = ((i + j : Nat) : Int) := u64_in (by omega) (by omega)
        have e3 : shrI .u64 ((i + j : Nat) : Int) 1 = (((i + j) / 2 : Nat) : Int) := by
          unfold shrI
          rw [show (2 : Int) ^ (min (1 : Int).toNat (IntKind.bits .u64)) = 2 from rfl, Int.fdiv_eq_ediv_of_nonneg _ (by decide)]
          omega
        rw [e1, e2, e3]
        exact wrap_in (by unfold inR; omega)
      have hmid : (i + j) / 2 < l.length := by omega
      have hw2 : IntKind.i64.wrap ((((i + j) / 2 : Nat) : Int) + 1) = (((i + j) / 2 + 1 : Nat) : Int) := wrap_succ (by omega)
      simp only [hlt', decide_true, if_true, hw, nthI_lt hmid, bnd_some, cmp_Less, hw2]
      by_cases hc : ltS l[(i + j) / 2] t = true
      · simp only [hc, if_true]
        refine ih (j - ((i + j) / 2 + 1)) (by omega) _ j n rfl (by omega) hj (by omega) ?_ h2
        intro q hq hqi
        by_cases he : q = (i + j) / 2
        · subst he; exact hc
        · exact ltS_trans (List.pairwise_iff_getElem.1 hs q ((i + j) / 2) hq hmid (by omega)) hc
      · have hc' : ltS l[(i + j) / 2] t = false := by simpa using hc
        simp only [hc', Bool.false_eq_true, if_false]
        refine ih ((i + j) / 2 - i) (by omega) i _ n rfl (by omega) (by omega) (by omega) h1 ?_
        intro q hq hqj
        by_cases he : q = (i + j) / 2
        · subst he; exact hc'
        · cases hx : ltS l[q] t with
          | false => rfl
          | true =>
            have := ltS_trans (List.pairwise_iff_getElem.1 hs ((i + j) / 2) q hmid hq (by omega)) hx
            rw [hc'] at this
            cases this
    · have hlt' : ¬ (i : Int) < (j : Int) := by omega
      have hij : i = j := by omega
      subst hij
      simp only [hlt', decide_false, Bool.false_eq_true, if_false, m_slices_BinarySearch_string_string_k1]
      have nomem : (∀ h : i < l.length, l[i] ≠ t) → t ∉ l := by
        intro hne hmem
        obtain ⟨q, hq, hqe⟩ := List.mem_iff_getElem.1 hmem
        rcases Nat.lt_trichotomy q i with h | h | h
        · have := h1 q hq h
          rw [hqe, ltS_irr] at this
          cases this
        · subst h; exact hne hq hqe
        · have hil : i < l.length := by omega
          have a := List.pairwise_iff_getElem.1 hs i q hil hq h
          rw [hqe] at a
          have b := h2 i hil (Nat.le_refl _)
          rw [a] at b
          cases b
      by_cases hil : i < l.length
      · have hil' : (i : Int) < (l.length : Int) := by omega
        simp only [hil', decide_true, if_true, nthI_lt hil, bnd_some, m_slices_isNaN_string, eqS_self, Bool.not_true, Bool.false_eq_true, if_false]
        by_cases he : l[i] = t
        · refine ⟨i, true, by simp [he, eqS_self], fun _ => by rw [List.getElem?_eq_getElem hil, he], by simp⟩
        · have : eqS l[i] t = false := by rw [eqS_dec]; simpa using he
          exact ⟨i, false, by simp [this], by simp, fun _ => nomem fun _ => he⟩
      · have hil' : ¬ (i : Int) < (l.length : Int) := by omega
        exact ⟨i, false, by simp [hil'], by simp, fun _ => nomem fun h => absurd h hil⟩
theorem getV_none : ∀ {l : List ByteArray} {vs : List Int} {name : ByteArray}, name ∉ l → getV l vs name = none
  | [], _, _, _ => rfl
  | x :: r, vs, name, h => by
    simp only [List.mem_cons, not_or] at h
    rw [getV, if_neg (fun e => h.1 e.symm)]
    exact getV_none h.2
theorem getV_at : ∀ {l : List ByteArray} {vs : List Int} {name : ByteArray} {p : Nat}, l.Pairwise (fun a b => ltS a b = true) → l[p]? = some name → getV l vs name = vs[p]?
  | [], vs, name, p, _, h => by simp at h
  | x :: r, vs, name, 0, hs, h => by
    simp at h
    subst h
    rw [getV, if_pos rfl]
    cases vs <;> rfl
  | x :: r, vs, name, p + 1, hs, h => by
    simp only [List.getElem?_cons_succ] at h
    have hx : ltS x name = true := (List.pairwise_cons.1 hs).1 name (List.mem_of_getElem? h)
    have hne : x ≠ name := by
      rintro rfl
      rw [ltS_irr] at hx
      cases hx
    rw [getV, if_neg hne, getV_at (List.pairwise_cons.1 hs).2 h]
    cases vs with
    | nil => rfl
    | cons a vs => rfl
theorem vars_Get {v : TVars} {name : ByteArray} (h : vchk v = 0) : m_vars_Get v name = some (getR (getV v.Names v.Vals name)) := by
  obtain ⟨h1, h2, h3⟩ := vchk_zero h
  obtain ⟨_, hs, _⟩ := namesB_pw h3
  obtain ⟨p, b, e, g1, g2⟩ := bs_loop (t := name) hs (by omega) v.Names.length 0 v.Names.length 1000000 (by omega) (by omega) (Nat.le_refl _) (by omega) (fun q _ h => by omega) (fun q h h' => by omega)
  have e : m_slices_BinarySearch_string_string v.Names name = some ((p : Int), b) := e
  unfold m_vars_Get
  rw [e, bnd_some]
  cases b with
  | false => simp [m_vars_Get_k1, getV_none (g2 rfl), getR]
  | true =>
    have hp := g1 rfl
    have hlt : p < v.Names.length := by
      rcases Nat.lt_or_ge p v.Names.length with h | h
      · exact h
      · rw [List.getElem?_eq_none h] at hp; cases hp
    have hltv : p < v.Vals.length := by omega
    have h4 : ¬ ((v.Vals.length : Int) ≤ (p : Int)) := by omega
    rw [getV_at hs hp, List.getElem?_eq_getElem hltv]
    simp [m_vars_Get_k1, h4, nthI_lt hltv, bnd_some, getR]
end Go.Proofs.Ytcmejocmohohpaa.R

/- Plain laws: values of trees. -/
set_option maxRecDepth 100000
set_option linter.unusedVariables false
set_option linter.unusedSimpArgs false
noncomputable section
namespace Go.Proofs.Ytcmejocmohohpaa.R
open Go
def valT (b : Bool) : TValue := ⟨true, b2i b⟩
theorem eval_truth (b : Bool) : m_eval_truth b = some (valT b) := by cases b <;> rfl
def valN (p : Int × Int) : TValue × Int := (⟨false, p.1⟩, p.2)
theorem numS_in {k a b : Int} : inR (numS k a b).1 := by
  unfold numS
  repeat' split
  all_goals first | assumption | (unfold inR; simp; done) | skip
  all_goals (unfold inR; decide)
/-- What a tree comes to. -/
def evalS : Nat → TExpr → TVars → TValue × Int
  | 0, _, _ => (⟨false, 0⟩, 0)
  | k + 1, x, v =>
    if x.Kind = 1 then (⟨false, x.N⟩, 0)
    else if x.Kind = 2 then (match getV v.Names v.Vals x.Name with | some n => (⟨false, n⟩, 0) | none => (⟨false, 0⟩, 9))
    else if x.Kind = 3 ∨ x.Kind = 4 then (valT (decide (x.Kind = 3)), 0)
    else match x.Kids with
      | [] => (⟨false, 0⟩, 0)
      | y :: r =>
        if (evalS k y v).2 ≠ 0 then (⟨false, 0⟩, (evalS k y v).2)
        else if x.Kind = 6 then (valT (decide ((evalS k y v).1.N = 0)), 0)
        else if x.Kind = 5 then valN (numS 8 0 (evalS k y v).1.N)
        else if x.Kind = 13 ∧ (evalS k y v).1.N = 0 then (valT false, 0)
        else if x.Kind = 14 ∧ (evalS k y v).1.N = 1 then (valT true, 0)
        else match r with
          | [] => (⟨false, 0⟩, 0)
          | z :: _ =>
            if (evalS k z v).2 ≠ 0 then (⟨false, 0⟩, (evalS k z v).2)
            else if x.Kind = 13 ∨ x.Kind = 14 then (valT (decide ((evalS k z v).1.N = 1)), 0)
            else if x.Kind = 11 then (valT (decide ((evalS k y v).1.N = (evalS k z v).1.N)), 0)
            else if x.Kind = 12 then (valT (decide ((evalS k y v).1.N < (evalS k z v).1.N)), 0)
            else valN (numS x.Kind (evalS k y v).1.N (evalS k z v).1.N)
/-! ### The forms of a tree that may be -/
structure KidOk (k : Nat) (y : TExpr) : Prop where
  ok : OkE y
  chk : chk k y = 0
  typ : typB k y = true
structure Leaf (x : TExpr) : Prop where
  kids : x.Kids = []
  kind : x.Kind = 1 ∨ x.Kind = 2 ∨ x.Kind = 3 ∨ x.Kind = 4
structure One (k : Nat) (x y : TExpr) : Prop where
  kids : x.Kids = [y]
  kind : x.Kind = 5 ∨ x.Kind = 6
  kid : KidOk k y
  tru : truK y.Kind = decide (x.Kind = 6)
structure Two (k : Nat) (x y z : TExpr) : Prop where
  kids : x.Kids = [y, z]
  lo : 7 ≤ x.Kind
  hi : x.Kind ≤ 14
  kid : KidOk k y
  kid' : KidOk k z
  tru : x.Kind ≠ 11 → truK y.Kind = decide (x.Kind = 13 ∨ x.Kind = 14)
  tru' : x.Kind ≠ 11 → truK z.Kind = decide (x.Kind = 13 ∨ x.Kind = 14)
theorem forms {k : Nat} {x : TExpr} (hx : OkE x) (hc : chk (k + 1) x = 0) (ht : typB (k + 1) x = true) : Leaf x ∨ (∃ y, One k x y) ∨ ∃ y z, Two k x y z := by
  have h := hx.of
  rw [chk] at hc
  split at hc
  · rename_i hnode
    obtain ⟨g1, g2, g3⟩ := node_kind hnode
    have hkids := firstE_zero hc
    rw [typB_succ, List.all_eq_true] at ht
    have hk : ∀ y ∈ x.Kids, KidOk k y ∧ (∀ w, wantK x.Kind = some w → truK y.Kind = w) := by
      intro y hy
      have := ht y hy
      unfold kidB at this
      rw [Bool.and_eq_true] at this
      refine ⟨⟨h.kids y hy, hkids y hy, this.1⟩, fun w hw => ?_⟩
      have := this.2
      rw [hw] at this
      simpa using this
    unfold kidsOf at g3
    by_cases h4 : x.Kind = 1 ∨ x.Kind = 2 ∨ x.Kind = 3 ∨ x.Kind = 4
    · rw [if_pos h4] at g3
      exact Or.inl ⟨List.eq_nil_of_length_eq_zero (by omega), h4⟩
    · rw [if_neg h4] at g3
      by_cases h6 : x.Kind = 5 ∨ x.Kind = 6
      · rw [if_pos h6] at g3
        obtain ⟨y, hy⟩ : ∃ y, x.Kids = [y] := List.length_eq_one_iff.1 (by omega)
        obtain ⟨a, b⟩ := hk y (by simp [bnd_some, hy])
        refine Or.inr (Or.inl ⟨y, hy, h6, a, b _ ?_⟩)
        unfold wantK
        rcases h6 with e | e <;> rw [e] <;> decide
      · rw [if_neg h6] at g3
        obtain ⟨y, z, hy⟩ : ∃ y z, x.Kids = [y, z] := (by
          match hxx : x.Kids, g3 with
          | [a, b], _ => exact ⟨a, b, rfl⟩
          | [], g => simp at g
          | [a], g => simp at g
          | a :: b :: c :: d, g => simp at g; omega)
        obtain ⟨a, b⟩ := hk y (by simp [bnd_some, hy])
        obtain ⟨c, d⟩ := hk z (by simp [bnd_some, hy])
        have hw : x.Kind ≠ 11 → wantK x.Kind = some (decide (x.Kind = 13 ∨ x.Kind = 14)) := by
          intro hne
          unfold wantK
          rw [if_neg hne]
          have : ¬ x.Kind = 6 := fun e => h6 (Or.inr e)
          simp [bnd_some, this]
        exact Or.inr (Or.inr ⟨y, z, hy, by omega, g2, a, c, fun e => b _ (hw e), fun e => d _ (hw e)⟩)
  · cases hc
/-! ### Values are as the types say -/
structure GoodR (t : Bool) (r : TValue × Int) : Prop where
  n : inR r.1.N
  bool : r.2 = 0 → r.1.Bool = t
  one : r.2 = 0 → t = true → r.1 = valT (decide (r.1.N = 1))
theorem good_valT (b : Bool) : GoodR true (valT b, 0) := by
  cases b <;> exact ⟨by unfold inR valT b2i; simp, fun _ => rfl, fun _ _ => rfl⟩
theorem good_err {t : Bool} {e : Int} (h : e ≠ 0) : GoodR t (⟨false, 0⟩, e) := ⟨by unfold inR; simp, fun h' => absurd h' h, fun h' => absurd h' h⟩
theorem good_num {n e : Int} (h : inR n) : GoodR false (⟨false, n⟩, e) := ⟨h, fun _ => rfl, fun _ h => by cases h⟩
theorem getV_in : ∀ {l : List ByteArray} {vs : List Int} {name : ByteArray} {n : Int}, (∀ n ∈ vs, inR n) → getV l vs name = some n → inR n
  | [], vs, name, n, h, e => by simp [bnd_some, getV] at e
  | x :: r, vs, name, n, h, e => by
    rw [getV] at e
    split at e
    · cases vs with
      | nil => cases e
      | cons a vs =>
        simp at e
        subst e
        exact h a List.mem_cons_self
    · exact getV_in (fun m hm => h m (List.mem_of_mem_tail hm)) e
theorem evalS_good {v : TVars} (hv : ∀ n ∈ v.Vals, inR n) : ∀ (k : Nat) (x : TExpr), OkE x → chk k x = 0 → typB k x = true → GoodR (truK x.Kind) (evalS k x v)
  | 0, x, hx, hc, ht => by simp [bnd_some, chk] at hc
  | k + 1, x, hx, hc, ht => by
    rcases forms hx hc ht with h | ⟨y, h⟩ | ⟨y, z, h⟩
    · obtain ⟨hk, h | h | h | h⟩ := h
      · rw [evalS, if_pos h, h]
        exact good_num hx.of.n
      · rw [evalS, if_neg (by omega), if_pos h, h]
        cases hg : getV v.Names v.Vals x.Name with
        | none => exact good_err (by decide)
        | some n => exact good_num (getV_in hv hg)
      · rw [evalS, if_neg (by omega), if_neg (by omega), if_pos (by omega), h]
        exact good_valT _
      · rw [evalS, if_neg (by omega), if_neg (by omega), if_pos (by omega), h]
        exact good_valT _
    · have ih := evalS_good hv k y h.kid.ok h.kid.chk h.kid.typ
      rw [evalS, if_neg (by have := h.kind; omega), if_neg (by have := h.kind; omega), if_neg (by have := h.kind; omega), h.kids]
      simp only
      split
      · rename_i he; exact good_err he
      · rcases h.kind with e | e
        · rw [if_neg (by omega), if_pos e, e]
          exact good_num numS_in
        · rw [if_pos e, e]
          exact good_valT _
    · have ih := evalS_good hv k y h.kid.ok h.kid.chk h.kid.typ
      have ih' := evalS_good hv k z h.kid'.ok h.kid'.chk h.kid'.typ
      have lo := h.lo
      have hi := h.hi
      rw [evalS, if_neg (by omega), if_neg (by omega), if_neg (by omega), h.kids]
      simp only
      split
      · rename_i he; exact good_err he
      · rw [if_neg (by omega), if_neg (by omega)]
        split
        · rename_i hh; rw [hh.1]; exact good_valT _
        · split
          · rename_i hh; rw [hh.1]; exact good_valT _
          · split
            · rename_i he; exact good_err he
            · split
              · rename_i hh
                have : truK x.Kind = true := by rcases hh with e | e <;> rw [e] <;> rfl
                rw [this]
                exact good_valT _
              · split
                · rename_i hh; rw [hh]; exact good_valT _
                · split
                  · rename_i hh; rw [hh]; exact good_valT _
                  · have : truK x.Kind = false := by
                      have : x.Kind = 7 ∨ x.Kind = 8 ∨ x.Kind = 9 ∨ x.Kind = 10 := by omega
                      rcases this with e | e | e | e <;> rw [e] <;> rfl
                    rw [this]
                    exact good_num numS_in
/-! ### The program's -/
theorem eval_of {v : TVars} (hv : OkV v) (hc : vchk v = 0) : ∀ (k : Nat) (x : TExpr) (n : Nat), OkE x → chk k x = 0 → typB k x = true → 2 * k < n → m_eval_of n x v = some (evalS k x v)
  | 0, x, n, hx, h, ht, hn => by simp [bnd_some, chk] at h
  | k + 1, x, n, hx, h, ht, hn => by
    obtain ⟨n, rfl⟩ : ∃ n', n = n' + 2 := ⟨n - 2, by omega⟩
    rw [m_eval_of, m_eval_of_B]
    rcases forms hx h ht with h | ⟨y, h⟩ | ⟨y, z, h⟩
    · obtain ⟨hk, h | h | h | h⟩ := h
      · simp [bnd_some, evalS, h]
      · simp only [h, evalS, decide_true, decide_false, m_eval_of_k1, vars_Get hc, bnd_some]
        simp only [show ((2 : Int) = 1) = False from by decide, show ((2 : Int) = 3) = False from by decide, show ((2 : Int) = 4) = False from by decide, decide_false, Bool.false_eq_true, if_false, if_true]
        cases getV v.Names v.Vals x.Name <;> simp [bnd_some, getR]
      · simp [bnd_some, evalS, h, m_eval_of_k1, eval_truth]
      · simp [bnd_some, evalS, h, m_eval_of_k1, eval_truth]
    · have ih := eval_of hv hc k y n h.kid.ok h.kid.chk h.kid.typ (by omega)
      have g := evalS_good hv.vals k y h.kid.ok h.kid.chk h.kid.typ
      have e1 : m_eval_of_1 (n + 1) 0 x v = some ((evalS k y v).1.N, (evalS k y v).2) := by
        rw [m_eval_of_1, m_eval_of_1_B, h.kids, nthI_zero]
        simp [bnd_some, ih]
      rcases h.kind with e | e
      · simp only [e, m_eval_of_k1, e1, bnd_some, evalS, h.kids, show ((5 : Int) = 1) = False from by decide, show ((5 : Int) = 2) = False from by decide, show ((5 : Int) = 3) = False from by decide, show ((5 : Int) = 4) = False from by decide, show ((5 : Int) = 6) = False from by decide, or_self, decide_false, decide_true, Bool.false_eq_true, if_false, if_true]
        generalize evalS k y v = r at *
        by_cases hr : r.2 = 0
        · simp only [hr, ne_eq, not_true_eq_false, decide_false, Bool.false_eq_true, if_false, m_eval_of_k2]
          have hn := g.n
          unfold inR at hn
          by_cases hm : r.1.N = -9223372036854775808
          · have : ¬ inR (0 - r.1.N) := by unfold inR; omega
            have hs : numS 8 0 r.1.N = (0, 13) := by
              unfold numS
              rw [if_neg (by decide), if_pos rfl, if_neg this]
            rw [hs]
            simp [hm, valN]
          · have hin : inR (0 - r.1.N) := by unfold inR; omega
            have hw := wrap_in hin
            have hs : numS 8 0 r.1.N = (0 - r.1.N, 0) := by
              unfold numS
              rw [if_neg (by decide), if_pos rfl, if_pos hin]
            rw [hs, hw]
            simp [hm, valN, e]
        · simp [bnd_some, hr]
      · simp only [e, m_eval_of_k1, e1, bnd_some, evalS, h.kids, show ((6 : Int) = 1) = False from by decide, show ((6 : Int) = 2) = False from by decide, show ((6 : Int) = 3) = False from by decide, show ((6 : Int) = 4) = False from by decide, or_self, decide_false, decide_true, Bool.false_eq_true, if_false, if_true, eval_truth]
        generalize evalS k y v = r at *
        by_cases hr : r.2 = 0 <;> simp [bnd_some, hr]
    · have ih := eval_of hv hc k y n h.kid.ok h.kid.chk h.kid.typ (by omega)
      have g := evalS_good hv.vals k y h.kid.ok h.kid.chk h.kid.typ
      have ih' := eval_of hv hc k z n h.kid'.ok h.kid'.chk h.kid'.typ (by omega)
      have g' := evalS_good hv.vals k z h.kid'.ok h.kid'.chk h.kid'.typ
      have lo := h.lo
      have hi := h.hi
      have e1 : m_eval_of_1 (n + 1) 0 x v = some ((evalS k y v).1.N, (evalS k y v).2) := by
        rw [m_eval_of_1, m_eval_of_1_B, h.kids, nthI_zero]
        simp [bnd_some, ih]
      have e2 : m_eval_of_1 (n + 1) 1 x v = some ((evalS k z v).1.N, (evalS k z v).2) := by
        rw [m_eval_of_1, m_eval_of_1_B, h.kids, nthI_one]
        simp [bnd_some, ih']
      have n1 : ¬ x.Kind = 1 := by omega
      have n2 : ¬ x.Kind = 2 := by omega
      have n3 : ¬ x.Kind = 3 := by omega
      have n4 : ¬ x.Kind = 4 := by omega
      have n5 : ¬ x.Kind = 5 := by omega
      have n6 : ¬ x.Kind = 6 := by omega
      simp only [n1, n2, n3, n4, n5, n6, m_eval_of_k1, m_eval_of_k2, m_eval_of_k3, m_eval_of_k4, m_eval_of_k5, e1, e2, bnd_some, evalS, h.kids, or_self, decide_false, decide_true, Bool.false_eq_true, if_false, if_true, eval_truth]
      generalize evalS k y v = r at *
      generalize evalS k z v = q at *
      by_cases hr : r.2 = 0
      · simp only [hr, ne_eq, not_true_eq_false, decide_false, Bool.false_eq_true, if_false]
        have hnum : m_eval_number x.Kind r.1.N q.1.N = some (numS x.Kind r.1.N q.1.N) := number_eq g.n g'.n
        have tail : ∀ b : Bool, ((b = false) → ¬ (x.Kind = 13 ∨ x.Kind = 14)) → True := fun _ _ => trivial
        by_cases h13 : x.Kind = 13
        · have n14 : ¬ x.Kind = 14 := by omega
          by_cases h0 : r.1.N = 0
          · simp [bnd_some, h13, h0]
          · by_cases hq : q.2 = 0 <;> simp [bnd_some, h13, h0, hq]
        · by_cases h14 : x.Kind = 14
          · by_cases h1 : r.1.N = 1
            · simp [bnd_some, h14, h1]
            · by_cases hq : q.2 = 0 <;> simp [bnd_some, h14, h1, hq]
          · by_cases hq : q.2 = 0
            · by_cases h11 : x.Kind = 11
              · simp [bnd_some, h11, hq]
              · by_cases h12 : x.Kind = 12
                · simp [bnd_some, h12, hq]
                · simp [bnd_some, h11, h12, h13, h14, hq, hnum, valN]
            · simp [bnd_some, h13, h14, hq]
      · simp [bnd_some, hr]
/-! ### The reference's -/
/-! ### 10 -/
def evalR (x : TExpr) (v : TVars) : TValue × Int := if (truR x).2 ≠ 0 then (⟨false, 0⟩, (truR x).2) else if vchk v ≠ 0 then (⟨false, 0⟩, vchk v) else evalS 16 x v
theorem truR_zero {x : TExpr} (h : (truR x).2 = 0) : chk 16 x = 0 ∧ typB 16 x = true := by
  unfold truR at h
  split at h
  · rename_i h0
    split at h
    · rename_i h1
      exact ⟨h0, h1⟩
    · cases h
  · rename_i h0
    exact absurd h h0
theorem eval_Of {x : TExpr} {v : TVars} (hx : OkE x) (hv : OkV v) : m_eval_Of x v = some (evalR x v) := by
  unfold m_eval_Of evalR
  rw [types_Truth hx, bnd_some]
  by_cases h : (truR x).2 = 0
  · obtain ⟨h0, h1⟩ := truR_zero h
    simp only [h, ne_eq, not_true_eq_false, decide_false, Bool.false_eq_true, if_false, vars_Check hv, bnd_some]
    by_cases h2 : vchk v = 0
    · simp [bnd_some, h2, eval_of hv h2 16 x 100 hx h0 h1 (by decide)]
    · simp [bnd_some, h2]
  · simp [bnd_some, h]
end Go.Proofs.Ytcmejocmohohpaa.R

