/- Plain laws: numbers, elements, lists compared. -/
import Derived.Test.YtefjblgmnoheiaaMF
import Derived.IntWalk
set_option maxRecDepth 100000
set_option linter.unusedVariables false
set_option linter.unusedSimpArgs false
noncomputable section
namespace Go.Proofs.Ytefjblgmnoheiaa.R
open Go
/-! ### Ranges -/
def inR (n : Int) : Prop := -9223372036854775808 ≤ n ∧ n ≤ 9223372036854775807
instance (n : Int) : Decidable (inR n) := inferInstanceAs (Decidable (_ ∧ _))
theorem wrap_in {n : Int} (h : inR n) : IntKind.i64.wrap n = n := IntWalk.i64_in n h
theorem wrap_r (n : Int) : inR (IntKind.i64.wrap n) := by
  unfold inR
  rw [IntKind.wrap_i64]
  omega
theorem u64_in {n : Int} (h0 : 0 ≤ n) (h1 : n < 18446744073709551616) : IntKind.u64.wrap n = n := by
  simp only [IntKind.wrap, IntKind.signed, IntKind.bits]
  simp
  omega
theorem u64_mod (n : Int) : IntKind.u64.wrap n = n % 18446744073709551616 := by
  simp only [IntKind.wrap, IntKind.signed, IntKind.bits]
  simp
theorem tmod_nn {a b : Int} (ha : 0 ≤ a) : a.tmod b = a % b := Int.tmod_eq_emod_of_nonneg ha
theorem tdiv_nn {a b : Int} (ha : 0 ≤ a) : a.tdiv b = a / b := Int.tdiv_eq_ediv_of_nonneg ha
theorem wrap_succ {k : Nat} (h : k < 9223372036854775807) : IntKind.i64.wrap ((k : Int) + 1) = ((k + 1 : Nat) : Int) := by
  rw [wrap_in (by unfold inR; omega)]
  rfl
theorem wrap_succ' {i : Int} (h0 : 0 ≤ i) (h : i < 9223372036854775807) : IntKind.i64.wrap (i + 1) = i + 1 := wrap_in (by unfold inR; omega)
/-! ### Elements -/
theorem nthI_nat {α : Type} (l : List α) (k : Nat) : nthI l (k : Int) = l[k]? := by simp [nthI]
theorem nthI_lt {α : Type} {l : List α} {k : Nat} (h : k < l.length) : nthI l (k : Int) = some l[k] := by rw [nthI_nat, List.getElem?_eq_getElem h]
theorem nthI_zero {α : Type} (l : List α) : nthI l 0 = l[0]? := by simp [nthI]
theorem nthI_one {α : Type} (l : List α) : nthI l 1 = l[1]? := by simp [nthI]
theorem bytesI_len (s : ByteArray) : (bytesI s).length = s.size := by simp [bytesI]
theorem nthS_eq (s : ByteArray) (i : Int) : nthS s i = nthI (bytesI s) i := by
  unfold nthS nthI bytesI
  split
  · rw [List.getElem?_map]
  · rfl
theorem maxLen_eq : maxLen = 9223372036854775807 := rfl
theorem capB_small {n : Nat} (h : n ≤ 549755813888) : capB n = true := by
  unfold capB limN
  simpa using h
/-! ### Two lists compared -/
def all2 {α : Type} (p : α → α → Bool) : List α → List α → Bool
  | x :: a, y :: b => p x y && all2 p a b
  | _, _ => true
def same2 {α : Type} (p : α → α → Bool) (a b : List α) : Bool := decide (a.length = b.length) && all2 p a b
theorem all2_loop {α : Type} {p : α → α → Bool} {a b : List α} (hab : a.length = b.length) (hl : a.length ≤ maxLen) {f : Nat → Int → Option Bool}
    (hf : ∀ n (k : Nat), f (n + 1) (k : Int) = if k < a.length then bnd (nthI a (k : Int)) fun x => bnd (nthI b (k : Int)) fun y => if p x y = true then f n (IntKind.i64.wrap ((k : Int) + 1)) else some false else some true) :
    ∀ (m k n : Nat), a.length - k = m → k ≤ a.length → m < n → f n (k : Int) = some (all2 p (a.drop k) (b.drop k)) := by
  intro m
  induction m with
  | zero =>
    intro k n hm hk hn
    obtain ⟨n, rfl⟩ : ∃ n', n = n' + 1 := ⟨n - 1, by omega⟩
    rw [hf, if_neg (by omega), List.drop_eq_nil_of_le (as := a) (by omega)]
    rfl
  | succ m ih =>
    intro k n hm hk hn
    obtain ⟨n, rfl⟩ : ∃ n', n = n' + 1 := ⟨n - 1, by omega⟩
    have h1 : k < a.length := by omega
    have h2 : k < b.length := by omega
    rw [maxLen_eq] at hl
    rw [hf, if_pos h1, nthI_lt h1, nthI_lt h2, bnd_some, bnd_some, wrap_succ (by omega), ih (k + 1) n (by omega) (by omega) (by omega), List.drop_eq_getElem_cons h1, List.drop_eq_getElem_cons h2]
    cases h : p a[k] b[k] <;> simp [all2, h]
theorem all2_loop0 {α : Type} {p : α → α → Bool} {a b : List α} (hab : a.length = b.length) (hl : a.length ≤ maxLen) {f : Nat → Int → Option Bool}
    (hf : ∀ n (k : Nat), f (n + 1) (k : Int) = if k < a.length then bnd (nthI a (k : Int)) fun x => bnd (nthI b (k : Int)) fun y => if p x y = true then f n (IntKind.i64.wrap ((k : Int) + 1)) else some false else some true) :
    f ((((a.length : Int)) - ((0 : Int))).toNat + 1) (0 : Int) = some (all2 p a b) := by
  have := all2_loop hab hl hf _ 0 ((((a.length : Int)) - ((0 : Int))).toNat + 1) rfl (Nat.zero_le _) (by omega)
  simpa using this
theorem all2_refl {α : Type} {p : α → α → Bool} (h : ∀ x, p x x = true) : ∀ (a : List α), all2 p a a = true
  | [] => rfl
  | x :: a => by simp [all2, h x, all2_refl h a]
theorem same2_refl {α : Type} {p : α → α → Bool} (h : ∀ x, p x x = true) (a : List α) : same2 p a a = true := by simp [same2, all2_refl h a]
theorem all2_iff {α : Type} {p : α → α → Bool} (h : ∀ x y, p x y = true ↔ x = y) : ∀ (a b : List α), a.length = b.length → (all2 p a b = true ↔ a = b)
  | [], [], _ => by simp [all2]
  | x :: a, y :: b, hl => by
    have := all2_iff h a b (by simpa using hl)
    simp [all2, h, this]
theorem same2_iff {α : Type} {p : α → α → Bool} (h : ∀ x y, p x y = true ↔ x = y) (a b : List α) : same2 p a b = true ↔ a = b := by
  unfold same2
  by_cases hl : a.length = b.length
  · simp [hl, all2_iff h a b hl]
  · simp [hl]
    rintro rfl
    exact hl rfl
end Go.Proofs.Ytefjblgmnoheiaa.R

/- Plain laws: names, variables checked. -/
set_option maxRecDepth 100000
set_option linter.unusedVariables false
set_option linter.unusedSimpArgs false
noncomputable section
namespace Go.Proofs.Ytefjblgmnoheiaa.R
open Go
def big63 : Nat := 140737488351232
/-! ### Names -/
def letB (c : Int) : Bool := decide (97 ≤ c) && decide (c ≤ 122)
def digB (c : Int) : Bool := decide (48 ≤ c) && decide (c ≤ 57)
def nameL (l : List Int) : Bool := l.all (fun c => letB c || digB c) && ((match l with | [] => false | c :: _ => letB c) && decide (l.length ≤ 32))
def nameB (s : ByteArray) : Bool := nameL (bytesI s)
def firstB : List Int → Bool
  | [] => true
  | c :: _ => letB c
theorem firstB_get : ∀ (l : List Int) (h : 0 < l.length), firstB l = letB l[0]
  | [], h => by simp at h
  | c :: r, _ => rfl
theorem ref02_loop (s : ByteArray) (hs : s.size ≤ big63) : ∀ (m k n : Nat), (bytesI s).length - k = m → k ≤ (bytesI s).length → m < n → m_ref02_Name_l1 s n (k : Int) = some (((bytesI s).drop k).all (fun c => letB c || digB c)) := by
  intro m
  induction m with
  | zero =>
    intro k n hm hk hn
    obtain ⟨n, rfl⟩ : ∃ n', n = n' + 1 := ⟨n - 1, by omega⟩
    have hk' : ¬ ((k : Int) < (s.size : Int)) := by rw [← bytesI_len]; omega
    rw [m_ref02_Name_l1, m_ref02_Name_l1_B]
    simp only [hk', decide_false, Bool.false_eq_true, if_false]
    rw [List.drop_eq_nil_of_le (by omega)]
    rfl
  | succ m ih =>
    intro k n hm hk hn
    obtain ⟨n, rfl⟩ : ∃ n', n = n' + 1 := ⟨n - 1, by omega⟩
    have hlt : k < (bytesI s).length := by omega
    have hk' : ((k : Int) < (s.size : Int)) := by rw [← bytesI_len]; omega
    have hc : nthS s (k : Int) = some (bytesI s)[k] := by rw [nthS_eq]; exact nthI_lt hlt
    have hw : IntKind.i64.wrap ((k : Int) + 1) = ((k + 1 : Nat) : Int) := wrap_succ (by have := bytesI_len s; unfold big63 at hs; omega)
    have hih : m_ref02_Name_l1 s n ((k : Int) + 1) = _ := ih (k + 1) n (by omega) (by omega) (by omega)
    rw [m_ref02_Name_l1, m_ref02_Name_l1_B, List.drop_eq_getElem_cons hlt, List.all_cons]
    simp only [hk', decide_true, if_true, hc, bnd_some]
    generalize (bytesI s)[k] = c at *
    have k3 : ∀ d e : Bool, m_ref02_Name_k3 (m_ref02_Name_l1 s n) (k : Int) d e = some ((d || e) && ((bytesI s).drop (k + 1)).all (fun c => letB c || digB c)) := by
      intro d e
      cases d <;> cases e <;> simp [m_ref02_Name_k3, m_ref02_Name_k4, hw, hih]
    have k2 : ∀ d : Bool, m_ref02_Name_k2 (m_ref02_Name_l1 s n) s (k : Int) d = some ((d || letB c) && ((bytesI s).drop (k + 1)).all (fun c => letB c || digB c)) := by
      intro d
      unfold m_ref02_Name_k2
      rw [hc, bnd_some]
      by_cases h : 97 ≤ c
      · simp only [h, decide_true, if_true, bnd_some, k3, letB, Bool.true_and]
      · simp only [h, decide_false, Bool.false_eq_true, if_false, k3, letB, Bool.false_and]
    by_cases h : 48 ≤ c
    · simp only [h, decide_true, if_true, k2, digB, Bool.true_and]
      cases decide (c ≤ 57) <;> cases letB c <;> rfl
    · simp only [h, decide_false, Bool.false_eq_true, if_false, k2, digB, Bool.false_and]
      cases letB c <;> rfl
theorem ref02_name {s : ByteArray} (hs : s.size ≤ big63) : m_ref02_Name s = some (nameB s) := by
  have hlen := bytesI_len s
  unfold m_ref02_Name nameB nameL
  by_cases h0 : s.size = 0
  · have : bytesI s = [] := List.eq_nil_of_length_eq_zero (by omega)
    simp [h0, m_ref02_Name_k1, this]
  · have h0' : ¬ ((s.size : Int) = 0) := by omega
    by_cases h1 : 32 < s.size
    · have h1' : (32 : Int) < (s.size : Int) := by omega
      have : ¬ (bytesI s).length ≤ 32 := by omega
      simp [h0', h1', m_ref02_Name_k1, this]
    · have h1' : ¬ ((32 : Int) < (s.size : Int)) := by omega
      have h32 : (bytesI s).length ≤ 32 := by omega
      have hl := ref02_loop s hs _ 0 ((((s.size : Int)) - 0).toNat + 1) rfl (Nat.zero_le _) (by omega)
      have hl : m_ref02_Name_l1 s ((((s.size : Int)) - 0).toNat + 1) 0 = _ := hl
      cases hb : bytesI s with
      | nil => rw [hb] at hlen; simp at hlen; omega
      | cons c r =>
        have hc : nthS s 0 = some c := by rw [nthS_eq, nthI_zero, hb]; rfl
        simp only [h0', h1', decide_false, Bool.false_eq_true, if_false, hc, bnd_some]
        rw [hb] at hl h32
        simp only [List.drop_zero] at hl
        unfold m_ref02_Name_k1
        by_cases h97 : c < 97
        · have : letB c = false := by unfold letB; simp; omega
          simp [h97, this]
        · simp only [h97, decide_false, Bool.false_eq_true, if_false, hl]
          have hd : letB c = (letB c || digB c) := by
            unfold letB digB
            by_cases h5 : c ≤ 57
            · omega
            · simp [h5]
          simp only [h32, decide_true, Bool.and_true, List.all_cons]
          cases hx : letB c with
          | true => simp
          | false =>
            rw [hx] at hd
            simp [← hd]
theorem pack_loop (s : ByteArray) (hs : s.size ≤ big63) : ∀ (m k n : Nat), (bytesI s).length - k = m → k ≤ (bytesI s).length → m < n →
    m_pack_Name_l1 s n (k : Int) = some (((bytesI s).drop k).all (fun c => letB c || digB c) && ((decide (k ≠ 0) || firstB (bytesI s)) && (decide (1 ≤ s.size) && decide (s.size ≤ 32)))) := by
  intro m
  induction m with
  | zero =>
    intro k n hm hk hn
    obtain ⟨n, rfl⟩ : ∃ n', n = n' + 1 := ⟨n - 1, by omega⟩
    have hk' : ¬ ((k : Int) < (((bytesI s).length : Nat) : Int)) := by omega
    rw [m_pack_Name_l1, m_pack_Name_l1_B]
    simp only [hk', decide_false, Bool.false_eq_true, if_false, m_pack_Name_k3]
    rw [List.drop_eq_nil_of_le (by omega)]
    have e1 : decide ((1 : Int) ≤ (s.size : Int)) = decide (1 ≤ s.size) := by congr 1; apply propext; omega
    have e2 : decide ((s.size : Int) ≤ 32) = decide (s.size ≤ 32) := by congr 1; apply propext; omega
    rw [e1, e2]
    by_cases h0 : k = 0
    · subst h0
      have hz : bytesI s = [] := List.eq_nil_of_length_eq_zero (by omega)
      have hz' : s.size = 0 := by rw [← bytesI_len, hz]; rfl
      simp [hz, hz', firstB]
    · simp [h0]
      by_cases h1 : 1 ≤ s.size <;> simp [h1]
  | succ m ih =>
    intro k n hm hk hn
    obtain ⟨n, rfl⟩ : ∃ n', n = n' + 1 := ⟨n - 1, by omega⟩
    have hlt : k < (bytesI s).length := by omega
    have hk' : ((k : Int) < (((bytesI s).length : Nat) : Int)) := by omega
    have hw : IntKind.i64.wrap ((k : Int) + 1) = ((k + 1 : Nat) : Int) := wrap_succ (by have := bytesI_len s; unfold big63 at hs; omega)
    have hih : m_pack_Name_l1 s n ((k : Int) + 1) = _ := ih (k + 1) n (by omega) (by omega) (by omega)
    simp only [ne_eq, Nat.add_eq_zero_iff, Nat.one_ne_zero, and_false, not_false_eq_true, decide_true, Bool.true_or, Bool.true_and] at hih
    have hnth : nthI (bytesI s) (k : Int) = some (bytesI s)[k] := nthI_lt hlt
    rw [m_pack_Name_l1, m_pack_Name_l1_B, List.drop_eq_getElem_cons hlt, List.all_cons]
    simp only [hk', decide_true, if_true, hnth, bnd_some]
    have hfirst : (decide (k ≠ 0) || firstB (bytesI s)) = (decide (k ≠ 0) || letB (bytesI s)[k]) := by
      by_cases h0 : k = 0
      · subst h0
        rw [firstB_get _ hlt]
      · simp [h0]
    rw [hfirst]
    generalize (bytesI s)[k] = c at *
    have k2 : ∀ b : Bool, m_pack_Name_k2 (m_pack_Name_l1 s n) (k : Int) b = some (!b && (((bytesI s).drop (k + 1)).all (fun c => letB c || digB c) && (decide (1 ≤ s.size) && decide (s.size ≤ 32)))) := by
      intro b
      cases b <;> simp [m_pack_Name_k2, hw, hih]
    have hk0 : decide ((k : Int) = 0) = !decide (k ≠ 0) := by
      by_cases h0 : k = 0 <;> simp [h0]
    have k1 : ∀ b : Bool, m_pack_Name_k1 (m_pack_Name_l1 s n) (k : Int) c b = some ((b || (decide (k ≠ 0) && digB c)) && (((bytesI s).drop (k + 1)).all (fun c => letB c || digB c) && (decide (1 ≤ s.size) && decide (s.size ≤ 32)))) := by
      intro b
      unfold m_pack_Name_k1
      rw [hk0]
      simp only [k2]
      cases b
      · by_cases h0 : k = 0
        · simp [h0]
        · by_cases h1 : c < 48
          · have : digB c = false := by unfold digB; simp; omega
            simp [h0, h1, this]
          · have : digB c = !decide (57 < c) := by
              unfold digB
              by_cases h2 : c ≤ 57
              · have : ¬ 57 < c := by omega
                simp [h2, this]; omega
              · have : 57 < c := by omega
                simp [h2, this]
            simp [h0, h1, this]
      · simp
    by_cases h : 97 ≤ c
    · simp only [h, decide_true, if_true, k1]
      have : letB c = decide (c ≤ 122) := by simp [letB, h]
      rw [this]
      cases decide (c ≤ 122) <;> cases digB c <;> cases decide (k ≠ 0) <;> simp
    · simp only [h, decide_false, Bool.false_eq_true, if_false, k1]
      have : letB c = false := by simp [letB, h]
      rw [this]
      cases digB c <;> cases decide (k ≠ 0) <;> simp
theorem pack_name {s : ByteArray} (hs : s.size ≤ big63) : m_pack_Name s = some (nameB s) := by
  have hlen := bytesI_len s
  unfold m_pack_Name nameB nameL
  have hl := pack_loop s hs _ 0 ((((((bytesI s).length : Nat) : Int)) - 0).toNat + 1) rfl (Nat.zero_le _) (by omega)
  have hl : m_pack_Name_l1 s ((((((bytesI s).length : Nat) : Int)) - 0).toNat + 1) 0 = _ := hl
  rw [hl]
  cases hb : bytesI s with
  | nil =>
    have : s.size = 0 := by rw [← hlen, hb]; rfl
    simp [this]
  | cons c r =>
    have h1 : 1 ≤ s.size := by rw [← hlen, hb]; simp
    have h2 : s.size = (c :: r).length := by rw [← hlen, hb]
    have h3 : 1 ≤ (c :: r).length := by simp
    simp only [h1, h3, decide_true, Bool.true_and, h2, List.drop_zero, ne_eq, not_true_eq_false, decide_false, Bool.false_or, firstB]
def yesS : ByteArray := ⟨#[121, 101, 115]⟩
def noS : ByteArray := ⟨#[110, 111]⟩
def varB (s : ByteArray) : Bool := nameB s && (!eqS s yesS && !eqS s noS)
/-! ### The order of texts -/
theorem bl_irr : ∀ x : List UInt8, Op.bytesLess x x = false
  | [] => rfl
  | a :: x => by simp [Op.bytesLess, bl_irr x]
theorem bl_trans : ∀ {x y z : List UInt8}, Op.bytesLess x y = true → Op.bytesLess y z = true → Op.bytesLess x z = true
  | [], [], z, h, h' => by simp [Op.bytesLess] at h
  | [], b :: y, [], h, h' => by simp [Op.bytesLess] at h'
  | [], b :: y, c :: z, h, h' => by simp [Op.bytesLess]
  | a :: x, [], z, h, h' => by simp [Op.bytesLess] at h
  | a :: x, b :: y, [], h, h' => by simp [Op.bytesLess] at h'
  | a :: x, b :: y, c :: z, h, h' => by
    simp only [Op.bytesLess, Bool.or_eq_true, decide_eq_true_eq, Bool.and_eq_true, beq_iff_eq] at h h' ⊢
    rcases h with h | ⟨rfl, h⟩
    · rcases h' with h' | ⟨rfl, h'⟩
      · exact .inl (UInt8.lt_trans h h')
      · exact .inl h
    · rcases h' with h' | ⟨rfl, h'⟩
      · exact .inl h'
      · exact .inr ⟨rfl, bl_trans h h'⟩
theorem bl_tri : ∀ (x y : List UInt8), Op.bytesLess x y = true ∨ x = y ∨ Op.bytesLess y x = true
  | [], [] => .inr (.inl rfl)
  | [], b :: y => .inl rfl
  | a :: x, [] => .inr (.inr rfl)
  | a :: x, b :: y => by
    simp only [Op.bytesLess, Bool.or_eq_true, decide_eq_true_eq, Bool.and_eq_true, beq_iff_eq]
    rcases Nat.lt_trichotomy a.toNat b.toNat with h | h | h
    · exact .inl (.inl (UInt8.lt_iff_toNat_lt.2 h))
    · have : a = b := UInt8.toNat_inj.1 h
      subst this
      rcases bl_tri x y with h | h | h
      · exact .inl (.inr ⟨rfl, h⟩)
      · subst h; exact .inr (.inl rfl)
      · exact .inr (.inr (.inr ⟨rfl, h⟩))
    · exact .inr (.inr (.inl (UInt8.lt_iff_toNat_lt.2 h)))
theorem ltS_irr (a : ByteArray) : ltS a a = false := bl_irr _
theorem ltS_trans {a b c : ByteArray} (h : ltS a b = true) (h' : ltS b c = true) : ltS a c = true := bl_trans h h'
theorem ltS_tri (a b : ByteArray) : ltS a b = true ∨ a = b ∨ ltS b a = true := by
  rcases bl_tri a.toList b.toList with h | h | h
  · exact .inl h
  · exact .inr (.inl (toList_inj h))
  · exact .inr (.inr h)
theorem ltS_asymm {a b : ByteArray} (h : ltS a b = true) : ltS b a = false := by
  cases hb : ltS b a with
  | false => rfl
  | true => have := ltS_trans h hb; rw [ltS_irr] at this; cases this
theorem eqS_self (a : ByteArray) : eqS a a = true := eqS_iff.2 rfl
/-! ### 9.1 -/
structure OkV (v : TVars) : Prop where
  len : v.Names.length ≤ big63
  lenV : v.Vals.length ≤ big63
  names : ∀ s ∈ v.Names, s.size ≤ big63
  vals : ∀ n ∈ v.Vals, inR n
def afterB : Option ByteArray → ByteArray → Bool
  | none, _ => true
  | some q, x => ltS q x
/-- Names that may be, rising, behind one. -/
def namesB : Option ByteArray → List ByteArray → Bool
  | _, [] => true
  | p, x :: r => varB x && (afterB p x && namesB (some x) r)
def vchk (v : TVars) : Int := if v.Names.length ≠ v.Vals.length then 1 else if 64 < v.Names.length then 6 else if namesB none v.Names = true then 0 else 1
def prevO (l : List ByteArray) (k : Nat) : Option ByteArray := if k = 0 then none else l[k - 1]?
theorem prevO_succ {l : List ByteArray} {k : Nat} (h : k < l.length) : prevO l (k + 1) = some l[k] := by
  unfold prevO
  rw [if_neg (by omega), Nat.add_sub_cancel, List.getElem?_eq_getElem h]
theorem ref09_chk_loop {v : TVars} (hv : OkV v) : ∀ (m k n : Nat), v.Names.length - k = m → k ≤ v.Names.length → m < n →
    m_ref09_Check_l1 v n (k : Int) = some (if namesB (prevO v.Names k) (v.Names.drop k) = true then 0 else 1) := by
  intro m
  induction m with
  | zero =>
    intro k n hm hk hn
    obtain ⟨n, rfl⟩ : ∃ n', n = n' + 1 := ⟨n - 1, by omega⟩
    have hk' : ¬ ((k : Int) < (v.Names.length : Int)) := by omega
    rw [m_ref09_Check_l1, m_ref09_Check_l1_B, List.drop_eq_nil_of_le (by omega)]
    simp [hk', namesB]
  | succ m ih =>
    intro k n hm hk hn
    obtain ⟨n, rfl⟩ : ∃ n', n = n' + 1 := ⟨n - 1, by omega⟩
    have hlt : k < v.Names.length := by omega
    have hk' : ((k : Int) < (v.Names.length : Int)) := by omega
    have hw : IntKind.i64.wrap ((k : Int) + 1) = (k : Int) + 1 := wrap_succ' (by omega) (by have := hv.len; unfold big63 at this; omega)
    have hih : m_ref09_Check_l1 v n ((k : Int) + 1) = _ := ih (k + 1) n (by omega) (by omega) (by omega)
    rw [prevO_succ hlt] at hih
    rw [m_ref09_Check_l1, m_ref09_Check_l1_B, List.drop_eq_getElem_cons hlt]
    simp only [hk', decide_true, if_true, nthI_lt hlt, bnd_some, ref02_name (hv.names _ (List.getElem_mem hlt)), namesB]
    have k1 : ∀ b : Bool, m_ref09_Check_k1 (m_ref09_Check_l1 v n) (k : Int) b = some (if (!b && namesB (some v.Names[k]) (v.Names.drop (k + 1))) = true then 0 else 1) := by
      intro b
      unfold m_ref09_Check_k1
      rw [hw, hih]
      cases b <;> simp
    have hp : (if decide ((0 : Int) < (k : Int)) = true then bnd (nthI v.Names (IntKind.i64.wrap ((k : Int) - 1))) fun e_1 => m_ref09_Check_k1 (m_ref09_Check_l1 v n) (k : Int) (!(ltS e_1 v.Names[k])) else m_ref09_Check_k1 (m_ref09_Check_l1 v n) (k : Int) false) = some (if (afterB (prevO v.Names k) v.Names[k] && namesB (some v.Names[k]) (v.Names.drop (k + 1))) = true then 0 else 1) := by
      by_cases h0 : k = 0
      · subst h0
        have hk1 := k1 false
        rw [show (((0 : Nat) : Int)) = 0 from rfl] at hk1 ⊢
        rw [show decide ((0 : Int) < 0) = false from rfl, if_neg (by decide), hk1]
        rfl
      · have e1 : (0 : Int) < (k : Int) := by omega
        have e2 : IntKind.i64.wrap ((k : Int) - 1) = ((k - 1 : Nat) : Int) := by
          rw [wrap_in (by have := hv.len; unfold inR; unfold big63 at this; omega)]
          omega
        have e3 : nthI v.Names ((k - 1 : Nat) : Int) = some v.Names[k - 1] := nthI_lt (by omega)
        have e4 : prevO v.Names k = some v.Names[k - 1] := by
          unfold prevO
          rw [if_neg h0, List.getElem?_eq_getElem (by omega)]
        simp only [e1, decide_true, if_true, e2, e3, bnd_some, k1, e4, Bool.not_not, afterB]
    generalize v.Names[k] = x at *
    unfold varB
    rcases Bool.eq_false_or_eq_true (nameB x) with hb | hb
    · simp only [hb, if_true, Bool.true_and]
      change (if eqS x yesS = true then _ else if eqS x noS = true then _ else _) = _
      rcases Bool.eq_false_or_eq_true (eqS x yesS) with hy | hy
      · simp [hy, k1]
      · simp only [hy, Bool.false_eq_true, if_false, Bool.not_false, Bool.true_and]
        rcases Bool.eq_false_or_eq_true (eqS x noS) with ho | ho
        · simp [ho, k1]
        · simp only [ho, Bool.false_eq_true, if_false, Bool.not_false, Bool.true_and, hp]
    · simp [hb, k1]
theorem vars_chk_loop {v : TVars} (hv : OkV v) : ∀ (m k n : Nat), v.Names.length - k = m → k ≤ v.Names.length → m < n →
    m_vars_Check_l1 v n (k : Int) = some (if namesB (prevO v.Names k) (v.Names.drop k) = true then 0 else 1) := by
  intro m
  induction m with
  | zero =>
    intro k n hm hk hn
    obtain ⟨n, rfl⟩ : ∃ n', n = n' + 1 := ⟨n - 1, by omega⟩
    have hk' : ¬ ((k : Int) < (v.Names.length : Int)) := by omega
    rw [m_vars_Check_l1, m_vars_Check_l1_B, List.drop_eq_nil_of_le (by omega)]
    simp [hk', namesB]
  | succ m ih =>
    intro k n hm hk hn
    obtain ⟨n, rfl⟩ : ∃ n', n = n' + 1 := ⟨n - 1, by omega⟩
    have hlt : k < v.Names.length := by omega
    have hk' : ((k : Int) < (v.Names.length : Int)) := by omega
    have hw : IntKind.i64.wrap ((k : Int) + 1) = (k : Int) + 1 := wrap_succ' (by omega) (by have := hv.len; unfold big63 at this; omega)
    have hih : m_vars_Check_l1 v n ((k : Int) + 1) = _ := ih (k + 1) n (by omega) (by omega) (by omega)
    rw [prevO_succ hlt] at hih
    rw [m_vars_Check_l1, m_vars_Check_l1_B, List.drop_eq_getElem_cons hlt]
    simp only [hk', decide_true, if_true, nthI_lt hlt, bnd_some, pack_name (hv.names _ (List.getElem_mem hlt)), namesB]
    have k2 : ∀ b : Bool, m_vars_Check_k2 (m_vars_Check_l1 v n) (k : Int) b = some (if (!b && namesB (some v.Names[k]) (v.Names.drop (k + 1))) = true then 0 else 1) := by
      intro b
      unfold m_vars_Check_k2
      rw [hw, hih]
      cases b <;> simp
    have k1 : ∀ b : Bool, m_vars_Check_k1 (m_vars_Check_l1 v n) v (k : Int) v.Names[k] b = some (if (!b && (afterB (prevO v.Names k) v.Names[k] && namesB (some v.Names[k]) (v.Names.drop (k + 1)))) = true then 0 else 1) := by
      intro b
      unfold m_vars_Check_k1
      cases b
      · by_cases h0 : k = 0
        · subst h0
          have hk2 := k2 false
          rw [show (((0 : Nat) : Int)) = 0 from rfl] at hk2 ⊢
          rw [show decide ((0 : Int) < 0) = false from rfl, if_neg (by decide), if_neg (by decide), hk2]
          rfl
        · have e1 : (0 : Int) < (k : Int) := by omega
          have e2 : IntKind.i64.wrap ((k : Int) - 1) = ((k - 1 : Nat) : Int) := by
            rw [wrap_in (by have := hv.len; unfold inR; unfold big63 at this; omega)]
            omega
          have e3 : nthI v.Names ((k - 1 : Nat) : Int) = some v.Names[k - 1] := nthI_lt (by omega)
          have e4 : prevO v.Names k = some v.Names[k - 1] := by
            unfold prevO
            rw [if_neg h0, List.getElem?_eq_getElem (by omega)]
          simp only [e1, decide_true, if_true, e2, e3, bnd_some, k2, e4, Bool.not_not, afterB, Bool.false_eq_true, if_false, Bool.not_false, Bool.true_and]
      · rfl
    generalize v.Names[k] = x at *
    unfold varB
    rcases Bool.eq_false_or_eq_true (nameB x) with hb | hb
    · simp only [hb, if_true, Bool.true_and]
      change (if eqS x yesS = true then _ else m_vars_Check_k1 _ v (k : Int) x (eqS x noS)) = _
      rcases Bool.eq_false_or_eq_true (eqS x yesS) with hy | hy
      · simp [hy, k1]
      · simp only [hy, Bool.false_eq_true, if_false, Bool.not_false, Bool.true_and, k1]
    · simp [hb, k1]
theorem ref09_Check {v : TVars} (hv : OkV v) : m_ref09_Check v = some (vchk v) := by
  unfold m_ref09_Check vchk
  have hlp := ref09_chk_loop hv _ 0 ((((v.Names.length : Int)) - 0).toNat + 1) rfl (Nat.zero_le _) (by omega)
  have hlp : m_ref09_Check_l1 v ((((v.Names.length : Int)) - 0).toNat + 1) 0 = some (if namesB none v.Names = true then 0 else 1) := hlp
  by_cases h1 : v.Names.length = v.Vals.length
  · have h1' : decide ((v.Names.length : Int) ≠ (v.Vals.length : Int)) = false := by simp; omega
    rw [h1', hlp]
    simp only [Bool.false_eq_true, if_false, h1, ne_eq, not_true_eq_false]
    rw [← h1]
    by_cases h2 : 64 < v.Names.length
    · have h2' : decide ((64 : Int) < (v.Names.length : Int)) = true := by simp; omega
      rw [h2']
      simp [h2]
    · have h2' : decide ((64 : Int) < (v.Names.length : Int)) = false := by simp; omega
      rw [h2']
      simp [h2]
  · have h1' : decide ((v.Names.length : Int) ≠ (v.Vals.length : Int)) = true := by simp; omega
    rw [h1']
    simp [h1]
theorem vars_Check {v : TVars} (hv : OkV v) : m_vars_Check v = some (vchk v) := by
  unfold m_vars_Check vchk
  have hlp := vars_chk_loop hv _ 0 ((((v.Names.length : Int)) - 0).toNat + 1) rfl (Nat.zero_le _) (by omega)
  have hlp : m_vars_Check_l1 v ((((v.Names.length : Int)) - 0).toNat + 1) 0 = some (if namesB none v.Names = true then 0 else 1) := hlp
  by_cases h1 : v.Names.length = v.Vals.length
  · have h1' : decide ((v.Names.length : Int) ≠ (v.Vals.length : Int)) = false := by simp; omega
    rw [h1', hlp]
    simp only [Bool.false_eq_true, if_false, h1, ne_eq, not_true_eq_false]
    rw [← h1]
    by_cases h2 : 64 < v.Names.length
    · have h2' : decide ((64 : Int) < (v.Names.length : Int)) = true := by simp; omega
      rw [h2']
      simp [h2]
    · have h2' : decide ((64 : Int) < (v.Names.length : Int)) = false := by simp; omega
      rw [h2']
      simp [h2]
  · have h1' : decide ((v.Names.length : Int) ≠ (v.Vals.length : Int)) = true := by simp; omega
    rw [h1']
    simp [h1]
end Go.Proofs.Ytefjblgmnoheiaa.R

/- Plain laws: variables compared, copied; loops. -/
set_option maxRecDepth 100000
set_option linter.unusedVariables false
set_option linter.unusedSimpArgs false
noncomputable section
namespace Go.Proofs.Ytefjblgmnoheiaa.R
open Go
def eqI (x y : Int) : Bool := decide (x = y)
theorem eqI_iff (x y : Int) : eqI x y = true ↔ x = y := by simp [eqI]
theorem big_max {n : Nat} (h : n ≤ big63) : n ≤ maxLen := by rw [maxLen_eq]; unfold big63 at h; omega
theorem texts_eq {a b : List ByteArray} (hl : a.length ≤ maxLen) : m_ref08_Texts a b = some (same2 eqS a b) := by
  unfold m_ref08_Texts same2
  by_cases h : a.length = b.length
  · have h1 : ¬ ((a.length : Int) ≠ (b.length : Int)) := by omega
    rw [decide_eq_false h1, if_neg (by simp), all2_loop0 (f := m_ref08_Texts_l1 a b) (p := eqS) h hl, decide_eq_true h, Bool.true_and]
    intro n k
    rw [m_ref08_Texts_l1, m_ref08_Texts_l1_B]
    simp only [decide_eq_true_eq, Int.ofNat_lt]
  · have h1 : ((a.length : Int) ≠ (b.length : Int)) := by omega
    simp [h1, h]
def sameV (a b : TVars) : Bool := same2 eqS a.Names b.Names && same2 eqI a.Vals b.Vals
theorem sameV_iff (a b : TVars) : sameV a b = true ↔ a = b := by
  unfold sameV
  rw [Bool.and_eq_true, same2_iff (fun x y => eqS_iff), same2_iff eqI_iff]
  cases a; cases b
  simp
theorem ref09_Same {a b : TVars} (ha : OkV a) : m_ref09_Same a b = some (sameV a b) := by
  unfold m_ref09_Same sameV m_ref09_Same_k1
  rw [texts_eq (big_max ha.len)]
  simp only [bnd_some]
  cases same2 eqS a.Names b.Names with
  | false => simp
  | true =>
    simp only [if_true, Bool.true_and]
    unfold same2
    by_cases h : a.Vals.length = b.Vals.length
    · have h1 : ¬ ((a.Vals.length : Int) ≠ (b.Vals.length : Int)) := by omega
      rw [decide_eq_false h1, if_neg (by simp), all2_loop0 (f := m_ref09_Same_l1 a b) (p := eqI) h (big_max ha.lenV), decide_eq_true h, Bool.true_and]
      intro n k
      rw [m_ref09_Same_l1, m_ref09_Same_l1_B]
      simp only [decide_eq_true_eq, Int.ofNat_lt]
      congr 1
      congr 1; funext x; congr 1; funext y
      by_cases ht : x = y <;> simp [ht, eqI]
    · have h1 : ((a.Vals.length : Int) ≠ (b.Vals.length : Int)) := by omega
      simp [h1, h]
/-! ### Loops over a list -/
theorem loop_ind {β : Type} {len : Nat} {f : Nat → Int → Option β} {R : Nat → Option β → Prop} (hlen : len < 9223372036854775807) (hz : ∀ n, R len (f (n + 1) (len : Int)))
    (hs : ∀ n k, k < len → IntKind.i64.wrap ((k : Int) + 1) = ((k + 1 : Nat) : Int) → R (k + 1) (f n ((k + 1 : Nat) : Int)) → R k (f (n + 1) (k : Int))) : ∀ m k n, len - k = m → k ≤ len → m < n → R k (f n (k : Int)) := by
  intro m
  induction m with
  | zero =>
    intro k n hm hk hn
    obtain ⟨n, rfl⟩ : ∃ n', n = n' + 1 := ⟨n - 1, by omega⟩
    have : k = len := by omega
    subst this
    exact hz n
  | succ m ih =>
    intro k n hm hk hn
    obtain ⟨n, rfl⟩ : ∃ n', n = n' + 1 := ⟨n - 1, by omega⟩
    exact hs n k (by omega) (wrap_succ (by omega)) (ih (k + 1) n (by omega) (by omega) (by omega))
theorem loop0 {β : Type} {len : Nat} {f : Nat → Int → Option β} {R : Nat → Option β → Prop} (hlen : len < 9223372036854775807) (hz : ∀ n, R len (f (n + 1) (len : Int)))
    (hs : ∀ n k, k < len → IntKind.i64.wrap ((k : Int) + 1) = ((k + 1 : Nat) : Int) → R (k + 1) (f n ((k + 1 : Nat) : Int)) → R k (f (n + 1) (k : Int))) : R 0 (f ((((len : Int)) - ((0 : Int))).toNat + 1) (0 : Int)) :=
  loop_ind hlen hz hs _ 0 _ rfl (Nat.zero_le _) (by omega)
theorem lt_k {k len : Nat} (h : k < len) : ((k : Int) < (len : Int)) := by omega
theorem nlt_k {len : Nat} : ¬ ((len : Int) < (len : Int)) := by omega
end Go.Proofs.Ytefjblgmnoheiaa.R

/- Plain laws: who took a message; messages and subscriptions that may be. -/
set_option maxRecDepth 100000
set_option linter.unusedVariables false
set_option linter.unusedSimpArgs false
noncomputable section
namespace Go.Proofs.Ytefjblgmnoheiaa.R
open Go
abbrev most : Int := 1099511627776
def inZ (n a b : Int) : Bool := decide (a ≤ n) && decide (n ≤ b)
theorem inZ_iff {n a b : Int} : inZ n a b = true ↔ a ≤ n ∧ n ≤ b := by simp [inZ]
def tookB (l : List TWho) (p i : Int) : Bool := l.any fun w => decide (w.Part = p) && decide (w.Inst = i)
structure OkM (m : TMail) : Prop where
  id : inR m.Id
  key : inR m.Key
  til : inR m.Until
  name : m.Name.size ≤ big63
  vars : OkV m.Vars
  took : m.Took.length ≤ big63
  tk : ∀ w ∈ m.Took, inR w.Part ∧ inR w.Inst
structure OkS (s : TSub) : Prop where
  part : inR s.Part
  id : inR s.Id
  inst : inR s.Inst
  key : inR s.Key
  mail : inR s.Mail
  name : s.Name.size ≤ big63
structure OkP (p : TPost) : Prop where
  next : inR p.Next
  ml : p.Mails.length ≤ big63
  sl : p.Subs.length ≤ big63
  mails : ∀ m ∈ p.Mails, OkM m
  subs : ∀ s ∈ p.Subs, OkS s
theorem big_lt {n : Nat} (h : n ≤ big63) : n < 9223372036854775807 := by unfold big63 at h; omega
theorem ref22_took {l : List TWho} (hl : l.length ≤ big63) (p i : Int) : m_ref22_took l p i = some (tookB l p i) := by
  unfold m_ref22_took tookB
  refine (loop0 (R := fun k o => o = some ((l.drop k).any fun w => decide (w.Part = p) && decide (w.Inst = i))) (f := m_ref22_took_l1 l p i) (big_lt hl) (fun n => ?_) (fun n k hk hw ih => ?_)).trans (by simp)
  · rw [m_ref22_took_l1, m_ref22_took_l1_B, decide_eq_false nlt_k, List.drop_eq_nil_of_le (Nat.le_refl _)]
    rfl
  · rw [m_ref22_took_l1, m_ref22_took_l1_B, decide_eq_true (lt_k hk), if_pos rfl, nthI_lt hk, bnd_some, List.drop_eq_getElem_cons hk, List.any_cons]
    simp only [m_ref22_took_k1, hw, ih]
    by_cases h1 : l[k].Part = p <;> by_cases h2 : l[k].Inst = i <;> simp [h1, h2]
theorem contains_who {l : List TWho} (hl : l.length ≤ big63) (v : TWho) : m_slices_Contains_api_Who_api_Who l v = some (tookB l v.Part v.Inst) := by
  unfold m_slices_Contains_api_Who_api_Who m_slices_Index_api_Who_api_Who tookB
  suffices h : ∃ r, m_slices_Index_api_Who_api_Who_l1 l v ((((l.length : Int)) - ((0 : Int))).toNat + 1) (0 : Int) = some r ∧ decide (0 ≤ r) = ((l.drop 0).any fun w => decide (w.Part = v.Part) && decide (w.Inst = v.Inst)) by
    obtain ⟨r, h1, h2⟩ := h
    rw [h1, bnd_some, h2, List.drop_zero]
  refine loop0 (R := fun k o => ∃ r, o = some r ∧ decide (0 ≤ r) = ((l.drop k).any fun w => decide (w.Part = v.Part) && decide (w.Inst = v.Inst))) (f := m_slices_Index_api_Who_api_Who_l1 l v) (big_lt hl) (fun n => ?_) (fun n k hk hw ih => ?_)
  · rw [m_slices_Index_api_Who_api_Who_l1, m_slices_Index_api_Who_api_Who_l1_B, decide_eq_false nlt_k, List.drop_eq_nil_of_le (Nat.le_refl _)]
    exact ⟨-1, rfl, rfl⟩
  · rw [m_slices_Index_api_Who_api_Who_l1, m_slices_Index_api_Who_api_Who_l1_B, decide_eq_true (lt_k hk), if_pos rfl, nthI_lt hk, bnd_some, List.drop_eq_getElem_cons hk, List.any_cons]
    have e1 : (v.Part = l[k].Part) = (l[k].Part = v.Part) := propext eq_comm
    have e2 : (v.Inst = l[k].Inst) = (l[k].Inst = v.Inst) := propext eq_comm
    simp only [e1, e2, hw]
    obtain ⟨r, h1, h2⟩ := ih
    by_cases h : (decide (l[k].Part = v.Part) && decide (l[k].Inst = v.Inst)) = true
    · rw [if_pos h, h]
      exact ⟨k, rfl, by simp⟩
    · rw [if_neg h, h1, Bool.eq_false_iff.2 h]
      exact ⟨r, rfl, h2⟩
/-! ### 22.1 -/
def whoB (w : TWho) : Bool := inZ w.Part 0 63 && inZ w.Inst 1 most
def whosB : List TWho → List TWho → Bool
  | _, [] => true
  | pre, w :: r => whoB w && (!tookB pre w.Part w.Inst && whosB (pre ++ [w]) r)
def mchk (m : TMail) : Int :=
  if (inZ m.Id 1 most && (nameB m.Name && inZ m.Until 0 most)) = true then
    if vchk m.Vars ≠ 0 then vchk m.Vars else if whosB [] m.Took = true then 0 else 1
  else 1
theorem in_eq (n a b : Int) : m_ref22_in n a b = some (inZ n a b) := by
  unfold m_ref22_in inZ
  by_cases h : a ≤ n <;> simp [h]
theorem wide_eq (n : Int) : m_post_wide n = some (inZ n 1 1099511627776) := by
  unfold m_post_wide inZ
  by_cases h : 1 ≤ n <;> simp [h]
theorem part_eq (n : Int) : m_post_part n = some (inZ n 0 63) := by
  unfold m_post_part inZ
  have : decide (n < 64) = decide (n ≤ 63) := by congr 1; apply propext; omega
  by_cases h : 0 ≤ n <;> simp [h, this]
theorem sliceL_take {α : Type} {l : List α} {k : Nat} (h : k ≤ l.length) : sliceL l 0 (k : Int) = some (l.take k) := by
  unfold sliceL
  simp [h]
theorem take_succ_get {α : Type} {l : List α} {k : Nat} (h : k < l.length) : l.take (k + 1) = l.take k ++ [l[k]] := by rw [List.take_add_one, List.getElem?_eq_getElem h]; rfl
theorem take_big {α : Type} {l : List α} {k : Nat} (h : l.length ≤ big63) : (l.take k).length ≤ big63 := by rw [List.length_take]; omega
theorem ref22_Mail {m : TMail} (hm : OkM m) : m_ref22_Mail m = some (mchk m) := by
  have hlp : m_ref22_Mail_l1 m ((((m.Took.length : Int)) - ((0 : Int))).toNat + 1) (0 : Int) = some (if whosB [] m.Took = true then 0 else 1) := by
    refine loop0 (R := fun k o => o = some (if whosB (m.Took.take k) (m.Took.drop k) = true then 0 else 1)) (f := m_ref22_Mail_l1 m) (big_lt hm.took) (fun n => ?_) (fun n k hk hw ih => ?_)
    · rw [m_ref22_Mail_l1, m_ref22_Mail_l1_B, decide_eq_false nlt_k, List.drop_eq_nil_of_le (Nat.le_refl _)]
      rfl
    · rw [take_succ_get hk] at ih
      rw [m_ref22_Mail_l1, m_ref22_Mail_l1_B, decide_eq_true (lt_k hk), if_pos rfl, nthI_lt hk, bnd_some, List.drop_eq_getElem_cons hk]
      simp only [in_eq, bnd_some, sliceL_take (Nat.le_of_lt hk), ref22_took (take_big hm.took), m_ref22_Mail_k2, hw, ih, whosB, whoB, most, if_true, Bool.false_eq_true, if_false]
      rcases Bool.eq_false_or_eq_true (inZ m.Took[k].Part 0 63) with g0 | g0 <;> rcases Bool.eq_false_or_eq_true (inZ m.Took[k].Inst 1 1099511627776) with g1 | g1 <;> rcases Bool.eq_false_or_eq_true (tookB (m.Took.take k) m.Took[k].Part m.Took[k].Inst) with g2 | g2 <;> simp [g0, g1, g2]
  unfold m_ref22_Mail
  simp only [in_eq, bnd_some, ref02_name hm.name, m_ref22_Mail_k1, ref09_Check hm.vars, hlp, mchk, most]
  cases h1 : inZ m.Id 1 1099511627776 <;> cases h2 : nameB m.Name <;> cases h3 : inZ m.Until 0 1099511627776 <;> by_cases h4 : vchk m.Vars = 0 <;> simp [h4]
theorem post_mail {m : TMail} (hm : OkM m) : m_post_mail m = some (mchk m) := by
  have hlp : m_post_mail_l1 m ((((m.Took.length : Int)) - ((0 : Int))).toNat + 1) (0 : Int) = some (if whosB [] m.Took = true then 0 else 1) := by
    refine loop0 (R := fun k o => o = some (if whosB (m.Took.take k) (m.Took.drop k) = true then 0 else 1)) (f := m_post_mail_l1 m) (big_lt hm.took) (fun n => ?_) (fun n k hk hw ih => ?_)
    · rw [m_post_mail_l1, m_post_mail_l1_B, decide_eq_false nlt_k, List.drop_eq_nil_of_le (Nat.le_refl _)]
      rfl
    · rw [take_succ_get hk] at ih
      rw [m_post_mail_l1, m_post_mail_l1_B, decide_eq_true (lt_k hk), if_pos rfl, nthI_lt hk, bnd_some, List.drop_eq_getElem_cons hk]
      simp only [part_eq, wide_eq, bnd_some, sliceL_take (Nat.le_of_lt hk), contains_who (take_big hm.took), m_post_mail_k2, hw, ih, whosB, whoB, if_true, Bool.false_eq_true, if_false]
      rcases Bool.eq_false_or_eq_true (inZ m.Took[k].Part 0 63) with g0 | g0 <;> rcases Bool.eq_false_or_eq_true (inZ m.Took[k].Inst 1 1099511627776) with g1 | g1 <;> rcases Bool.eq_false_or_eq_true (tookB (m.Took.take k) m.Took[k].Part m.Took[k].Inst) with g2 | g2 <;> simp [g0, g1, g2]
  unfold m_post_mail
  simp only [wide_eq, bnd_some, pack_name hm.name, m_post_mail_k1, vars_Check hm.vars, hlp, mchk]
  have e3 : inZ m.Until 0 1099511627776 = (!decide (m.Until < 0) && !decide (1099511627776 < m.Until)) := by
    unfold inZ
    by_cases h1 : m.Until < 0 <;> by_cases h2 : 1099511627776 < m.Until <;> simp [h1, h2] <;> omega
  rw [e3]
  cases h1 : inZ m.Id 1 1099511627776 <;> cases h2 : nameB m.Name <;> by_cases h3 : m.Until < 0 <;> by_cases h5 : 1099511627776 < m.Until <;> by_cases h4 : vchk m.Vars = 0 <;> simp [h3, h4, h5]
/-! ### 22.2 -/
def subB (s : TSub) : Bool := inZ s.Part 0 63 && (inZ s.Id 1 most && (inZ s.Inst 1 most && (nameB s.Name && inZ s.Mail 0 most)))
theorem ref22_Sub {s : TSub} (hs : OkS s) : m_ref22_Sub s = some (subB s) := by
  unfold m_ref22_Sub subB
  simp only [in_eq, bnd_some, ref02_name hs.name]
  cases inZ s.Part 0 63 <;> cases inZ s.Id 1 1099511627776 <;> cases inZ s.Inst 1 1099511627776 <;> cases nameB s.Name <;> rfl
theorem post_sub {s : TSub} (hs : OkS s) : m_post_sub s = some (subB s) := by
  unfold m_post_sub subB
  simp only [part_eq, wide_eq, bnd_some, pack_name hs.name]
  cases inZ s.Part 0 63 <;> cases inZ s.Id 1 1099511627776 <;> cases inZ s.Inst 1 1099511627776 <;> cases nameB s.Name <;> simp [inZ]
  by_cases h : 0 ≤ s.Mail <;> simp [h]
/-! ### 22.3 -/
def aheadB (a b : TSub) : Bool := decide (a.Part < b.Part) || (decide (a.Part = b.Part) && decide (a.Id < b.Id))
theorem ahead_eq (a b : TSub) : m_ref22_ahead a b = some (aheadB a b) := by
  unfold m_ref22_ahead aheadB
  by_cases h1 : a.Part < b.Part <;> by_cases h2 : a.Part = b.Part <;> simp [h1, h2]
theorem order_eq (a b : Tkey) : m_post_key_order a b = some (if a.f_part = b.f_part ∧ a.f_id = b.f_id then 0 else if a.f_part < b.f_part ∨ (a.f_part = b.f_part ∧ a.f_id < b.f_id) then -1 else 1) := by
  unfold m_post_key_order m_post_key_order_k1
  by_cases h1 : a.f_part = b.f_part <;> by_cases h2 : a.f_id = b.f_id <;> by_cases h3 : a.f_part < b.f_part <;> by_cases h4 : a.f_id < b.f_id <;> simp [h1, h2, h3, h4] <;> omega
theorem order_of (a b : TSub) : ∃ r, m_post_key_order ⟨a.Part, a.Id⟩ ⟨b.Part, b.Id⟩ = some r ∧ decide (0 ≤ r) = !aheadB a b := by
  refine ⟨_, order_eq _ _, ?_⟩
  unfold aheadB
  by_cases h1 : a.Part = b.Part <;> by_cases h2 : a.Id = b.Id <;> by_cases h3 : a.Part < b.Part <;> by_cases h4 : a.Id < b.Id <;> simp [h1, h2, h3, h4] <;> omega
def mailsE (next : Int) : Int → List TMail → Int
  | _, [] => 0
  | last, m :: r => if mchk m ≠ 0 then mchk m else if m.Id ≤ last ∨ next ≤ m.Id then 1 else mailsE next m.Id r
def behindB : Option TSub → TSub → Bool
  | none, _ => true
  | some a, b => aheadB a b
def subsB (next : Int) : Option TSub → List TSub → Bool
  | _, [] => true
  | q, s :: r => subB s && (decide (s.Mail < next) && (behindB q s && subsB next (some s) r))
def pchk (p : TPost) : Int :=
  if inZ p.Next 1 most = true then
    if 4096 < p.Mails.length ∨ 4096 < p.Subs.length then 6
    else if mailsE p.Next 0 p.Mails ≠ 0 then mailsE p.Next 0 p.Mails else if subsB p.Next none p.Subs = true then 0 else 1
  else 1
def prevS (l : List TSub) (k : Nat) : Option TSub := if k = 0 then none else l[k - 1]?
theorem prevS_succ {l : List TSub} {k : Nat} (h : k < l.length) : prevS l (k + 1) = some l[k] := by
  unfold prevS
  rw [if_neg (by omega), Nat.add_sub_cancel, List.getElem?_eq_getElem h]
theorem prevS_pos {l : List TSub} {k : Nat} (h : k < l.length) (h0 : k ≠ 0) : prevS l k = some l[k - 1] := by
  unfold prevS
  rw [if_neg h0, List.getElem?_eq_getElem (by omega)]
theorem wrap_pred {k : Nat} (h : k < 9223372036854775807) (h0 : k ≠ 0) : IntKind.i64.wrap ((k : Int) - 1) = ((k - 1 : Nat) : Int) := by
  rw [wrap_in (by unfold inR; omega)]
  omega
theorem ref22_subs {p : TPost} (hp : OkP p) : m_ref22_Check_k3 p = some (if subsB p.Next none p.Subs = true then 0 else 1) := by
  unfold m_ref22_Check_k3
  refine loop0 (R := fun k o => o = some (if subsB p.Next (prevS p.Subs k) (p.Subs.drop k) = true then 0 else 1)) (f := m_ref22_Check_l2 p) (big_lt hp.sl) (fun n => ?_) (fun n k hk hw ih => ?_)
  · rw [m_ref22_Check_l2, m_ref22_Check_l2_B, decide_eq_false nlt_k, List.drop_eq_nil_of_le (Nat.le_refl _)]
    rfl
  · rw [prevS_succ hk] at ih
    rw [m_ref22_Check_l2, m_ref22_Check_l2_B, decide_eq_true (lt_k hk), if_pos rfl, nthI_lt hk, bnd_some, List.drop_eq_getElem_cons hk, ref22_Sub (hp.subs _ (List.getElem_mem hk)), bnd_some]
    simp only [m_ref22_Check_k4, hw, ih, subsB, if_true, Bool.false_eq_true, if_false]
    have e1 : decide (p.Next ≤ p.Subs[k].Mail) = !decide (p.Subs[k].Mail < p.Next) := by
      by_cases h : p.Next ≤ p.Subs[k].Mail
      · have : ¬ p.Subs[k].Mail < p.Next := by omega
        simp [h, this]
      · have : p.Subs[k].Mail < p.Next := by omega
        simp [h, this]
    rw [e1]
    by_cases h0 : k = 0
    · subst h0
      rcases Bool.eq_false_or_eq_true (subB p.Subs[0]) with g0 | g0 <;> rcases Bool.eq_false_or_eq_true (decide (p.Subs[0].Mail < p.Next)) with g1 | g1 <;> simp [g0, g1, prevS, behindB]
    · have h1 : (0 : Int) < (k : Int) := by omega
      rw [wrap_pred (big_lt (by have := hp.sl; omega)) h0, nthI_lt (by omega), prevS_pos hk h0]
      simp only [bnd_some, ahead_eq, behindB, decide_eq_true h1, if_true]
      rcases Bool.eq_false_or_eq_true (subB p.Subs[k]) with g0 | g0 <;> rcases Bool.eq_false_or_eq_true (decide (p.Subs[k].Mail < p.Next)) with g1 | g1 <;> rcases Bool.eq_false_or_eq_true (aheadB p.Subs[k - 1] p.Subs[k]) with g2 | g2 <;> simp [g0, g1, g2]
theorem post_subs {p : TPost} (hp : OkP p) : m_post_Check_k3 p = some (if subsB p.Next none p.Subs = true then 0 else 1) := by
  unfold m_post_Check_k3
  refine loop0 (R := fun k o => o = some (if subsB p.Next (prevS p.Subs k) (p.Subs.drop k) = true then 0 else 1)) (f := m_post_Check_l2 p) (big_lt hp.sl) (fun n => ?_) (fun n k hk hw ih => ?_)
  · rw [m_post_Check_l2, m_post_Check_l2_B, decide_eq_false nlt_k, List.drop_eq_nil_of_le (Nat.le_refl _)]
    rfl
  · rw [prevS_succ hk] at ih
    rw [m_post_Check_l2, m_post_Check_l2_B, decide_eq_true (lt_k hk), if_pos rfl, nthI_lt hk, bnd_some, List.drop_eq_getElem_cons hk, post_sub (hp.subs _ (List.getElem_mem hk)), bnd_some]
    simp only [m_post_Check_k4, hw, ih, subsB, if_true, Bool.false_eq_true, if_false]
    have e1 : decide (p.Next ≤ p.Subs[k].Mail) = !decide (p.Subs[k].Mail < p.Next) := by
      by_cases h : p.Next ≤ p.Subs[k].Mail
      · have : ¬ p.Subs[k].Mail < p.Next := by omega
        simp [h, this]
      · have : p.Subs[k].Mail < p.Next := by omega
        simp [h, this]
    rw [e1]
    by_cases h0 : k = 0
    · subst h0
      rcases Bool.eq_false_or_eq_true (subB p.Subs[0]) with g0 | g0 <;> rcases Bool.eq_false_or_eq_true (decide (p.Subs[0].Mail < p.Next)) with g1 | g1 <;> simp [g0, g1, prevS, behindB]
    · have h1 : (0 : Int) < (k : Int) := by omega
      rw [wrap_pred (big_lt (by have := hp.sl; omega)) h0, nthI_lt (by omega), prevS_pos hk h0]
      obtain ⟨r, g1, g2⟩ := order_of p.Subs[k - 1] p.Subs[k]
      simp only [bnd_some, m_post_of, g1, g2, behindB, decide_eq_true h1, if_true]
      rcases Bool.eq_false_or_eq_true (subB p.Subs[k]) with g0 | g0 <;> rcases Bool.eq_false_or_eq_true (decide (p.Subs[k].Mail < p.Next)) with g1 | g1 <;> rcases Bool.eq_false_or_eq_true (aheadB p.Subs[k - 1] p.Subs[k]) with g2 | g2 <;> simp [g0, g1, g2]
def prevI (l : List TMail) (k : Nat) : Int := if k = 0 then 0 else match l[k - 1]? with | some m => m.Id | none => 0
theorem prevI_succ {l : List TMail} {k : Nat} (h : k < l.length) : prevI l (k + 1) = l[k].Id := by
  unfold prevI
  rw [if_neg (by omega), Nat.add_sub_cancel, List.getElem?_eq_getElem h]
theorem prevI_pos {l : List TMail} {k : Nat} (h : k < l.length) (h0 : k ≠ 0) : prevI l k = l[k - 1].Id := by
  unfold prevI
  rw [if_neg h0, List.getElem?_eq_getElem (by omega)]
theorem mchk_id {m : TMail} (h : mchk m = 0) : 1 ≤ m.Id ∧ m.Id ≤ most ∧ nameB m.Name = true ∧ 0 ≤ m.Until ∧ m.Until ≤ most ∧ vchk m.Vars = 0 ∧ whosB [] m.Took = true := by
  unfold mchk at h
  split at h
  · rename_i h1
    simp only [Bool.and_eq_true, inZ_iff] at h1
    split at h
    · rename_i h2; exact absurd h h2
    · rename_i h2
      split at h
      · rename_i h3
        exact ⟨h1.1.1, h1.1.2, h1.2.1, h1.2.2.1, h1.2.2.2, by simpa using h2, h3⟩
      · cases h
  · cases h
theorem ref22_mails {p : TPost} (hp : OkP p) : m_ref22_Check_l1 p ((((p.Mails.length : Int)) - ((0 : Int))).toNat + 1) (0 : Int) = some (if mailsE p.Next 0 p.Mails ≠ 0 then mailsE p.Next 0 p.Mails else if subsB p.Next none p.Subs = true then 0 else 1) := by
  refine loop0 (R := fun k o => o = some (if mailsE p.Next (prevI p.Mails k) (p.Mails.drop k) ≠ 0 then mailsE p.Next (prevI p.Mails k) (p.Mails.drop k) else if subsB p.Next none p.Subs = true then 0 else 1)) (f := m_ref22_Check_l1 p) (big_lt hp.ml) (fun n => ?_) (fun n k hk hw ih => ?_)
  · rw [m_ref22_Check_l1, m_ref22_Check_l1_B, decide_eq_false nlt_k, List.drop_eq_nil_of_le (Nat.le_refl _), ref22_subs hp]
    rfl
  · rw [prevI_succ hk] at ih
    rw [m_ref22_Check_l1, m_ref22_Check_l1_B, decide_eq_true (lt_k hk), if_pos rfl, nthI_lt hk, bnd_some, List.drop_eq_getElem_cons hk, ref22_Mail (hp.mails _ (List.getElem_mem hk)), bnd_some]
    simp only [m_ref22_Check_k2, hw, ih, mailsE]
    by_cases hc : mchk p.Mails[k] = 0
    · have hid := (mchk_id hc).1
      simp only [hc, ne_eq, not_true_eq_false, decide_false, Bool.false_eq_true, if_false]
      by_cases h0 : k = 0
      · subst h0
        have h2 : ¬ p.Mails[0].Id ≤ 0 := by omega
        have h4 : prevI p.Mails 0 = 0 := rfl
        have h5 : decide ((0 : Int) < ((0 : Nat) : Int)) = false := rfl
        rw [h4, h5]
        by_cases h3 : p.Next ≤ p.Mails[0].Id <;> simp [h2, h3]
      · have h1 : (0 : Int) < (k : Int) := by omega
        rw [wrap_pred (big_lt (by have := hp.ml; omega)) h0, nthI_lt (by omega), prevI_pos hk h0]
        by_cases h2 : p.Mails[k].Id ≤ p.Mails[k - 1].Id <;> by_cases h3 : p.Next ≤ p.Mails[k].Id <;> simp [h0, h1, h2, h3, bnd_some]
    · simp [hc]
theorem post_mails {p : TPost} (hp : OkP p) : m_post_Check_l1 p ((((p.Mails.length : Int)) - ((0 : Int))).toNat + 1) (0 : Int) (0 : Int) = some (if mailsE p.Next 0 p.Mails ≠ 0 then mailsE p.Next 0 p.Mails else if subsB p.Next none p.Subs = true then 0 else 1) := by
  refine loop0 (R := fun k o => o = some (if mailsE p.Next (prevI p.Mails k) (p.Mails.drop k) ≠ 0 then mailsE p.Next (prevI p.Mails k) (p.Mails.drop k) else if subsB p.Next none p.Subs = true then 0 else 1)) (f := fun n i => m_post_Check_l1 p n (prevI p.Mails i.toNat) i) (big_lt hp.ml) (fun n => ?_) (fun n k hk hw ih => ?_)
  · rw [m_post_Check_l1, m_post_Check_l1_B, decide_eq_false nlt_k, List.drop_eq_nil_of_le (Nat.le_refl _), post_subs hp]
    rfl
  · rw [Int.toNat_natCast, prevI_succ hk] at ih
    rw [Int.toNat_natCast, m_post_Check_l1, m_post_Check_l1_B, decide_eq_true (lt_k hk), if_pos rfl, nthI_lt hk, bnd_some, List.drop_eq_getElem_cons hk, post_mail (hp.mails _ (List.getElem_mem hk)), bnd_some]
    simp only [m_post_Check_k2, hw, ih, mailsE]
    by_cases hc : mchk p.Mails[k] = 0
    · simp only [hc, ne_eq, not_true_eq_false, decide_false, Bool.false_eq_true, if_false]
      by_cases h2 : p.Mails[k].Id ≤ prevI p.Mails k <;> by_cases h3 : p.Next ≤ p.Mails[k].Id <;> simp [h2, h3]
    · simp [hc]
theorem ref22_Check {p : TPost} (hp : OkP p) : m_ref22_Check p = some (pchk p) := by
  unfold m_ref22_Check pchk m_ref22_Check_k1
  rw [in_eq, bnd_some, ref22_mails hp]
  change (if inZ p.Next 1 most = true then _ else _) = _
  cases inZ p.Next 1 most
  · rfl
  · by_cases h1 : 4096 < p.Mails.length
    · have : (4096 : Int) < (p.Mails.length : Int) := by omega
      simp [h1, this]
    · have h1' : ¬ (4096 : Int) < (p.Mails.length : Int) := by omega
      by_cases h2 : 4096 < p.Subs.length
      · have h2' : (4096 : Int) < (p.Subs.length : Int) := by omega
        simp [h1, h1', h2, h2']
      · have h2' : ¬ (4096 : Int) < (p.Subs.length : Int) := by omega
        simp only [h1, h1', h2, h2', decide_false, Bool.false_eq_true, if_false, if_true, or_self]
theorem post_Check {p : TPost} (hp : OkP p) : m_post_Check p = some (pchk p) := by
  unfold m_post_Check pchk m_post_Check_k1
  rw [wide_eq, bnd_some, post_mails hp]
  cases inZ p.Next 1 most
  · rfl
  · by_cases h1 : 4096 < p.Mails.length
    · have : (4096 : Int) < (p.Mails.length : Int) := by omega
      simp [h1, this]
    · have h1' : ¬ (4096 : Int) < (p.Mails.length : Int) := by omega
      by_cases h2 : 4096 < p.Subs.length
      · have h2' : (4096 : Int) < (p.Subs.length : Int) := by omega
        simp [h1, h1', h2, h2']
      · have h2' : ¬ (4096 : Int) < (p.Subs.length : Int) := by omega
        simp only [h1, h1', h2, h2', decide_false, Bool.false_eq_true, if_false, if_true, or_self]
end Go.Proofs.Ytefjblgmnoheiaa.R

/- Plain laws: posts compared, weighed. -/
set_option maxRecDepth 100000
set_option linter.unusedVariables false
set_option linter.unusedSimpArgs false
noncomputable section
namespace Go.Proofs.Ytefjblgmnoheiaa.R
open Go
theorem big_mx {n : Nat} (h : n ≤ big63) : n ≤ maxLen := big_max h
/-! ### 22.11 -/
def sameW (a b : TWho) : Bool := decide (a.Part = b.Part) && decide (a.Inst = b.Inst)
theorem sameW_iff (a b : TWho) : sameW a b = true ↔ a = b := by
  cases a; cases b
  simp [sameW]
def sameS (a b : TSub) : Bool := (decide (a.Part = b.Part)) && ((decide (a.Id = b.Id)) && ((decide (a.Inst = b.Inst)) && ((eqS a.Name b.Name) && ((decide (a.Key = b.Key)) && (decide (a.Mail = b.Mail))))))
theorem sameS_iff (a b : TSub) : sameS a b = true ↔ a = b := by
  cases a; cases b
  simp [sameS, eqS_iff]
def sameM (a b : TMail) : Bool := decide (a.Id = b.Id) && (eqS a.Name b.Name && (decide (a.Key = b.Key) && (decide (a.Until = b.Until) && (sameV a.Vars b.Vars && same2 sameW a.Took b.Took))))
theorem sameM_iff (a b : TMail) : sameM a b = true ↔ a = b := by
  cases a; cases b
  simp only [sameM, Bool.and_eq_true, decide_eq_true_eq, eqS_iff, sameV_iff, same2_iff sameW_iff, TMail.mk.injEq]
  constructor
  · rintro ⟨a, b, c, d, e, f⟩; exact ⟨a, b, c, e, d, f⟩
  · rintro ⟨a, b, c, d, e, f⟩; exact ⟨a, b, c, e, d, f⟩
def sameP (a b : TPost) : Bool := decide (a.Next = b.Next) && (same2 sameS a.Subs b.Subs && same2 sameM a.Mails b.Mails)
theorem sameP_iff (a b : TPost) : sameP a b = true ↔ a = b := by
  cases a; cases b
  simp only [sameP, Bool.and_eq_true, decide_eq_true_eq, same2_iff sameS_iff, same2_iff sameM_iff, TPost.mk.injEq]
  constructor
  · rintro ⟨a, b, c⟩; exact ⟨a, c, b⟩
  · rintro ⟨a, b, c⟩; exact ⟨a, c, b⟩
theorem ref_mail {a b : TMail} (ha : OkM a) : m_ref22_sameMail a b = some (sameM a b) := by
  have hl : ∀ h : a.Took.length = b.Took.length, m_ref22_sameMail_l1 a b ((((a.Took.length : Int)) - ((0 : Int))).toNat + 1) (0 : Int) = some (all2 sameW a.Took b.Took) := fun h => by
    refine all2_loop0 (f := m_ref22_sameMail_l1 a b) (p := sameW) h (big_mx ha.took) ?_
    intro n k
    rw [m_ref22_sameMail_l1, m_ref22_sameMail_l1_B]
    simp only [decide_eq_true_eq, Int.ofNat_lt]
    rfl
  unfold m_ref22_sameMail sameM m_ref22_sameMail_k1 same2
  rw [ref09_Same ha.vars]
  simp only [bnd_some]
  have e : decide ((a.Took.length : Int) ≠ (b.Took.length : Int)) = !decide (a.Took.length = b.Took.length) := by
    by_cases h : a.Took.length = b.Took.length
    · simp [h]
    · have : ¬ ((a.Took.length : Int) = (b.Took.length : Int)) := by omega
      simp [h, this]
  rw [e]
  by_cases h1 : a.Id = b.Id <;> rcases Bool.eq_false_or_eq_true (eqS a.Name b.Name) with h2 | h2 <;> by_cases h3 : a.Key = b.Key <;> by_cases h4 : a.Until = b.Until <;> rcases Bool.eq_false_or_eq_true (sameV a.Vars b.Vars) with h5 | h5 <;> by_cases h6 : a.Took.length = b.Took.length <;> simp [h1, h2, h3, h4, h5, h6]
  rw [← h6]
  exact hl h6
theorem ref22_Same {a b : TPost} (ha : OkP a) : m_ref22_Same a b = some (sameP a b) := by
  have hs : ∀ h : a.Subs.length = b.Subs.length, m_ref22_Same_k2 a b = some (all2 sameS a.Subs b.Subs) := fun h => by
    unfold m_ref22_Same_k2
    refine all2_loop0 (f := m_ref22_Same_l2 a b) (p := sameS) h (big_mx ha.sl) ?_
    intro n k
    rw [m_ref22_Same_l2, m_ref22_Same_l2_B]
    simp only [decide_eq_true_eq, Int.ofNat_lt]
    rfl
  have hm : a.Mails.length = b.Mails.length → a.Subs.length = b.Subs.length → m_ref22_Same_l1 a b ((((a.Mails.length : Int)) - ((0 : Int))).toNat + 1) (0 : Int) = some (all2 sameM a.Mails b.Mails && all2 sameS a.Subs b.Subs) := fun h h' => by
    refine loop0 (R := fun k o => o = some (all2 sameM (a.Mails.drop k) (b.Mails.drop k) && all2 sameS a.Subs b.Subs)) (f := m_ref22_Same_l1 a b) (big_lt ha.ml) (fun n => ?_) (fun n k hk hw ih => ?_)
    · rw [m_ref22_Same_l1, m_ref22_Same_l1_B, decide_eq_false nlt_k, if_neg (by simp), hs h', List.drop_eq_nil_of_le (as := a.Mails) (Nat.le_refl _)]
      simp [all2]
    · have hk' : k < b.Mails.length := by omega
      rw [m_ref22_Same_l1, m_ref22_Same_l1_B, decide_eq_true (lt_k hk), if_pos rfl, nthI_lt hk, nthI_lt hk', bnd_some, bnd_some, ref_mail (ha.mails _ (List.getElem_mem hk)), bnd_some, hw, ih, List.drop_eq_getElem_cons hk, List.drop_eq_getElem_cons hk', all2]
      rcases Bool.eq_false_or_eq_true (sameM a.Mails[k] b.Mails[k]) with h1 | h1 <;> simp [h1]
  unfold m_ref22_Same sameP m_ref22_Same_k1 same2
  by_cases h1 : a.Next = b.Next
  · by_cases h2 : a.Mails.length = b.Mails.length
    · by_cases h3 : a.Subs.length = b.Subs.length
      · have e2 : ¬ ((a.Mails.length : Int) ≠ (b.Mails.length : Int)) := by omega
        have e3 : ¬ ((a.Subs.length : Int) ≠ (b.Subs.length : Int)) := by omega
        rw [hm h2 h3]
        simp [h1, h2, h3, Bool.and_comm]
      · have e3 : ((a.Subs.length : Int) ≠ (b.Subs.length : Int)) := by omega
        by_cases e2 : ((a.Mails.length : Int) ≠ (b.Mails.length : Int)) <;> simp [h1, e2, e3, h3]
    · have e2 : ((a.Mails.length : Int) ≠ (b.Mails.length : Int)) := by omega
      simp [h1, e2, h2]
  · simp [h1]
structure CapM (m : TMail) : Prop where
  took : m.Took.length ≤ 549755813888
  names : m.Vars.Names.length ≤ 549755813888
  vals : m.Vars.Vals.length ≤ 549755813888
structure CapP (p : TPost) : Prop where
  ml : p.Mails.length ≤ 549755813888
  sl : p.Subs.length ≤ 549755813888
  mails : ∀ m ∈ p.Mails, CapM m
/-! ### Weights -/
structure SmallM (m : TMail) : Prop where
  took : m.Took.length ≤ 200
  names : m.Vars.Names.length ≤ 200
  vals : m.Vars.Vals.length ≤ 200
  name : m.Name.size < 8040
  nm : ∀ s ∈ m.Vars.Names, s.size < 8040
structure SmallP (p : TPost) : Prop where
  ml : p.Mails.length ≤ 200
  sl : p.Subs.length ≤ 200
  mails : ∀ m ∈ p.Mails, SmallM m
  subs : ∀ s ∈ p.Subs, s.Name.size < 8040
theorem SmallP.cap {p : TPost} (h : SmallP p) : CapP p := ⟨by have := h.ml; omega, by have := h.sl; omega, fun m hm => ⟨by have := (h.mails m hm).took; omega, by have := (h.mails m hm).names; omega, by have := (h.mails m hm).vals; omega⟩⟩
/-- As far as a number of the elements. -/
def lim40 : Nat := 4503599627370496
theorem wrap_add {a b : Int} (h : -9223372036854775808 ≤ a + b) (h' : a + b ≤ 9223372036854775807) : IntKind.i64.wrap (a + b) = a + b := wrap_in ⟨h, h'⟩
theorem div40 {n : Nat} (h : n ≤ big63) : IntKind.i64.wrap ((n : Int).tdiv 40) = ((n / 40 : Nat) : Int) := by
  rw [tdiv_nn (by omega), wrap_in (by unfold inR; unfold big63 at h; omega)]
  omega
theorem weight_l3 {rec : Int → Int → Option Int} {i : Int} {m : TMail} (hm : OkM m) {n0 : Int} (h0 : 0 ≤ n0) (hb : n0 ≤ 1125899906842624) :
    ∃ n', n0 ≤ n' ∧ n' ≤ 1125899906842624 + big63 ∧ (n' ≤ 200 → ∀ s ∈ m.Vars.Names, s.size < 8040) ∧ m_ref22_Weight_l3 rec 200 i m ((((m.Vars.Names.length : Int)) - ((0 : Int))).toNat + 1) n0 (0 : Int) = m_ref22_Weight_k5 rec i n' := by
  suffices h : ∀ n0 : Int, 0 ≤ n0 → n0 ≤ 1125899906842624 + big63 → (n0 ≤ 200 ∨ (0 : Nat) ≤ 0) → n0 ≤ 1125899906842624 + big63 → ∃ n', n0 ≤ n' ∧ n' ≤ 1125899906842624 + big63 ∧ (n' ≤ 200 → ∀ s ∈ m.Vars.Names.drop 0, s.size < 8040) ∧ m_ref22_Weight_l3 rec 200 i m ((((m.Vars.Names.length : Int)) - ((0 : Int))).toNat + 1) n0 (0 : Int) = m_ref22_Weight_k5 rec i n' by
    exact h n0 h0 (by unfold big63; omega) (Or.inr (Nat.le_refl _)) (by unfold big63; omega)
  suffices h : ∀ n0 : Int, 0 ≤ n0 → n0 ≤ 1125899906842624 + big63 → ∃ n', n0 ≤ n' ∧ n' ≤ 1125899906842624 + big63 ∧ (n' ≤ 200 → ∀ s ∈ m.Vars.Names.drop 0, s.size < 8040) ∧ m_ref22_Weight_l3 rec 200 i m ((((m.Vars.Names.length : Int)) - ((0 : Int))).toNat + 1) n0 (0 : Int) = m_ref22_Weight_k5 rec i n' by
    intro n0 a b _ _
    exact h n0 a b
  refine loop0 (β := Int → Option Int) (R := fun k o => ∀ n0 : Int, 0 ≤ n0 → n0 ≤ 1125899906842624 + big63 → ∃ n', n0 ≤ n' ∧ n' ≤ 1125899906842624 + big63 ∧ (n' ≤ 200 → ∀ s ∈ m.Vars.Names.drop k, s.size < 8040) ∧ (match o with | some g => g n0 | none => none) = m_ref22_Weight_k5 rec i n') (f := fun n k => some fun n0 => m_ref22_Weight_l3 rec 200 i m n n0 k) (big_lt hm.vars.len) (fun n n0 a b => ?_) (fun n k hk hw ih n0 a b => ?_)
  · refine ⟨n0, Int.le_refl _, b, fun _ s hs => ?_, ?_⟩
    · rw [List.drop_eq_nil_of_le (Nat.le_refl _)] at hs
      simp at hs
    · simp only [m_ref22_Weight_l3, m_ref22_Weight_l3_B, decide_eq_false nlt_k]
      rfl
  · simp only [m_ref22_Weight_l3, m_ref22_Weight_l3_B, decide_eq_true (lt_k hk), if_true, m_ref22_Weight_k4]
    have hs := hm.vars.names _ (List.getElem_mem hk)
    by_cases h : n0 ≤ 200
    · rw [decide_eq_true h, if_pos rfl, nthI_lt hk, bnd_some, div40 hs, wrap_add (by omega) (by unfold big63 at hs; omega), hw]
      obtain ⟨n', g1, g2, g3, g4⟩ := ih (n0 + ((m.Vars.Names[k].size / 40 : Nat) : Int)) (by omega) (by unfold big63 at hs ⊢; omega)
      refine ⟨n', by omega, g2, fun hn s hs' => ?_, g4⟩
      rw [List.drop_eq_getElem_cons hk, List.mem_cons] at hs'
      rcases hs' with rfl | hs'
      · omega
      · exact g3 hn s hs'
    · rw [decide_eq_false h]
      exact ⟨n0, Int.le_refl _, b, fun hn => absurd hn h, rfl⟩
theorem weight_mails {p : TPost} (hp : OkP p) : ∀ n0 : Int, 0 ≤ n0 → n0 ≤ 1125899906842624 → ∃ n', n0 ≤ n' ∧ (n' ≤ 200 → n0 + p.Mails.length ≤ n' ∧ ∀ m ∈ p.Mails, SmallM m) ∧ m_ref22_Weight_k2 p 200 n0 = some n' := by
  suffices h : ∀ n0 : Int, 0 ≤ n0 → n0 ≤ 1125899906842624 + big63 → ∃ n', n0 ≤ n' ∧ (n' ≤ 200 → n0 + (p.Mails.length - 0 : Nat) ≤ n' ∧ ∀ m ∈ p.Mails.drop 0, SmallM m) ∧ m_ref22_Weight_l2 p 200 ((((p.Mails.length : Int)) - ((0 : Int))).toNat + 1) n0 (0 : Int) = some n' by
    intro n0 a b
    have := h n0 a (by unfold big63; omega)
    simpa [m_ref22_Weight_k2] using this
  refine loop0 (β := Int → Option Int) (R := fun k o => ∀ n0 : Int, 0 ≤ n0 → n0 ≤ 1125899906842624 + big63 → ∃ n', n0 ≤ n' ∧ (n' ≤ 200 → n0 + (p.Mails.length - k : Nat) ≤ n' ∧ ∀ m ∈ p.Mails.drop k, SmallM m) ∧ (match o with | some g => g n0 | none => none) = some n') (f := fun n k => some fun n0 => m_ref22_Weight_l2 p 200 n n0 k) (big_lt hp.ml) (fun n n0 a b => ?_) (fun n k hk hw ih n0 a b => ?_)
  · refine ⟨n0, Int.le_refl _, fun _ => ⟨by omega, fun s hs => ?_⟩, ?_⟩
    · rw [List.drop_eq_nil_of_le (Nat.le_refl _)] at hs
      simp at hs
    · simp only [m_ref22_Weight_l2, m_ref22_Weight_l2_B, decide_eq_false nlt_k]
      rfl
  · simp only [m_ref22_Weight_l2, m_ref22_Weight_l2_B, decide_eq_true (lt_k hk), if_true, m_ref22_Weight_k3]
    have hm := hp.mails _ (List.getElem_mem hk)
    by_cases h : n0 ≤ 200
    · rw [decide_eq_true h, if_pos rfl, nthI_lt hk, bnd_some]
      have b1 := hm.name
      have b2 := hm.took
      have b3 := hm.vars.len
      have b4 := hm.vars.lenV
      unfold big63 at b1 b2 b3 b4
      rw [div40 hm.name, wrap_add (a := n0) (by omega) (by omega), wrap_add (a := n0 + 1) (by omega) (by omega), wrap_add (b := (p.Mails[k].Took.length : Int)) (by omega) (by omega), wrap_add (b := (p.Mails[k].Vars.Names.length : Int)) (by omega) (by omega), wrap_add (b := (p.Mails[k].Vars.Vals.length : Int)) (by omega) (by omega)]
      obtain ⟨n', g1, g2, g3, g4⟩ := weight_l3 (rec := m_ref22_Weight_l2 p 200 n) (i := (k : Int)) hm (n0 := n0 + 1 + ((p.Mails[k].Name.size / 40 : Nat) : Int) + (p.Mails[k].Took.length : Int) + (p.Mails[k].Vars.Names.length : Int) + (p.Mails[k].Vars.Vals.length : Int)) (by omega) (by omega)
      rw [g4, m_ref22_Weight_k5, hw]
      obtain ⟨n'', k1, k2, k3⟩ := ih n' (by omega) g2
      refine ⟨n'', by omega, fun hn => ?_, k3⟩
      obtain ⟨q1, q2⟩ := k2 hn
      refine ⟨by omega, fun x hx => ?_⟩
      rw [List.drop_eq_getElem_cons hk, List.mem_cons] at hx
      rcases hx with rfl | hx
      · exact ⟨by omega, by omega, by omega, by omega, g3 (by omega)⟩
      · exact q2 x hx
    · rw [decide_eq_false h]
      exact ⟨n0, Int.le_refl _, fun hn => absurd hn h, rfl⟩
theorem weight_ok {p : TPost} (hp : OkP p) : ∃ r, m_ref22_Weight p 200 = some r ∧ (r ≤ 200 → SmallP p) := by
  suffices h : ∀ n0 : Int, 0 ≤ n0 → n0 ≤ 1125899906842624 → ∃ n', n0 ≤ n' ∧ (n' ≤ 200 → n0 + p.Mails.length ≤ n' ∧ (∀ m ∈ p.Mails, SmallM m) ∧ ∀ s ∈ p.Subs.drop 0, s.Name.size < 8040) ∧ m_ref22_Weight_l1 p 200 ((((p.Subs.length : Int)) - ((0 : Int))).toNat + 1) n0 (0 : Int) = some n' by
    have b := hp.sl
    obtain ⟨r, h1, h2, h3⟩ := h (p.Subs.length : Int) (by omega) (by unfold big63 at b; omega)
    refine ⟨r, h3, fun hr => ?_⟩
    obtain ⟨g1, g2, g3⟩ := h2 hr
    exact ⟨by omega, by omega, g2, fun s hs => g3 s (by simpa using hs)⟩
  refine loop0 (β := Int → Option Int) (R := fun k o => ∀ n0 : Int, 0 ≤ n0 → n0 ≤ 1125899906842624 → ∃ n', n0 ≤ n' ∧ (n' ≤ 200 → n0 + p.Mails.length ≤ n' ∧ (∀ m ∈ p.Mails, SmallM m) ∧ ∀ s ∈ p.Subs.drop k, s.Name.size < 8040) ∧ (match o with | some g => g n0 | none => none) = some n') (f := fun n k => some fun n0 => m_ref22_Weight_l1 p 200 n n0 k) (big_lt hp.sl) (fun n n0 a b => ?_) (fun n k hk hw ih n0 a b => ?_)
  · obtain ⟨n', g1, g2, g3⟩ := weight_mails hp n0 a b
    refine ⟨n', g1, fun hn => ⟨(g2 hn).1, (g2 hn).2, fun s hs => ?_⟩, ?_⟩
    · rw [List.drop_eq_nil_of_le (Nat.le_refl _)] at hs
      simp at hs
    · simp only [m_ref22_Weight_l1, m_ref22_Weight_l1_B, decide_eq_false nlt_k]
      exact g3
  · simp only [m_ref22_Weight_l1, m_ref22_Weight_l1_B, decide_eq_true (lt_k hk), if_true, m_ref22_Weight_k1]
    have hs := (hp.subs _ (List.getElem_mem hk)).name
    by_cases h : n0 ≤ 200
    · rw [decide_eq_true h, if_pos rfl, nthI_lt hk, bnd_some, div40 hs, wrap_add (by omega) (by unfold big63 at hs; omega), hw]
      obtain ⟨n', g1, g2, g3⟩ := ih (n0 + ((p.Subs[k].Name.size / 40 : Nat) : Int)) (by omega) (by unfold big63 at hs; omega)
      refine ⟨n', by omega, fun hn => ?_, g3⟩
      obtain ⟨q1, q2, q3⟩ := g2 hn
      refine ⟨by omega, q2, fun s hs' => ?_⟩
      rw [List.drop_eq_getElem_cons hk, List.mem_cons] at hs'
      rcases hs' with rfl | hs'
      · omega
      · exact q3 s hs'
    · rw [decide_eq_false h]
      obtain ⟨n', g1, g2, g3⟩ := weight_mails hp n0 a b
      exact ⟨n', g1, fun hn => absurd hn (by omega), g3⟩
theorem light_ok {p : TPost} (hp : OkP p) : ∃ b, m_law22_light p = some b ∧ (b = true → SmallP p) := by
  obtain ⟨r, h1, h2⟩ := weight_ok hp
  refine ⟨decide (r ≤ 200), by unfold m_law22_light; rw [h1]; rfl, fun h => h2 (by simpa using h)⟩
end Go.Proofs.Ytefjblgmnoheiaa.R

/- Plain laws: numbers as bytes, seven bits a byte, and back. -/
set_option maxRecDepth 100000
set_option linter.unusedVariables false
set_option linter.unusedSimpArgs false
noncomputable section
namespace Go.Proofs.Ytefjblgmnoheiaa.R
open Go
/-! ### Bits -/
def two64 : Nat := 18446744073709551616
theorem bv_nat {a : Nat} (h : a < 18446744073709551616) : (BitVec.ofInt 64 (a : Int)).toNat = a := by
  rw [BitVec.toNat_ofInt]
  omega
theorem or64 {a b : Nat} (ha : a < 18446744073709551616) (hb : b < 18446744073709551616) : orI .u64 a b = ((a ||| b : Nat) : Int) := by
  have hh : orI .u64 a b = IntKind.u64.wrap ((BitVec.ofInt 64 (a : Int) ||| BitVec.ofInt 64 (b : Int)).toNat : Int) := rfl
  rw [hh, BitVec.toNat_or, bv_nat ha, bv_nat hb]
  have : a ||| b < 2 ^ 64 := Nat.or_lt_two_pow (by omega) (by omega)
  exact u64_in (by omega) (by omega)
theorem and64 {a b : Nat} (ha : a < 18446744073709551616) (hb : b < 18446744073709551616) : andI .u64 a b = ((a &&& b : Nat) : Int) := by
  have hh : andI .u64 a b = IntKind.u64.wrap ((BitVec.ofInt 64 (a : Int) &&& BitVec.ofInt 64 (b : Int)).toNat : Int) := rfl
  rw [hh, BitVec.toNat_and, bv_nat ha, bv_nat hb]
  have : a &&& b ≤ a := Nat.and_le_left
  exact u64_in (by omega) (by omega)
theorem and127 {e : Nat} (h : e < 18446744073709551616) : andI .u64 e 127 = ((e % 128 : Nat) : Int) := by
  have h1 := and64 h (b := 127) (by omega)
  have h2 : e &&& 127 = e % 128 := Nat.and_two_pow_sub_one_eq_mod e 7
  rw [h2] at h1
  exact h1
theorem and1 {e : Nat} (h : e < 18446744073709551616) : andI .u64 e 1 = ((e % 2 : Nat) : Int) := by
  have h1 := and64 h (b := 1) (by omega)
  have h2 : e &&& 1 = e % 2 := Nat.and_two_pow_sub_one_eq_mod e 1
  rw [h2] at h1
  exact h1
theorem or8 {n : Nat} : orI .u8 (IntKind.u8.wrap n) 128 = ((n % 128 + 128 : Nat) : Int) := by
  have h8 : IntKind.u8.wrap n = ((n % 256 : Nat) : Int) := by
    simp only [IntKind.wrap, IntKind.signed, IntKind.bits]
    simp
  have hall : ∀ x : Fin 256, (BitVec.ofNat 8 x.val ||| BitVec.ofNat 8 128).toNat = x.val % 128 + 128 := by decide +kernel
  have h : (BitVec.ofNat 8 (n % 256) ||| BitVec.ofNat 8 128).toNat = n % 256 % 128 + 128 := hall ⟨n % 256, by omega⟩
  have hh : ∀ a b : Int, orI .u8 a b = IntKind.u8.wrap ((BitVec.ofInt 8 a ||| BitVec.ofInt 8 b).toNat : Int) := fun _ _ => rfl
  rw [h8, hh]
  have e1 : BitVec.ofInt 8 ((n % 256 : Nat) : Int) = BitVec.ofNat 8 (n % 256) := BitVec.ofInt_natCast ..
  have e2 : BitVec.ofInt 8 (128 : Int) = BitVec.ofNat 8 128 := BitVec.ofInt_natCast (n := 128) ..
  rw [e1, e2, h]
  have h8' : ∀ m : Nat, m < 256 → IntKind.u8.wrap (m : Int) = (m : Int) := by
    intro m hm
    simp only [IntKind.wrap, IntKind.signed, IntKind.bits]
    simp
    omega
  have e3 : n % 256 % 128 + 128 = n % 128 + 128 := by omega
  rw [h8' _ (by omega), e3]
theorem u8_small {n : Nat} (h : n < 256) : IntKind.u8.wrap (n : Int) = (n : Int) := by
  simp only [IntKind.wrap, IntKind.signed, IntKind.bits]
  simp
  omega
theorem shr64 (n k : Nat) (h : k < 64) : shrI .u64 n k = ((n / 2 ^ k : Nat) : Int) := by
  unfold shrI
  have : min ((k : Int).toNat) (IntKind.u64.bits) = k := by simp only [IntKind.bits]; omega
  rw [this, Int.fdiv_eq_ediv_of_nonneg _ (by exact Int.le_of_lt (Int.pow_pos (by omega)))]
  simp
theorem shr7 (n : Nat) : shrI .u64 n 7 = ((n / 128 : Nat) : Int) := shr64 n 7 (by omega)
theorem shr1 (n : Nat) : shrI .u64 n 1 = ((n / 2 : Nat) : Int) := shr64 n 1 (by omega)
/-! ### As bytes -/
def encU (n : Nat) : List Int := if n < 128 then [(n : Int)] else ((n % 128 + 128 : Nat) : Int) :: encU (n / 128)
termination_by n
decreasing_by omega
theorem encU_small {n : Nat} (h : n < 128) : encU n = [(n : Int)] := by rw [encU, if_pos h]
theorem encU_big {n : Nat} (h : ¬ n < 128) : encU n = ((n % 128 + 128 : Nat) : Int) :: encU (n / 128) := by rw [encU, if_neg h]
def byteI (x : Int) : Prop := 0 ≤ x ∧ x ≤ 255
theorem encU_bytes : ∀ (n : Nat), ∀ x ∈ encU n, byteI x := by
  intro n
  induction n using Nat.strongRecOn with
  | _ n ih =>
    by_cases h : n < 128
    · rw [encU_small h]
      intro x hx
      simp only [List.mem_singleton] at hx
      subst hx
      unfold byteI; omega
    · rw [encU_big h]
      intro x hx
      rcases List.mem_cons.1 hx with rfl | hx
      · unfold byteI; omega
      · exact ih _ (by omega) x hx
theorem encU_len : ∀ (k n : Nat), n < 128 ^ (k + 1) → (encU n).length ≤ k + 1 := by
  intro k
  induction k with
  | zero => intro n h; rw [encU_small (by omega)]; simp
  | succ k ih =>
    intro n h
    by_cases hn : n < 128
    · rw [encU_small hn]; simp
    · rw [encU_big hn, List.length_cons]
      have := ih (n / 128) (by rw [Nat.pow_succ] at h; exact Nat.div_lt_of_lt_mul (by rw [Nat.mul_comm]; exact h))
      omega
theorem encU_len10 {n : Nat} (h : n < 18446744073709551616) : (encU n).length ≤ 10 := encU_len 9 n (Nat.lt_of_lt_of_le h (by decide))
/-- The loops of pack.Uint. -/
theorem uint_loop {f : Nat → Int → List Int → Option (List Int)} (hf : ∀ n (v : Int) b, f (n + 1) v b = if (decide ((128 : Int) ≤ v)) = true then (if (capB (b.length + 1)) = true then f n (shrI .u64 v 7) (b ++ [orI .u8 (IntKind.u8.wrap v) 128]) else none) else (if (capB (b.length + 1)) = true then some (b ++ [IntKind.u8.wrap v]) else none)) :
    ∀ (j n k : Nat) (b : List Int), n < 128 ^ (j + 1) → j < k → b.length + j + 1 ≤ 549755813888 → f k n b = some (b ++ encU n) := by
  intro j
  induction j with
  | zero =>
    intro n k b hn hk hb
    obtain ⟨k, rfl⟩ : ∃ k', k = k' + 1 := ⟨k - 1, by omega⟩
    have h1 : ¬ (128 : Int) ≤ (n : Int) := by omega
    rw [hf, decide_eq_false h1, if_neg (by simp), if_pos (capB_small (by omega)), encU_small (by omega), u8_small (by omega)]
  | succ j ih =>
    intro n k b hn hk hb
    obtain ⟨k, rfl⟩ : ∃ k', k = k' + 1 := ⟨k - 1, by omega⟩
    by_cases h : n < 128
    · have h1 : ¬ (128 : Int) ≤ (n : Int) := by omega
      rw [hf, decide_eq_false h1, if_neg (by simp), if_pos (capB_small (by omega)), encU_small h, u8_small (by omega)]
    · have h1 : (128 : Int) ≤ (n : Int) := by omega
      rw [hf, decide_eq_true h1, if_pos rfl, if_pos (capB_small (by omega)), or8, shr7, ih (n / 128) k _ (by rw [Nat.pow_succ] at hn; exact Nat.div_lt_of_lt_mul (by rw [Nat.mul_comm]; exact hn)) (by omega) (by simp; omega), encU_big h]
      simp
theorem pack_Uint {n : Nat} (h : n < 18446744073709551616) : m_pack_Uint n = some (encU n) := by
  have := uint_loop (f := m_pack_Uint_l1) (fun n v b => by rw [m_pack_Uint_l1, m_pack_Uint_l1_B, m_pack_Uint_k1]) 9 n 1000000 [] (Nat.lt_of_lt_of_le h (by decide)) (by omega) (by simp)
  unfold m_pack_Uint
  exact this
theorem pack_Uint_v1 {n : Nat} {b : List Int} (h : n < 18446744073709551616) (hb : b.length + 10 ≤ 549755813888) : m_pack_Uint_v1 b n = some (b ++ encU n) := by
  have := uint_loop (f := m_pack_Uint_v1_l1) (fun n v b => by rw [m_pack_Uint_v1_l1, m_pack_Uint_v1_l1_B, m_pack_Uint_v1_k1]) 9 n 1000000 b (Nat.lt_of_lt_of_le h (by decide)) (by omega) (by omega)
  unfold m_pack_Uint_v1
  exact this
/-! ### Back -/
/-- The number that bytes begin with, and the bytes behind; so many came ahead. -/
def dec (k : Nat) : List Int → Option (Nat × List Int)
  | [] => none
  | e :: r => if 10 ≤ k then none else if k = 9 ∧ 1 < e then none else if e < 128 then (if e = 0 ∧ 0 < k then none else some (e.toNat, r)) else match dec (k + 1) r with | some (n, r') => some (e.toNat - 128 + 128 * n, r') | none => none
theorem pw (k : Nat) (h : k + 1 ≤ 9) : 2 ^ (64 - 7 * k) = 128 * 2 ^ (64 - 7 * (k + 1)) := by
  have : 64 - 7 * k = 7 + (64 - 7 * (k + 1)) := by omega
  rw [this, Nat.pow_add]
theorem dec_enc : ∀ (n k : Nat) (r : List Int), n < 2 ^ (64 - 7 * k) → k ≤ 9 → (k = 0 ∨ n ≠ 0) → dec k (encU n ++ r) = some (n, r) := by
  intro n
  induction n using Nat.strongRecOn with
  | _ n ih =>
    intro k r hn hk h0
    have h9 : k = 9 → n < 2 := by intro h; subst h; simpa using hn
    by_cases h : n < 128
    · rw [encU_small h]
      simp only [List.cons_append, List.nil_append, dec]
      rw [if_neg (by omega), if_neg (by omega), if_pos (by omega), if_neg (by omega)]
      rfl
    · have hk9 : k + 1 ≤ 9 := by
        rcases Nat.lt_or_ge k 9 with h1 | h1
        · omega
        · have := h9 (by omega); omega
      rw [encU_big h, List.cons_append]
      simp only [dec]
      rw [if_neg (by omega), if_neg (by omega), if_neg (by omega), ih (n / 128) (by omega) (k + 1) r (by rw [pw k hk9] at hn; exact Nat.div_lt_of_lt_mul hn) hk9 (.inr (by omega))]
      simp only [Option.some.injEq, Prod.mk.injEq, and_true]
      omega
theorem enc_dec : ∀ (l : List Int) (k : Nat) (n : Nat) (r : List Int), (∀ x ∈ l, byteI x) → dec k l = some (n, r) → l = encU n ++ r ∧ (k = 0 ∨ n ≠ 0) ∧ k ≤ 9 ∧ n < 2 ^ (64 - 7 * k) := by
  intro l
  induction l with
  | nil => intro k n r _ h; simp [dec] at h
  | cons e l ih =>
    intro k n r hb h
    have he := hb e List.mem_cons_self
    unfold byteI at he
    simp only [dec] at h
    split at h
    · cases h
    · rename_i h10
      split at h
      · cases h
      · rename_i h9
        split at h
        · rename_i h128
          split at h
          · cases h
          · rename_i h0
            simp only [Option.some.injEq, Prod.mk.injEq] at h
            obtain ⟨rfl, rfl⟩ := h
            refine ⟨?_, by omega, by omega, ?_⟩
            · rw [encU_small (by omega), List.cons_append, List.nil_append]
              congr 1
              omega
            · by_cases hk : k = 9
              · subst hk
                have : ¬ 1 < e := fun h => h9 ⟨rfl, h⟩
                simp only [Nat.reduceMul, Nat.reduceSub, Nat.pow_one]
                omega
              · have h1 := pw k (by omega)
                have h2 : 0 < 2 ^ (64 - 7 * (k + 1)) := Nat.pow_pos (by omega)
                omega
        · rename_i h128
          split at h
          · rename_i n' r' hd
            simp only [Option.some.injEq, Prod.mk.injEq] at h
            obtain ⟨rfl, rfl⟩ := h
            obtain ⟨h1, h2, h3, h4⟩ := ih (k + 1) n' r' (fun x hx => hb x (List.mem_cons_of_mem _ hx)) hd
            have hn0 : n' ≠ 0 := by omega
            refine ⟨?_, .inr (by omega), by omega, ?_⟩
            · rw [encU_big (by omega), h1, List.cons_append]
              have e1 : (e.toNat - 128 + 128 * n') / 128 = n' := by omega
              rw [e1]
              congr 1
              omega
            · rw [pw k h3]
              omega
          · cases h
theorem dec_bytes {l : List Int} {k n : Nat} {r : List Int} (hb : ∀ x ∈ l, byteI x) (h : dec k l = some (n, r)) : (∀ x ∈ r, byteI x) ∧ r.length < l.length := by
  obtain ⟨h1, _⟩ := enc_dec l k n r hb h
  subst h1
  refine ⟨fun x hx => hb x (by simp [hx]), ?_⟩
  have : 0 < (encU n).length := by
    by_cases h : n < 128
    · rw [encU_small h]; simp
    · rw [encU_big h]; simp
  simp
  omega
end Go.Proofs.Ytefjblgmnoheiaa.R

/- Plain laws: bytes read, numbers, texts, whole numbers. -/
set_option maxRecDepth 100000
set_option linter.unusedVariables false
set_option linter.unusedSimpArgs false
noncomputable section
namespace Go.Proofs.Ytefjblgmnoheiaa.R
open Go
theorem acc_step {k n0 e : Nat} (hk : k ≤ 9) (h0 : n0 < 2 ^ (7 * k)) (he : e < 256) (h9 : k = 9 → e ≤ 1) :
    orI .u64 n0 (shlI .u64 (andI .u64 (IntKind.u64.wrap e) 127) (IntKind.i64.wrap (7 * k))) = ((n0 + (e % 128) * 2 ^ (7 * k) : Nat) : Int) := by
  have hp : 2 ^ (7 * k) ≤ 2 ^ 63 := Nat.pow_le_pow_right (by omega) (by omega)
  have hc : (e % 128) * 2 ^ (7 * k) < 18446744073709551616 := by
    by_cases h : k = 9
    · subst h
      have := h9 rfl
      have e1 : e % 128 ≤ 1 := by omega
      have := Nat.mul_le_mul e1 hp
      omega
    · have hq : 2 ^ (7 * k) ≤ 2 ^ 56 := Nat.pow_le_pow_right (by omega) (by omega)
      have e1 : e % 128 ≤ 127 := by omega
      have := Nat.mul_le_mul e1 hq
      omega
  rw [u64_in (by omega) (by omega), and127 (by omega), wrap_in (by unfold inR; omega)]
  have e2 : shlI .u64 ((e % 128 : Nat) : Int) (7 * (k : Int)) = (((e % 128) * 2 ^ (7 * k) : Nat) : Int) := by
    unfold shlI
    have : min ((7 * (k : Int)).toNat) (IntKind.u64.bits) = 7 * k := by simp only [IntKind.bits]; omega
    rw [this]
    have e3 : ((e % 128 : Nat) : Int) * 2 ^ (7 * k) = (((e % 128) * 2 ^ (7 * k) : Nat) : Int) := by simp
    rw [e3]
    exact u64_in (by omega) (by omega)
  rw [e2, or64 (by omega) hc]
  congr 1
  rw [Nat.or_comm, Nat.mul_comm, ← Nat.two_pow_add_eq_or_of_lt h0, Nat.add_comm]
/-- What came of reading: the number, and what is behind; or an error. -/
def uintR (n0 k : Nat) : Option (Nat × List Int) → Option (Int × List Int × Int) → Prop
  | some (n, r), x => x = some (((n0 + n * 2 ^ (7 * k) : Nat) : Int), r, 0)
  | none, x => ∃ e : Int, e ≠ 0 ∧ x = some (0, [], e)
theorem read_loop {b : List Int} (hb : ∀ x ∈ b, byteI x) (hl : b.length ≤ 549755813888) : ∀ (m k n n0 : Nat), min 10 b.length - k = m → k ≤ b.length → k ≤ 10 → m < n → n0 < 2 ^ (7 * k) →
    uintR n0 k (dec k (b.drop k)) (m_pack_ReadUint_l1 b n (n0 : Int) (k : Int)) := by
  intro m
  induction m with
  | zero =>
    intro k n n0 hm hk h10 hn h0
    obtain ⟨n, rfl⟩ : ∃ n', n = n' + 1 := ⟨n - 1, by omega⟩
    have hk' : ¬ ((k : Int) < (if (10 : Int) < (b.length : Int) then (10 : Int) else (b.length : Int))) := by split <;> omega
    rw [m_pack_ReadUint_l1, m_pack_ReadUint_l1_B, decide_eq_false hk', if_neg (by simp)]
    have hn : dec k (b.drop k) = none := by
      by_cases hlt : k < b.length
      · rw [List.drop_eq_getElem_cons hlt]
        simp only [dec]
        rw [if_pos (by omega)]
      · rw [List.drop_eq_nil_of_le (by omega)]
        rfl
    rw [hn]
    exact ⟨5, by omega, rfl⟩
  | succ m ih =>
    intro k n n0 hm hk h10 hn h0
    obtain ⟨n, rfl⟩ : ∃ n', n = n' + 1 := ⟨n - 1, by omega⟩
    have hlt : k < b.length := by omega
    by_cases hten : 10 ≤ k
    · have hk' : ¬ ((k : Int) < (if (10 : Int) < (b.length : Int) then (10 : Int) else (b.length : Int))) := by split <;> omega
      rw [m_pack_ReadUint_l1, m_pack_ReadUint_l1_B, decide_eq_false hk', if_neg (by simp), List.drop_eq_getElem_cons hlt]
      simp only [dec]
      rw [if_pos hten]
      exact ⟨5, by omega, rfl⟩
    · have hk' : ((k : Int) < (if (10 : Int) < (b.length : Int) then (10 : Int) else (b.length : Int))) := by split <;> omega
      have hbk := hb b[k] (List.getElem_mem hlt)
      unfold byteI at hbk
      rw [m_pack_ReadUint_l1, m_pack_ReadUint_l1_B, decide_eq_true hk', if_pos rfl, nthI_lt hlt, bnd_some, List.drop_eq_getElem_cons hlt]
      obtain ⟨e, he⟩ : ∃ e : Nat, b[k] = (e : Int) := ⟨b[k].toNat, by omega⟩
      rw [he] at hbk ⊢
      have hu : IntKind.u64.wrap (e : Int) = (e : Int) := u64_in (by omega) (by omega)
      have key : uintR n0 k (dec k ((e : Int) :: b.drop (k + 1))) (m_pack_ReadUint_k1 (m_pack_ReadUint_l1 b n) b n0 k e (decide (k = 9 ∧ 1 < e))) := by
        unfold m_pack_ReadUint_k1
        simp only [dec]
        rw [if_neg hten]
        by_cases h9 : k = 9 ∧ 1 < e
        · have h9' : k = 9 ∧ (1 : Int) < (e : Int) := ⟨h9.1, by omega⟩
          rw [decide_eq_true h9, if_pos rfl, if_pos h9']
          exact ⟨2, by omega, rfl⟩
        · have h9' : ¬ (k = 9 ∧ (1 : Int) < (e : Int)) := fun h => h9 ⟨h.1, by omega⟩
          have hw : ¬ IntKind.i64.wrap (7 * (k : Int)) < 0 := by rw [wrap_in (by unfold inR; omega)]; omega
          have h9e : k = 9 → e ≤ 1 := fun h => by
            rcases Nat.lt_or_ge 1 e with h1 | h1
            · exact absurd ⟨h, h1⟩ h9
            · exact h1
          have hacc := acc_step (k := k) (n0 := n0) (e := e) (by omega) h0 (by omega) h9e
          rw [decide_eq_false h9, if_neg h9', if_neg (show ¬ (false = true) by simp), decide_eq_false hw, if_neg (show ¬ (false = true) by simp), hu]
          rw [hu] at hacc
          by_cases h128 : e < 128
          · have h128' : (e : Int) < 128 := by omega
            rw [decide_eq_true h128', if_pos (show true = true from rfl), if_pos h128']
            have hem : e % 128 = e := by omega
            rw [hem] at hacc
            have hsl : sliceL b (IntKind.i64.wrap ((k : Int) + 1)) b.length = some (b.drop (k + 1)) := by
              rw [wrap_succ (by omega)]
              unfold sliceL
              rw [if_pos (by omega)]
              simp
            unfold m_pack_ReadUint_k2
            rw [hu, hacc, hsl]
            by_cases hz : e = 0
            · subst hz
              by_cases hk0 : 0 < k
              · have h1 : (0 : Int) < (k : Int) := by omega
                simp only [Int.ofNat_zero, decide_true, if_true, decide_eq_true h1, hk0, and_self, Int.natCast_zero]
                exact ⟨2, by omega, rfl⟩
              · have : k = 0 := by omega
                subst this
                simp [uintR, bnd_some]
            · have hz1 : ¬ (e : Int) = 0 := by omega
              have hz2 : ¬ ((e : Int) = 0 ∧ 0 < k) := fun h => hz1 h.1
              rw [decide_eq_false hz1, if_neg hz2, if_neg (show ¬ (false = true) by simp), if_neg (show ¬ (false = true) by simp)]
              simp [uintR, bnd_some]
          · have h128' : ¬ (e : Int) < 128 := by omega
            rw [decide_eq_false h128', if_neg (show ¬ (false = true) by simp), if_neg h128', wrap_succ (by omega), hacc]
            have hk9 : k ≤ 8 := by
              rcases Nat.lt_or_ge 8 k with h | h
              · have := h9e (by omega); omega
              · exact h
            have hem : e % 128 = e - 128 := by omega
            have hpow : 2 ^ (7 * (k + 1)) = 2 ^ (7 * k) * 128 := by rw [Nat.mul_succ, Nat.pow_add]
            have hbound : n0 + (e % 128) * 2 ^ (7 * k) < 2 ^ (7 * (k + 1)) := by
              have e1 : e % 128 ≤ 127 := by omega
              have := Nat.mul_le_mul_right (2 ^ (7 * k)) e1
              omega
            have hi := ih (k + 1) n _ (by omega) (by omega) (by omega) (by omega) hbound
            cases hd : dec (k + 1) (b.drop (k + 1)) with
            | none => rw [hd] at hi; exact hi
            | some x =>
              obtain ⟨n', r'⟩ := x
              rw [hd] at hi
              simp only [uintR] at hi ⊢
              rw [hi]
              have e1 : (e : Int).toNat = e := by omega
              have e2 : n0 + e % 128 * 2 ^ (7 * k) + n' * 2 ^ (7 * (k + 1)) = n0 + (e - 128 + 128 * n') * 2 ^ (7 * k) := by
                rw [hem, hpow, Nat.add_mul, Nat.mul_comm (2 ^ (7 * k)) 128, ← Nat.mul_assoc, Nat.mul_comm n' 128, Nat.add_assoc]
              rw [e1, e2]
      by_cases h9 : k = 9
      · subst h9
        rw [if_pos (by simp), hu]
        have : decide ((1 : Int) < (e : Int)) = decide (9 = 9 ∧ 1 < e) := by
          rw [decide_eq_decide]
          omega
        rw [this]
        exact key
      · have h1 : ¬ ((k : Int) = 9) := by omega
        have : decide (k = 9 ∧ 1 < e) = false := decide_eq_false fun h => h9 h.1
        rw [this] at key
        rw [decide_eq_false h1, if_neg (by simp)]
        exact key
theorem read_Uint {b : List Int} (hb : ∀ x ∈ b, byteI x) (hl : b.length ≤ 100000000000) : uintR 0 0 (dec 0 b) (m_pack_ReadUint b) := by
  have := read_loop hb (by omega) _ 0 1000000 0 rfl (Nat.zero_le _) (by omega) (by omega) (by omega)
  unfold m_pack_ReadUint
  simpa using this
theorem read_some {b : List Int} (hb : ∀ x ∈ b, byteI x) (hl : b.length ≤ 100000000000) {n : Nat} {r : List Int} (h : dec 0 b = some (n, r)) : m_pack_ReadUint b = some ((n : Int), r, 0) := by
  have := read_Uint hb hl
  rw [h] at this
  simpa [uintR] using this
theorem read_none {b : List Int} (hb : ∀ x ∈ b, byteI x) (hl : b.length ≤ 100000000000) (h : dec 0 b = none) : ∃ e : Int, e ≠ 0 ∧ m_pack_ReadUint b = some (0, [], e) := by
  have := read_Uint hb hl
  rw [h] at this
  exact this
/-! ### Texts -/
def decB (b : List Int) : Option (List Int × List Int) :=
  match dec 0 b with
  | some (n, r) => if r.length < n then none else some (r.take n, r.drop n)
  | none => none
theorem dec_lt {b : List Int} (hb : ∀ x ∈ b, byteI x) {n : Nat} {r : List Int} (h : dec 0 b = some (n, r)) : n < 18446744073709551616 := by
  have := (enc_dec b 0 n r hb h).2.2.2
  simpa using this
theorem readB_some {b : List Int} (hb : ∀ x ∈ b, byteI x) (hl : b.length ≤ 100000000000) {s r : List Int} (h : decB b = some (s, r)) : m_pack_ReadBytes b = some (s, r, 0) := by
  unfold decB at h
  split at h
  · rename_i n r' hd
    split at h
    · cases h
    · rename_i hn
      simp only [Option.some.injEq, Prod.mk.injEq] at h
      obtain ⟨rfl, rfl⟩ := h
      have hrl := (dec_bytes hb hd).2
      unfold m_pack_ReadBytes
      have h1 : ¬ ((r'.length : Int) < (n : Int)) := by omega
      have e1 : sliceL r' 0 (n : Int) = some (r'.take n) := by
        unfold sliceL
        rw [if_pos (by omega)]
        simp
      have e2 : sliceL r' (n : Int) r'.length = some (r'.drop n) := by
        unfold sliceL
        rw [if_pos (by omega)]
        simp
      rw [read_some hb hl hd, bnd_some]
      simp only [ne_eq, not_true_eq_false, decide_false, Bool.false_eq_true, if_false]
      rw [u64_in (by omega) (by omega), decide_eq_false h1, if_neg (by simp), e1, bnd_some, e2, bnd_some]
  · cases h
theorem readB_none {b : List Int} (hb : ∀ x ∈ b, byteI x) (hl : b.length ≤ 100000000000) (h : decB b = none) : ∃ e : Int, e ≠ 0 ∧ m_pack_ReadBytes b = some ([], [], e) := by
  unfold decB at h
  unfold m_pack_ReadBytes
  split at h
  · rename_i n r' hd
    split at h
    · rename_i hn
      have hrl := (dec_bytes hb hd).2
      have h1 : ((r'.length : Int) < (n : Int)) := by omega
      rw [read_some hb hl hd, bnd_some]
      simp only [ne_eq, not_true_eq_false, decide_false, Bool.false_eq_true, if_false]
      rw [u64_in (by omega) (by omega), decide_eq_true h1, if_pos rfl]
      exact ⟨5, by omega, rfl⟩
    · cases h
  · rename_i hd
    obtain ⟨e, h0, h1⟩ := read_none hb hl hd
    rw [h1, bnd_some]
    refine ⟨e, h0, ?_⟩
    simp [h0]
/-! ### Whole numbers -/
def zz (n : Int) : Nat := if 0 ≤ n then (2 * n).toNat else (-2 * n - 1).toNat
def unzz (u : Nat) : Int := if u % 2 = 0 then (u / 2 : Nat) else -((u / 2 : Nat) : Int) - 1
theorem unzz_zz (n : Int) : unzz (zz n) = n := by
  unfold unzz zz
  by_cases h : 0 ≤ n
  · rw [if_pos h, if_pos (by omega)]; omega
  · rw [if_neg h, if_neg (by omega)]; omega
theorem zz_unzz (u : Nat) : zz (unzz u) = u := by
  unfold unzz zz
  by_cases h : u % 2 = 0
  · rw [if_pos h, if_pos (by omega)]; omega
  · rw [if_neg h, if_neg (by omega)]; omega
theorem zz_lt {n : Int} (h : inR n) : zz n < 18446744073709551616 := by
  unfold inR at h
  unfold zz
  split <;> omega
theorem unzz_r {u : Nat} (h : u < 18446744073709551616) : inR (unzz u) := by
  unfold inR unzz
  split <;> omega
theorem bvm1 : BitVec.ofInt 64 (-1) = BitVec.allOnes 64 := by decide +kernel
theorem bv0 : BitVec.ofInt 64 0 = 0#64 := by decide +kernel
theorem xor_ones (a : Nat) (h : a < 18446744073709551616) : (BitVec.ofInt 64 (a : Int) ^^^ BitVec.ofInt 64 (-1)).toNat = 18446744073709551615 - a := by
  rw [bvm1, BitVec.xor_allOnes, BitVec.toNat_not, bv_nat h]
theorem xor_zero (a : Nat) (h : a < 18446744073709551616) : (BitVec.ofInt 64 (a : Int) ^^^ BitVec.ofInt 64 0).toNat = a := by
  rw [bv0, BitVec.xor_zero, bv_nat h]
theorem bv_ones' : BitVec.ofInt 64 18446744073709551615 = BitVec.ofInt 64 (-1) := by decide +kernel
theorem enc_zz {n : Int} (h : inR n) : xorI .u64 (shlI .u64 (IntKind.u64.wrap n) 1) (IntKind.u64.wrap (shrI .i64 n 63)) = ((zz n : Nat) : Int) := by
  have hx : ∀ a b : Int, xorI .u64 a b = IntKind.u64.wrap ((BitVec.ofInt 64 a ^^^ BitVec.ofInt 64 b).toNat : Int) := fun _ _ => rfl
  have hs : shlI .u64 (IntKind.u64.wrap n) 1 = (IntKind.u64.wrap n * 2) % 18446744073709551616 := by
    have : shlI .u64 (IntKind.u64.wrap n) 1 = IntKind.u64.wrap (IntKind.u64.wrap n * 2 ^ 1) := rfl
    rw [this, u64_mod, Int.pow_one]
  have hr : shrI .i64 n 63 = n.fdiv (2 ^ 63) := rfl
  unfold inR at h
  rw [hx, hs, hr, u64_mod n, Int.fdiv_eq_ediv_of_nonneg _ (by decide)]
  unfold zz
  by_cases h0 : 0 ≤ n
  · rw [if_pos h0]
    have e1 : n / 2 ^ 63 = 0 := by omega
    have e2 : n % 18446744073709551616 * 2 % 18446744073709551616 = ((2 * n).toNat : Int) := by omega
    have e0 : IntKind.u64.wrap 0 = 0 := by rw [u64_mod]; rfl
    rw [e1, e2, e0, xor_zero _ (by omega), u64_in (by omega) (by omega)]
  · rw [if_neg h0]
    have e1 : n / 2 ^ 63 = -1 := by omega
    have e2 : n % 18446744073709551616 * 2 % 18446744073709551616 = ((2 * n + 18446744073709551616).toNat : Int) := by omega
    have e3 : IntKind.u64.wrap (-1) = 18446744073709551615 := by rw [u64_mod]; rfl
    rw [e1, e2, e3, bv_ones', xor_ones _ (by omega), u64_in (by omega) (by omega)]
    omega
theorem dec_zz {u : Nat} (h : u < 18446744073709551616) : xorI .i64 (IntKind.i64.wrap (shrI .u64 u 1)) (IntKind.i64.wrap (0 - (IntKind.i64.wrap (andI .u64 u 1)))) = unzz u := by
  have hx : ∀ a b : Int, xorI .i64 a b = IntKind.i64.wrap ((BitVec.ofInt 64 a ^^^ BitVec.ofInt 64 b).toNat : Int) := fun _ _ => rfl
  rw [hx, shr1, and1 h, wrap_in (n := ((u / 2 : Nat) : Int)) (by unfold inR; omega), wrap_in (n := ((u % 2 : Nat) : Int)) (by unfold inR; omega), wrap_in (n := 0 - ((u % 2 : Nat) : Int)) (by unfold inR; omega)]
  unfold unzz
  by_cases h0 : u % 2 = 0
  · rw [if_pos h0, h0]
    have : (0 : Int) - ((0 : Nat) : Int) = 0 := rfl
    rw [this, xor_zero _ (by omega), wrap_in (by unfold inR; omega)]
  · have h1 : u % 2 = 1 := by omega
    rw [if_neg h0, h1]
    have : (0 : Int) - ((1 : Nat) : Int) = -1 := rfl
    rw [this, xor_ones _ (by omega), IntKind.wrap_i64]
    omega
def decI (b : List Int) : Option (Int × List Int) :=
  match dec 0 b with
  | some (n, r) => some (unzz n, r)
  | none => none
theorem readI_some {b : List Int} (hb : ∀ x ∈ b, byteI x) (hl : b.length ≤ 100000000000) {x : Int} {r : List Int} (h : decI b = some (x, r)) : m_pack_ReadInt b = some (x, r, 0) := by
  unfold decI at h
  split at h
  · rename_i n r' hd
    simp only [Option.some.injEq, Prod.mk.injEq] at h
    obtain ⟨rfl, rfl⟩ := h
    unfold m_pack_ReadInt
    rw [read_some hb hl hd, bnd_some]
    simp only
    rw [dec_zz (dec_lt hb hd)]
  · cases h
theorem readI_none {b : List Int} (hb : ∀ x ∈ b, byteI x) (hl : b.length ≤ 100000000000) (h : decI b = none) : ∃ (x e : Int), e ≠ 0 ∧ m_pack_ReadInt b = some (x, [], e) := by
  unfold decI at h
  split at h
  · cases h
  · rename_i hd
    obtain ⟨e, h0, h1⟩ := read_none hb hl hd
    unfold m_pack_ReadInt
    rw [h1, bnd_some]
    exact ⟨_, e, h0, rfl⟩
end Go.Proofs.Ytefjblgmnoheiaa.R

/- Plain laws: variables as bytes and back. -/
set_option maxRecDepth 100000
set_option linter.unusedVariables false
set_option linter.unusedSimpArgs false
noncomputable section
namespace Go.Proofs.Ytefjblgmnoheiaa.R
open Go
theorem strI_len (l : List Int) : (strI l).size = l.length := by
  unfold strI
  show ((l.map fun n => UInt8.ofNat n.toNat).toArray).size = l.length
  simp
theorem bytesI_strI {l : List Int} (h : ∀ x ∈ l, byteI x) : bytesI (strI l) = l := by
  unfold bytesI strI
  simp only [List.map_map]
  rw [show l = l.map id from (List.map_id l).symm]
  simp only [List.map_map]
  refine List.map_congr_left fun x hx => ?_
  have := h x hx
  unfold byteI at this
  simp
  omega
theorem strI_bytesI (s : ByteArray) : strI (bytesI s) = s := by
  unfold bytesI strI
  simp only [List.map_map]
  have : ((fun n : Int => UInt8.ofNat n.toNat) ∘ fun b : UInt8 => (b.toNat : Int)) = id := by
    funext b
    simp
  rw [this, List.map_id]
theorem bytesI_byte (s : ByteArray) : ∀ x ∈ bytesI s, byteI x := by
  intro x hx
  unfold bytesI at hx
  obtain ⟨b, _, rfl⟩ := List.mem_map.1 hx
  have := b.toNat_lt
  unfold byteI
  omega
/-! ### Written -/
def encV : List ByteArray → List Int → List Int
  | s :: ns, x :: vs => encU s.size ++ bytesI s ++ encU (zz x) ++ encV ns vs
  | _, _ => []
def encVs (v : TVars) : List Int := encU v.Names.length ++ encV v.Names v.Vals
theorem pack_Bytes {b : List Int} {s : ByteArray} (hs : s.size ≤ 10000) (hb : b.length ≤ 100000000000) : m_pack_Bytes b (bytesI s) = some (b ++ encU s.size ++ bytesI s) := by
  unfold m_pack_Bytes
  have := encU_len10 (n := s.size) (by omega)
  rw [bytesI_len, u64_in (by omega) (by omega), pack_Uint_v1 (by omega) (by omega), bnd_some, if_pos (capB_small (by simp; omega))]
theorem pack_Int {b : List Int} {n : Int} (hn : inR n) (hb : b.length ≤ 100000000000) : m_pack_Int b n = some (b ++ encU (zz n)) := by
  unfold m_pack_Int
  rw [enc_zz hn, pack_Uint_v1 (zz_lt hn) (by omega), bnd_some]
theorem put_loop9 {v : TVars} {B : Nat} (hB : B ≤ 50000000000) (hl : v.Names.length = v.Vals.length) (hb : v.Names.length ≤ 64) (hs : ∀ s ∈ v.Names, s.size ≤ 1000) (hv : ∀ n ∈ v.Vals, inR n) : ∀ (m k n : Nat) (b : List Int), v.Names.length - k = m → k ≤ v.Names.length → m < n → b.length ≤ B + 1100 * k →
    m_vars_Put_l1 v n (k : Int) b = some (b ++ encV (v.Names.drop k) (v.Vals.drop k)) := by
  intro m
  induction m with
  | zero =>
    intro k n b hm hk hn hbl
    obtain ⟨n, rfl⟩ : ∃ n', n = n' + 1 := ⟨n - 1, by omega⟩
    have hk' : ¬ ((k : Int) < (v.Names.length : Int)) := by omega
    rw [m_vars_Put_l1, m_vars_Put_l1_B, decide_eq_false hk', if_neg (by simp), List.drop_eq_nil_of_le (by omega)]
    simp [encV]
  | succ m ih =>
    intro k n b hm hk hn hbl
    obtain ⟨n, rfl⟩ : ∃ n', n = n' + 1 := ⟨n - 1, by omega⟩
    have hlt : k < v.Names.length := by omega
    have hltv : k < v.Vals.length := by omega
    have hk' : ((k : Int) < (v.Names.length : Int)) := by omega
    have hsz := hs v.Names[k] (List.getElem_mem hlt)
    have hvr := hv v.Vals[k] (List.getElem_mem hltv)
    have e1 := encU_len10 (n := v.Names[k].size) (by omega)
    have e2 := encU_len10 (n := zz v.Vals[k]) (zz_lt hvr)
    have e3 := bytesI_len v.Names[k]
    rw [m_vars_Put_l1, m_vars_Put_l1_B, decide_eq_true hk', if_pos rfl, nthI_lt hlt, bnd_some, pack_Bytes (by omega) (by omega), bnd_some, nthI_lt hltv, bnd_some, pack_Int hvr (by simp; omega), bnd_some, wrap_succ (by omega), ih (k + 1) n _ (by omega) (by omega) (by omega) (by simp; omega), List.drop_eq_getElem_cons hlt, List.drop_eq_getElem_cons hltv]
    simp [encV]
theorem vars_Put {v : TVars} {b : List Int} (hb' : b.length ≤ 40000000000) (hl : v.Names.length = v.Vals.length) (hb : v.Names.length ≤ 64) (hs : ∀ s ∈ v.Names, s.size ≤ 1000) (hv : ∀ n ∈ v.Vals, inR n) : m_vars_Put b v = some (b ++ encVs v) := by
  unfold m_vars_Put encVs
  have e1 := encU_len10 (n := v.Names.length) (by omega)
  have := put_loop9 (B := b.length + 10) (by omega) hl hb hs hv _ 0 ((((v.Names.length : Int)) - ((0 : Int))).toNat + 1) (b ++ encU v.Names.length) rfl (Nat.zero_le _) (by omega) (by simp; omega)
  rw [u64_in (by omega) (by omega), pack_Uint_v1 (by omega) (by omega), bnd_some, ← List.append_assoc]
  exact this
theorem encV_len : ∀ (ns : List ByteArray) (vs : List Int), (∀ s ∈ ns, s.size ≤ 1000) → (∀ n ∈ vs, inR n) → (encV ns vs).length ≤ 1100 * ns.length
  | [], vs, _, _ => by simp [encV]
  | s :: ns, [], _, _ => by simp [encV]
  | s :: ns, x :: vs, h, h' => by
    have := encV_len ns vs (fun y hy => h y (List.mem_cons_of_mem _ hy)) (fun y hy => h' y (List.mem_cons_of_mem _ hy))
    have hs := h s List.mem_cons_self
    have hx := h' x List.mem_cons_self
    have e1 := encU_len10 (n := s.size) (by omega)
    have e2 := encU_len10 (n := zz x) (zz_lt hx)
    have e3 := bytesI_len s
    simp only [encV, List.length_append, List.length_cons]
    omega
theorem encV_bytes : ∀ (ns : List ByteArray) (vs : List Int), ∀ x ∈ encV ns vs, byteI x
  | [], vs, x, h => by simp [encV] at h
  | s :: ns, [], x, h => by simp [encV] at h
  | s :: ns, y :: vs, x, h => by
    simp only [encV, List.mem_append] at h
    rcases h with ((h | h) | h) | h
    · exact encU_bytes _ x h
    · exact bytesI_byte _ x h
    · exact encU_bytes _ x h
    · exact encV_bytes ns vs x h
theorem encVs_bytes (v : TVars) : ∀ x ∈ encVs v, byteI x := by
  intro x h
  unfold encVs at h
  rcases List.mem_append.1 h with h | h
  · exact encU_bytes _ x h
  · exact encV_bytes _ _ x h
/-! ### Read -/
def decV : Nat → List Int → Option (List ByteArray × List Int × List Int)
  | 0, b => some ([], [], b)
  | j + 1, b =>
    match decB b with
    | none => none
    | some (s, r) =>
      match decI r with
      | none => none
      | some (x, r') =>
        match decV j r' with
        | none => none
        | some (ns, vs, r'') => some (strI s :: ns, x :: vs, r'')
theorem decB_enc (s : ByteArray) (r : List Int) (hs : s.size < 18446744073709551616) : decB (encU s.size ++ bytesI s ++ r) = some (bytesI s, r) := by
  unfold decB
  rw [List.append_assoc, dec_enc s.size 0 _ (by simpa using hs) (by omega) (.inl rfl)]
  have e3 := bytesI_len s
  simp only
  rw [if_neg (by simp; omega), ← e3]
  simp
theorem decI_enc (n : Int) (r : List Int) (h : inR n) : decI (encU (zz n) ++ r) = some (n, r) := by
  unfold decI
  rw [dec_enc (zz n) 0 _ (by simpa using zz_lt h) (by omega) (.inl rfl)]
  simp only [unzz_zz]
theorem decV_enc : ∀ (ns : List ByteArray) (vs : List Int) (r : List Int), ns.length = vs.length → (∀ s ∈ ns, s.size ≤ 1000) → (∀ n ∈ vs, inR n) → decV ns.length (encV ns vs ++ r) = some (ns, vs, r)
  | [], [], r, _, _, _ => by simp [encV, decV]
  | s :: ns, x :: vs, r, hl, h, h' => by
    have ih := decV_enc ns vs r (by simpa using hl) (fun y hy => h y (List.mem_cons_of_mem _ hy)) (fun y hy => h' y (List.mem_cons_of_mem _ hy))
    have hs := h s List.mem_cons_self
    have hx := h' x List.mem_cons_self
    have e : encV (s :: ns) (x :: vs) ++ r = encU s.size ++ bytesI s ++ (encU (zz x) ++ (encV ns vs ++ r)) := by simp [encV]
    rw [e, List.length_cons]
    simp only [decV]
    rw [decB_enc s _ (by omega)]
    simp only
    rw [decI_enc x _ hx]
    simp only
    rw [ih]
    simp only [strI_bytesI]
structure DecOk (b : List Int) (j : Nat) (ns : List ByteArray) (vs : List Int) (r : List Int) : Prop where
  eq : b = encV ns vs ++ r
  len : ns.length = j
  lenV : vs.length = j
  vals : ∀ n ∈ vs, inR n
  size : ∀ s ∈ ns, s.size ≤ b.length
theorem decB_ok {b : List Int} (hb : ∀ x ∈ b, byteI x) {s r : List Int} (h : decB b = some (s, r)) : b = encU (strI s).size ++ bytesI (strI s) ++ r ∧ (∀ x ∈ r, byteI x) ∧ s.length ≤ b.length ∧ r.length ≤ b.length := by
  unfold decB at h
  split at h
  · rename_i n r' hd
    split at h
    · cases h
    · rename_i hn
      simp only [Option.some.injEq, Prod.mk.injEq] at h
      obtain ⟨rfl, rfl⟩ := h
      obtain ⟨h1, _⟩ := enc_dec b 0 n r' hb hd
      obtain ⟨h2, h3⟩ := dec_bytes hb hd
      rw [strI_len, bytesI_strI fun x hx => h2 x (List.mem_of_mem_take hx)]
      refine ⟨?_, fun x hx => h2 x (List.mem_of_mem_drop hx), by simp; omega, by simp; omega⟩
      have : (r'.take n).length = n := by simp; omega
      rw [this, List.append_assoc, List.take_append_drop]
      exact h1
  · cases h
theorem decI_ok {b : List Int} (hb : ∀ x ∈ b, byteI x) {x : Int} {r : List Int} (h : decI b = some (x, r)) : b = encU (zz x) ++ r ∧ inR x ∧ (∀ y ∈ r, byteI y) ∧ r.length ≤ b.length := by
  unfold decI at h
  split at h
  · rename_i n r' hd
    simp only [Option.some.injEq, Prod.mk.injEq] at h
    obtain ⟨rfl, rfl⟩ := h
    obtain ⟨h2, h3⟩ := dec_bytes hb hd
    rw [zz_unzz]
    exact ⟨(enc_dec b 0 n r' hb hd).1, unzz_r (dec_lt hb hd), h2, by omega⟩
  · cases h
theorem decV_ok : ∀ (j : Nat) (b : List Int) (ns : List ByteArray) (vs r : List Int), (∀ x ∈ b, byteI x) → decV j b = some (ns, vs, r) → DecOk b j ns vs r := by
  intro j
  induction j with
  | zero =>
    intro b ns vs r hb h
    simp only [decV, Option.some.injEq, Prod.mk.injEq] at h
    obtain ⟨rfl, rfl, rfl⟩ := h
    exact ⟨by simp [encV], rfl, rfl, by simp, by simp⟩
  | succ j ih =>
    intro b ns vs r hb h
    simp only [decV] at h
    split at h
    · cases h
    · rename_i s r1 hB
      split at h
      · cases h
      · rename_i x r2 hI
        split at h
        · cases h
        · rename_i ns' vs' r3 hV
          simp only [Option.some.injEq, Prod.mk.injEq] at h
          obtain ⟨rfl, rfl, rfl⟩ := h
          obtain ⟨a1, a2, a3, a4⟩ := decB_ok hb hB
          obtain ⟨b1, b2, b3, b4⟩ := decI_ok a2 hI
          obtain ⟨c1, c2, c3, c4, c5⟩ := ih r2 ns' vs' r3 b3 hV
          refine ⟨?_, by simp [c2], by simp [c3], fun n hn => ?_, fun y hy => ?_⟩
          · rw [a1, b1, c1]
            simp [encV]
          · rcases List.mem_cons.1 hn with rfl | hn
            · exact b2
            · exact c4 n hn
          · rcases List.mem_cons.1 hy with rfl | hy
            · rw [strI_len]; exact a3
            · have := c5 y hy; omega
def readR (ns : List ByteArray) (vs : List Int) : Option (List ByteArray × List Int × List Int) → Option (TVars × List Int × Int) → Prop
  | some (ns', vs', r), x => x = m_vars_Read_k1 r (ns ++ ns') (vs ++ vs')
  | none, x => ∃ e : Int, e ≠ 0 ∧ x = some (⟨[], []⟩, [], e)
theorem read_loop9 {r0 : Int × List Int × Int} {t : Nat} (h0 : r0.1 = (t : Int)) (ht : t ≤ 64) : ∀ (j i n : Nat) (b : List Int) (ns : List ByteArray) (vs : List Int), i + j = t → j < n → ns.length ≤ i → vs.length ≤ i → (∀ x ∈ b, byteI x) → b.length ≤ 100000000000 →
    readR ns vs (decV j b) (m_vars_Read_l1 r0 n b (i : Int) ns vs) := by
  intro j
  induction j with
  | zero =>
    intro i n b ns vs hi hn h1 h2 hb hl
    obtain ⟨n, rfl⟩ : ∃ n', n = n' + 1 := ⟨n - 1, by omega⟩
    have hk' : ¬ ((i : Int) < r0.1) := by omega
    rw [m_vars_Read_l1, m_vars_Read_l1_B, decide_eq_false hk', if_neg (by simp)]
    simp [decV, readR]
  | succ j ih =>
    intro i n b ns vs hi hn h1 h2 hb hl
    obtain ⟨n, rfl⟩ : ∃ n', n = n' + 1 := ⟨n - 1, by omega⟩
    have hk' : ((i : Int) < r0.1) := by omega
    rw [m_vars_Read_l1, m_vars_Read_l1_B, decide_eq_true hk', if_pos rfl]
    simp only [decV]
    cases hB : decB b with
    | none =>
      obtain ⟨e, e0, e1⟩ := readB_none hb hl hB
      rw [e1, bnd_some]
      refine ⟨e, e0, ?_⟩
      simp [e0]
    | some x =>
      obtain ⟨s, r1⟩ := x
      obtain ⟨a1, a2, a3, a4⟩ := decB_ok hb hB
      rw [readB_some hb hl hB, bnd_some]
      simp only [ne_eq, not_true_eq_false, decide_false, Bool.false_eq_true, if_false]
      cases hI : decI r1 with
      | none =>
        obtain ⟨x, e, e0, e1⟩ := readI_none a2 (by omega) hI
        rw [e1, bnd_some]
        refine ⟨e, e0, ?_⟩
        simp [e0]
      | some x =>
        obtain ⟨x, r2⟩ := x
        obtain ⟨b1, b2, b3, b4⟩ := decI_ok a2 hI
        rw [readI_some a2 (by omega) hI, bnd_some]
        simp only [ne_eq, not_true_eq_false, decide_false, Bool.false_eq_true, if_false]
        have hw : IntKind.u64.wrap ((i : Int) + 1) = ((i + 1 : Nat) : Int) := by rw [u64_in (by omega) (by omega)]; rfl
        rw [if_pos (capB_small (by omega)), if_pos (capB_small (by omega)), hw]
        have hi := ih (i + 1) n r2 (ns ++ [strI s]) (vs ++ [x]) (by omega) (by omega) (by simp; omega) (by simp; omega) b3 (by omega)
        cases hV : decV j r2 with
        | none => rw [hV] at hi; exact hi
        | some y =>
          obtain ⟨ns', vs', r3⟩ := y
          rw [hV] at hi
          simp only [readR] at hi ⊢
          rw [hi]
          simp
/-- The variables that bytes begin with, and the bytes behind. -/
def decR (b : List Int) : Option (TVars × List Int) :=
  match dec 0 b with
  | none => none
  | some (n, r) =>
    if 64 < n then none else
    match decV n r with
    | none => none
    | some (ns, vs, r') => if vchk ⟨ns, vs⟩ = 0 then some (⟨ns, vs⟩, r') else none
theorem vars_Read {b : List Int} (hb : ∀ x ∈ b, byteI x) (hl : b.length ≤ 100000000000) : (∃ w r, decR b = some (w, r) ∧ m_vars_Read b = some (w, r, 0)) ∨ (decR b = none ∧ ∃ e : Int, e ≠ 0 ∧ m_vars_Read b = some (⟨[], []⟩, [], e)) := by
  unfold m_vars_Read decR
  cases hd : dec 0 b with
  | none =>
    obtain ⟨e, e0, e1⟩ := read_none hb hl hd
    right
    refine ⟨rfl, e, e0, ?_⟩
    rw [e1, bnd_some]
    simp [e0]
  | some x =>
    obtain ⟨n, r⟩ := x
    obtain ⟨hr1, hr2⟩ := dec_bytes hb hd
    rw [read_some hb hl hd, bnd_some]
    simp only [ne_eq, not_true_eq_false, decide_false, Bool.false_eq_true, if_false]
    by_cases h64 : 64 < n
    · have : (64 : Int) < (n : Int) := by omega
      right
      simp only [h64, this, decide_true, if_true]
      exact ⟨trivial, 6, by omega, rfl⟩
    · have h64' : ¬ (64 : Int) < (n : Int) := by omega
      simp only [h64, h64', decide_false, Bool.false_eq_true, if_false]
      have hlp := read_loop9 (r0 := ((n : Int), r, 0)) (t := n) rfl (by omega) n 0 (((n : Int) - 0).toNat + 1) r [] [] (by omega) (by omega) (by simp) (by simp) hr1 (by omega)
      cases hV : decV n r with
      | none =>
        rw [hV] at hlp
        obtain ⟨e, e0, e1⟩ := hlp
        exact .inr ⟨rfl, e, e0, e1⟩
      | some y =>
        obtain ⟨ns, vs, r'⟩ := y
        rw [hV] at hlp
        simp only [readR, List.nil_append] at hlp
        obtain ⟨c1, c2, c3, c4, c5⟩ := decV_ok n r ns vs r' hr1 hV
        have hok : OkV ⟨ns, vs⟩ := ⟨by show ns.length ≤ _; unfold big63; omega, by show vs.length ≤ _; unfold big63; omega, fun s hs => by have := c5 s hs; unfold big63; omega, c4⟩
        simp only
        have hlp' : m_vars_Read_l1 ((n : Int), r, 0) (((n : Int) - 0).toNat + 1) r 0 [] [] = m_vars_Read_k1 r' ns vs := hlp
        rw [hlp']
        unfold m_vars_Read_k1
        rw [vars_Check hok, bnd_some]
        by_cases hc : vchk ⟨ns, vs⟩ = 0
        · left
          refine ⟨⟨ns, vs⟩, r', by simp [hc], by simp [hc]⟩
        · right
          refine ⟨by simp [hc], vchk ⟨ns, vs⟩, hc, by simp [hc]⟩
end Go.Proofs.Ytefjblgmnoheiaa.R

/- Plain laws: variables that may be, written and read. -/
set_option maxRecDepth 100000
set_option linter.unusedVariables false
set_option linter.unusedSimpArgs false
noncomputable section
namespace Go.Proofs.Ytefjblgmnoheiaa.R
open Go
theorem namesB_var : ∀ (p : Option ByteArray) (l : List ByteArray), namesB p l = true → ∀ x ∈ l, varB x = true
  | _, [], _, x, hx => by cases hx
  | p, y :: l, h, x, hx => by
    simp only [namesB, Bool.and_eq_true] at h
    rcases List.mem_cons.1 hx with rfl | hx
    · exact h.1
    · exact namesB_var _ l h.2.2 x hx
theorem varB_small {s : ByteArray} (h : varB s = true) : s.size ≤ 1000 := by
  unfold varB nameB nameL at h
  simp only [Bool.and_eq_true, decide_eq_true_eq] at h
  have := h.1.2.2
  rw [bytesI_len] at this
  omega
structure ChkOk (v : TVars) : Prop where
  len : v.Names.length = v.Vals.length
  most : v.Names.length ≤ 64
  size : ∀ s ∈ v.Names, s.size ≤ 1000
theorem chk_ok {v : TVars} (h : vchk v = 0) : ChkOk v := by
  unfold vchk at h
  split at h
  · cases h
  · rename_i h1
    split at h
    · cases h
    · rename_i h2
      split at h
      · rename_i h3
        exact ⟨by simpa using h1, by omega, fun s hs => varB_small (namesB_var _ _ h3 s hs)⟩
      · cases h
theorem decR_put {v : TVars} (hv : OkV v) (hc : vchk v = 0) (b : List Int) : decR (encVs v ++ b) = some (v, b) := by
  obtain ⟨h1, h2, h3⟩ := chk_ok hc
  unfold decR encVs
  rw [List.append_assoc, dec_enc v.Names.length 0 _ (by simp; omega) (by omega) (.inl rfl)]
  simp only
  rw [if_neg (by omega), decV_enc v.Names v.Vals b h1 h3 hv.vals]
  simp only
  rw [if_pos hc]
theorem decR_ok {b : List Int} (hb : ∀ x ∈ b, byteI x) {w : TVars} {r : List Int} (h : decR b = some (w, r)) : b = encVs w ++ r ∧ vchk w = 0 ∧ ∀ n ∈ w.Vals, inR n := by
  unfold decR at h
  split at h
  · cases h
  · rename_i n r1 hd
    split at h
    · cases h
    · split at h
      · cases h
      · rename_i ns vs r2 hV
        split at h
        · rename_i hc
          simp only [Option.some.injEq, Prod.mk.injEq] at h
          obtain ⟨rfl, rfl⟩ := h
          obtain ⟨c1, c2, c3, c4, c5⟩ := decV_ok n r1 ns vs r2 (dec_bytes hb hd).1 hV
          refine ⟨?_, hc, c4⟩
          rw [(enc_dec b 0 n r1 hb hd).1, c1]
          unfold encVs
          simp [c2]
        · cases h
theorem ref02_self (a : List Int) : m_ref02_Same a a = some true := by
  unfold m_ref02_Same
  rw [eqS_self]
end Go.Proofs.Ytefjblgmnoheiaa.R

/- Plain laws: posts as bytes. -/
set_option maxRecDepth 100000
set_option linter.unusedVariables false
set_option linter.unusedSimpArgs false
noncomputable section
namespace Go.Proofs.Ytefjblgmnoheiaa.R
open Go
def encN (n : Int) : List Int := encU n.toNat
def encT (s : ByteArray) : List Int := encU s.size ++ bytesI s
def encW (w : TWho) : List Int := encN w.Part ++ encN w.Inst
def encM (m : TMail) : List Int := encN m.Id ++ (encT m.Name ++ (encU (zz m.Key) ++ (encVs m.Vars ++ (encN m.Until ++ (encU m.Took.length ++ m.Took.flatMap encW)))))
def encS (s : TSub) : List Int := encN s.Part ++ (encN s.Id ++ (encN s.Inst ++ (encT s.Name ++ (encU (zz s.Key) ++ encN s.Mail))))
def encP (p : TPost) : List Int := encN p.Next ++ (encU p.Mails.length ++ (p.Mails.flatMap encM ++ (encU p.Subs.length ++ p.Subs.flatMap encS)))
def natR (n : Int) : Prop := 0 ≤ n ∧ n ≤ 1099511627776
/-- What may be written. -/
structure PutM (m : TMail) : Prop where
  id : natR m.Id
  name : m.Name.size ≤ 10000
  key : inR m.Key
  vars : vchk m.Vars = 0
  vals : ∀ n ∈ m.Vars.Vals, inR n
  til : natR m.Until
  tk : ∀ w ∈ m.Took, natR w.Part ∧ natR w.Inst
structure PutS (s : TSub) : Prop where
  part : natR s.Part
  id : natR s.Id
  inst : natR s.Inst
  name : s.Name.size ≤ 10000
  key : inR s.Key
  mail : natR s.Mail
structure PutP (p : TPost) : Prop where
  next : natR p.Next
  mails : ∀ m ∈ p.Mails, PutM m
  subs : ∀ s ∈ p.Subs, PutS s
theorem al1 {P : Int → Prop} {a : Int} (h : P a) : ∀ x ∈ [a], P x := by simpa using h
theorem al2 {P : Int → Prop} {a b : Int} (h : P a) (h' : P b) : ∀ x ∈ [a, b], P x := by simpa using ⟨h, h'⟩
theorem al3 {P : Int → Prop} {a b c : Int} (h : P a) (h' : P b) (h'' : P c) : ∀ x ∈ [a, b, c], P x := by simpa using ⟨h, h', h''⟩
theorem encN_len {n : Int} (h : natR n) : (encN n).length ≤ 10 := encU_len10 (by unfold natR at h; omega)
theorem number_go {l : List Int} {f : Nat → Int → List Int → Option (List Int)} (hf : ∀ n (k : Int) b, f (n + 1) k b = if (decide (k < ((l.length : Nat) : Int))) = true then bnd (nthI l k) fun e => bnd (m_pack_Uint_v1 b (IntKind.u64.wrap e)) fun r0 => f n (IntKind.i64.wrap (k + (1 : Int))) r0 else some b)
    (hl : ∀ x ∈ l, natR x) (hs : l.length ≤ 1000) {b : List Int} (hb : b.length ≤ 40000000000) : f (((((l.length : Nat) : Int)) - ((0 : Int))).toNat + 1) 0 b = some (b ++ l.flatMap encN) := by
  suffices h : ∀ b : List Int, b.length + 10 * (l.length - 0) ≤ 50000000000 → f (((((l.length : Nat) : Int)) - ((0 : Int))).toNat + 1) 0 b = some (b ++ (l.drop 0).flatMap encN) by
    exact h b (by omega)
  refine loop0 (β := List Int → Option (List Int)) (R := fun k o => ∀ b : List Int, b.length + 10 * (l.length - k) ≤ 50000000000 → (match o with | some g => g b | none => none) = some (b ++ (l.drop k).flatMap encN)) (f := fun n k => some fun b => f n k b) (by omega) (fun n b hb => ?_) (fun n k hk hw ih b hb => ?_)
  · simp only [hf, decide_eq_false nlt_k]
    rw [List.drop_eq_nil_of_le (Nat.le_refl _)]
    simp
  · have hx := hl l[k] (List.getElem_mem hk)
    have e1 := encN_len hx
    unfold natR at hx
    have e2 : IntKind.u64.wrap l[k] = ((l[k].toNat : Nat) : Int) := by rw [u64_in (by omega) (by omega)]; omega
    simp only [hf, decide_eq_true (lt_k hk), if_true, nthI_lt hk, bnd_some, e2, hw]
    rw [pack_Uint_v1 (by omega) (by omega), bnd_some, List.drop_eq_getElem_cons hk, List.flatMap_cons, ← List.append_assoc]
    exact ih _ (by simp; unfold encN at e1; omega)
theorem number_v1 {b l : List Int} (hl : ∀ x ∈ l, natR x) (hs : l.length ≤ 1000) (hb : b.length ≤ 40000000000) : m_post_number_v1 b l = some (b ++ l.flatMap encN) := by
  unfold m_post_number_v1
  exact number_go (f := m_post_number_v1_l1 l) (fun n k b => by rw [m_post_number_v1_l1, m_post_number_v1_l1_B]) hl hs hb
theorem number_0 {l : List Int} (hl : ∀ x ∈ l, natR x) (hs : l.length ≤ 1000) : m_post_number l = some (l.flatMap encN) := by
  unfold m_post_number
  exact number_go (b := []) (f := m_post_number_l1 l) (fun n k b => by rw [m_post_number_l1, m_post_number_l1_B]) hl hs (by simp)
theorem len_natR {n : Nat} (h : n ≤ 1099511627776) : natR (n : Int) := by unfold natR; omega
theorem encN_nat (n : Nat) : encN (n : Int) = encU n := rfl
theorem encU_pos (n : Nat) : 0 < (encU n).length := by
  by_cases h : n < 128
  · rw [encU_small h]; simp
  · rw [encU_big h]; simp
theorem flat_len {α : Type} {f : α → List Int} : ∀ (l : List α), (∀ x ∈ l, 0 < (f x).length) → l.length ≤ (l.flatMap f).length
  | [], _ => by simp
  | x :: l, h => by
    have := flat_len l fun y hy => h y (List.mem_cons_of_mem _ hy)
    have hx := h x List.mem_cons_self
    rw [List.flatMap_cons, List.length_append, List.length_cons]
    omega
theorem flat_max {α : Type} {f : α → List Int} {B : Nat} : ∀ (l : List α), (∀ x ∈ l, (f x).length ≤ B) → (l.flatMap f).length ≤ B * l.length
  | [], _ => by simp
  | x :: l, h => by
    have := flat_max l fun y hy => h y (List.mem_cons_of_mem _ hy)
    have hx := h x List.mem_cons_self
    rw [List.flatMap_cons, List.length_append, List.length_cons, Nat.mul_succ]
    omega
theorem put_took {rec : Int → List Int → Option (List Int)} {v : Int} {m : TMail} (hm : PutM m) {b : List Int} (hb : b.length + (m.Took.flatMap encW).length ≤ 20000000000) :
    m_post_Put_l2 rec v m ((((m.Took.length : Int)) - ((0 : Int))).toNat + 1) 0 b = rec (IntKind.i64.wrap (v + 1)) (b ++ m.Took.flatMap encW) := by
  have hlen : m.Took.length ≤ (m.Took.flatMap encW).length := flat_len _ fun x _ => by
    have := encU_pos x.Part.toNat
    unfold encW encN
    simp; omega
  suffices h : ∀ b : List Int, b.length + ((m.Took.drop 0).flatMap encW).length ≤ 20000000000 → m_post_Put_l2 rec v m ((((m.Took.length : Int)) - ((0 : Int))).toNat + 1) 0 b = rec (IntKind.i64.wrap (v + 1)) (b ++ (m.Took.drop 0).flatMap encW) by
    exact h b hb
  refine loop0 (β := List Int → Option (List Int)) (R := fun k o => ∀ b : List Int, b.length + ((m.Took.drop k).flatMap encW).length ≤ 20000000000 → (match o with | some g => g b | none => none) = rec (IntKind.i64.wrap (v + 1)) (b ++ (m.Took.drop k).flatMap encW)) (f := fun n k => some fun b => m_post_Put_l2 rec v m n k b) (by omega) (fun n b hb => ?_) (fun n k hk hw ih b hb => ?_)
  · simp only [m_post_Put_l2, m_post_Put_l2_B, decide_eq_false nlt_k]
    rw [List.drop_eq_nil_of_le (Nat.le_refl _)]
    simp
  · have hx := hm.tk m.Took[k] (List.getElem_mem hk)
    rw [List.drop_eq_getElem_cons hk, List.flatMap_cons, List.length_append] at hb
    simp only [m_post_Put_l2, m_post_Put_l2_B, decide_eq_true (lt_k hk), if_true, nthI_lt hk, bnd_some, hw]
    rw [number_v1 (l := [m.Took[k].Part, m.Took[k].Inst]) (al2 (hx.1) (hx.2)) (by simp) (by omega), bnd_some]
    have e : b ++ [m.Took[k].Part, m.Took[k].Inst].flatMap encN = b ++ encW m.Took[k] := by simp [encW]
    rw [e, List.drop_eq_getElem_cons hk, List.flatMap_cons, ← List.append_assoc]
    exact ih _ (by rw [List.length_append]; omega)
theorem put_subs {p : TPost} (hp : PutP p) {b : List Int} (hb : b.length + (encU p.Subs.length ++ p.Subs.flatMap encS).length ≤ 20000000000) : m_post_Put_k1 p b = some (b ++ (encU p.Subs.length ++ p.Subs.flatMap encS)) := by
  have hlen : p.Subs.length ≤ (p.Subs.flatMap encS).length := flat_len _ fun x _ => by
    have := encU_pos x.Part.toNat
    unfold encS encN
    simp; omega
  rw [List.length_append] at hb
  unfold m_post_Put_k1
  rw [number_v1 (l := [(p.Subs.length : Int)]) (al1 (len_natR (by omega))) (by simp) (by omega), bnd_some, ← List.append_assoc]
  have e : b ++ [(p.Subs.length : Int)].flatMap encN = b ++ encU p.Subs.length := by simp [encN]
  rw [e]
  suffices h : ∀ b : List Int, b.length + ((p.Subs.drop 0).flatMap encS).length ≤ 20000000000 → m_post_Put_l3 p ((((p.Subs.length : Int)) - ((0 : Int))).toNat + 1) 0 b = some (b ++ (p.Subs.drop 0).flatMap encS) by
    exact h _ (by rw [List.length_append, List.drop_zero]; omega)
  refine loop0 (β := List Int → Option (List Int)) (R := fun k o => ∀ b : List Int, b.length + ((p.Subs.drop k).flatMap encS).length ≤ 20000000000 → (match o with | some g => g b | none => none) = some (b ++ (p.Subs.drop k).flatMap encS)) (f := fun n k => some fun b => m_post_Put_l3 p n k b) (by omega) (fun n b hb => ?_) (fun n k hk hw ih b hb => ?_)
  · simp only [m_post_Put_l3, m_post_Put_l3_B, decide_eq_false nlt_k]
    rw [List.drop_eq_nil_of_le (Nat.le_refl _)]
    simp
  · have hx := hp.subs p.Subs[k] (List.getElem_mem hk)
    rw [List.drop_eq_getElem_cons hk, List.flatMap_cons, List.length_append] at hb
    simp only [m_post_Put_l3, m_post_Put_l3_B, decide_eq_true (lt_k hk), if_true, nthI_lt hk, bnd_some, hw]
    have e1 := encN_len hx.part
    have e2 := encN_len hx.id
    have e3 := encN_len hx.inst
    have e4 := encU_len10 (n := zz p.Subs[k].Key) (zz_lt hx.key)
    have e5 := encU_len10 (n := p.Subs[k].Name.size) (by have := hx.name; omega)
    have e6 := hx.name
    have e7 := bytesI_len p.Subs[k].Name
    rw [number_v1 (l := [p.Subs[k].Part, p.Subs[k].Id, p.Subs[k].Inst]) (al3 (hx.part) (hx.id) (hx.inst)) (by simp) (by omega), bnd_some]
    rw [pack_Bytes hx.name (by simp; omega), bnd_some, pack_Int hx.key (by simp; omega), bnd_some]
    rw [number_v1 (l := [p.Subs[k].Mail]) (al1 (hx.mail)) (by simp) (by simp; omega), bnd_some]
    have e : b ++ [p.Subs[k].Part, p.Subs[k].Id, p.Subs[k].Inst].flatMap encN ++ encU p.Subs[k].Name.size ++ bytesI p.Subs[k].Name ++ encU (zz p.Subs[k].Key) ++ [p.Subs[k].Mail].flatMap encN = b ++ encS p.Subs[k] := by simp [encS, encT]
    rw [e, List.drop_eq_getElem_cons hk, List.flatMap_cons, ← List.append_assoc]
    exact ih _ (by rw [List.length_append]; omega)
theorem post_Put {p : TPost} (hp : PutP p) (hb : (encP p).length ≤ 20000000000) : m_post_Put p = some (encP p) := by
  have hlen : p.Mails.length ≤ (p.Mails.flatMap encM).length := flat_len _ fun x _ => by
    have := encU_pos x.Id.toNat
    unfold encM encN
    simp; omega
  have hx := hp.next
  unfold m_post_Put
  have hb' := hb
  unfold encP at hb
  simp only [List.length_append] at hb
  rw [number_0 (l := [p.Next, (p.Mails.length : Int)]) (al2 (hx) (len_natR (by omega))) (by simp), bnd_some]
  have e : [p.Next, (p.Mails.length : Int)].flatMap encN = encN p.Next ++ encU p.Mails.length := by simp [encN]
  rw [e]
  suffices h : ∀ b : List Int, b.length + ((p.Mails.drop 0).flatMap encM ++ (encU p.Subs.length ++ p.Subs.flatMap encS)).length ≤ 20000000000 → m_post_Put_l1 p ((((p.Mails.length : Int)) - ((0 : Int))).toNat + 1) 0 b = some (b ++ ((p.Mails.drop 0).flatMap encM ++ (encU p.Subs.length ++ p.Subs.flatMap encS))) by
    rw [h _ (by simp only [List.length_append, List.drop_zero]; omega)]
    simp [encP]
  refine loop0 (β := List Int → Option (List Int)) (R := fun k o => ∀ b : List Int, b.length + ((p.Mails.drop k).flatMap encM ++ (encU p.Subs.length ++ p.Subs.flatMap encS)).length ≤ 20000000000 → (match o with | some g => g b | none => none) = some (b ++ ((p.Mails.drop k).flatMap encM ++ (encU p.Subs.length ++ p.Subs.flatMap encS)))) (f := fun n k => some fun b => m_post_Put_l1 p n k b) (by omega) (fun n b hb => ?_) (fun n k hk hw ih b hb => ?_)
  · simp only [m_post_Put_l1, m_post_Put_l1_B, decide_eq_false nlt_k]
    rw [List.drop_eq_nil_of_le (Nat.le_refl _)] at hb ⊢
    simp only [List.flatMap_nil, List.nil_append] at hb ⊢
    exact put_subs hp hb
  · have hx := hp.mails p.Mails[k] (List.getElem_mem hk)
    rw [List.drop_eq_getElem_cons hk, List.flatMap_cons, List.append_assoc, List.length_append] at hb
    simp only [m_post_Put_l1, m_post_Put_l1_B, decide_eq_true (lt_k hk), if_true, nthI_lt hk, bnd_some]
    obtain ⟨c1, c2, c3⟩ := chk_ok hx.vars
    have e1 := encN_len hx.id
    have e2 := encN_len hx.til
    have e4 := encU_len10 (n := zz p.Mails[k].Key) (zz_lt hx.key)
    have e5 := encU_len10 (n := p.Mails[k].Name.size) (by have := hx.name; omega)
    have e6 := hx.name
    have e7 := bytesI_len p.Mails[k].Name
    have e8 := encV_len p.Mails[k].Vars.Names p.Mails[k].Vars.Vals c3 hx.vals
    have e9 := encU_len10 (n := p.Mails[k].Vars.Names.length) (by omega)
    have hel : (encM p.Mails[k]).length = (encN p.Mails[k].Id).length + ((encT p.Mails[k].Name).length + ((encU (zz p.Mails[k].Key)).length + ((encVs p.Mails[k].Vars).length + ((encN p.Mails[k].Until).length + ((encU p.Mails[k].Took.length).length + (p.Mails[k].Took.flatMap encW).length))))) := by simp only [encM, List.length_append]
    have hvl : (encVs p.Mails[k].Vars).length ≤ 80000 := by unfold encVs; simp; omega
    have htl : p.Mails[k].Took.length ≤ (p.Mails[k].Took.flatMap encW).length := flat_len _ fun x _ => by
      have := encU_pos x.Part.toNat
      unfold encW encN
      simp; omega
    have htl2 := encU_len10 (n := p.Mails[k].Took.length) (by omega)
    rw [number_v1 (l := [p.Mails[k].Id]) (al1 (hx.id)) (by simp) (by omega), bnd_some]
    rw [pack_Bytes hx.name (by simp; omega), bnd_some, pack_Int hx.key (by simp; omega), bnd_some, vars_Put (by simp; omega) c1 c2 c3 hx.vals, bnd_some]
    rw [number_v1 (l := [p.Mails[k].Until, (p.Mails[k].Took.length : Int)]) (al2 (hx.til) (len_natR (by omega))) (by simp) (by simp; omega), bnd_some]
    have ee : b ++ [p.Mails[k].Id].flatMap encN ++ encU p.Mails[k].Name.size ++ bytesI p.Mails[k].Name ++ encU (zz p.Mails[k].Key) ++ encVs p.Mails[k].Vars ++ [p.Mails[k].Until, (p.Mails[k].Took.length : Int)].flatMap encN = b ++ (encN p.Mails[k].Id ++ (encT p.Mails[k].Name ++ (encU (zz p.Mails[k].Key) ++ (encVs p.Mails[k].Vars ++ (encN p.Mails[k].Until ++ encU p.Mails[k].Took.length))))) := by simp [encT, encN]
    rw [ee, put_took hx (by simp only [List.length_append]; omega), hw, List.drop_eq_getElem_cons hk, List.flatMap_cons]
    have e : b ++ (encN p.Mails[k].Id ++ (encT p.Mails[k].Name ++ (encU (zz p.Mails[k].Key) ++ (encVs p.Mails[k].Vars ++ (encN p.Mails[k].Until ++ encU p.Mails[k].Took.length))))) ++ p.Mails[k].Took.flatMap encW = b ++ encM p.Mails[k] := by simp [encM]
    rw [e]
    refine (ih (b ++ encM p.Mails[k]) (by rw [List.length_append (as := b)]; omega)).trans ?_
    simp
end Go.Proofs.Ytefjblgmnoheiaa.R

/- Plain laws: posts read. -/
set_option maxRecDepth 100000
set_option linter.unusedVariables false
set_option linter.unusedSimpArgs false
noncomputable section
namespace Go.Proofs.Ytefjblgmnoheiaa.R
open Go
def BY (b : List Int) : Prop := ∀ x ∈ b, byteI x
theorem BY_nil : BY [] := by simp [BY]
theorem BY_app {a b : List Int} (ha : BY a) (hb : BY b) : BY (a ++ b) := fun x hx => (List.mem_append.1 hx).elim (ha x) (hb x)
theorem encN_BY (n : Int) : BY (encN n) := encU_bytes _
theorem encT_BY (s : ByteArray) : BY (encT s) := BY_app (encU_bytes _) (bytesI_byte s)
theorem flat_BY {α : Type} {f : α → List Int} : ∀ (l : List α), (∀ x ∈ l, BY (f x)) → BY (l.flatMap f)
  | [], _ => BY_nil
  | x :: l, h => by
    rw [List.flatMap_cons]
    exact BY_app (h x List.mem_cons_self) (flat_BY l fun y hy => h y (List.mem_cons_of_mem _ hy))
theorem encW_BY (w : TWho) : BY (encW w) := BY_app (encN_BY _) (encN_BY _)
theorem encM_BY (m : TMail) : BY (encM m) := BY_app (encN_BY _) (BY_app (encT_BY _) (BY_app (encU_bytes _) (BY_app (encVs_bytes _) (BY_app (encN_BY _) (BY_app (encU_bytes _) (flat_BY _ fun w _ => encW_BY w))))))
theorem encS_BY (s : TSub) : BY (encS s) := BY_app (encN_BY _) (BY_app (encN_BY _) (BY_app (encN_BY _) (BY_app (encT_BY _) (BY_app (encU_bytes _) (encN_BY _)))))
/-! ### One by one -/
theorem keep_eq (rest : List Int) (e : Int) (b : List Int) (f : Int) : m_post_reader_keep rest e ⟨b, f⟩ = some (if f = 0 then (decide (e = 0), ⟨rest, e⟩) else (false, ⟨b, f⟩)) := by
  unfold m_post_reader_keep m_post_reader_keep_k1
  by_cases h : f = 0 <;> simp [h]
/-- What a reader's step does: from a state without an error to what was written and the bytes behind, or to an error; from an error nowhere. -/
def RdA {α : Type} (op : Treader → Option (α × Treader)) (enc : α → List Int) (V : α → Prop) (W : List Int → α → Prop) : Prop :=
  ∀ b e, BY b → b.length ≤ 100000000000 → ∃ x st, op ⟨b, e⟩ = some (x, st) ∧ BY st.f_b ∧ st.f_b.length ≤ b.length ∧ V x ∧ (st.f_err = 0 → e = 0 ∧ W b x ∧ b = enc x ++ st.f_b)
theorem next_any : RdA m_post_reader_next encN natR fun _ _ => True := by
  intro b e hb hl
  unfold m_post_reader_next m_post_reader_next_k1 m_post_reader_next_k2
  have z : natR 0 := by unfold natR; omega
  cases hd : dec 0 b with
  | none =>
    obtain ⟨e1, h0, h1⟩ := read_none hb hl hd
    rw [h1]
    simp only [bnd_some, keep_eq]
    by_cases h : e = 0
    · refine ⟨0, ⟨[], e1⟩, by simp [h, h0], BY_nil, by simp, z, fun h' => absurd h' h0⟩
    · refine ⟨0, ⟨b, e⟩, by simp [h, h0], hb, Nat.le_refl _, z, fun h' => absurd h' h⟩
  | some p =>
    obtain ⟨n, r⟩ := p
    obtain ⟨h1, h2⟩ := dec_bytes hb hd
    have h3 := (enc_dec b 0 n r hb hd).1
    rw [read_some hb hl hd]
    simp only [bnd_some, keep_eq, decide_true, if_true]
    by_cases h : e = 0
    · by_cases hn : (1099511627776 : Int) < (n : Int)
      · refine ⟨0, ⟨r, 6⟩, by simp [h, hn], h1, Nat.le_of_lt h2, z, fun h' => absurd h' (by simp)⟩
      · refine ⟨n, ⟨r, 0⟩, ?_, h1, Nat.le_of_lt h2, by unfold natR; omega, fun _ => ⟨h, trivial, h3⟩⟩
        simp only [h, hn, decide_false, Bool.false_eq_true, if_false, decide_true, if_true]
        rw [wrap_in (by unfold inR; omega)]
    · refine ⟨0, ⟨b, e⟩, ?_, hb, Nat.le_refl _, z, fun h' => absurd h' h⟩
      by_cases hn : (1099511627776 : Int) < (n : Int) <;> simp [h, hn]
theorem next_fwd {x : Int} {r : List Int} (hx : natR x) (hr : BY r) (hl : r.length ≤ 50000000000) : m_post_reader_next ⟨encN x ++ r, 0⟩ = some (x, ⟨r, 0⟩) := by
  have e1 := encN_len hx
  have hb : BY (encN x ++ r) := BY_app (encN_BY x) hr
  unfold natR at hx
  have hd : dec 0 (encN x ++ r) = some (x.toNat, r) := dec_enc x.toNat 0 r (by omega) (by omega) (.inl rfl)
  unfold m_post_reader_next m_post_reader_next_k1 m_post_reader_next_k2
  rw [read_some hb (by rw [List.length_append]; omega) hd]
  have hn : ¬ (1099511627776 : Int) < ((x.toNat : Nat) : Int) := by omega
  simp only [bnd_some, keep_eq, decide_true, if_true, hn, decide_false, Bool.false_eq_true, if_false]
  rw [wrap_in (by unfold inR; omega)]
  simp
  omega
theorem name_any : RdA m_post_reader_name encT (fun _ => True) fun b s => s.size ≤ b.length := by
  intro b e hb hl
  unfold m_post_reader_name
  cases hd : decB b with
  | none =>
    obtain ⟨e1, h0, h1⟩ := readB_none hb hl hd
    rw [h1]
    simp only [bnd_some, keep_eq]
    by_cases h : e = 0
    · refine ⟨⟨#[]⟩, ⟨[], e1⟩, by simp [h, h0], BY_nil, by simp, trivial, fun h' => absurd h' h0⟩
    · refine ⟨⟨#[]⟩, ⟨b, e⟩, by simp [h, h0], hb, Nat.le_refl _, trivial, fun h' => absurd h' h⟩
  | some p =>
    obtain ⟨s, r⟩ := p
    obtain ⟨h1, h2, h3, h4⟩ := decB_ok hb hd
    rw [readB_some hb hl hd]
    simp only [bnd_some, keep_eq]
    by_cases h : e = 0
    · refine ⟨strI s, ⟨r, 0⟩, by simp [h], h2, h4, trivial, fun _ => ⟨h, by rw [strI_len]; exact h3, h1⟩⟩
    · refine ⟨⟨#[]⟩, ⟨b, e⟩, by simp [h], hb, Nat.le_refl _, trivial, fun h' => absurd h' h⟩
theorem name_fwd {s : ByteArray} {r : List Int} (hs : s.size ≤ 10000) (hr : BY r) (hl : r.length ≤ 50000000000) : m_post_reader_name ⟨encT s ++ r, 0⟩ = some (s, ⟨r, 0⟩) := by
  have hb : BY (encT s ++ r) := BY_app (encT_BY s) hr
  have e1 := encU_len10 (n := s.size) (by omega)
  have e2 := bytesI_len s
  unfold m_post_reader_name
  rw [readB_some hb (by unfold encT; simp; omega) (decB_enc s r (by omega))]
  simp [bnd_some, keep_eq, strI_bytesI]
theorem key_any : RdA m_post_reader_key (fun k => encU (zz k)) inR fun _ _ => True := by
  intro b e hb hl
  unfold m_post_reader_key
  have z : inR 0 := by unfold inR; omega
  cases hd : decI b with
  | none =>
    obtain ⟨x, e1, h0, h1⟩ := readI_none hb hl hd
    rw [h1]
    simp only [bnd_some, keep_eq]
    by_cases h : e = 0
    · refine ⟨0, ⟨[], e1⟩, by simp [h, h0], BY_nil, by simp, z, fun h' => absurd h' h0⟩
    · refine ⟨0, ⟨b, e⟩, by simp [h, h0], hb, Nat.le_refl _, z, fun h' => absurd h' h⟩
  | some p =>
    obtain ⟨s, r⟩ := p
    obtain ⟨h1, h2, h3, h4⟩ := decI_ok hb hd
    rw [readI_some hb hl hd]
    simp only [bnd_some, keep_eq]
    by_cases h : e = 0
    · refine ⟨s, ⟨r, 0⟩, by simp [h], h3, h4, h2, fun _ => ⟨h, trivial, h1⟩⟩
    · refine ⟨0, ⟨b, e⟩, by simp [h], hb, Nat.le_refl _, z, fun h' => absurd h' h⟩
theorem key_fwd {k : Int} {r : List Int} (hk : inR k) (hr : BY r) (hl : r.length ≤ 50000000000) : m_post_reader_key ⟨encU (zz k) ++ r, 0⟩ = some (k, ⟨r, 0⟩) := by
  have hb : BY (encU (zz k) ++ r) := BY_app (encU_bytes _) hr
  have e1 := encU_len10 (n := zz k) (zz_lt hk)
  unfold m_post_reader_key
  rw [readI_some hb (by simp; omega) (decI_enc k r hk)]
  simp [bnd_some, keep_eq]
theorem vars_any : RdA m_post_reader_vars encVs (fun _ => True) fun b v => vchk v = 0 ∧ ∀ n ∈ v.Vals, inR n := by
  intro b e hb hl
  unfold m_post_reader_vars
  rcases vars_Read hb hl with ⟨w, r, g1, g2⟩ | ⟨g1, e1, h0, g2⟩
  · obtain ⟨h1, h2, h3⟩ := decR_ok hb g1
    have hrb : BY r := by
      intro x hx
      exact hb x (by rw [h1]; exact List.mem_append_right _ hx)
    have hrl : r.length ≤ b.length := by
      have := congrArg List.length h1
      rw [List.length_append] at this
      omega
    rw [g2]
    simp only [bnd_some, keep_eq]
    by_cases h : e = 0
    · refine ⟨w, ⟨r, 0⟩, by simp [h], hrb, hrl, trivial, fun _ => ⟨h, ⟨h2, h3⟩, h1⟩⟩
    · refine ⟨⟨[], []⟩, ⟨b, e⟩, by simp [h], hb, Nat.le_refl _, trivial, fun h' => absurd h' h⟩
  · rw [g2]
    simp only [bnd_some, keep_eq]
    by_cases h : e = 0
    · refine ⟨⟨[], []⟩, ⟨[], e1⟩, by simp [h, h0], BY_nil, by simp, trivial, fun h' => absurd h' h0⟩
    · refine ⟨⟨[], []⟩, ⟨b, e⟩, by simp [h, h0], hb, Nat.le_refl _, trivial, fun h' => absurd h' h⟩
theorem encVs_len {v : TVars} (h : vchk v = 0) (h' : ∀ n ∈ v.Vals, inR n) : (encVs v).length ≤ 80000 := by
  obtain ⟨c1, c2, c3⟩ := chk_ok h
  have e8 := encV_len v.Names v.Vals c3 h'
  have e9 := encU_len10 (n := v.Names.length) (by omega)
  unfold encVs; simp; omega
theorem decR_put' {v : TVars} (hv : ∀ n ∈ v.Vals, inR n) (hc : vchk v = 0) (b : List Int) : decR (encVs v ++ b) = some (v, b) := by
  obtain ⟨h1, h2, h3⟩ := chk_ok hc
  unfold decR encVs
  rw [List.append_assoc, dec_enc v.Names.length 0 _ (by simp; omega) (by omega) (.inl rfl)]
  simp only
  rw [if_neg (by omega), decV_enc v.Names v.Vals b h1 h3 hv]
  simp only
  rw [if_pos hc]
theorem vars_fwd {v : TVars} {r : List Int} (hv : vchk v = 0) (hi : ∀ n ∈ v.Vals, inR n) (hr : BY r) (hl : r.length ≤ 50000000000) : m_post_reader_vars ⟨encVs v ++ r, 0⟩ = some (v, ⟨r, 0⟩) := by
  have hb : BY (encVs v ++ r) := BY_app (encVs_bytes v) hr
  have e1 := encVs_len hv hi
  unfold m_post_reader_vars
  rcases vars_Read hb (by rw [List.length_append]; omega) with ⟨w, q, g1, g2⟩ | ⟨g1, _⟩
  · rw [decR_put' hi hv] at g1
    simp only [Option.some.injEq, Prod.mk.injEq] at g1
    obtain ⟨rfl, rfl⟩ := g1
    rw [g2]
    simp [bnd_some, keep_eq]
  · rw [decR_put' hi hv] at g1; cases g1
/-! ### Rows -/
def flg (e : Int) : Nat := if e = 0 then 1 else 0
theorem flg_le (e : Int) : flg e ≤ 1 := by unfold flg; split <;> omega
theorem flg_0 : flg 0 = 1 := rfl
theorem flg_ne {e : Int} (h : e ≠ 0) : flg e = 0 := if_neg h
theorem wrap_dec {k : Int} (h : natR k) (h0 : 0 < k) : IntKind.i64.wrap (k - 1) = k - 1 ∧ natR (k - 1) := by
  unfold natR at h ⊢
  exact ⟨wrap_in (by unfold inR; omega), by omega⟩
section
variable {rec1 : Int → List Int → Int → List TMail → Option (TPost × List Int × Int)} {n0 : Int} {p1 : List TMail} {a2 : Int × Treader} {a3 : ByteArray × Treader} {a4 : Int × Treader} {a5 : TVars × Treader} {a6 : Int × Treader}
theorem l2_any : ∀ (N : Nat) (k : Int) (b : List Int) (e : Int) (took : List TWho), natR k → BY b → b.length ≤ 100000000000 → b.length + flg e < N → took.length + b.length + flg e ≤ 500000000000 →
    ∃ took' b' e', m_post_Read_l2 rec1 n0 p1 a2 a3 a4 a5 a6 N k b e took = m_post_Read_k3 rec1 n0 p1 a2 a3 a4 a5 a6 b' e' took' ∧ BY b' ∧ b'.length ≤ b.length ∧
      (e' = 0 → e = 0 ∧ ∃ l, took' = took ++ l ∧ (l.length : Int) = k ∧ (∀ w ∈ l, natR w.Part ∧ natR w.Inst) ∧ b = l.flatMap encW ++ b') := by
  intro N
  induction N with
  | zero => intro k b e took hk hb hl hN; omega
  | succ N ih =>
    intro k b e took hk hb hl hN ht
    have stop : ∃ took' b' e', m_post_Read_k2 (m_post_Read_l2 rec1 n0 p1 a2 a3 a4 a5 a6 N) rec1 n0 p1 a2 a3 a4 a5 a6 k b e took false = m_post_Read_k3 rec1 n0 p1 a2 a3 a4 a5 a6 b' e' took' ∧ BY b' ∧ b'.length ≤ b.length ∧
        (e' = 0 → e = 0 ∧ ((k = 0) → ∃ l, took' = took ++ l ∧ (l.length : Int) = k ∧ (∀ w ∈ l, natR w.Part ∧ natR w.Inst) ∧ b = l.flatMap encW ++ b')) :=
      ⟨took, b, e, rfl, hb, Nat.le_refl _, fun h => ⟨h, fun h0 => ⟨[], by simp, by simp [h0], by simp, by simp⟩⟩⟩
    rw [m_post_Read_l2, m_post_Read_l2_B]
    by_cases h0 : 0 < k
    · by_cases he : e = 0
      · subst he
        rw [decide_eq_true h0, if_pos rfl, decide_eq_true (rfl : (0 : Int) = 0)]
        unfold m_post_Read_k2
        obtain ⟨x, st, g1, g2, g3, g4, g5⟩ := next_any b 0 hb hl
        obtain ⟨y, su, k1, k2, k3, k4, k5⟩ := next_any st.f_b st.f_err g2 (by omega)
        have k1' : m_post_reader_next st = some (y, su) := k1
        rw [if_pos rfl, g1, bnd_some, k1', bnd_some, if_pos (capB_small (by rw [flg_0] at ht; omega)), (wrap_dec hk h0).1]
        have hlen : su.f_b.length + flg su.f_err < b.length + 1 := by
          by_cases hs : su.f_err = 0
          · obtain ⟨hs1, _, q1⟩ := k5 hs
            obtain ⟨_, _, q2⟩ := g5 hs1
            have c1 := congrArg List.length q1
            have c2 := congrArg List.length q2
            rw [List.length_append] at c1 c2
            have := encU_pos x.toNat
            unfold encN at c2
            have := flg_le su.f_err
            have := encU_pos y.toNat
            unfold encN at c1
            omega
          · rw [flg_ne hs]; omega
        rw [flg_0] at hN ht
        obtain ⟨took', b', e', w1, w2, w3, w4⟩ := ih (k - 1) su.f_b su.f_err (took ++ [⟨x, y⟩]) (wrap_dec hk h0).2 k2 (by omega) (by omega) (by rw [List.length_append, List.length_singleton]; omega)
        refine ⟨took', b', e', w1, w2, by omega, fun h => ⟨rfl, ?_⟩⟩
        obtain ⟨hs, l, l1, l2, l3, l4⟩ := w4 h
        obtain ⟨hs1, _, q1⟩ := k5 hs
        obtain ⟨_, _, q2⟩ := g5 hs1
        refine ⟨⟨x, y⟩ :: l, by rw [l1]; simp, by rw [List.length_cons]; omega, fun w hw => ?_, ?_⟩
        · rcases List.mem_cons.1 hw with rfl | hw
          · exact ⟨g4, k4⟩
          · exact l3 w hw
        · rw [q2, q1, l4]
          simp [encW]
      · rw [decide_eq_true h0, if_pos rfl, decide_eq_false he]
        obtain ⟨took', b', e', w1, w2, w3, w4⟩ := stop
        refine ⟨took', b', e', w1, w2, w3, fun h => absurd (w4 h).1 he⟩
    · rw [decide_eq_false h0, if_neg (by simp)]
      obtain ⟨took', b', e', w1, w2, w3, w4⟩ := stop
      refine ⟨took', b', e', w1, w2, w3, fun h => ⟨(w4 h).1, (w4 h).2 (by unfold natR at hk; omega)⟩⟩
theorem l2_fwd : ∀ (l : List TWho) (N : Nat) (r : List Int) (took : List TWho), (∀ w ∈ l, natR w.Part ∧ natR w.Inst) → l.length ≤ 1099511627776 → BY r → (l.flatMap encW ++ r).length ≤ 40000000000 → l.length < N → took.length + l.length ≤ 500000000000 →
    m_post_Read_l2 rec1 n0 p1 a2 a3 a4 a5 a6 N l.length (l.flatMap encW ++ r) 0 took = m_post_Read_k3 rec1 n0 p1 a2 a3 a4 a5 a6 r 0 (took ++ l) := by
  intro l
  induction l with
  | nil =>
    intro N r took _ _ _ _ hN _
    obtain ⟨N, rfl⟩ : ∃ n', N = n' + 1 := ⟨N - 1, by omega⟩
    rw [m_post_Read_l2, m_post_Read_l2_B]
    simp [m_post_Read_k2]
  | cons w l ih =>
    intro N r took hw hl hr hlen hN ht
    obtain ⟨N, rfl⟩ : ∃ n', N = n' + 1 := ⟨N - 1, by omega⟩
    have hw0 := hw w List.mem_cons_self
    have h0 : (0 : Int) < ((w :: l).length : Int) := by rw [List.length_cons]; omega
    have hk : natR ((w :: l).length : Int) := len_natR hl
    have hrest : BY (l.flatMap encW ++ r) := BY_app (flat_BY _ fun x _ => encW_BY x) hr
    rw [List.flatMap_cons, List.append_assoc, List.length_append] at hlen
    have e : (w :: l).flatMap encW ++ r = encN w.Part ++ (encN w.Inst ++ (l.flatMap encW ++ r)) := by simp [encW]
    have hle : (encN w.Inst ++ (l.flatMap encW ++ r)).length ≤ 50000000000 := by
      rw [List.length_append]
      have : (encW w).length = (encN w.Part).length + (encN w.Inst).length := by simp [encW]
      omega
    rw [m_post_Read_l2, m_post_Read_l2_B, decide_eq_true h0, if_pos rfl, decide_eq_true (rfl : (0 : Int) = 0), e]
    unfold m_post_Read_k2
    rw [if_pos rfl, next_fwd hw0.1 (BY_app (encN_BY _) hrest) hle, bnd_some, next_fwd hw0.2 hrest (by omega), bnd_some, if_pos (capB_small (by rw [List.length_cons] at ht; omega)), (wrap_dec hk h0).1]
    have e2 : ((w :: l).length : Int) - 1 = (l.length : Int) := by simp
    rw [e2, ih N r _ (fun x hx => hw x (List.mem_cons_of_mem _ hx)) (by simp at hl; omega) hr (by omega) (by simp at hN; omega) (by simp at ht ⊢; omega)]
    simp
end
section
variable {r0 : Int × Treader}
theorem l1_any : ∀ (N : Nat) (k : Int) (b : List Int) (e : Int) (ps : List TMail), natR k → BY b → b.length ≤ 3000 → b.length + flg e < N → ps.length + b.length + flg e ≤ 500000000000 →
    ∃ ps' b' e', m_post_Read_l1 r0 N k b e ps = m_post_Read_k4 r0 b' e' ps' ∧ BY b' ∧ b'.length ≤ b.length ∧
      (e' = 0 → e = 0 ∧ ∃ l, ps' = ps ++ l ∧ (l.length : Int) = k ∧ (∀ m ∈ l, PutM m) ∧ b = l.flatMap encM ++ b') := by
  intro N
  induction N with
  | zero => intro k b e ps hk hb hl hN; omega
  | succ N ih =>
    intro k b e ps hk hb hl hN ht
    have stop : ∃ ps' b' e', m_post_Read_k1 (m_post_Read_l1 r0 N) r0 k b e ps false = m_post_Read_k4 r0 b' e' ps' ∧ BY b' ∧ b'.length ≤ b.length ∧
        (e' = 0 → e = 0 ∧ ((k = 0) → ∃ l, ps' = ps ++ l ∧ (l.length : Int) = k ∧ (∀ m ∈ l, PutM m) ∧ b = l.flatMap encM ++ b')) :=
      ⟨ps, b, e, rfl, hb, Nat.le_refl _, fun h => ⟨h, fun h0 => ⟨[], by simp, by simp [h0], by simp, by simp⟩⟩⟩
    rw [m_post_Read_l1, m_post_Read_l1_B]
    by_cases h0 : 0 < k
    · by_cases he : e = 0
      · subst he
        rw [decide_eq_true h0, if_pos rfl, decide_eq_true (rfl : (0 : Int) = 0)]
        unfold m_post_Read_k1
        rw [flg_0] at hN ht
        obtain ⟨x2, s2, g1, g2, g3, g4, g5⟩ := next_any b 0 hb (by omega)
        obtain ⟨x3, s3, i1, i2, i3, i4, i5⟩ := name_any s2.f_b s2.f_err g2 (by omega)
        obtain ⟨x4, s4, j1, j2, j3, j4, j5⟩ := key_any s3.f_b s3.f_err i2 (by omega)
        obtain ⟨x5, s5, k1, k2, k3, k4, k5⟩ := vars_any s4.f_b s4.f_err j2 (by omega)
        obtain ⟨x6, s6, m1, m2, m3, m4, m5⟩ := next_any s5.f_b s5.f_err k2 (by omega)
        obtain ⟨x7, s7, q1, q2, q3, q4, q5⟩ := next_any s6.f_b s6.f_err m2 (by omega)
        have i1' : m_post_reader_name s2 = some (x3, s3) := i1
        have j1' : m_post_reader_key s3 = some (x4, s4) := j1
        have k1' : m_post_reader_vars s4 = some (x5, s5) := k1
        have m1' : m_post_reader_next s5 = some (x6, s6) := m1
        have q1' : m_post_reader_next s6 = some (x7, s7) := q1
        rw [if_pos rfl, g1, bnd_some, i1', bnd_some, j1', bnd_some, k1', bnd_some, m1', bnd_some, q1', bnd_some]
        have hf7 := flg_le s7.f_err
        obtain ⟨took', b', e', w1, w2, w3, w4⟩ := l2_any (rec1 := m_post_Read_l1 r0 N) (n0 := k) (p1 := ps) (a2 := (x2, s2)) (a3 := (x3, s3)) (a4 := (x4, s4)) (a5 := (x5, s5)) (a6 := (x6, s6)) 1000000 x7 s7.f_b s7.f_err [] q4 q2 (by omega) (by omega) (by simp; omega)
        rw [w1]
        unfold m_post_Read_k3
        rw [if_pos (capB_small (by omega)), (wrap_dec hk h0).1]
        have good : e' = 0 → PutM ⟨x2, x3, x4, x5, x6, took'⟩ ∧ b = encM ⟨x2, x3, x4, x5, x6, took'⟩ ++ b' := by
          intro h
          obtain ⟨z7, l, l1, l2, l3, l4⟩ := w4 h
          obtain ⟨z6, _, c7⟩ := q5 z7
          obtain ⟨z5, _, c6⟩ := m5 z6
          obtain ⟨z4, v5, c5⟩ := k5 z5
          obtain ⟨z3, _, c4⟩ := j5 z4
          obtain ⟨z2, v3, c3⟩ := i5 z3
          obtain ⟨_, _, c2⟩ := g5 z2
          simp only [List.nil_append] at l1
          subst l1
          refine ⟨⟨g4, by have := v3; simp only at this ⊢; omega, j4, v5.1, v5.2, m4, l3⟩, ?_⟩
          have e7 : encN x7 = encU took'.length := by rw [← l2]; rfl
          rw [c2, c3, c4, c5, c6, c7, l4, e7]
          simp [encM]
        have hlen : b'.length + flg e' < b.length + 1 := by
          by_cases hs : e' = 0
          · have c := congrArg List.length (good hs).2
            rw [List.length_append] at c
            have : 2 ≤ (encM ⟨x2, x3, x4, x5, x6, took'⟩).length := by
              have := encU_pos x2.toNat
              have := encU_pos (zz x4)
              unfold encM encN
              simp only [List.length_append]
              omega
            have := flg_le e'
            omega
          · rw [flg_ne hs]; omega
        obtain ⟨ps', b'', e'', u1, u2, u3, u4⟩ := ih (k - 1) b' e' (ps ++ [⟨x2, x3, x4, x5, x6, took'⟩]) (wrap_dec hk h0).2 w2 (by omega) (by omega) (by rw [List.length_append, List.length_singleton]; omega)
        refine ⟨ps', b'', e'', u1, u2, by omega, fun h => ⟨rfl, ?_⟩⟩
        obtain ⟨hs, l, l1, l2, l3, l4⟩ := u4 h
        obtain ⟨p1, p2⟩ := good hs
        refine ⟨⟨x2, x3, x4, x5, x6, took'⟩ :: l, by rw [l1]; simp, by rw [List.length_cons]; omega, fun w hw => ?_, ?_⟩
        · rcases List.mem_cons.1 hw with rfl | hw
          · exact p1
          · exact l3 w hw
        · rw [p2, l4]
          simp
      · rw [decide_eq_true h0, if_pos rfl, decide_eq_false he]
        obtain ⟨took', b', e', w1, w2, w3, w4⟩ := stop
        refine ⟨took', b', e', w1, w2, w3, fun h => absurd (w4 h).1 he⟩
    · rw [decide_eq_false h0, if_neg (by simp)]
      obtain ⟨took', b', e', w1, w2, w3, w4⟩ := stop
      refine ⟨took', b', e', w1, w2, w3, fun h => ⟨(w4 h).1, (w4 h).2 (by unfold natR at hk; omega)⟩⟩
theorem l1_fwd : ∀ (l : List TMail) (N : Nat) (r : List Int) (ps : List TMail), (∀ m ∈ l, PutM m ∧ m.Took.length < 1000000) → l.length ≤ 1099511627776 → BY r → (l.flatMap encM ++ r).length ≤ 40000000000 → l.length < N → ps.length + l.length ≤ 500000000000 →
    m_post_Read_l1 r0 N l.length (l.flatMap encM ++ r) 0 ps = m_post_Read_k4 r0 r 0 (ps ++ l) := by
  intro l
  induction l with
  | nil =>
    intro N r ps _ _ _ _ hN _
    obtain ⟨N, rfl⟩ : ∃ n', N = n' + 1 := ⟨N - 1, by omega⟩
    rw [m_post_Read_l1, m_post_Read_l1_B]
    simp [m_post_Read_k1]
  | cons m l ih =>
    intro N r ps hm hl hr hlen hN ht
    obtain ⟨N, rfl⟩ : ∃ n', N = n' + 1 := ⟨N - 1, by omega⟩
    obtain ⟨hm0, hm1⟩ := hm m List.mem_cons_self
    have h0 : (0 : Int) < ((m :: l).length : Int) := by rw [List.length_cons]; omega
    have hk : natR ((m :: l).length : Int) := len_natR hl
    have hrest : BY (l.flatMap encM ++ r) := BY_app (flat_BY _ fun x _ => encM_BY x) hr
    rw [List.flatMap_cons, List.append_assoc, List.length_append] at hlen
    have e : (m :: l).flatMap encM ++ r = encN m.Id ++ (encT m.Name ++ (encU (zz m.Key) ++ (encVs m.Vars ++ (encN m.Until ++ (encU m.Took.length ++ (m.Took.flatMap encW ++ (l.flatMap encM ++ r))))))) := by simp [encM]
    have hel : (encM m).length = (encN m.Id).length + ((encT m.Name).length + ((encU (zz m.Key)).length + ((encVs m.Vars).length + ((encN m.Until).length + ((encU m.Took.length).length + (m.Took.flatMap encW).length))))) := by simp only [encM, List.length_append]
    have b7 : BY (m.Took.flatMap encW ++ (l.flatMap encM ++ r)) := BY_app (flat_BY _ fun x _ => encW_BY x) hrest
    have b6 : BY (encU m.Took.length ++ (m.Took.flatMap encW ++ (l.flatMap encM ++ r))) := BY_app (encU_bytes _) b7
    have b5 := BY_app (encN_BY m.Until) b6
    have b4 := BY_app (encVs_bytes m.Vars) b5
    have b3 := BY_app (encU_bytes (zz m.Key)) b4
    have b2 := BY_app (encT_BY m.Name) b3
    rw [m_post_Read_l1, m_post_Read_l1_B, decide_eq_true h0, if_pos rfl, decide_eq_true (rfl : (0 : Int) = 0), e]
    unfold m_post_Read_k1
    have hn7 : m_post_reader_next ⟨encU m.Took.length ++ (m.Took.flatMap encW ++ (l.flatMap encM ++ r)), 0⟩ = some ((m.Took.length : Int), ⟨m.Took.flatMap encW ++ (l.flatMap encM ++ r), 0⟩) :=
      next_fwd (x := (m.Took.length : Int)) (len_natR (by omega)) b7 (by simp only [List.length_append] at hlen ⊢; omega)
    rw [if_pos rfl, next_fwd hm0.id b2 (by simp only [List.length_append] at hlen ⊢; omega), bnd_some, name_fwd hm0.name b3 (by simp only [List.length_append] at hlen ⊢; omega), bnd_some, key_fwd hm0.key b4 (by simp only [List.length_append] at hlen ⊢; omega), bnd_some, vars_fwd hm0.vars hm0.vals b5 (by simp only [List.length_append] at hlen ⊢; omega), bnd_some, next_fwd hm0.til b6 (by simp only [List.length_append] at hlen ⊢; omega), bnd_some, hn7, bnd_some]
    rw [l2_fwd m.Took 1000000 (l.flatMap encM ++ r) [] hm0.tk (by omega) hrest (by simp only [List.length_append] at hlen ⊢; omega) hm1 (by simp; omega)]
    unfold m_post_Read_k3
    rw [if_pos (capB_small (by rw [List.length_cons] at ht; omega)), (wrap_dec hk h0).1]
    have e2 : ((m :: l).length : Int) - 1 = (l.length : Int) := by simp
    simp only [e2, List.nil_append]
    rw [ih N r _ (fun x hx => hm x (List.mem_cons_of_mem _ hx)) (by simp at hl; omega) hr (by omega) (by simp at hN; omega) (by simp at ht ⊢; omega)]
    simp
theorem l3_any {ps : List TMail} : ∀ (N : Nat) (k : Int) (b : List Int) (e : Int) (ss : List TSub), natR k → BY b → b.length ≤ 3000 → b.length + flg e < N → ss.length + b.length + flg e ≤ 500000000000 →
    ∃ ss' b' e', m_post_Read_l3 r0 ps N k b e ss = m_post_Read_k6 r0 ps b' e' ss' ∧ BY b' ∧ b'.length ≤ b.length ∧
      (e' = 0 → e = 0 ∧ ∃ l, ss' = ss ++ l ∧ (l.length : Int) = k ∧ (∀ s ∈ l, PutS s) ∧ b = l.flatMap encS ++ b') := by
  intro N
  induction N with
  | zero => intro k b e ss hk hb hl hN; omega
  | succ N ih =>
    intro k b e ss hk hb hl hN ht
    have stop : ∃ ss' b' e', m_post_Read_k5 (m_post_Read_l3 r0 ps N) r0 ps k b e ss false = m_post_Read_k6 r0 ps b' e' ss' ∧ BY b' ∧ b'.length ≤ b.length ∧
        (e' = 0 → e = 0 ∧ ((k = 0) → ∃ l, ss' = ss ++ l ∧ (l.length : Int) = k ∧ (∀ s ∈ l, PutS s) ∧ b = l.flatMap encS ++ b')) :=
      ⟨ss, b, e, rfl, hb, Nat.le_refl _, fun h => ⟨h, fun h0 => ⟨[], by simp, by simp [h0], by simp, by simp⟩⟩⟩
    rw [m_post_Read_l3, m_post_Read_l3_B]
    by_cases h0 : 0 < k
    · by_cases he : e = 0
      · subst he
        rw [decide_eq_true h0, if_pos rfl, decide_eq_true (rfl : (0 : Int) = 0)]
        unfold m_post_Read_k5
        rw [flg_0] at hN ht
        obtain ⟨x2, s2, g1, g2, g3, g4, g5⟩ := next_any b 0 hb (by omega)
        obtain ⟨x3, s3, i1, i2, i3, i4, i5⟩ := next_any s2.f_b s2.f_err g2 (by omega)
        obtain ⟨x4, s4, j1, j2, j3, j4, j5⟩ := next_any s3.f_b s3.f_err i2 (by omega)
        obtain ⟨x5, s5, k1, k2, k3, k4, k5⟩ := name_any s4.f_b s4.f_err j2 (by omega)
        obtain ⟨x6, s6, m1, m2, m3, m4, m5⟩ := key_any s5.f_b s5.f_err k2 (by omega)
        obtain ⟨x7, s7, q1, q2, q3, q4, q5⟩ := next_any s6.f_b s6.f_err m2 (by omega)
        have i1' : m_post_reader_next s2 = some (x3, s3) := i1
        have j1' : m_post_reader_next s3 = some (x4, s4) := j1
        have k1' : m_post_reader_name s4 = some (x5, s5) := k1
        have m1' : m_post_reader_key s5 = some (x6, s6) := m1
        have q1' : m_post_reader_next s6 = some (x7, s7) := q1
        rw [if_pos rfl, g1, bnd_some, i1', bnd_some, j1', bnd_some, k1', bnd_some, m1', bnd_some, q1', bnd_some, if_pos (capB_small (by omega)), (wrap_dec hk h0).1]
        have good : s7.f_err = 0 → PutS ⟨x2, x3, x4, x5, x6, x7⟩ ∧ b = encS ⟨x2, x3, x4, x5, x6, x7⟩ ++ s7.f_b := by
          intro z7
          obtain ⟨z6, _, c7⟩ := q5 z7
          obtain ⟨z5, _, c6⟩ := m5 z6
          obtain ⟨z4, v5, c5⟩ := k5 z5
          obtain ⟨z3, _, c4⟩ := j5 z4
          obtain ⟨z2, _, c3⟩ := i5 z3
          obtain ⟨_, _, c2⟩ := g5 z2
          refine ⟨⟨g4, i4, j4, by have := v5; simp only at this ⊢; omega, m4, q4⟩, ?_⟩
          rw [c2, c3, c4, c5, c6, c7]
          simp [encS]
        have hlen : s7.f_b.length + flg s7.f_err < b.length + 1 := by
          by_cases hs : s7.f_err = 0
          · have c := congrArg List.length (good hs).2
            rw [List.length_append] at c
            have : 2 ≤ (encS ⟨x2, x3, x4, x5, x6, x7⟩).length := by
              have := encU_pos x2.toNat
              have := encU_pos x3.toNat
              unfold encS encN
              simp only [List.length_append]
              omega
            have := flg_le s7.f_err
            omega
          · rw [flg_ne hs]; omega
        obtain ⟨ss', b'', e'', u1, u2, u3, u4⟩ := ih (k - 1) s7.f_b s7.f_err (ss ++ [⟨x2, x3, x4, x5, x6, x7⟩]) (wrap_dec hk h0).2 q2 (by omega) (by omega) (by rw [List.length_append, List.length_singleton]; omega)
        refine ⟨ss', b'', e'', u1, u2, by omega, fun h => ⟨rfl, ?_⟩⟩
        obtain ⟨hs, l, l1, l2, l3, l4⟩ := u4 h
        obtain ⟨p1, p2⟩ := good hs
        refine ⟨⟨x2, x3, x4, x5, x6, x7⟩ :: l, by rw [l1]; simp, by rw [List.length_cons]; omega, fun w hw => ?_, ?_⟩
        · rcases List.mem_cons.1 hw with rfl | hw
          · exact p1
          · exact l3 w hw
        · rw [p2, l4]
          simp
      · rw [decide_eq_true h0, if_pos rfl, decide_eq_false he]
        obtain ⟨took', b', e', w1, w2, w3, w4⟩ := stop
        refine ⟨took', b', e', w1, w2, w3, fun h => absurd (w4 h).1 he⟩
    · rw [decide_eq_false h0, if_neg (by simp)]
      obtain ⟨took', b', e', w1, w2, w3, w4⟩ := stop
      refine ⟨took', b', e', w1, w2, w3, fun h => ⟨(w4 h).1, (w4 h).2 (by unfold natR at hk; omega)⟩⟩
theorem l3_fwd {ps : List TMail} : ∀ (l : List TSub) (N : Nat) (r : List Int) (ss : List TSub), (∀ s ∈ l, PutS s) → l.length ≤ 1099511627776 → BY r → (l.flatMap encS ++ r).length ≤ 40000000000 → l.length < N → ss.length + l.length ≤ 500000000000 →
    m_post_Read_l3 r0 ps N l.length (l.flatMap encS ++ r) 0 ss = m_post_Read_k6 r0 ps r 0 (ss ++ l) := by
  intro l
  induction l with
  | nil =>
    intro N r ss _ _ _ _ hN _
    obtain ⟨N, rfl⟩ : ∃ n', N = n' + 1 := ⟨N - 1, by omega⟩
    rw [m_post_Read_l3, m_post_Read_l3_B]
    simp [m_post_Read_k5]
  | cons s l ih =>
    intro N r ss hm hl hr hlen hN ht
    obtain ⟨N, rfl⟩ : ∃ n', N = n' + 1 := ⟨N - 1, by omega⟩
    have hm0 := hm s List.mem_cons_self
    have h0 : (0 : Int) < ((s :: l).length : Int) := by rw [List.length_cons]; omega
    have hk : natR ((s :: l).length : Int) := len_natR hl
    have hrest : BY (l.flatMap encS ++ r) := BY_app (flat_BY _ fun x _ => encS_BY x) hr
    rw [List.flatMap_cons, List.append_assoc, List.length_append] at hlen
    have e : (s :: l).flatMap encS ++ r = encN s.Part ++ (encN s.Id ++ (encN s.Inst ++ (encT s.Name ++ (encU (zz s.Key) ++ (encN s.Mail ++ (l.flatMap encS ++ r)))))) := by simp [encS]
    have hel : (encS s).length = (encN s.Part).length + ((encN s.Id).length + ((encN s.Inst).length + ((encT s.Name).length + ((encU (zz s.Key)).length + (encN s.Mail).length)))) := by simp only [encS, List.length_append]
    have b6 := BY_app (encN_BY s.Mail) hrest
    have b5 := BY_app (encU_bytes (zz s.Key)) b6
    have b4 := BY_app (encT_BY s.Name) b5
    have b3 := BY_app (encN_BY s.Inst) b4
    have b2 := BY_app (encN_BY s.Id) b3
    rw [m_post_Read_l3, m_post_Read_l3_B, decide_eq_true h0, if_pos rfl, decide_eq_true (rfl : (0 : Int) = 0), e]
    unfold m_post_Read_k5
    rw [if_pos rfl, next_fwd hm0.part b2 (by simp only [List.length_append] at hlen ⊢; omega), bnd_some, next_fwd hm0.id b3 (by simp only [List.length_append] at hlen ⊢; omega), bnd_some, next_fwd hm0.inst b4 (by simp only [List.length_append] at hlen ⊢; omega), bnd_some, name_fwd hm0.name b5 (by simp only [List.length_append] at hlen ⊢; omega), bnd_some, key_fwd hm0.key b6 (by simp only [List.length_append] at hlen ⊢; omega), bnd_some, next_fwd hm0.mail hrest (by simp only [List.length_append] at hlen ⊢; omega), bnd_some, if_pos (capB_small (by rw [List.length_cons] at ht; omega)), (wrap_dec hk h0).1]
    have e2 : ((s :: l).length : Int) - 1 = (l.length : Int) := by simp
    simp only [e2]
    rw [ih N r _ (fun x hx => hm x (List.mem_cons_of_mem _ hx)) (by simp at hl; omega) hr (by omega) (by simp at hN; omega) (by simp at ht ⊢; omega)]
    simp
end
end Go.Proofs.Ytefjblgmnoheiaa.R

/- Plain law of PostBack. -/
set_option maxRecDepth 100000
set_option linter.unusedVariables false
set_option linter.unusedSimpArgs false
noncomputable section
namespace Go.Proofs.Ytefjblgmnoheiaa.R
open Go
theorem natR_in {n : Int} (h : natR n) : inR n := by unfold natR at h; unfold inR; omega
theorem PutM.ok {m : TMail} (h : PutM m) (hl : m.Took.length ≤ big63) : OkM m := by
  obtain ⟨c1, c2, c3⟩ := chk_ok h.vars
  refine ⟨natR_in h.id, h.key, natR_in h.til, by have := h.name; unfold big63; omega, ⟨by unfold big63; omega, by unfold big63; omega, fun s hs => by have := c3 s hs; unfold big63; omega, h.vals⟩, hl, fun w hw => ⟨natR_in (h.tk w hw).1, natR_in (h.tk w hw).2⟩⟩
theorem PutS.ok {s : TSub} (h : PutS s) : OkS s := ⟨natR_in h.part, natR_in h.id, natR_in h.inst, h.key, natR_in h.mail, by have := h.name; unfold big63; omega⟩
theorem encM_took (m : TMail) : m.Took.length ≤ (encM m).length := by
  have := flat_len (f := encW) m.Took fun x _ => by
    have := encU_pos x.Part.toNat
    unfold encW encN
    simp; omega
  unfold encM
  simp only [List.length_append]
  omega
theorem mem_flat {α : Type} {f : α → List Int} {x : α} : ∀ {l : List α}, x ∈ l → (f x).length ≤ (l.flatMap f).length
  | y :: l, h => by
    rw [List.flatMap_cons, List.length_append]
    rcases List.mem_cons.1 h with rfl | h
    · omega
    · have := mem_flat (f := f) h
      omega
theorem read_any {b : List Int} (hb : BY b) (hl : b.length ≤ 3000) : ∃ x r e, m_post_Read b = some (x, r, e) ∧ (e = 0 → PutP x ∧ pchk x = 0 ∧ b = encP x ++ r) := by
  unfold m_post_Read
  obtain ⟨x0, s0, g1, g2, g3, g4, g5⟩ := next_any b 0 hb (by omega)
  obtain ⟨x1, s1, i1, i2, i3, i4, i5⟩ := next_any s0.f_b s0.f_err g2 (by omega)
  have i1' : m_post_reader_next s0 = some (x1, s1) := i1
  rw [g1, bnd_some, i1', bnd_some]
  have hf := flg_le s1.f_err
  obtain ⟨ms, b2, e2, w1, w2, w3, w4⟩ := l1_any (r0 := (x0, s0)) 1000000 x1 s1.f_b s1.f_err [] i4 i2 (by omega) (by omega) (by simp; omega)
  rw [w1]
  unfold m_post_Read_k4
  obtain ⟨x3, s3, j1, j2, j3, j4, j5⟩ := next_any b2 e2 w2 (by omega)
  rw [j1, bnd_some]
  have hf3 := flg_le s3.f_err
  obtain ⟨ss, b4, e4, u1, u2, u3, u4⟩ := l3_any (r0 := (x0, s0)) (ps := ms) 1000000 x3 s3.f_b s3.f_err [] j4 j2 (by omega) (by omega) (by simp; omega)
  rw [u1]
  unfold m_post_Read_k6
  by_cases he : e4 = 0
  · rw [decide_eq_true he, if_pos rfl]
    obtain ⟨z3, l', l1', l2', l3', l4'⟩ := u4 he
    obtain ⟨z2, _, c3⟩ := j5 z3
    obtain ⟨z1, l, l1, l2, l3, l4⟩ := w4 z2
    obtain ⟨z0, _, c1⟩ := i5 z1
    obtain ⟨_, _, c0⟩ := g5 z0
    simp only [List.nil_append] at l1 l1'
    subst l1; subst l1'
    have hP : PutP ⟨x0, ms, ss⟩ := ⟨g4, l3, l3'⟩
    have hE : b = encP ⟨x0, ms, ss⟩ ++ b4 := by
      have q1 : encN x1 = encU ms.length := by rw [← l2]; rfl
      have q2 : encN x3 = encU ss.length := by rw [← l2']; rfl
      rw [c0, c1, l4, c3, l4', q1, q2]
      simp [encP]
    have hlE : (encP ⟨x0, ms, ss⟩).length ≤ 3000 := by
      have := congrArg List.length hE
      rw [List.length_append] at this
      omega
    unfold encP at hlE
    simp only [List.length_append] at hlE
    have hml : ms.length ≤ (ms.flatMap encM).length := flat_len _ fun x _ => by
      have := encU_pos x.Id.toNat
      unfold encM encN
      simp; omega
    have hsl : ss.length ≤ (ss.flatMap encS).length := flat_len _ fun x _ => by
      have := encU_pos x.Part.toNat
      unfold encS encN
      simp; omega
    have hO : OkP ⟨x0, ms, ss⟩ := by
      refine ⟨natR_in g4, by show ms.length ≤ _; unfold big63; omega, by show ss.length ≤ _; unfold big63; omega, fun m hm => (l3 m hm).ok ?_, fun s hs => (l3' s hs).ok⟩
      have h1 := encM_took m
      have h2 := mem_flat (f := encM) hm
      simp only at h2
      unfold big63
      omega
    simp only
    rw [post_Check hO, bnd_some]
    unfold m_post_Read_k7
    by_cases hc : pchk ⟨x0, ms, ss⟩ = 0
    · refine ⟨⟨x0, ms, ss⟩, b4, 0, by simp [hc], fun _ => ⟨hP, hc, hE⟩⟩
    · refine ⟨⟨0, [], []⟩, [], pchk ⟨x0, ms, ss⟩, by simp [hc], fun h => absurd h hc⟩
  · rw [decide_eq_false he, if_neg (by simp)]
    unfold m_post_Read_k7
    exact ⟨⟨0, [], []⟩, [], e4, by simp [he], fun h => absurd h he⟩
theorem read_fwd {p : TPost} {r : List Int} (hp : PutP p) (hO : OkP p) (hc : pchk p = 0) (hr : BY r) (hm : p.Mails.length < 1000000) (hs : p.Subs.length < 1000000) (ht : ∀ m ∈ p.Mails, m.Took.length < 1000000) (hl : (encP p ++ r).length ≤ 20000000000) :
    m_post_Read (encP p ++ r) = some (p, r, 0) := by
  unfold m_post_Read
  have e : encP p ++ r = encN p.Next ++ (encU p.Mails.length ++ (p.Mails.flatMap encM ++ (encU p.Subs.length ++ (p.Subs.flatMap encS ++ r)))) := by simp [encP]
  rw [e] at hl ⊢
  have b4 : BY (p.Subs.flatMap encS ++ r) := BY_app (flat_BY _ fun x _ => encS_BY x) hr
  have b3 : BY (encU p.Subs.length ++ (p.Subs.flatMap encS ++ r)) := BY_app (encU_bytes _) b4
  have b2 : BY (p.Mails.flatMap encM ++ (encU p.Subs.length ++ (p.Subs.flatMap encS ++ r))) := BY_app (flat_BY _ fun x _ => encM_BY x) b3
  have b1 : BY (encU p.Mails.length ++ (p.Mails.flatMap encM ++ (encU p.Subs.length ++ (p.Subs.flatMap encS ++ r)))) := BY_app (encU_bytes _) b2
  have n1 : m_post_reader_next ⟨encU p.Mails.length ++ (p.Mails.flatMap encM ++ (encU p.Subs.length ++ (p.Subs.flatMap encS ++ r))), 0⟩ = some ((p.Mails.length : Int), ⟨p.Mails.flatMap encM ++ (encU p.Subs.length ++ (p.Subs.flatMap encS ++ r)), 0⟩) :=
    next_fwd (x := (p.Mails.length : Int)) (len_natR (by omega)) b2 (by simp only [List.length_append] at hl ⊢; omega)
  have n2 : m_post_reader_next ⟨encU p.Subs.length ++ (p.Subs.flatMap encS ++ r), 0⟩ = some ((p.Subs.length : Int), ⟨p.Subs.flatMap encS ++ r, 0⟩) :=
    next_fwd (x := (p.Subs.length : Int)) (len_natR (by omega)) b4 (by simp only [List.length_append] at hl ⊢; omega)
  rw [next_fwd hp.next b1 (by simp only [List.length_append] at hl ⊢; omega), bnd_some, n1, bnd_some]
  rw [l1_fwd p.Mails 1000000 (encU p.Subs.length ++ (p.Subs.flatMap encS ++ r)) [] (fun m h => ⟨hp.mails m h, ht m h⟩) (by omega) b3 (by simp only [List.length_append] at hl ⊢; omega) hm (by simp; omega)]
  unfold m_post_Read_k4
  rw [n2, bnd_some]
  rw [l3_fwd p.Subs 1000000 r [] hp.subs (by omega) hr (by simp only [List.length_append] at hl ⊢; omega) hs (by simp; omega)]
  unfold m_post_Read_k6 m_post_Read_k7
  simp only [List.nil_append, decide_true, if_true]
  have e2 : (TPost.mk p.Next p.Mails p.Subs) = p := rfl
  rw [e2, post_Check hO, bnd_some, hc]
  simp
theorem subsB_all {next : Int} : ∀ {q : Option TSub} {l : List TSub}, subsB next q l = true → ∀ s ∈ l, subB s = true
  | _, [], _, s, hs => by cases hs
  | q, x :: l, h, s, hs => by
    simp only [subsB, Bool.and_eq_true] at h
    rcases List.mem_cons.1 hs with rfl | hs
    · exact h.1
    · exact subsB_all h.2.2.2 s hs
theorem mailsE_all {next : Int} : ∀ {q : Int} {l : List TMail}, mailsE next q l = 0 → ∀ m ∈ l, mchk m = 0
  | _, [], _, m, hm => by cases hm
  | q, x :: l, h, m, hm => by
    simp only [mailsE] at h
    split at h
    · rename_i h0; exact absurd h h0
    · rename_i h0
      split at h
      · cases h
      · rcases List.mem_cons.1 hm with rfl | hm
        · simpa using h0
        · exact mailsE_all h m hm
theorem whosB_all : ∀ {pre l : List TWho}, whosB pre l = true → ∀ w ∈ l, whoB w = true
  | _, [], _, w, hw => by cases hw
  | pre, x :: l, h, w, hw => by
    simp only [whosB, Bool.and_eq_true] at h
    rcases List.mem_cons.1 hw with rfl | hw
    · exact h.1
    · exact whosB_all h.2.2 w hw
theorem nameB_small {s : ByteArray} (h : nameB s = true) : s.size ≤ 32 := by
  unfold nameB nameL at h
  simp only [Bool.and_eq_true, decide_eq_true_eq] at h
  have := h.2.2
  rwa [bytesI_len] at this
theorem pchk_put {p : TPost} (hO : OkP p) (hc : pchk p = 0) : PutP p := by
  unfold pchk at hc
  split at hc
  · rename_i h1
    split at hc
    · cases hc
    · split at hc
      · rename_i h2; exact absurd hc h2
      · rename_i h2
        split at hc
        · rename_i h3
          have h2 : mailsE p.Next 0 p.Mails = 0 := by simpa using h2
          rw [inZ_iff] at h1
          refine ⟨⟨by omega, h1.2⟩, fun m hm => ?_, fun s hs => ?_⟩
          · obtain ⟨m1, m2, m3, m4, m5, m6, m7⟩ := mchk_id (mailsE_all h2 m hm)
            have hm' := hO.mails m hm
            refine ⟨⟨by omega, m2⟩, by have := nameB_small m3; omega, hm'.key, m6, hm'.vars.vals, ⟨m4, m5⟩, fun w hw => ?_⟩
            have := whosB_all m7 w hw
            unfold whoB at this
            simp only [Bool.and_eq_true, inZ_iff, most] at this
            unfold natR
            omega
          · have := subsB_all h3 s hs
            unfold subB at this
            simp only [Bool.and_eq_true, inZ_iff, most] at this
            obtain ⟨a, b, c, d, e⟩ := this
            refine ⟨⟨by omega, by omega⟩, ⟨by omega, by omega⟩, ⟨by omega, by omega⟩, by have := nameB_small d; omega, (hO.subs s hs).key, ⟨by omega, by omega⟩⟩
        · cases hc
  · cases hc
theorem may_ok {p : TPost} (hp : OkP p) : ∃ b, m_law22_may p = some b ∧ (b = true → SmallP p ∧ pchk p = 0) := by
  obtain ⟨b, h1, h2⟩ := light_ok hp
  unfold m_law22_may
  rw [h1, bnd_some]
  cases b with
  | false => exact ⟨false, rfl, by simp⟩
  | true =>
    rw [if_pos rfl, ref22_Check hp, bnd_some]
    exact ⟨_, rfl, fun h => ⟨h2 rfl, by simpa using h⟩⟩
theorem encP_small {p : TPost} (hs : SmallP p) (hp : PutP p) : (encP p).length ≤ 1000000000 := by
  have h1 : (p.Mails.flatMap encM).length ≤ 200000 * p.Mails.length := flat_max _ fun m hm => by
    have a := hs.mails m hm
    have b := hp.mails m hm
    have e1 := encN_len b.id
    have e2 := encN_len b.til
    have e3 := encU_len10 (n := zz m.Key) (zz_lt b.key)
    have e4 := encU_len10 (n := m.Name.size) (by have := b.name; omega)
    have e5 := b.name
    have e6 := bytesI_len m.Name
    have e7 := encVs_len b.vars b.vals
    have e8 := a.took
    have e9 := encU_len10 (n := m.Took.length) (by omega)
    have e10 : (m.Took.flatMap encW).length ≤ 20 * m.Took.length := flat_max _ fun w hw => by
      have := b.tk w hw
      have h1 := encN_len this.1
      have h2 := encN_len this.2
      unfold encW
      rw [List.length_append]
      omega
    unfold encM encT
    simp only [List.length_append]
    omega
  have h2 : (p.Subs.flatMap encS).length ≤ 20000 * p.Subs.length := flat_max _ fun s hm => by
    have b := hp.subs s hm
    have e1 := encN_len b.part
    have e2 := encN_len b.id
    have e3 := encU_len10 (n := zz s.Key) (zz_lt b.key)
    have e4 := encU_len10 (n := s.Name.size) (by have := b.name; omega)
    have e5 := b.name
    have e6 := bytesI_len s.Name
    have e7 := encN_len b.inst
    have e8 := encN_len b.mail
    unfold encS encT
    simp only [List.length_append]
    omega
  have e1 := encN_len hp.next
  have e2 := encU_len10 (n := p.Mails.length) (by have := hs.ml; omega)
  have e3 := encU_len10 (n := p.Subs.length) (by have := hs.sl; omega)
  have e4 := hs.ml
  have e5 := hs.sl
  unfold encP
  simp only [List.length_append]
  omega
theorem back_k2 {b : List Int} (hb : BY b) (hl : b.length ≤ 3000) : m_law22_PostBack_k2 b = some true := by
  unfold m_law22_PostBack_k2
  have hwk : m_law22_works = some true := rfl
  obtain ⟨x, r, e, h1, h2⟩ := read_any hb hl
  rw [h1, bnd_some]
  by_cases he : e = 0
  · obtain ⟨p1, p2, p3⟩ := h2 he
    have hlen : (encP x).length + r.length = b.length := by rw [p3, List.length_append]
    simp only [he, ne_eq, not_true_eq_false, decide_false, Bool.false_eq_true, if_false]
    rw [post_Put p1 (by omega), bnd_some, if_pos (capB_small (by omega)), ← p3, ref02_self, bnd_some]
    rfl
  · simp only [he, ne_eq, not_false_eq_true, decide_true, if_true]
    rfl
theorem ans_PostBack {p : TPost} {b : List Int} (hp : OkP p) (hb : BY b) : m_law22_PostBack p b = some true := by
  have hwk : m_law22_works = some true := rfl
  unfold m_law22_PostBack
  by_cases hl : (3000 : Int) < (b.length : Int)
  · rw [decide_eq_true hl, if_pos rfl, hwk]
    rfl
  · rw [decide_eq_false hl, if_neg (by simp)]
    have hk2 := back_k2 hb (by omega)
    obtain ⟨m, h1, h2⟩ := may_ok hp
    rw [h1, bnd_some]
    cases m with
    | false => simpa using hk2
    | true =>
      obtain ⟨hs, hc⟩ := h2 rfl
      have hP := pchk_put hp hc
      have hE := encP_small hs hP
      rw [if_pos rfl, post_Put hP (by omega), bnd_some, if_pos (capB_small (by omega))]
      rw [read_fwd hP hp hc hb (by have := hs.ml; omega) (by have := hs.sl; omega) (fun m hm => by have := (hs.mails m hm).took; omega) (by rw [List.length_append]; omega), bnd_some]
      simp only [ne_eq, not_true_eq_false, decide_false, Bool.false_eq_true, if_false]
      rw [ref22_Same hp, bnd_some, (sameP_iff p p).2 rfl, if_pos rfl, ref02_self, bnd_some]
      unfold m_law22_PostBack_k1
      simpa using hk2
end Go.Proofs.Ytefjblgmnoheiaa.R

