/- Plain laws: numbers, elements, lists compared. -/
import Derived.Test.YtefjblgmnoheiaaMF
import Derived.IntWalk
set_option maxRecDepth 100000
set_option linter.unusedVariables false
set_option linter.unusedSimpArgs false
noncomputable section
namespace Go.Proofs.Ytefjblgmnoheiaa.R
open Go
/-! ### Ranges -/
def inR (n : Int) : Prop := -9223372036854775808 ≤ n ∧ n ≤ 9223372036854775807
instance (n : Int) : Decidable (inR n) := inferInstanceAs (Decidable (_ ∧ _))
theorem wrap_in {n : Int} (h : inR n) : IntKind.i64.wrap n = n := IntWalk.i64_in n h
theorem wrap_r (n : Int) : inR (IntKind.i64.wrap n) := by
  unfold inR
  rw [IntKind.wrap_i64]
  omega
theorem u64_in {n : Int} (h0 : 0 ≤ n) (h1 : n < 18446744073709551616) : IntKind.u64.wrap n = n := by
  simp only [IntKind.wrap, IntKind.signed, IntKind.bits]
  simp
  omega
theorem u64_mod (n : Int) : IntKind.u64.wrap n = n % 18446744073709551616 := by
  simp only [IntKind.wrap, IntKind.signed, IntKind.bits]
  simp
theorem tmod_nn {a b : Int} (ha : 0 ≤ a) : a.tmod b = a % b := Int.tmod_eq_emod_of_nonneg ha
theorem tdiv_nn {a b : Int} (ha : 0 ≤ a) : a.tdiv b = a / b := Int.tdiv_eq_ediv_of_nonneg ha
theorem wrap_succ {k : Nat} (h : k < 9223372036854775807) : IntKind.i64.wrap ((k : Int) + 1) = ((k + 1 : Nat) : Int) := by
  rw [wrap_in (by unfold inR; omega)]
  rfl
theorem wrap_succ' {i : Int} (h0 : 0 ≤ i) (h : i < 9223372036854775807) : IntKind.i64.wrap (i + 1) = i + 1 := wrap_in (by unfold inR; omega)
/-! ### Elements -/
theorem nthI_nat {α : Type} (l : List α) (k : Nat) : nthI l (k : Int) = l[k]? := by simp [nthI]
theorem nthI_lt {α : Type} {l : List α} {k : Nat} (h : k < l.length) : nthI l (k : Int) = some l[k] := by rw [nthI_nat, List.getElem?_eq_getElem h]
theorem nthI_zero {α : Type} (l : List α) : nthI l 0 = l[0]? := by simp [nthI]
theorem nthI_one {α : Type} (l : List α) : nthI l 1 = l[1]? := by simp [nthI]
theorem bytesI_len (s : ByteArray) : (bytesI s).length = s.size := by simp [bytesI]
theorem nthS_eq (s : ByteArray) (i : Int) : nthS s i = nthI (bytesI s) i := by
  unfold nthS nthI bytesI
  split
  · rw [List.getElem?_map]
  · rfl
theorem maxLen_eq : maxLen = 9223372036854775807 := rfl
theorem capB_small {n : Nat} (h : n ≤ 549755813888) : capB n = true := by
  unfold capB limN
  simpa using h
/-! ### Two lists compared -/
def all2 {α : Type} (p : α → α → Bool) : List α → List α → Bool
  | x :: a, y :: b => p x y && all2 p a b
  | _, _ => true
def same2 {α : Type} (p : α → α → Bool) (a b : List α) : Bool := decide (a.length = b.length) && all2 p a b
theorem all2_loop {α : Type} {p : α → α → Bool} {a b : List α} (hab : a.length = b.length) (hl : a.length ≤ maxLen) {f : Nat → Int → Option Bool}
    (hf : ∀ n (k : Nat), f (n + 1) (k : Int) = if k < a.length then bnd (nthI a (k : Int)) fun x => bnd (nthI b (k : Int)) fun y => if p x y = true then f n (IntKind.i64.wrap ((k : Int) + 1)) else some false else some true) :
    ∀ (m k n : Nat), a.length - k = m → k ≤ a.length → m < n → f n (k : Int) = some (all2 p (a.drop k) (b.drop k)) := by
  intro m
  induction m with
  | zero =>
    intro k n hm hk hn
    obtain ⟨n, rfl⟩ : ∃ n', n = n' + 1 := ⟨n - 1, by omega⟩
    rw [hf, if_neg (by omega), List.drop_eq_nil_of_le (as := a) (by omega)]
    rfl
  | succ m ih =>
    intro k n hm hk hn
    obtain ⟨n, rfl⟩ : ∃ n', n = n' + 1 := ⟨n - 1, by omega⟩
    have h1 : k < a.length := by omega
    have h2 : k < b.length := by omega
    rw [maxLen_eq] at hl
    rw [hf, if_pos h1, nthI_lt h1, nthI_lt h2, bnd_some, bnd_some, wrap_succ (by omega), ih (k + 1) n (by omega) (by omega) (by omega), List.drop_eq_getElem_cons h1, List.drop_eq_getElem_cons h2]
    cases h : p a[k] b[k] <;> simp [all2, h]
theorem all2_loop0 {α : Type} {p : α → α → Bool} {a b : List α} (hab : a.length = b.length) (hl : a.length ≤ maxLen) {f : Nat → Int → Option Bool}
    (hf : ∀ n (k : Nat), f (n + 1) (k : Int) = if k < a.length then bnd (nthI a (k : Int)) fun x => bnd (nthI b (k : Int)) fun y => if p x y = true then f n (IntKind.i64.wrap ((k : Int) + 1)) else some false else some true) :
    f ((((a.length : Int)) - ((0 : Int))).toNat + 1) (0 : Int) = some (all2 p a b) := by
  have := all2_loop hab hl hf _ 0 ((((a.length : Int)) - ((0 : Int))).toNat + 1) rfl (Nat.zero_le _) (by omega)
  simpa using this
theorem all2_refl {α : Type} {p : α → α → Bool} (h : ∀ x, p x x = true) : ∀ (a : List α), all2 p a a = true
  | [] => rfl
  | x :: a => by simp [all2, h x, all2_refl h a]
theorem same2_refl {α : Type} {p : α → α → Bool} (h : ∀ x, p x x = true) (a : List α) : same2 p a a = true := by simp [same2, all2_refl h a]
theorem all2_iff {α : Type} {p : α → α → Bool} (h : ∀ x y, p x y = true ↔ x = y) : ∀ (a b : List α), a.length = b.length → (all2 p a b = true ↔ a = b)
  | [], [], _ => by simp [all2]
  | x :: a, y :: b, hl => by
    have := all2_iff h a b (by simpa using hl)
    simp [all2, h, this]
theorem same2_iff {α : Type} {p : α → α → Bool} (h : ∀ x y, p x y = true ↔ x = y) (a b : List α) : same2 p a b = true ↔ a = b := by
  unfold same2
  by_cases hl : a.length = b.length
  · simp [hl, all2_iff h a b hl]
  · simp [hl]
    rintro rfl
    exact hl rfl
end Go.Proofs.Ytefjblgmnoheiaa.R

/- Plain laws: names, variables checked. -/
set_option maxRecDepth 100000
set_option linter.unusedVariables false
set_option linter.unusedSimpArgs false
noncomputable section
namespace Go.Proofs.Ytefjblgmnoheiaa.R
open Go
def big63 : Nat := 140737488351232
/-! ### Names -/
def letB (c : Int) : Bool := decide (97 ≤ c) && decide (c ≤ 122)
def digB (c : Int) : Bool := decide (48 ≤ c) && decide (c ≤ 57)
def nameL (l : List Int) : Bool := l.all (fun c => letB c || digB c) && ((match l with | [] => false | c :: _ => letB c) && decide (l.length ≤ 32))
def nameB (s : ByteArray) : Bool := nameL (bytesI s)
def firstB : List Int → Bool
  | [] => true
  | c :: _ => letB c
theorem firstB_get : ∀ (l : List Int) (h : 0 < l.length), firstB l = letB l[0]
  | [], h => by simp at h
  | c :: r, _ => rfl
theorem ref02_loop (s : ByteArray) (hs : s.size ≤ big63) : ∀ (m k n : Nat), (bytesI s).length - k = m → k ≤ (bytesI s).length → m < n → m_ref02_Name_l1 s n (k : Int) = some (((bytesI s).drop k).all (fun c => letB c || digB c)) := by
  intro m
  induction m with
  | zero =>
    intro k n hm hk hn
    obtain ⟨n, rfl⟩ : ∃ n', n = n' + 1 := ⟨n - 1, by omega⟩
    have hk' : ¬ ((k : Int) < (s.size : Int)) := by rw [← bytesI_len]; omega
    rw [m_ref02_Name_l1, m_ref02_Name_l1_B]
    simp only [hk', decide_false, Bool.false_eq_true, if_false]
    rw [List.drop_eq_nil_of_le (by omega)]
    rfl
  | succ m ih =>
    intro k n hm hk hn
    obtain ⟨n, rfl⟩ : ∃ n', n = n' + 1 := ⟨n - 1, by omega⟩
    have hlt : k < (bytesI s).length := by omega
    have hk' : ((k : Int) < (s.size : Int)) := by rw [← bytesI_len]; omega
    have hc : nthS s (k : Int) = some (bytesI s)[k] := by rw [nthS_eq]; exact nthI_lt hlt
    have hw : IntKind.i64.wrap ((k : Int) + 1) = ((k + 1 : Nat) : Int) := wrap_succ (by have := bytesI_len s; unfold big63 at hs; omega)
    have hih : m_ref02_Name_l1 s n ((k : Int) + 1) = _ := ih (k + 1) n (by omega) (by omega) (by omega)
    rw [m_ref02_Name_l1, m_ref02_Name_l1_B, List.drop_eq_getElem_cons hlt, List.all_cons]
    simp only [hk', decide_true, if_true, hc, bnd_some]
    generalize (bytesI s)[k] = c at *
    have k3 : ∀ d e : Bool, m_ref02_Name_k3 (m_ref02_Name_l1 s n) (k : Int) d e = some ((d || e) && ((bytesI s).drop (k + 1)).all (fun c => letB c || digB c)) := by
      intro d e
      cases d <;> cases e <;> simp [m_ref02_Name_k3, m_ref02_Name_k4, hw, hih]
    have k2 : ∀ d : Bool, m_ref02_Name_k2 (m_ref02_Name_l1 s n) s (k : Int) d = some ((d || letB c) && ((bytesI s).drop (k + 1)).all (fun c => letB c || digB c)) := by
      intro d
      unfold m_ref02_Name_k2
      rw [hc, bnd_some]
      by_cases h : 97 ≤ c
      · simp only [h, decide_true, if_true, bnd_some, k3, letB, Bool.true_and]
      · simp only [h, decide_false, Bool.false_eq_true, if_false, k3, letB, Bool.false_and]
    by_cases h : 48 ≤ c
    · simp only [h, decide_true, if_true, k2, digB, Bool.true_and]
      cases decide (c ≤ 57) <;> cases letB c <;> rfl
    · simp only [h, decide_false, Bool.false_eq_true, if_false, k2, digB, Bool.false_and]
      cases letB c <;> rfl
theorem ref02_name {s : ByteArray} (hs : s.size ≤ big63) : m_ref02_Name s = some (nameB s) := by
  have hlen := bytesI_len s
  unfold m_ref02_Name nameB nameL
  by_cases h0 : s.size = 0
  · have : bytesI s = [] := List.eq_nil_of_length_eq_zero (by omega)
    simp [h0, m_ref02_Name_k1, this]
  · have h0' : ¬ ((s.size : Int) = 0) := by omega
    by_cases h1 : 32 < s.size
    · have h1' : (32 : Int) < (s.size : Int) := by omega
      have : ¬ (bytesI s).length ≤ 32 := by omega
      simp [h0', h1', m_ref02_Name_k1, this]
    · have h1' : ¬ ((32 : Int) < (s.size : Int)) := by omega
      have h32 : (bytesI s).length ≤ 32 := by omega
      have hl := ref02_loop s hs _ 0 ((((s.size : Int)) - 0).toNat + 1) rfl (Nat.zero_le _) (by omega)
      have hl : m_ref02_Name_l1 s ((((s.size : Int)) - 0).toNat + 1) 0 = _ := hl
      cases hb : bytesI s with
      | nil => rw [hb] at hlen; simp at hlen; omega
      | cons c r =>
        have hc : nthS s 0 = some c := by rw [nthS_eq, nthI_zero, hb]; rfl
        simp only [h0', h1', decide_false, Bool.false_eq_true, if_false, hc, bnd_some]
        rw [hb] at hl h32
        simp only [List.drop_zero] at hl
        unfold m_ref02_Name_k1
        by_cases h97 : c < 97
        · have : letB c = false := by unfold letB; simp; omega
          simp [h97, this]
        · simp only [h97, decide_false, Bool.false_eq_true, if_false, hl]
          have hd : letB c = (letB c || digB c) := by
            unfold letB digB
            by_cases h5 : c ≤ 57
            · omega
            · simp [h5]
          simp only [h32, decide_true, Bool.and_true, List.all_cons]
          cases hx : letB c with
          | true => simp
          | false =>
            rw [hx] at hd
            simp [← hd]
theorem pack_loop (s : ByteArray) (hs : s.size ≤ big63) : ∀ (m k n : Nat), (bytesI s).length - k = m → k ≤ (bytesI s).length → m < n →
    m_pack_Name_l1 s n (k : Int) = some (((bytesI s).drop k).all (fun c => letB c || digB c) && ((decide (k ≠ 0) || firstB (bytesI s)) && (decide (1 ≤ s.size) && decide (s.size ≤ 32)))) := by
  intro m
  induction m with
  | zero =>
    intro k n hm hk hn
    obtain ⟨n, rfl⟩ : ∃ n', n = n' + 1 := ⟨n - 1, by omega⟩
    have hk' : ¬ ((k : Int) < (((bytesI s).length : Nat) : Int)) := by omega
    rw [m_pack_Name_l1, m_pack_Name_l1_B]
    simp only [hk', decide_false, Bool.false_eq_true, if_false, m_pack_Name_k3]
    rw [List.drop_eq_nil_of_le (by omega)]
    have e1 : decide ((1 : Int) ≤ (s.size : Int)) = decide (1 ≤ s.size) := by congr 1; apply propext; omega
    have e2 : decide ((s.size : Int) ≤ 32) = decide (s.size ≤ 32) := by congr 1; apply propext; omega
    rw [e1, e2]
    by_cases h0 : k = 0
    · subst h0
      have hz : bytesI s = [] := List.eq_nil_of_length_eq_zero (by omega)
      have hz' : s.size = 0 := by rw [← bytesI_len, hz]; rfl
      simp [hz, hz', firstB]
    · simp [h0]
      by_cases h1 : 1 ≤ s.size <;> simp [h1]
  | succ m ih =>
    intro k n hm hk hn
    obtain ⟨n, rfl⟩ : ∃ n', n = n' + 1 := ⟨n - 1, by omega⟩
    have hlt : k < (bytesI s).length := by omega
    have hk' : ((k : Int) < (((bytesI s).length : Nat) : Int)) := by omega
    have hw : IntKind.i64.wrap ((k : Int) + 1) = ((k + 1 : Nat) : Int) := wrap_succ (by have := bytesI_len s; unfold big63 at hs; omega)
    have hih : m_pack_Name_l1 s n ((k : Int) + 1) = _ := ih (k + 1) n (by omega) (by omega) (by omega)
    simp only [ne_eq, Nat.add_eq_zero_iff, Nat.one_ne_zero, and_false, not_false_eq_true, decide_true, Bool.true_or, Bool.true_and] at hih
    have hnth : nthI (bytesI s) (k : Int) = some (bytesI s)[k] := nthI_lt hlt
    rw [m_pack_Name_l1, m_pack_Name_l1_B, List.drop_eq_getElem_cons hlt, List.all_cons]
    simp only [hk', decide_true, if_true, hnth, bnd_some]
    have hfirst : (decide (k ≠ 0) || firstB (bytesI s)) = (decide (k ≠ 0) || letB (bytesI s)[k]) := by
      by_cases h0 : k = 0
      · subst h0
        rw [firstB_get _ hlt]
      · simp [h0]
    rw [hfirst]
    generalize (bytesI s)[k] = c at *
    have k2 : ∀ b : Bool, m_pack_Name_k2 (m_pack_Name_l1 s n) (k : Int) b = some (!b && (((bytesI s).drop (k + 1)).all (fun c => letB c || digB c) && (decide (1 ≤ s.size) && decide (s.size ≤ 32)))) := by
      intro b
      cases b <;> simp [m_pack_Name_k2, hw, hih]
    have hk0 : decide ((k : Int) = 0) = !decide (k ≠ 0) := by
      by_cases h0 : k = 0 <;> simp [h0]
    have k1 : ∀ b : Bool, m_pack_Name_k1 (m_pack_Name_l1 s n) (k : Int) c b = some ((b || (decide (k ≠ 0) && digB c)) && (((bytesI s).drop (k + 1)).all (fun c => letB c || digB c) && (decide (1 ≤ s.size) && decide (s.size ≤ 32)))) := by
      intro b
      unfold m_pack_Name_k1
      rw [hk0]
      simp only [k2]
      cases b
      · by_cases h0 : k = 0
        · simp [h0]
        · by_cases h1 : c < 48
          · have : digB c = false := by unfold digB; simp; omega
            simp [h0, h1, this]
          · have : digB c = !decide (57 < c) := by
              unfold digB
              by_cases h2 : c ≤ 57
              · have : ¬ 57 < c := by omega
                simp [h2, this]; omega
              · have : 57 < c := by omega
                simp [h2, this]
            simp [h0, h1, this]
      · simp
    by_cases h : 97 ≤ c
    · simp only [h, decide_true, if_true, k1]
      have : letB c = decide (c ≤ 122) := by simp [letB, h]
      rw [this]
      cases decide (c ≤ 122) <;> cases digB c <;> cases decide (k ≠ 0) <;> simp
    · simp only [h, decide_false, Bool.false_eq_true, if_false, k1]
      have : letB c = false := by simp [letB, h]
      rw [this]
      cases digB c <;> cases decide (k ≠ 0) <;> simp
theorem pack_name {s : ByteArray} (hs : s.size ≤ big63) : m_pack_Name s = some (nameB s) := by
  have hlen := bytesI_len s
  unfold m_pack_Name nameB nameL
  have hl := pack_loop s hs _ 0 ((((((bytesI s).length : Nat) : Int)) - 0).toNat + 1) rfl (Nat.zero_le _) (by omega)
  have hl : m_pack_Name_l1 s ((((((bytesI s).length : Nat) : Int)) - 0).toNat + 1) 0 = _ := hl
  rw [hl]
  cases hb : bytesI s with
  | nil =>
    have : s.size = 0 := by rw [← hlen, hb]; rfl
    simp [this]
  | cons c r =>
    have h1 : 1 ≤ s.size := by rw [← hlen, hb]; simp
    have h2 : s.size = (c :: r).length := by rw [← hlen, hb]
    have h3 : 1 ≤ (c :: r).length := by simp
    simp only [h1, h3, decide_true, Bool.true_and, h2, List.drop_zero, ne_eq, not_true_eq_false, decide_false, Bool.false_or, firstB]
def yesS : ByteArray := ⟨#[121, 101, 115]⟩
def noS : ByteArray := ⟨#[110, 111]⟩
def varB (s : ByteArray) : Bool := nameB s && (!eqS s yesS && !eqS s noS)
/-! ### The order of texts -/
theorem bl_irr : ∀ x : List UInt8, Op.bytesLess x x = false
  | [] => rfl
  | a :: x => by simp [Op.bytesLess, bl_irr x]
theorem bl_trans : ∀ {x y z : List UInt8}, Op.bytesLess x y = true → Op.bytesLess y z = true → Op.bytesLess x z = true
  | [], [], z, h, h' => by simp [Op.bytesLess] at h
  | [], b :: y, [], h, h' => by simp [Op.bytesLess] at h'
  | [], b :: y, c :: z, h, h' => by simp [Op.bytesLess]
  | a :: x, [], z, h, h' => by simp [Op.bytesLess] at h
  | a :: x, b :: y, [], h, h' => by simp [Op.bytesLess] at h'
  | a :: x, b :: y, c :: z, h, h' => by
    simp only [Op.bytesLess, Bool.or_eq_true, decide_eq_true_eq, Bool.and_eq_true, beq_iff_eq] at h h' ⊢
    rcases h with h | ⟨rfl, h⟩
    · rcases h' with h' | ⟨rfl, h'⟩
      · exact .inl (UInt8.lt_trans h h')
      · exact .inl h
    · rcases h' with h' | ⟨rfl, h'⟩
      · exact .inl h'
      · exact .inr ⟨rfl, bl_trans h h'⟩
theorem bl_tri : ∀ (x y : List UInt8), Op.bytesLess x y = true ∨ x = y ∨ Op.bytesLess y x = true
  | [], [] => .inr (.inl rfl)
  | [], b :: y => .inl rfl
  | a :: x, [] => .inr (.inr rfl)
  | a :: x, b :: y => by
    simp only [Op.bytesLess, Bool.or_eq_true, decide_eq_true_eq, Bool.and_eq_true, beq_iff_eq]
    rcases Nat.lt_trichotomy a.toNat b.toNat with h | h | h
    · exact .inl (.inl (UInt8.lt_iff_toNat_lt.2 h))
    · have : a = b := UInt8.toNat_inj.1 h
      subst this
      rcases bl_tri x y with h | h | h
      · exact .inl (.inr ⟨rfl, h⟩)
      · subst h; exact .inr (.inl rfl)
      · exact .inr (.inr (.inr ⟨rfl, h⟩))
    · exact .inr (.inr (.inl (UInt8.lt_iff_toNat_lt.2 h)))
theorem ltS_irr (a : ByteArray) : ltS a a = false := bl_irr _
theorem ltS_trans {a b c : ByteArray} (h : ltS a b = true) (h' : ltS b c = true) : ltS a c = true := bl_trans h h'
theorem ltS_tri (a b : ByteArray) : ltS a b = true ∨ a = b ∨ ltS b a = true := by
  rcases bl_tri a.toList b.toList with h | h | h
  · exact .inl h
  · exact .inr (.inl (toList_inj h))
  · exact .inr (.inr h)
theorem ltS_asymm {a b : ByteArray} (h : ltS a b = true) : ltS b a = false := by
  cases hb : ltS b a with
  | false => rfl
  | true => have := ltS_trans h hb; rw [ltS_irr] at this; cases this
theorem eqS_self (a : ByteArray) : eqS a a = true := eqS_iff.2 rfl
/-! ### 9.1 -/
structure OkV (v : TVars) : Prop where
  len : v.Names.length ≤ big63
  lenV : v.Vals.length ≤ big63
  names : ∀ s ∈ v.Names, s.size ≤ big63
  vals : ∀ n ∈ v.Vals, inR n
def afterB : Option ByteArray → ByteArray → Bool
  | none, _ => true
  | some q, x => ltS q x
/-- Names that may be, rising, behind one. -/
def namesB : Option ByteArray → List ByteArray → Bool
  | _, [] => true
  | p, x :: r => varB x && (afterB p x && namesB (some x) r)
def vchk (v : TVars) : Int := if v.Names.length ≠ v.Vals.length then 1 else if 64 < v.Names.length then 6 else if namesB none v.Names = true then 0 else 1
def prevO (l : List ByteArray) (k : Nat) : Option ByteArray := if k = 0 then none else l[k - 1]?
theorem prevO_succ {l : List ByteArray} {k : Nat} (h : k < l.length) : prevO l (k + 1) = some l[k] := by
  unfold prevO
  rw [if_neg (by omega), Nat.add_sub_cancel, List.getElem?_eq_getElem h]
theorem ref09_chk_loop {v : TVars} (hv : OkV v) : ∀ (m k n : Nat), v.Names.length - k = m → k ≤ v.Names.length → m < n →
    m_ref09_Check_l1 v n (k : Int) = some (if namesB (prevO v.Names k) (v.Names.drop k) = true then 0 else 1) := by
  intro m
  induction m with
  | zero =>
    intro k n hm hk hn
    obtain ⟨n, rfl⟩ : ∃ n', n = n' + 1 := ⟨n - 1, by omega⟩
    have hk' : ¬ ((k : Int) < (v.Names.length : Int)) := by omega
    rw [m_ref09_Check_l1, m_ref09_Check_l1_B, List.drop_eq_nil_of_le (by omega)]
    simp [hk', namesB]
  | succ m ih =>
    intro k n hm hk hn
    obtain ⟨n, rfl⟩ : ∃ n', n = n' + 1 := ⟨n - 1, by omega⟩
    have hlt : k < v.Names.length := by omega
    have hk' : ((k : Int) < (v.Names.length : Int)) := by omega
    have hw : IntKind.i64.wrap ((k : Int) + 1) = (k : Int) + 1 := wrap_succ' (by omega) (by have := hv.len; unfold big63 at this; omega)
    have hih : m_ref09_Check_l1 v n ((k : Int) + 1) = _ := ih (k + 1) n (by omega) (by omega) (by omega)
    rw [prevO_succ hlt] at hih
    rw [m_ref09_Check_l1, m_ref09_Check_l1_B, List.drop_eq_getElem_cons hlt]
    simp only [hk', decide_true, if_true, nthI_lt hlt, bnd_some, ref02_name (hv.names _ (List.getElem_mem hlt)), namesB]
    have k1 : ∀ b : Bool, m_ref09_Check_k1 (m_ref09_Check_l1 v n) (k : Int) b = some (if (!b && namesB (some v.Names[k]) (v.Names.drop (k + 1))) = true then 0 else 1) := by
      intro b
      unfold m_ref09_Check_k1
      rw [hw, hih]
      cases b <;> simp
    have hp : (if decide ((0 : Int) < (k : Int)) = true then bnd (nthI v.Names (IntKind.i64.wrap ((k : Int) - 1))) fun e_1 => m_ref09_Check_k1 (m_ref09_Check_l1 v n) (k : Int) (!(ltS e_1 v.Names[k])) else m_ref09_Check_k1 (m_ref09_Check_l1 v n) (k : Int) false) = some (if (afterB (prevO v.Names k) v.Names[k] && namesB (some v.Names[k]) (v.Names.drop (k + 1))) = true then 0 else 1) := by
      by_cases h0 : k = 0
      · subst h0
        have hk1 := k1 false
        rw [show (((0 : Nat) : Int)) = 0 from rfl] at hk1 ⊢
        rw [show decide ((0 : Int) < 0) = false from rfl, if_neg (by decide), hk1]
        rfl
      · have e1 : (0 : Int) < (k : Int) := by omega
        have e2 : IntKind.i64.wrap ((k : Int) - 1) = ((k - 1 : Nat) : Int) := by
          rw [wrap_in (by have := hv.len; unfold inR; unfold big63 at this; omega)]
          omega
        have e3 : nthI v.Names ((k - 1 : Nat) : Int) = some v.Names[k - 1] := nthI_lt (by omega)
        have e4 : prevO v.Names k = some v.Names[k - 1] := by
          unfold prevO
          rw [if_neg h0, List.getElem?_eq_getElem (by omega)]
        simp only [e1, decide_true, if_true, e2, e3, bnd_some, k1, e4, Bool.not_not, afterB]
    generalize v.Names[k] = x at *
    unfold varB
    rcases Bool.eq_false_or_eq_true (nameB x) with hb | hb
    · simp only [hb, if_true, Bool.true_and]
      change (if eqS x yesS = true then _ else if eqS x noS = true then _ else _) = _
      rcases Bool.eq_false_or_eq_true (eqS x yesS) with hy | hy
      · simp [hy, k1]
      · simp only [hy, Bool.false_eq_true, if_false, Bool.not_false, Bool.true_and]
        rcases Bool.eq_false_or_eq_true (eqS x noS) with ho | ho
        · simp [ho, k1]
        · simp only [ho, Bool.false_eq_true, if_false, Bool.not_false, Bool.true_and, hp]
    · simp [hb, k1]
theorem vars_chk_loop {v : TVars} (hv : OkV v) : ∀ (m k n : Nat), v.Names.length - k = m → k ≤ v.Names.length → m < n →
    m_vars_Check_l1 v n (k : Int) = some (if namesB (prevO v.Names k) (v.Names.drop k) = true then 0 else 1) := by
  intro m
  induction m with
  | zero =>
    intro k n hm hk hn
    obtain ⟨n, rfl⟩ : ∃ n', n = n' + 1 := ⟨n - 1, by omega⟩
    have hk' : ¬ ((k : Int) < (v.Names.length : Int)) := by omega
    rw [m_vars_Check_l1, m_vars_Check_l1_B, List.drop_eq_nil_of_le (by omega)]
    simp [hk', namesB]
  | succ m ih =>
    intro k n hm hk hn
    obtain ⟨n, rfl⟩ : ∃ n', n = n' + 1 := ⟨n - 1, by omega⟩
    have hlt : k < v.Names.length := by omega
    have hk' : ((k : Int) < (v.Names.length : Int)) := by omega
    have hw : IntKind.i64.wrap ((k : Int) + 1) = (k : Int) + 1 := wrap_succ' (by omega) (by have := hv.len; unfold big63 at this; omega)
    have hih : m_vars_Check_l1 v n ((k : Int) + 1) = _ := ih (k + 1) n (by omega) (by omega) (by omega)
    rw [prevO_succ hlt] at hih
    rw [m_vars_Check_l1, m_vars_Check_l1_B, List.drop_eq_getElem_cons hlt]
    simp only [hk', decide_true, if_true, nthI_lt hlt, bnd_some, pack_name (hv.names _ (List.getElem_mem hlt)), namesB]
    have k2 : ∀ b : Bool, m_vars_Check_k2 (m_vars_Check_l1 v n) (k : Int) b = some (if (!b && namesB (some v.Names[k]) (v.Names.drop (k + 1))) = true then 0 else 1) := by
      intro b
      unfold m_vars_Check_k2
      rw [hw, hih]
      cases b <;> simp
    have k1 : ∀ b : Bool, m_vars_Check_k1 (m_vars_Check_l1 v n) v (k : Int) v.Names[k] b = some (if (!b && (afterB (prevO v.Names k) v.Names[k] && namesB (some v.Names[k]) (v.Names.drop (k + 1)))) = true then 0 else 1) := by
      intro b
      unfold m_vars_Check_k1
      cases b
      · by_cases h0 : k = 0
        · subst h0
          have hk2 := k2 false
          rw [show (((0 : Nat) : Int)) = 0 from rfl] at hk2 ⊢
          rw [show decide ((0 : Int) < 0) = false from rfl, if_neg (by decide), if_neg (by decide), hk2]
          rfl
        · have e1 : (0 : Int) < (k : Int) := by omega
          have e2 : IntKind.i64.wrap ((k : Int) - 1) = ((k - 1 : Nat) : Int) := by
            rw [wrap_in (by have := hv.len; unfold inR; unfold big63 at this; omega)]
            omega
          have e3 : nthI v.Names ((k - 1 : Nat) : Int) = some v.Names[k - 1] := nthI_lt (by omega)
          have e4 : prevO v.Names k = some v.Names[k - 1] := by
            unfold prevO
            rw [if_neg h0, List.getElem?_eq_getElem (by omega)]
          simp only [e1, decide_true, if_true, e2, e3, bnd_some, k2, e4, Bool.not_not, afterB, Bool.false_eq_true, if_false, Bool.not_false, Bool.true_and]
      · rfl
    generalize v.Names[k] = x at *
    unfold varB
    rcases Bool.eq_false_or_eq_true (nameB x) with hb | hb
    · simp only [hb, if_true, Bool.true_and]
      change (if eqS x yesS = true then _ else m_vars_Check_k1 _ v (k : Int) x (eqS x noS)) = _
      rcases Bool.eq_false_or_eq_true (eqS x yesS) with hy | hy
      · simp [hy, k1]
      · simp only [hy, Bool.false_eq_true, if_false, Bool.not_false, Bool.true_and, k1]
    · simp [hb, k1]
theorem ref09_Check {v : TVars} (hv : OkV v) : m_ref09_Check v = some (vchk v) := by
  unfold m_ref09_Check vchk
  have hlp := ref09_chk_loop hv _ 0 ((((v.Names.length : Int)) - 0).toNat + 1) rfl (Nat.zero_le _) (by omega)
  have hlp : m_ref09_Check_l1 v ((((v.Names.length : Int)) - 0).toNat + 1) 0 = some (if namesB none v.Names = true then 0 else 1) := hlp
  by_cases h1 : v.Names.length = v.Vals.length
  · have h1' : decide ((v.Names.length : Int) ≠ (v.Vals.length : Int)) = false := by simp; omega
    rw [h1', hlp]
    simp only [Bool.false_eq_true, if_false, h1, ne_eq, not_true_eq_false]
    rw [← h1]
    by_cases h2 : 64 < v.Names.length
    · have h2' : decide ((64 : Int) < (v.Names.length : Int)) = true := by simp; omega
      rw [h2']
      simp [h2]
    · have h2' : decide ((64 : Int) < (v.Names.length : Int)) = false := by simp; omega
      rw [h2']
      simp [h2]
  · have h1' : decide ((v.Names.length : Int) ≠ (v.Vals.length : Int)) = true := by simp; omega
    rw [h1']
    simp [h1]
theorem vars_Check {v : TVars} (hv : OkV v) : m_vars_Check v = some (vchk v) := by
  unfold m_vars_Check vchk
  have hlp := vars_chk_loop hv _ 0 ((((v.Names.length : Int)) - 0).toNat + 1) rfl (Nat.zero_le _) (by omega)
  have hlp : m_vars_Check_l1 v ((((v.Names.length : Int)) - 0).toNat + 1) 0 = some (if namesB none v.Names = true then 0 else 1) := hlp
  by_cases h1 : v.Names.length = v.Vals.length
  · have h1' : decide ((v.Names.length : Int) ≠ (v.Vals.length : Int)) = false := by simp; omega
    rw [h1', hlp]
    simp only [Bool.false_eq_true, if_false, h1, ne_eq, not_true_eq_false]
    rw [← h1]
    by_cases h2 : 64 < v.Names.length
    · have h2' : decide ((64 : Int) < (v.Names.length : Int)) = true := by simp; omega
      rw [h2']
      simp [h2]
    · have h2' : decide ((64 : Int) < (v.Names.length : Int)) = false := by simp; omega
      rw [h2']
      simp [h2]
  · have h1' : decide ((v.Names.length : Int) ≠ (v.Vals.length : Int)) = true := by simp; omega
    rw [h1']
    simp [h1]
end Go.Proofs.Ytefjblgmnoheiaa.R

/- Plain laws: variables compared, copied; loops. -/
set_option maxRecDepth 100000
set_option linter.unusedVariables false
set_option linter.unusedSimpArgs false
noncomputable section
namespace Go.Proofs.Ytefjblgmnoheiaa.R
open Go
def eqI (x y : Int) : Bool := decide (x = y)
theorem eqI_iff (x y : Int) : eqI x y = true ↔ x = y := by simp [eqI]
theorem big_max {n : Nat} (h : n ≤ big63) : n ≤ maxLen := by rw [maxLen_eq]; unfold big63 at h; omega
theorem texts_eq {a b : List ByteArray} (hl : a.length ≤ maxLen) : m_ref08_Texts a b = some (same2 eqS a b) := by
  unfold m_ref08_Texts same2
  by_cases h : a.length = b.length
  · have h1 : ¬ ((a.length : Int) ≠ (b.length : Int)) := by omega
    rw [decide_eq_false h1, if_neg (by simp), all2_loop0 (f := m_ref08_Texts_l1 a b) (p := eqS) h hl, decide_eq_true h, Bool.true_and]
    intro n k
    rw [m_ref08_Texts_l1, m_ref08_Texts_l1_B]
    simp only [decide_eq_true_eq, Int.ofNat_lt]
  · have h1 : ((a.length : Int) ≠ (b.length : Int)) := by omega
    simp [h1, h]
def sameV (a b : TVars) : Bool := same2 eqS a.Names b.Names && same2 eqI a.Vals b.Vals
theorem sameV_iff (a b : TVars) : sameV a b = true ↔ a = b := by
  unfold sameV
  rw [Bool.and_eq_true, same2_iff (fun x y => eqS_iff), same2_iff eqI_iff]
  cases a; cases b
  simp
theorem ref09_Same {a b : TVars} (ha : OkV a) : m_ref09_Same a b = some (sameV a b) := by
  unfold m_ref09_Same sameV m_ref09_Same_k1
  rw [texts_eq (big_max ha.len)]
  simp only [bnd_some]
  cases same2 eqS a.Names b.Names with
  | false => simp
  | true =>
    simp only [if_true, Bool.true_and]
    unfold same2
    by_cases h : a.Vals.length = b.Vals.length
    · have h1 : ¬ ((a.Vals.length : Int) ≠ (b.Vals.length : Int)) := by omega
      rw [decide_eq_false h1, if_neg (by simp), all2_loop0 (f := m_ref09_Same_l1 a b) (p := eqI) h (big_max ha.lenV), decide_eq_true h, Bool.true_and]
      intro n k
      rw [m_ref09_Same_l1, m_ref09_Same_l1_B]
      simp only [decide_eq_true_eq, Int.ofNat_lt]
      congr 1
      congr 1; funext x; congr 1; funext y
      by_cases ht : x = y <;> simp [ht, eqI]
    · have h1 : ((a.Vals.length : Int) ≠ (b.Vals.length : Int)) := by omega
      simp [h1, h]
theorem eqtexts_eq {a b : List ByteArray} (hl : a.length ≤ maxLen) : m_slices_Equal_string_string a b = some (same2 eqS a b) := by
  unfold m_slices_Equal_string_string same2
  by_cases h : a.length = b.length
  · have h1 : ¬ ((a.length : Int) ≠ (b.length : Int)) := by omega
    rw [decide_eq_false h1, if_neg (by simp), all2_loop0 (f := m_slices_Equal_string_string_l1 a b) (p := eqS) h hl, decide_eq_true h, Bool.true_and]
    intro n k
    rw [m_slices_Equal_string_string_l1, m_slices_Equal_string_string_l1_B]
    simp only [decide_eq_true_eq, Int.ofNat_lt]
  · have h1 : ((a.length : Int) ≠ (b.length : Int)) := by omega
    simp [h1, h]
theorem eqints_eq {a b : List Int} (hl : a.length ≤ maxLen) : m_slices_Equal_int64_int64 a b = some (same2 eqI a b) := by
  unfold m_slices_Equal_int64_int64 same2
  by_cases h : a.length = b.length
  · have h1 : ¬ ((a.length : Int) ≠ (b.length : Int)) := by omega
    rw [decide_eq_false h1, if_neg (by simp), all2_loop0 (f := m_slices_Equal_int64_int64_l1 a b) (p := eqI) h hl, decide_eq_true h, Bool.true_and]
    intro n k
    rw [m_slices_Equal_int64_int64_l1, m_slices_Equal_int64_int64_l1_B]
    simp only [decide_eq_true_eq, Int.ofNat_lt]
    congr 1
    congr 1; funext x; congr 1; funext y
    by_cases ht : x = y <;> simp [ht, eqI]
  · have h1 : ((a.length : Int) ≠ (b.length : Int)) := by omega
    simp [h1, h]
theorem vars_Same {a b : TVars} (ha : OkV a) : m_vars_Same a b = some (sameV a b) := by
  unfold m_vars_Same sameV
  rw [eqtexts_eq (big_max ha.len), eqints_eq (big_max ha.lenV)]
  simp only [bnd_some]
  cases same2 eqS a.Names b.Names <;> simp
theorem copy_eq {v : TVars} (h1 : v.Names.length ≤ 549755813888) (h2 : v.Vals.length ≤ 549755813888) : m_vars_Copy v = some v := by
  simp [m_vars_Copy, capB_small h1, capB_small h2]
/-! ### Loops over a list -/
theorem loop_ind {β : Type} {len : Nat} {f : Nat → Int → Option β} {R : Nat → Option β → Prop} (hlen : len < 9223372036854775807) (hz : ∀ n, R len (f (n + 1) (len : Int)))
    (hs : ∀ n k, k < len → IntKind.i64.wrap ((k : Int) + 1) = ((k + 1 : Nat) : Int) → R (k + 1) (f n ((k + 1 : Nat) : Int)) → R k (f (n + 1) (k : Int))) : ∀ m k n, len - k = m → k ≤ len → m < n → R k (f n (k : Int)) := by
  intro m
  induction m with
  | zero =>
    intro k n hm hk hn
    obtain ⟨n, rfl⟩ : ∃ n', n = n' + 1 := ⟨n - 1, by omega⟩
    have : k = len := by omega
    subst this
    exact hz n
  | succ m ih =>
    intro k n hm hk hn
    obtain ⟨n, rfl⟩ : ∃ n', n = n' + 1 := ⟨n - 1, by omega⟩
    exact hs n k (by omega) (wrap_succ (by omega)) (ih (k + 1) n (by omega) (by omega) (by omega))
theorem loop0 {β : Type} {len : Nat} {f : Nat → Int → Option β} {R : Nat → Option β → Prop} (hlen : len < 9223372036854775807) (hz : ∀ n, R len (f (n + 1) (len : Int)))
    (hs : ∀ n k, k < len → IntKind.i64.wrap ((k : Int) + 1) = ((k + 1 : Nat) : Int) → R (k + 1) (f n ((k + 1 : Nat) : Int)) → R k (f (n + 1) (k : Int))) : R 0 (f ((((len : Int)) - ((0 : Int))).toNat + 1) (0 : Int)) :=
  loop_ind hlen hz hs _ 0 _ rfl (Nat.zero_le _) (by omega)
theorem lt_k {k len : Nat} (h : k < len) : ((k : Int) < (len : Int)) := by omega
theorem nlt_k {len : Nat} : ¬ ((len : Int) < (len : Int)) := by omega
end Go.Proofs.Ytefjblgmnoheiaa.R

/- Plain laws: who took a message; messages and subscriptions that may be. -/
set_option maxRecDepth 100000
set_option linter.unusedVariables false
set_option linter.unusedSimpArgs false
noncomputable section
namespace Go.Proofs.Ytefjblgmnoheiaa.R
open Go
abbrev most : Int := 1099511627776
def inZ (n a b : Int) : Bool := decide (a ≤ n) && decide (n ≤ b)
theorem inZ_iff {n a b : Int} : inZ n a b = true ↔ a ≤ n ∧ n ≤ b := by simp [inZ]
def tookB (l : List TWho) (p i : Int) : Bool := l.any fun w => decide (w.Part = p) && decide (w.Inst = i)
structure OkM (m : TMail) : Prop where
  id : inR m.Id
  key : inR m.Key
  til : inR m.Until
  name : m.Name.size ≤ big63
  vars : OkV m.Vars
  took : m.Took.length ≤ big63
  tk : ∀ w ∈ m.Took, inR w.Part ∧ inR w.Inst
structure OkS (s : TSub) : Prop where
  part : inR s.Part
  id : inR s.Id
  inst : inR s.Inst
  key : inR s.Key
  mail : inR s.Mail
  name : s.Name.size ≤ big63
structure OkP (p : TPost) : Prop where
  next : inR p.Next
  ml : p.Mails.length ≤ big63
  sl : p.Subs.length ≤ big63
  mails : ∀ m ∈ p.Mails, OkM m
  subs : ∀ s ∈ p.Subs, OkS s
theorem big_lt {n : Nat} (h : n ≤ big63) : n < 9223372036854775807 := by unfold big63 at h; omega
theorem ref22_took {l : List TWho} (hl : l.length ≤ big63) (p i : Int) : m_ref22_took l p i = some (tookB l p i) := by
  unfold m_ref22_took tookB
  refine (loop0 (R := fun k o => o = some ((l.drop k).any fun w => decide (w.Part = p) && decide (w.Inst = i))) (f := m_ref22_took_l1 l p i) (big_lt hl) (fun n => ?_) (fun n k hk hw ih => ?_)).trans (by simp)
  · rw [m_ref22_took_l1, m_ref22_took_l1_B, decide_eq_false nlt_k, List.drop_eq_nil_of_le (Nat.le_refl _)]
    rfl
  · rw [m_ref22_took_l1, m_ref22_took_l1_B, decide_eq_true (lt_k hk), if_pos rfl, nthI_lt hk, bnd_some, List.drop_eq_getElem_cons hk, List.any_cons]
    simp only [m_ref22_took_k1, hw, ih]
    by_cases h1 : l[k].Part = p <;> by_cases h2 : l[k].Inst = i <;> simp [h1, h2]
theorem contains_who {l : List TWho} (hl : l.length ≤ big63) (v : TWho) : m_slices_Contains_api_Who_api_Who l v = some (tookB l v.Part v.Inst) := by
  unfold m_slices_Contains_api_Who_api_Who m_slices_Index_api_Who_api_Who tookB
  suffices h : ∃ r, m_slices_Index_api_Who_api_Who_l1 l v ((((l.length : Int)) - ((0 : Int))).toNat + 1) (0 : Int) = some r ∧ decide (0 ≤ r) = ((l.drop 0).any fun w => decide (w.Part = v.Part) && decide (w.Inst = v.Inst)) by
    obtain ⟨r, h1, h2⟩ := h
    rw [h1, bnd_some, h2, List.drop_zero]
  refine loop0 (R := fun k o => ∃ r, o = some r ∧ decide (0 ≤ r) = ((l.drop k).any fun w => decide (w.Part = v.Part) && decide (w.Inst = v.Inst))) (f := m_slices_Index_api_Who_api_Who_l1 l v) (big_lt hl) (fun n => ?_) (fun n k hk hw ih => ?_)
  · rw [m_slices_Index_api_Who_api_Who_l1, m_slices_Index_api_Who_api_Who_l1_B, decide_eq_false nlt_k, List.drop_eq_nil_of_le (Nat.le_refl _)]
    exact ⟨-1, rfl, rfl⟩
  · rw [m_slices_Index_api_Who_api_Who_l1, m_slices_Index_api_Who_api_Who_l1_B, decide_eq_true (lt_k hk), if_pos rfl, nthI_lt hk, bnd_some, List.drop_eq_getElem_cons hk, List.any_cons]
    have e1 : (v.Part = l[k].Part) = (l[k].Part = v.Part) := propext eq_comm
    have e2 : (v.Inst = l[k].Inst) = (l[k].Inst = v.Inst) := propext eq_comm
    simp only [e1, e2, hw]
    obtain ⟨r, h1, h2⟩ := ih
    by_cases h : (decide (l[k].Part = v.Part) && decide (l[k].Inst = v.Inst)) = true
    · rw [if_pos h, h]
      exact ⟨k, rfl, by simp⟩
    · rw [if_neg h, h1, Bool.eq_false_iff.2 h]
      exact ⟨r, rfl, h2⟩
/-! ### 22.1 -/
def whoB (w : TWho) : Bool := inZ w.Part 0 63 && inZ w.Inst 1 most
def whosB : List TWho → List TWho → Bool
  | _, [] => true
  | pre, w :: r => whoB w && (!tookB pre w.Part w.Inst && whosB (pre ++ [w]) r)
def mchk (m : TMail) : Int :=
  if (inZ m.Id 1 most && (nameB m.Name && inZ m.Until 0 most)) = true then
    if vchk m.Vars ≠ 0 then vchk m.Vars else if whosB [] m.Took = true then 0 else 1
  else 1
theorem in_eq (n a b : Int) : m_ref22_in n a b = some (inZ n a b) := by
  unfold m_ref22_in inZ
  by_cases h : a ≤ n <;> simp [h]
theorem wide_eq (n : Int) : m_post_wide n = some (inZ n 1 1099511627776) := by
  unfold m_post_wide inZ
  by_cases h : 1 ≤ n <;> simp [h]
theorem part_eq (n : Int) : m_post_part n = some (inZ n 0 63) := by
  unfold m_post_part inZ
  have : decide (n < 64) = decide (n ≤ 63) := by congr 1; apply propext; omega
  by_cases h : 0 ≤ n <;> simp [h, this]
theorem sliceL_take {α : Type} {l : List α} {k : Nat} (h : k ≤ l.length) : sliceL l 0 (k : Int) = some (l.take k) := by
  unfold sliceL
  simp [h]
theorem take_succ_get {α : Type} {l : List α} {k : Nat} (h : k < l.length) : l.take (k + 1) = l.take k ++ [l[k]] := by rw [List.take_add_one, List.getElem?_eq_getElem h]; rfl
theorem take_big {α : Type} {l : List α} {k : Nat} (h : l.length ≤ big63) : (l.take k).length ≤ big63 := by rw [List.length_take]; omega
theorem ref22_Mail {m : TMail} (hm : OkM m) : m_ref22_Mail m = some (mchk m) := by
  have hlp : m_ref22_Mail_l1 m ((((m.Took.length : Int)) - ((0 : Int))).toNat + 1) (0 : Int) = some (if whosB [] m.Took = true then 0 else 1) := by
    refine loop0 (R := fun k o => o = some (if whosB (m.Took.take k) (m.Took.drop k) = true then 0 else 1)) (f := m_ref22_Mail_l1 m) (big_lt hm.took) (fun n => ?_) (fun n k hk hw ih => ?_)
    · rw [m_ref22_Mail_l1, m_ref22_Mail_l1_B, decide_eq_false nlt_k, List.drop_eq_nil_of_le (Nat.le_refl _)]
      rfl
    · rw [take_succ_get hk] at ih
      rw [m_ref22_Mail_l1, m_ref22_Mail_l1_B, decide_eq_true (lt_k hk), if_pos rfl, nthI_lt hk, bnd_some, List.drop_eq_getElem_cons hk]
      simp only [in_eq, bnd_some, sliceL_take (Nat.le_of_lt hk), ref22_took (take_big hm.took), m_ref22_Mail_k2, hw, ih, whosB, whoB, most, if_true, Bool.false_eq_true, if_false]
      rcases Bool.eq_false_or_eq_true (inZ m.Took[k].Part 0 63) with g0 | g0 <;> rcases Bool.eq_false_or_eq_true (inZ m.Took[k].Inst 1 1099511627776) with g1 | g1 <;> rcases Bool.eq_false_or_eq_true (tookB (m.Took.take k) m.Took[k].Part m.Took[k].Inst) with g2 | g2 <;> simp [g0, g1, g2]
  unfold m_ref22_Mail
  simp only [in_eq, bnd_some, ref02_name hm.name, m_ref22_Mail_k1, ref09_Check hm.vars, hlp, mchk, most]
  cases h1 : inZ m.Id 1 1099511627776 <;> cases h2 : nameB m.Name <;> cases h3 : inZ m.Until 0 1099511627776 <;> by_cases h4 : vchk m.Vars = 0 <;> simp [h4]
theorem post_mail {m : TMail} (hm : OkM m) : m_post_mail m = some (mchk m) := by
  have hlp : m_post_mail_l1 m ((((m.Took.length : Int)) - ((0 : Int))).toNat + 1) (0 : Int) = some (if whosB [] m.Took = true then 0 else 1) := by
    refine loop0 (R := fun k o => o = some (if whosB (m.Took.take k) (m.Took.drop k) = true then 0 else 1)) (f := m_post_mail_l1 m) (big_lt hm.took) (fun n => ?_) (fun n k hk hw ih => ?_)
    · rw [m_post_mail_l1, m_post_mail_l1_B, decide_eq_false nlt_k, List.drop_eq_nil_of_le (Nat.le_refl _)]
      rfl
    · rw [take_succ_get hk] at ih
      rw [m_post_mail_l1, m_post_mail_l1_B, decide_eq_true (lt_k hk), if_pos rfl, nthI_lt hk, bnd_some, List.drop_eq_getElem_cons hk]
      simp only [part_eq, wide_eq, bnd_some, sliceL_take (Nat.le_of_lt hk), contains_who (take_big hm.took), m_post_mail_k2, hw, ih, whosB, whoB, if_true, Bool.false_eq_true, if_false]
      rcases Bool.eq_false_or_eq_true (inZ m.Took[k].Part 0 63) with g0 | g0 <;> rcases Bool.eq_false_or_eq_true (inZ m.Took[k].Inst 1 1099511627776) with g1 | g1 <;> rcases Bool.eq_false_or_eq_true (tookB (m.Took.take k) m.Took[k].Part m.Took[k].Inst) with g2 | g2 <;> simp [g0, g1, g2]
  unfold m_post_mail
  simp only [wide_eq, bnd_some, pack_name hm.name, m_post_mail_k1, vars_Check hm.vars, hlp, mchk]
  have e3 : inZ m.Until 0 1099511627776 = (!decide (m.Until < 0) && !decide (1099511627776 < m.Until)) := by
    unfold inZ
    by_cases h1 : m.Until < 0 <;> by_cases h2 : 1099511627776 < m.Until <;> simp [h1, h2] <;> omega
  rw [e3]
  cases h1 : inZ m.Id 1 1099511627776 <;> cases h2 : nameB m.Name <;> by_cases h3 : m.Until < 0 <;> by_cases h5 : 1099511627776 < m.Until <;> by_cases h4 : vchk m.Vars = 0 <;> simp [h3, h4, h5]
/-! ### 22.2 -/
def subB (s : TSub) : Bool := inZ s.Part 0 63 && (inZ s.Id 1 most && (inZ s.Inst 1 most && (nameB s.Name && inZ s.Mail 0 most)))
theorem ref22_Sub {s : TSub} (hs : OkS s) : m_ref22_Sub s = some (subB s) := by
  unfold m_ref22_Sub subB
  simp only [in_eq, bnd_some, ref02_name hs.name]
  cases inZ s.Part 0 63 <;> cases inZ s.Id 1 1099511627776 <;> cases inZ s.Inst 1 1099511627776 <;> cases nameB s.Name <;> rfl
theorem post_sub {s : TSub} (hs : OkS s) : m_post_sub s = some (subB s) := by
  unfold m_post_sub subB
  simp only [part_eq, wide_eq, bnd_some, pack_name hs.name]
  cases inZ s.Part 0 63 <;> cases inZ s.Id 1 1099511627776 <;> cases inZ s.Inst 1 1099511627776 <;> cases nameB s.Name <;> simp [inZ]
  by_cases h : 0 ≤ s.Mail <;> simp [h]
/-! ### 22.3 -/
def aheadB (a b : TSub) : Bool := decide (a.Part < b.Part) || (decide (a.Part = b.Part) && decide (a.Id < b.Id))
theorem ahead_eq (a b : TSub) : m_ref22_ahead a b = some (aheadB a b) := by
  unfold m_ref22_ahead aheadB
  by_cases h1 : a.Part < b.Part <;> by_cases h2 : a.Part = b.Part <;> simp [h1, h2]
theorem order_eq (a b : Tkey) : m_post_key_order a b = some (if a.f_part = b.f_part ∧ a.f_id = b.f_id then 0 else if a.f_part < b.f_part ∨ (a.f_part = b.f_part ∧ a.f_id < b.f_id) then -1 else 1) := by
  unfold m_post_key_order m_post_key_order_k1
  by_cases h1 : a.f_part = b.f_part <;> by_cases h2 : a.f_id = b.f_id <;> by_cases h3 : a.f_part < b.f_part <;> by_cases h4 : a.f_id < b.f_id <;> simp [h1, h2, h3, h4] <;> omega
theorem order_of (a b : TSub) : ∃ r, m_post_key_order ⟨a.Part, a.Id⟩ ⟨b.Part, b.Id⟩ = some r ∧ decide (0 ≤ r) = !aheadB a b := by
  refine ⟨_, order_eq _ _, ?_⟩
  unfold aheadB
  by_cases h1 : a.Part = b.Part <;> by_cases h2 : a.Id = b.Id <;> by_cases h3 : a.Part < b.Part <;> by_cases h4 : a.Id < b.Id <;> simp [h1, h2, h3, h4] <;> omega
def mailsE (next : Int) : Int → List TMail → Int
  | _, [] => 0
  | last, m :: r => if mchk m ≠ 0 then mchk m else if m.Id ≤ last ∨ next ≤ m.Id then 1 else mailsE next m.Id r
def behindB : Option TSub → TSub → Bool
  | none, _ => true
  | some a, b => aheadB a b
def subsB (next : Int) : Option TSub → List TSub → Bool
  | _, [] => true
  | q, s :: r => subB s && (decide (s.Mail < next) && (behindB q s && subsB next (some s) r))
def pchk (p : TPost) : Int :=
  if inZ p.Next 1 most = true then
    if 4096 < p.Mails.length ∨ 4096 < p.Subs.length then 6
    else if mailsE p.Next 0 p.Mails ≠ 0 then mailsE p.Next 0 p.Mails else if subsB p.Next none p.Subs = true then 0 else 1
  else 1
def prevS (l : List TSub) (k : Nat) : Option TSub := if k = 0 then none else l[k - 1]?
theorem prevS_succ {l : List TSub} {k : Nat} (h : k < l.length) : prevS l (k + 1) = some l[k] := by
  unfold prevS
  rw [if_neg (by omega), Nat.add_sub_cancel, List.getElem?_eq_getElem h]
theorem prevS_pos {l : List TSub} {k : Nat} (h : k < l.length) (h0 : k ≠ 0) : prevS l k = some l[k - 1] := by
  unfold prevS
  rw [if_neg h0, List.getElem?_eq_getElem (by omega)]
theorem wrap_pred {k : Nat} (h : k < 9223372036854775807) (h0 : k ≠ 0) : IntKind.i64.wrap ((k : Int) - 1) = ((k - 1 : Nat) : Int) := by
  rw [wrap_in (by unfold inR; omega)]
  omega
theorem ref22_subs {p : TPost} (hp : OkP p) : m_ref22_Check_k3 p = some (if subsB p.Next none p.Subs = true then 0 else 1) := by
  unfold m_ref22_Check_k3
  refine loop0 (R := fun k o => o = some (if subsB p.Next (prevS p.Subs k) (p.Subs.drop k) = true then 0 else 1)) (f := m_ref22_Check_l2 p) (big_lt hp.sl) (fun n => ?_) (fun n k hk hw ih => ?_)
  · rw [m_ref22_Check_l2, m_ref22_Check_l2_B, decide_eq_false nlt_k, List.drop_eq_nil_of_le (Nat.le_refl _)]
    rfl
  · rw [prevS_succ hk] at ih
    rw [m_ref22_Check_l2, m_ref22_Check_l2_B, decide_eq_true (lt_k hk), if_pos rfl, nthI_lt hk, bnd_some, List.drop_eq_getElem_cons hk, ref22_Sub (hp.subs _ (List.getElem_mem hk)), bnd_some]
    simp only [m_ref22_Check_k4, hw, ih, subsB, if_true, Bool.false_eq_true, if_false]
    have e1 : decide (p.Next ≤ p.Subs[k].Mail) = !decide (p.Subs[k].Mail < p.Next) := by
      by_cases h : p.Next ≤ p.Subs[k].Mail
      · have : ¬ p.Subs[k].Mail < p.Next := by omega
        simp [h, this]
      · have : p.Subs[k].Mail < p.Next := by omega
        simp [h, this]
    rw [e1]
    by_cases h0 : k = 0
    · subst h0
      rcases Bool.eq_false_or_eq_true (subB p.Subs[0]) with g0 | g0 <;> rcases Bool.eq_false_or_eq_true (decide (p.Subs[0].Mail < p.Next)) with g1 | g1 <;> simp [g0, g1, prevS, behindB]
    · have h1 : (0 : Int) < (k : Int) := by omega
      rw [wrap_pred (big_lt (by have := hp.sl; omega)) h0, nthI_lt (by omega), prevS_pos hk h0]
      simp only [bnd_some, ahead_eq, behindB, decide_eq_true h1, if_true]
      rcases Bool.eq_false_or_eq_true (subB p.Subs[k]) with g0 | g0 <;> rcases Bool.eq_false_or_eq_true (decide (p.Subs[k].Mail < p.Next)) with g1 | g1 <;> rcases Bool.eq_false_or_eq_true (aheadB p.Subs[k - 1] p.Subs[k]) with g2 | g2 <;> simp [g0, g1, g2]
theorem post_subs {p : TPost} (hp : OkP p) : m_post_Check_k3 p = some (if subsB p.Next none p.Subs = true then 0 else 1) := by
  unfold m_post_Check_k3
  refine loop0 (R := fun k o => o = some (if subsB p.Next (prevS p.Subs k) (p.Subs.drop k) = true then 0 else 1)) (f := m_post_Check_l2 p) (big_lt hp.sl) (fun n => ?_) (fun n k hk hw ih => ?_)
  · rw [m_post_Check_l2, m_post_Check_l2_B, decide_eq_false nlt_k, List.drop_eq_nil_of_le (Nat.le_refl _)]
    rfl
  · rw [prevS_succ hk] at ih
    rw [m_post_Check_l2, m_post_Check_l2_B, decide_eq_true (lt_k hk), if_pos rfl, nthI_lt hk, bnd_some, List.drop_eq_getElem_cons hk, post_sub (hp.subs _ (List.getElem_mem hk)), bnd_some]
    simp only [m_post_Check_k4, hw, ih, subsB, if_true, Bool.false_eq_true, if_false]
    have e1 : decide (p.Next ≤ p.Subs[k].Mail) = !decide (p.Subs[k].Mail < p.Next) := by
      by_cases h : p.Next ≤ p.Subs[k].Mail
      · have : ¬ p.Subs[k].Mail < p.Next := by omega
        simp [h, this]
      · have : p.Subs[k].Mail < p.Next := by omega
        simp [h, this]
    rw [e1]
    by_cases h0 : k = 0
    · subst h0
      rcases Bool.eq_false_or_eq_true (subB p.Subs[0]) with g0 | g0 <;> rcases Bool.eq_false_or_eq_true (decide (p.Subs[0].Mail < p.Next)) with g1 | g1 <;> simp [g0, g1, prevS, behindB]
    · have h1 : (0 : Int) < (k : Int) := by omega
      rw [wrap_pred (big_lt (by have := hp.sl; omega)) h0, nthI_lt (by omega), prevS_pos hk h0]
      obtain ⟨r, g1, g2⟩ := order_of p.Subs[k - 1] p.Subs[k]
      simp only [bnd_some, m_post_of, g1, g2, behindB, decide_eq_true h1, if_true]
      rcases Bool.eq_false_or_eq_true (subB p.Subs[k]) with g0 | g0 <;> rcases Bool.eq_false_or_eq_true (decide (p.Subs[k].Mail < p.Next)) with g1 | g1 <;> rcases Bool.eq_false_or_eq_true (aheadB p.Subs[k - 1] p.Subs[k]) with g2 | g2 <;> simp [g0, g1, g2]
def prevI (l : List TMail) (k : Nat) : Int := if k = 0 then 0 else match l[k - 1]? with | some m => m.Id | none => 0
theorem prevI_succ {l : List TMail} {k : Nat} (h : k < l.length) : prevI l (k + 1) = l[k].Id := by
  unfold prevI
  rw [if_neg (by omega), Nat.add_sub_cancel, List.getElem?_eq_getElem h]
theorem prevI_pos {l : List TMail} {k : Nat} (h : k < l.length) (h0 : k ≠ 0) : prevI l k = l[k - 1].Id := by
  unfold prevI
  rw [if_neg h0, List.getElem?_eq_getElem (by omega)]
theorem mchk_id {m : TMail} (h : mchk m = 0) : 1 ≤ m.Id ∧ m.Id ≤ most ∧ nameB m.Name = true ∧ 0 ≤ m.Until ∧ m.Until ≤ most ∧ vchk m.Vars = 0 ∧ whosB [] m.Took = true := by
  unfold mchk at h
  split at h
  · rename_i h1
    simp only [Bool.and_eq_true, inZ_iff] at h1
    split at h
    · rename_i h2; exact absurd h h2
    · rename_i h2
      split at h
      · rename_i h3
        exact ⟨h1.1.1, h1.1.2, h1.2.1, h1.2.2.1, h1.2.2.2, by simpa using h2, h3⟩
      · cases h
  · cases h
theorem ref22_mails {p : TPost} (hp : OkP p) : m_ref22_Check_l1 p ((((p.Mails.length : Int)) - ((0 : Int))).toNat + 1) (0 : Int) = some (if mailsE p.Next 0 p.Mails ≠ 0 then mailsE p.Next 0 p.Mails else if subsB p.Next none p.Subs = true then 0 else 1) := by
  refine loop0 (R := fun k o => o = some (if mailsE p.Next (prevI p.Mails k) (p.Mails.drop k) ≠ 0 then mailsE p.Next (prevI p.Mails k) (p.Mails.drop k) else if subsB p.Next none p.Subs = true then 0 else 1)) (f := m_ref22_Check_l1 p) (big_lt hp.ml) (fun n => ?_) (fun n k hk hw ih => ?_)
  · rw [m_ref22_Check_l1, m_ref22_Check_l1_B, decide_eq_false nlt_k, List.drop_eq_nil_of_le (Nat.le_refl _), ref22_subs hp]
    rfl
  · rw [prevI_succ hk] at ih
    rw [m_ref22_Check_l1, m_ref22_Check_l1_B, decide_eq_true (lt_k hk), if_pos rfl, nthI_lt hk, bnd_some, List.drop_eq_getElem_cons hk, ref22_Mail (hp.mails _ (List.getElem_mem hk)), bnd_some]
    simp only [m_ref22_Check_k2, hw, ih, mailsE]
    by_cases hc : mchk p.Mails[k] = 0
    · have hid := (mchk_id hc).1
      simp only [hc, ne_eq, not_true_eq_false, decide_false, Bool.false_eq_true, if_false]
      by_cases h0 : k = 0
      · subst h0
        have h2 : ¬ p.Mails[0].Id ≤ 0 := by omega
        have h4 : prevI p.Mails 0 = 0 := rfl
        have h5 : decide ((0 : Int) < ((0 : Nat) : Int)) = false := rfl
        rw [h4, h5]
        by_cases h3 : p.Next ≤ p.Mails[0].Id <;> simp [h2, h3]
      · have h1 : (0 : Int) < (k : Int) := by omega
        rw [wrap_pred (big_lt (by have := hp.ml; omega)) h0, nthI_lt (by omega), prevI_pos hk h0]
        by_cases h2 : p.Mails[k].Id ≤ p.Mails[k - 1].Id <;> by_cases h3 : p.Next ≤ p.Mails[k].Id <;> simp [h0, h1, h2, h3, bnd_some]
    · simp [hc]
theorem post_mails {p : TPost} (hp : OkP p) : m_post_Check_l1 p ((((p.Mails.length : Int)) - ((0 : Int))).toNat + 1) (0 : Int) (0 : Int) = some (if mailsE p.Next 0 p.Mails ≠ 0 then mailsE p.Next 0 p.Mails else if subsB p.Next none p.Subs = true then 0 else 1) := by
  refine loop0 (R := fun k o => o = some (if mailsE p.Next (prevI p.Mails k) (p.Mails.drop k) ≠ 0 then mailsE p.Next (prevI p.Mails k) (p.Mails.drop k) else if subsB p.Next none p.Subs = true then 0 else 1)) (f := fun n i => m_post_Check_l1 p n (prevI p.Mails i.toNat) i) (big_lt hp.ml) (fun n => ?_) (fun n k hk hw ih => ?_)
  · rw [m_post_Check_l1, m_post_Check_l1_B, decide_eq_false nlt_k, List.drop_eq_nil_of_le (Nat.le_refl _), post_subs hp]
    rfl
  · rw [Int.toNat_natCast, prevI_succ hk] at ih
    rw [Int.toNat_natCast, m_post_Check_l1, m_post_Check_l1_B, decide_eq_true (lt_k hk), if_pos rfl, nthI_lt hk, bnd_some, List.drop_eq_getElem_cons hk, post_mail (hp.mails _ (List.getElem_mem hk)), bnd_some]
    simp only [m_post_Check_k2, hw, ih, mailsE]
    by_cases hc : mchk p.Mails[k] = 0
    · simp only [hc, ne_eq, not_true_eq_false, decide_false, Bool.false_eq_true, if_false]
      by_cases h2 : p.Mails[k].Id ≤ prevI p.Mails k <;> by_cases h3 : p.Next ≤ p.Mails[k].Id <;> simp [h2, h3]
    · simp [hc]
theorem ref22_Check {p : TPost} (hp : OkP p) : m_ref22_Check p = some (pchk p) := by
  unfold m_ref22_Check pchk m_ref22_Check_k1
  rw [in_eq, bnd_some, ref22_mails hp]
  change (if inZ p.Next 1 most = true then _ else _) = _
  cases inZ p.Next 1 most
  · rfl
  · by_cases h1 : 4096 < p.Mails.length
    · have : (4096 : Int) < (p.Mails.length : Int) := by omega
      simp [h1, this]
    · have h1' : ¬ (4096 : Int) < (p.Mails.length : Int) := by omega
      by_cases h2 : 4096 < p.Subs.length
      · have h2' : (4096 : Int) < (p.Subs.length : Int) := by omega
        simp [h1, h1', h2, h2']
      · have h2' : ¬ (4096 : Int) < (p.Subs.length : Int) := by omega
        simp only [h1, h1', h2, h2', decide_false, Bool.false_eq_true, if_false, if_true, or_self]
theorem post_Check {p : TPost} (hp : OkP p) : m_post_Check p = some (pchk p) := by
  unfold m_post_Check pchk m_post_Check_k1
  rw [wide_eq, bnd_some, post_mails hp]
  cases inZ p.Next 1 most
  · rfl
  · by_cases h1 : 4096 < p.Mails.length
    · have : (4096 : Int) < (p.Mails.length : Int) := by omega
      simp [h1, this]
    · have h1' : ¬ (4096 : Int) < (p.Mails.length : Int) := by omega
      by_cases h2 : 4096 < p.Subs.length
      · have h2' : (4096 : Int) < (p.Subs.length : Int) := by omega
        simp [h1, h1', h2, h2']
      · have h2' : ¬ (4096 : Int) < (p.Subs.length : Int) := by omega
        simp only [h1, h1', h2, h2', decide_false, Bool.false_eq_true, if_false, if_true, or_self]
end Go.Proofs.Ytefjblgmnoheiaa.R

/- Plain laws: posts compared, copied, weighed: PostChecks. -/
set_option maxRecDepth 100000
set_option linter.unusedVariables false
set_option linter.unusedSimpArgs false
noncomputable section
namespace Go.Proofs.Ytefjblgmnoheiaa.R
open Go
theorem big_mx {n : Nat} (h : n ≤ big63) : n ≤ maxLen := big_max h
/-! ### 22.11 -/
def sameW (a b : TWho) : Bool := decide (a.Part = b.Part) && decide (a.Inst = b.Inst)
theorem sameW_iff (a b : TWho) : sameW a b = true ↔ a = b := by
  cases a; cases b
  simp [sameW]
def sameS (a b : TSub) : Bool := (decide (a.Part = b.Part)) && ((decide (a.Id = b.Id)) && ((decide (a.Inst = b.Inst)) && ((eqS a.Name b.Name) && ((decide (a.Key = b.Key)) && (decide (a.Mail = b.Mail))))))
theorem sameS_iff (a b : TSub) : sameS a b = true ↔ a = b := by
  cases a; cases b
  simp [sameS, eqS_iff]
def sameM (a b : TMail) : Bool := decide (a.Id = b.Id) && (eqS a.Name b.Name && (decide (a.Key = b.Key) && (decide (a.Until = b.Until) && (sameV a.Vars b.Vars && same2 sameW a.Took b.Took))))
theorem sameM_iff (a b : TMail) : sameM a b = true ↔ a = b := by
  cases a; cases b
  simp only [sameM, Bool.and_eq_true, decide_eq_true_eq, eqS_iff, sameV_iff, same2_iff sameW_iff, TMail.mk.injEq]
  constructor
  · rintro ⟨a, b, c, d, e, f⟩; exact ⟨a, b, c, e, d, f⟩
  · rintro ⟨a, b, c, d, e, f⟩; exact ⟨a, b, c, e, d, f⟩
def sameP (a b : TPost) : Bool := decide (a.Next = b.Next) && (same2 sameS a.Subs b.Subs && same2 sameM a.Mails b.Mails)
theorem sameP_iff (a b : TPost) : sameP a b = true ↔ a = b := by
  cases a; cases b
  simp only [sameP, Bool.and_eq_true, decide_eq_true_eq, same2_iff sameS_iff, same2_iff sameM_iff, TPost.mk.injEq]
  constructor
  · rintro ⟨a, b, c⟩; exact ⟨a, c, b⟩
  · rintro ⟨a, b, c⟩; exact ⟨a, c, b⟩
theorem eqwho {a b : List TWho} (hl : a.length ≤ big63) : m_slices_Equal_api_Who_api_Who a b = some (same2 sameW a b) := by
  unfold m_slices_Equal_api_Who_api_Who same2
  by_cases h : a.length = b.length
  · have h1 : ¬ ((a.length : Int) ≠ (b.length : Int)) := by omega
    rw [decide_eq_false h1, if_neg (by simp), all2_loop0 (f := m_slices_Equal_api_Who_api_Who_l1 a b) (p := sameW) h (big_mx hl), decide_eq_true h, Bool.true_and]
    intro n k
    rw [m_slices_Equal_api_Who_api_Who_l1, m_slices_Equal_api_Who_api_Who_l1_B]
    simp only [decide_eq_true_eq, Int.ofNat_lt]
    rfl
  · have h1 : ((a.length : Int) ≠ (b.length : Int)) := by omega
    simp [h1, h]
theorem eqsubs {a b : List TSub} (hl : a.length ≤ big63) : m_slices_Equal_api_Sub_api_Sub a b = some (same2 sameS a b) := by
  unfold m_slices_Equal_api_Sub_api_Sub same2
  by_cases h : a.length = b.length
  · have h1 : ¬ ((a.length : Int) ≠ (b.length : Int)) := by omega
    rw [decide_eq_false h1, if_neg (by simp), all2_loop0 (f := m_slices_Equal_api_Sub_api_Sub_l1 a b) (p := sameS) h (big_mx hl), decide_eq_true h, Bool.true_and]
    intro n k
    rw [m_slices_Equal_api_Sub_api_Sub_l1, m_slices_Equal_api_Sub_api_Sub_l1_B]
    simp only [decide_eq_true_eq, Int.ofNat_lt]
    rfl
  · have h1 : ((a.length : Int) ≠ (b.length : Int)) := by omega
    simp [h1, h]
theorem same_mail {a b : TMail} (ha : OkM a) : m_post_Same_1 a b = some (sameM a b) := by
  unfold m_post_Same_1 sameM
  rw [vars_Same ha.vars, eqwho ha.took]
  simp only [bnd_some]
  by_cases h1 : a.Id = b.Id <;> rcases Bool.eq_false_or_eq_true (eqS a.Name b.Name) with h2 | h2 <;> by_cases h3 : a.Key = b.Key <;> by_cases h4 : a.Until = b.Until <;> rcases Bool.eq_false_or_eq_true (sameV a.Vars b.Vars) with h5 | h5 <;> simp [h1, h2, h3, h4, h5]
theorem eqmails {a b : List TMail} (hl : a.length ≤ big63) (ha : ∀ m ∈ a, OkM m) : m_slices_EqualFunc_api_Mail_api_Mail_api_Mail_api_Mail a b = some (same2 sameM a b) := by
  unfold m_slices_EqualFunc_api_Mail_api_Mail_api_Mail_api_Mail same2
  by_cases h : a.length = b.length
  · have h1 : ¬ ((a.length : Int) ≠ (b.length : Int)) := by omega
    rw [decide_eq_false h1, if_neg (by simp), all2_loop0 (f := m_slices_EqualFunc_api_Mail_api_Mail_api_Mail_api_Mail_l1 a b) (p := sameM) h (big_mx hl), decide_eq_true h, Bool.true_and]
    intro n k
    rw [m_slices_EqualFunc_api_Mail_api_Mail_api_Mail_api_Mail_l1, m_slices_EqualFunc_api_Mail_api_Mail_api_Mail_api_Mail_l1_B]
    simp only [decide_eq_true_eq, Int.ofNat_lt]
    by_cases hk : k < a.length
    · rw [if_pos hk, if_pos hk, nthI_lt hk, nthI_lt (by omega)]
      simp only [bnd_some, same_mail (ha _ (List.getElem_mem hk))]
    · rw [if_neg hk, if_neg hk]
  · have h1 : ((a.length : Int) ≠ (b.length : Int)) := by omega
    simp [h1, h]
theorem post_Same {a b : TPost} (ha : OkP a) : m_post_Same a b = some (sameP a b) := by
  unfold m_post_Same sameP
  rw [eqsubs ha.sl, eqmails ha.ml ha.mails]
  simp only [bnd_some]
  by_cases h1 : a.Next = b.Next <;> rcases Bool.eq_false_or_eq_true (same2 sameS a.Subs b.Subs) with h2 | h2 <;> simp [h1, h2]
theorem ref_mail {a b : TMail} (ha : OkM a) : m_ref22_sameMail a b = some (sameM a b) := by
  have hl : ∀ h : a.Took.length = b.Took.length, m_ref22_sameMail_l1 a b ((((a.Took.length : Int)) - ((0 : Int))).toNat + 1) (0 : Int) = some (all2 sameW a.Took b.Took) := fun h => by
    refine all2_loop0 (f := m_ref22_sameMail_l1 a b) (p := sameW) h (big_mx ha.took) ?_
    intro n k
    rw [m_ref22_sameMail_l1, m_ref22_sameMail_l1_B]
    simp only [decide_eq_true_eq, Int.ofNat_lt]
    rfl
  unfold m_ref22_sameMail sameM m_ref22_sameMail_k1 same2
  rw [ref09_Same ha.vars]
  simp only [bnd_some]
  have e : decide ((a.Took.length : Int) ≠ (b.Took.length : Int)) = !decide (a.Took.length = b.Took.length) := by
    by_cases h : a.Took.length = b.Took.length
    · simp [h]
    · have : ¬ ((a.Took.length : Int) = (b.Took.length : Int)) := by omega
      simp [h, this]
  rw [e]
  by_cases h1 : a.Id = b.Id <;> rcases Bool.eq_false_or_eq_true (eqS a.Name b.Name) with h2 | h2 <;> by_cases h3 : a.Key = b.Key <;> by_cases h4 : a.Until = b.Until <;> rcases Bool.eq_false_or_eq_true (sameV a.Vars b.Vars) with h5 | h5 <;> by_cases h6 : a.Took.length = b.Took.length <;> simp [h1, h2, h3, h4, h5, h6]
  rw [← h6]
  exact hl h6
theorem ref22_Same {a b : TPost} (ha : OkP a) : m_ref22_Same a b = some (sameP a b) := by
  have hs : ∀ h : a.Subs.length = b.Subs.length, m_ref22_Same_k2 a b = some (all2 sameS a.Subs b.Subs) := fun h => by
    unfold m_ref22_Same_k2
    refine all2_loop0 (f := m_ref22_Same_l2 a b) (p := sameS) h (big_mx ha.sl) ?_
    intro n k
    rw [m_ref22_Same_l2, m_ref22_Same_l2_B]
    simp only [decide_eq_true_eq, Int.ofNat_lt]
    rfl
  have hm : a.Mails.length = b.Mails.length → a.Subs.length = b.Subs.length → m_ref22_Same_l1 a b ((((a.Mails.length : Int)) - ((0 : Int))).toNat + 1) (0 : Int) = some (all2 sameM a.Mails b.Mails && all2 sameS a.Subs b.Subs) := fun h h' => by
    refine loop0 (R := fun k o => o = some (all2 sameM (a.Mails.drop k) (b.Mails.drop k) && all2 sameS a.Subs b.Subs)) (f := m_ref22_Same_l1 a b) (big_lt ha.ml) (fun n => ?_) (fun n k hk hw ih => ?_)
    · rw [m_ref22_Same_l1, m_ref22_Same_l1_B, decide_eq_false nlt_k, if_neg (by simp), hs h', List.drop_eq_nil_of_le (as := a.Mails) (Nat.le_refl _)]
      simp [all2]
    · have hk' : k < b.Mails.length := by omega
      rw [m_ref22_Same_l1, m_ref22_Same_l1_B, decide_eq_true (lt_k hk), if_pos rfl, nthI_lt hk, nthI_lt hk', bnd_some, bnd_some, ref_mail (ha.mails _ (List.getElem_mem hk)), bnd_some, hw, ih, List.drop_eq_getElem_cons hk, List.drop_eq_getElem_cons hk', all2]
      rcases Bool.eq_false_or_eq_true (sameM a.Mails[k] b.Mails[k]) with h1 | h1 <;> simp [h1]
  unfold m_ref22_Same sameP m_ref22_Same_k1 same2
  by_cases h1 : a.Next = b.Next
  · by_cases h2 : a.Mails.length = b.Mails.length
    · by_cases h3 : a.Subs.length = b.Subs.length
      · have e2 : ¬ ((a.Mails.length : Int) ≠ (b.Mails.length : Int)) := by omega
        have e3 : ¬ ((a.Subs.length : Int) ≠ (b.Subs.length : Int)) := by omega
        rw [hm h2 h3]
        simp [h1, h2, h3, Bool.and_comm]
      · have e3 : ((a.Subs.length : Int) ≠ (b.Subs.length : Int)) := by omega
        by_cases e2 : ((a.Mails.length : Int) ≠ (b.Mails.length : Int)) <;> simp [h1, e2, e3, h3]
    · have e2 : ((a.Mails.length : Int) ≠ (b.Mails.length : Int)) := by omega
      simp [h1, e2, h2]
  · simp [h1]
/-! ### A copy -/
theorem setI_same {α : Type} {l : List α} {k : Nat} (h : k < l.length) : setI l (k : Int) l[k] = l := by simp [setI]
structure CapM (m : TMail) : Prop where
  took : m.Took.length ≤ 549755813888
  names : m.Vars.Names.length ≤ 549755813888
  vals : m.Vars.Vals.length ≤ 549755813888
structure CapP (p : TPost) : Prop where
  ml : p.Mails.length ≤ 549755813888
  sl : p.Subs.length ≤ 549755813888
  mails : ∀ m ∈ p.Mails, CapM m
theorem post_Copy {p : TPost} (hc : CapP p) : m_post_Copy p = some p := by
  unfold m_post_Copy
  rw [capB_small hc.ml, capB_small hc.sl]
  simp only [if_true]
  refine loop0 (R := fun k o => o = some p) (f := fun n i => m_post_Copy_l1 p n i p.Mails) (by have := hc.ml; omega) (fun n => ?_) (fun n k hk hw ih => ?_)
  · rw [m_post_Copy_l1, m_post_Copy_l1_B, decide_eq_false nlt_k]
    rfl
  · have hm := hc.mails _ (List.getElem_mem hk)
    rw [m_post_Copy_l1, m_post_Copy_l1_B, decide_eq_true (lt_k hk), if_pos rfl, nthI_lt hk, bnd_some, copy_eq hm.names hm.vals, bnd_some, capB_small hm.took, if_pos rfl, hw]
    have e : TMail.mk p.Mails[k].Id p.Mails[k].Name p.Mails[k].Key p.Mails[k].Vars p.Mails[k].Until p.Mails[k].Took = p.Mails[k] := rfl
    rw [e, setI_same hk, setI_same hk]
    exact ih
/-! ### Weights -/
structure SmallM (m : TMail) : Prop where
  took : m.Took.length ≤ 200
  names : m.Vars.Names.length ≤ 200
  vals : m.Vars.Vals.length ≤ 200
  name : m.Name.size < 8040
  nm : ∀ s ∈ m.Vars.Names, s.size < 8040
structure SmallP (p : TPost) : Prop where
  ml : p.Mails.length ≤ 200
  sl : p.Subs.length ≤ 200
  mails : ∀ m ∈ p.Mails, SmallM m
  subs : ∀ s ∈ p.Subs, s.Name.size < 8040
theorem SmallP.cap {p : TPost} (h : SmallP p) : CapP p := ⟨by have := h.ml; omega, by have := h.sl; omega, fun m hm => ⟨by have := (h.mails m hm).took; omega, by have := (h.mails m hm).names; omega, by have := (h.mails m hm).vals; omega⟩⟩
/-- As far as a number of the elements. -/
def lim40 : Nat := 4503599627370496
theorem wrap_add {a b : Int} (h : -9223372036854775808 ≤ a + b) (h' : a + b ≤ 9223372036854775807) : IntKind.i64.wrap (a + b) = a + b := wrap_in ⟨h, h'⟩
theorem div40 {n : Nat} (h : n ≤ big63) : IntKind.i64.wrap ((n : Int).tdiv 40) = ((n / 40 : Nat) : Int) := by
  rw [tdiv_nn (by omega), wrap_in (by unfold inR; unfold big63 at h; omega)]
  omega
theorem weight_l3 {rec : Int → Int → Option Int} {i : Int} {m : TMail} (hm : OkM m) {n0 : Int} (h0 : 0 ≤ n0) (hb : n0 ≤ 1125899906842624) :
    ∃ n', n0 ≤ n' ∧ n' ≤ 1125899906842624 + big63 ∧ (n' ≤ 200 → ∀ s ∈ m.Vars.Names, s.size < 8040) ∧ m_ref22_Weight_l3 rec 200 i m ((((m.Vars.Names.length : Int)) - ((0 : Int))).toNat + 1) n0 (0 : Int) = m_ref22_Weight_k5 rec i n' := by
  suffices h : ∀ n0 : Int, 0 ≤ n0 → n0 ≤ 1125899906842624 + big63 → (n0 ≤ 200 ∨ (0 : Nat) ≤ 0) → n0 ≤ 1125899906842624 + big63 → ∃ n', n0 ≤ n' ∧ n' ≤ 1125899906842624 + big63 ∧ (n' ≤ 200 → ∀ s ∈ m.Vars.Names.drop 0, s.size < 8040) ∧ m_ref22_Weight_l3 rec 200 i m ((((m.Vars.Names.length : Int)) - ((0 : Int))).toNat + 1) n0 (0 : Int) = m_ref22_Weight_k5 rec i n' by
    exact h n0 h0 (by unfold big63; omega) (Or.inr (Nat.le_refl _)) (by unfold big63; omega)
  suffices h : ∀ n0 : Int, 0 ≤ n0 → n0 ≤ 1125899906842624 + big63 → ∃ n', n0 ≤ n' ∧ n' ≤ 1125899906842624 + big63 ∧ (n' ≤ 200 → ∀ s ∈ m.Vars.Names.drop 0, s.size < 8040) ∧ m_ref22_Weight_l3 rec 200 i m ((((m.Vars.Names.length : Int)) - ((0 : Int))).toNat + 1) n0 (0 : Int) = m_ref22_Weight_k5 rec i n' by
    intro n0 a b _ _
    exact h n0 a b
  refine loop0 (β := Int → Option Int) (R := fun k o => ∀ n0 : Int, 0 ≤ n0 → n0 ≤ 1125899906842624 + big63 → ∃ n', n0 ≤ n' ∧ n' ≤ 1125899906842624 + big63 ∧ (n' ≤ 200 → ∀ s ∈ m.Vars.Names.drop k, s.size < 8040) ∧ (match o with | some g => g n0 | none => none) = m_ref22_Weight_k5 rec i n') (f := fun n k => some fun n0 => m_ref22_Weight_l3 rec 200 i m n n0 k) (big_lt hm.vars.len) (fun n n0 a b => ?_) (fun n k hk hw ih n0 a b => ?_)
  · refine ⟨n0, Int.le_refl _, b, fun _ s hs => ?_, ?_⟩
    · rw [List.drop_eq_nil_of_le (Nat.le_refl _)] at hs
      simp at hs
    · simp only [m_ref22_Weight_l3, m_ref22_Weight_l3_B, decide_eq_false nlt_k]
      rfl
  · simp only [m_ref22_Weight_l3, m_ref22_Weight_l3_B, decide_eq_true (lt_k hk), if_true, m_ref22_Weight_k4]
    have hs := hm.vars.names _ (List.getElem_mem hk)
    by_cases h : n0 ≤ 200
    · rw [decide_eq_true h, if_pos rfl, nthI_lt hk, bnd_some, div40 hs, wrap_add (by omega) (by unfold big63 at hs; omega), hw]
      obtain ⟨n', g1, g2, g3, g4⟩ := ih (n0 + ((m.Vars.Names[k].size / 40 : Nat) : Int)) (by omega) (by unfold big63 at hs ⊢; omega)
      refine ⟨n', by omega, g2, fun hn s hs' => ?_, g4⟩
      rw [List.drop_eq_getElem_cons hk, List.mem_cons] at hs'
      rcases hs' with rfl | hs'
      · omega
      · exact g3 hn s hs'
    · rw [decide_eq_false h]
      exact ⟨n0, Int.le_refl _, b, fun hn => absurd hn h, rfl⟩
theorem weight_mails {p : TPost} (hp : OkP p) : ∀ n0 : Int, 0 ≤ n0 → n0 ≤ 1125899906842624 → ∃ n', n0 ≤ n' ∧ (n' ≤ 200 → n0 + p.Mails.length ≤ n' ∧ ∀ m ∈ p.Mails, SmallM m) ∧ m_ref22_Weight_k2 p 200 n0 = some n' := by
  suffices h : ∀ n0 : Int, 0 ≤ n0 → n0 ≤ 1125899906842624 + big63 → ∃ n', n0 ≤ n' ∧ (n' ≤ 200 → n0 + (p.Mails.length - 0 : Nat) ≤ n' ∧ ∀ m ∈ p.Mails.drop 0, SmallM m) ∧ m_ref22_Weight_l2 p 200 ((((p.Mails.length : Int)) - ((0 : Int))).toNat + 1) n0 (0 : Int) = some n' by
    intro n0 a b
    have := h n0 a (by unfold big63; omega)
    simpa [m_ref22_Weight_k2] using this
  refine loop0 (β := Int → Option Int) (R := fun k o => ∀ n0 : Int, 0 ≤ n0 → n0 ≤ 1125899906842624 + big63 → ∃ n', n0 ≤ n' ∧ (n' ≤ 200 → n0 + (p.Mails.length - k : Nat) ≤ n' ∧ ∀ m ∈ p.Mails.drop k, SmallM m) ∧ (match o with | some g => g n0 | none => none) = some n') (f := fun n k => some fun n0 => m_ref22_Weight_l2 p 200 n n0 k) (big_lt hp.ml) (fun n n0 a b => ?_) (fun n k hk hw ih n0 a b => ?_)
  · refine ⟨n0, Int.le_refl _, fun _ => ⟨by omega, fun s hs => ?_⟩, ?_⟩
    · rw [List.drop_eq_nil_of_le (Nat.le_refl _)] at hs
      simp at hs
    · simp only [m_ref22_Weight_l2, m_ref22_Weight_l2_B, decide_eq_false nlt_k]
      rfl
  · simp only [m_ref22_Weight_l2, m_ref22_Weight_l2_B, decide_eq_true (lt_k hk), if_true, m_ref22_Weight_k3]
    have hm := hp.mails _ (List.getElem_mem hk)
    by_cases h : n0 ≤ 200
    · rw [decide_eq_true h, if_pos rfl, nthI_lt hk, bnd_some]
      have b1 := hm.name
      have b2 := hm.took
      have b3 := hm.vars.len
      have b4 := hm.vars.lenV
      unfold big63 at b1 b2 b3 b4
      rw [div40 hm.name, wrap_add (a := n0) (by omega) (by omega), wrap_add (a := n0 + 1) (by omega) (by omega), wrap_add (b := (p.Mails[k].Took.length : Int)) (by omega) (by omega), wrap_add (b := (p.Mails[k].Vars.Names.length : Int)) (by omega) (by omega), wrap_add (b := (p.Mails[k].Vars.Vals.length : Int)) (by omega) (by omega)]
      obtain ⟨n', g1, g2, g3, g4⟩ := weight_l3 (rec := m_ref22_Weight_l2 p 200 n) (i := (k : Int)) hm (n0 := n0 + 1 + ((p.Mails[k].Name.size / 40 : Nat) : Int) + (p.Mails[k].Took.length : Int) + (p.Mails[k].Vars.Names.length : Int) + (p.Mails[k].Vars.Vals.length : Int)) (by omega) (by omega)
      rw [g4, m_ref22_Weight_k5, hw]
      obtain ⟨n'', k1, k2, k3⟩ := ih n' (by omega) g2
      refine ⟨n'', by omega, fun hn => ?_, k3⟩
      obtain ⟨q1, q2⟩ := k2 hn
      refine ⟨by omega, fun x hx => ?_⟩
      rw [List.drop_eq_getElem_cons hk, List.mem_cons] at hx
      rcases hx with rfl | hx
      · exact ⟨by omega, by omega, by omega, by omega, g3 (by omega)⟩
      · exact q2 x hx
    · rw [decide_eq_false h]
      exact ⟨n0, Int.le_refl _, fun hn => absurd hn h, rfl⟩
theorem weight_ok {p : TPost} (hp : OkP p) : ∃ r, m_ref22_Weight p 200 = some r ∧ (r ≤ 200 → SmallP p) := by
  suffices h : ∀ n0 : Int, 0 ≤ n0 → n0 ≤ 1125899906842624 → ∃ n', n0 ≤ n' ∧ (n' ≤ 200 → n0 + p.Mails.length ≤ n' ∧ (∀ m ∈ p.Mails, SmallM m) ∧ ∀ s ∈ p.Subs.drop 0, s.Name.size < 8040) ∧ m_ref22_Weight_l1 p 200 ((((p.Subs.length : Int)) - ((0 : Int))).toNat + 1) n0 (0 : Int) = some n' by
    have b := hp.sl
    obtain ⟨r, h1, h2, h3⟩ := h (p.Subs.length : Int) (by omega) (by unfold big63 at b; omega)
    refine ⟨r, h3, fun hr => ?_⟩
    obtain ⟨g1, g2, g3⟩ := h2 hr
    exact ⟨by omega, by omega, g2, fun s hs => g3 s (by simpa using hs)⟩
  refine loop0 (β := Int → Option Int) (R := fun k o => ∀ n0 : Int, 0 ≤ n0 → n0 ≤ 1125899906842624 → ∃ n', n0 ≤ n' ∧ (n' ≤ 200 → n0 + p.Mails.length ≤ n' ∧ (∀ m ∈ p.Mails, SmallM m) ∧ ∀ s ∈ p.Subs.drop k, s.Name.size < 8040) ∧ (match o with | some g => g n0 | none => none) = some n') (f := fun n k => some fun n0 => m_ref22_Weight_l1 p 200 n n0 k) (big_lt hp.sl) (fun n n0 a b => ?_) (fun n k hk hw ih n0 a b => ?_)
  · obtain ⟨n', g1, g2, g3⟩ := weight_mails hp n0 a b
    refine ⟨n', g1, fun hn => ⟨(g2 hn).1, (g2 hn).2, fun s hs => ?_⟩, ?_⟩
    · rw [List.drop_eq_nil_of_le (Nat.le_refl _)] at hs
      simp at hs
    · simp only [m_ref22_Weight_l1, m_ref22_Weight_l1_B, decide_eq_false nlt_k]
      exact g3
  · simp only [m_ref22_Weight_l1, m_ref22_Weight_l1_B, decide_eq_true (lt_k hk), if_true, m_ref22_Weight_k1]
    have hs := (hp.subs _ (List.getElem_mem hk)).name
    by_cases h : n0 ≤ 200
    · rw [decide_eq_true h, if_pos rfl, nthI_lt hk, bnd_some, div40 hs, wrap_add (by omega) (by unfold big63 at hs; omega), hw]
      obtain ⟨n', g1, g2, g3⟩ := ih (n0 + ((p.Subs[k].Name.size / 40 : Nat) : Int)) (by omega) (by unfold big63 at hs; omega)
      refine ⟨n', by omega, fun hn => ?_, g3⟩
      obtain ⟨q1, q2, q3⟩ := g2 hn
      refine ⟨by omega, q2, fun s hs' => ?_⟩
      rw [List.drop_eq_getElem_cons hk, List.mem_cons] at hs'
      rcases hs' with rfl | hs'
      · omega
      · exact q3 s hs'
    · rw [decide_eq_false h]
      obtain ⟨n', g1, g2, g3⟩ := weight_mails hp n0 a b
      exact ⟨n', g1, fun hn => absurd hn (by omega), g3⟩
theorem light_ok {p : TPost} (hp : OkP p) : ∃ b, m_law22_light p = some b ∧ (b = true → SmallP p) := by
  obtain ⟨r, h1, h2⟩ := weight_ok hp
  refine ⟨decide (r ≤ 200), by unfold m_law22_light; rw [h1]; rfl, fun h => h2 (by simpa using h)⟩
end Go.Proofs.Ytefjblgmnoheiaa.R

/- Plain law of PostChecks. -/
set_option maxRecDepth 100000
set_option linter.unusedVariables false
set_option linter.unusedSimpArgs false
noncomputable section
namespace Go.Proofs.Ytefjblgmnoheiaa.R
open Go
theorem ans_PostChecks {p q : TPost} (hp : OkP p) (hq : OkP q) : m_law22_PostChecks p q = some true := by
  obtain ⟨b, hb, hl⟩ := light_ok hp
  obtain ⟨b', hb', _⟩ := light_ok hq
  unfold m_law22_PostChecks m_law22_PostChecks_k1
  rw [hb, hb']
  have hwk : m_law22_works = some true := rfl
  simp only [bnd_some, hwk, if_true]
  cases b with
  | false => simp
  | true =>
    cases b' with
    | false => simp
    | true =>
      have h1 : sameP p p = true := (sameP_iff p p).2 rfl
      simp [post_Check hp, ref22_Check hp, post_Same hp, ref22_Same hp, post_Copy (hl rfl).cap, bnd_some, h1]
end Go.Proofs.Ytefjblgmnoheiaa.R

