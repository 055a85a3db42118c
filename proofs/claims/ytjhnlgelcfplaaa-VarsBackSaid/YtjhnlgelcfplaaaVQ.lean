/- Plain laws: numbers, elements, lists compared. -/
import Derived.Test.YtjhnlgelcfplaaaMF
import Derived.IntWalk
set_option maxRecDepth 100000
set_option linter.unusedVariables false
set_option linter.unusedSimpArgs false
noncomputable section
namespace Go.Proofs.Ytjhnlgelcfplaaa.R
open Go
/-! ### Ranges -/
def inR (n : Int) : Prop := -9223372036854775808 ≤ n ∧ n ≤ 9223372036854775807
instance (n : Int) : Decidable (inR n) := inferInstanceAs (Decidable (_ ∧ _))
theorem wrap_in {n : Int} (h : inR n) : IntKind.i64.wrap n = n := IntWalk.i64_in n h
theorem wrap_r (n : Int) : inR (IntKind.i64.wrap n) := by
  unfold inR
  rw [IntKind.wrap_i64]
  omega
theorem u64_in {n : Int} (h0 : 0 ≤ n) (h1 : n < 18446744073709551616) : IntKind.u64.wrap n = n := by
  simp only [IntKind.wrap, IntKind.signed, IntKind.bits]
  simp
  omega
theorem u64_mod (n : Int) : IntKind.u64.wrap n = n % 18446744073709551616 := by
  simp only [IntKind.wrap, IntKind.signed, IntKind.bits]
  simp
theorem tmod_nn {a b : Int} (ha : 0 ≤ a) : a.tmod b = a % b := Int.tmod_eq_emod_of_nonneg ha
theorem tdiv_nn {a b : Int} (ha : 0 ≤ a) : a.tdiv b = a / b := Int.tdiv_eq_ediv_of_nonneg ha
theorem wrap_succ {k : Nat} (h : k < 9223372036854775807) : IntKind.i64.wrap ((k : Int) + 1) = ((k + 1 : Nat) : Int) := by
  rw [wrap_in (by unfold inR; omega)]
  rfl
theorem wrap_succ' {i : Int} (h0 : 0 ≤ i) (h : i < 9223372036854775807) : IntKind.i64.wrap (i + 1) = i + 1 := wrap_in (by unfold inR; omega)
/-! ### Elements -/
theorem nthI_nat {α : Type} (l : List α) (k : Nat) : nthI l (k : Int) = l[k]? := by simp [nthI]
theorem nthI_lt {α : Type} {l : List α} {k : Nat} (h : k < l.length) : nthI l (k : Int) = some l[k] := by rw [nthI_nat, List.getElem?_eq_getElem h]
theorem nthI_zero {α : Type} (l : List α) : nthI l 0 = l[0]? := by simp [nthI]
theorem nthI_one {α : Type} (l : List α) : nthI l 1 = l[1]? := by simp [nthI]
theorem bytesI_len (s : ByteArray) : (bytesI s).length = s.size := by simp [bytesI]
theorem nthS_eq (s : ByteArray) (i : Int) : nthS s i = nthI (bytesI s) i := by
  unfold nthS nthI bytesI
  split
  · rw [List.getElem?_map]
  · rfl
theorem maxLen_eq : maxLen = 9223372036854775807 := rfl
theorem capB_small {n : Nat} (h : n ≤ 549755813888) : capB n = true := by
  unfold capB limN
  simpa using h
/-! ### Two lists compared -/
def all2 {α : Type} (p : α → α → Bool) : List α → List α → Bool
  | x :: a, y :: b => p x y && all2 p a b
  | _, _ => true
def same2 {α : Type} (p : α → α → Bool) (a b : List α) : Bool := decide (a.length = b.length) && all2 p a b
theorem all2_loop {α : Type} {p : α → α → Bool} {a b : List α} (hab : a.length = b.length) (hl : a.length ≤ maxLen) {f : Nat → Int → Option Bool}
    (hf : ∀ n (k : Nat), f (n + 1) (k : Int) = if k < a.length then bnd (nthI a (k : Int)) fun x => bnd (nthI b (k : Int)) fun y => if p x y = true then f n (IntKind.i64.wrap ((k : Int) + 1)) else some false else some true) :
    ∀ (m k n : Nat), a.length - k = m → k ≤ a.length → m < n → f n (k : Int) = some (all2 p (a.drop k) (b.drop k)) := by
  intro m
  induction m with
  | zero =>
    intro k n hm hk hn
    obtain ⟨n, rfl⟩ : ∃ n', n = n' + 1 := ⟨n - 1, by omega⟩
    rw [hf, if_neg (by omega), List.drop_eq_nil_of_le (as := a) (by omega)]
    rfl
  | succ m ih =>
    intro k n hm hk hn
    obtain ⟨n, rfl⟩ : ∃ n', n = n' + 1 := ⟨n - 1, by omega⟩
    have h1 : k < a.length := by omega
    have h2 : k < b.length := by omega
    rw [maxLen_eq] at hl
    rw [hf, if_pos h1, nthI_lt h1, nthI_lt h2, bnd_some, bnd_some, wrap_succ (by omega), ih (k + 1) n (by omega) (by omega) (by omega), List.drop_eq_getElem_cons h1, List.drop_eq_getElem_cons h2]
    cases h : p a[k] b[k] <;> simp [all2, h]
theorem all2_loop0 {α : Type} {p : α → α → Bool} {a b : List α} (hab : a.length = b.length) (hl : a.length ≤ maxLen) {f : Nat → Int → Option Bool}
    (hf : ∀ n (k : Nat), f (n + 1) (k : Int) = if k < a.length then bnd (nthI a (k : Int)) fun x => bnd (nthI b (k : Int)) fun y => if p x y = true then f n (IntKind.i64.wrap ((k : Int) + 1)) else some false else some true) :
    f ((((a.length : Int)) - ((0 : Int))).toNat + 1) (0 : Int) = some (all2 p a b) := by
  have := all2_loop hab hl hf _ 0 ((((a.length : Int)) - ((0 : Int))).toNat + 1) rfl (Nat.zero_le _) (by omega)
  simpa using this
theorem all2_refl {α : Type} {p : α → α → Bool} (h : ∀ x, p x x = true) : ∀ (a : List α), all2 p a a = true
  | [] => rfl
  | x :: a => by simp [all2, h x, all2_refl h a]
theorem same2_refl {α : Type} {p : α → α → Bool} (h : ∀ x, p x x = true) (a : List α) : same2 p a a = true := by simp [same2, all2_refl h a]
theorem all2_iff {α : Type} {p : α → α → Bool} (h : ∀ x y, p x y = true ↔ x = y) : ∀ (a b : List α), a.length = b.length → (all2 p a b = true ↔ a = b)
  | [], [], _ => by simp [all2]
  | x :: a, y :: b, hl => by
    have := all2_iff h a b (by simpa using hl)
    simp [all2, h, this]
theorem same2_iff {α : Type} {p : α → α → Bool} (h : ∀ x y, p x y = true ↔ x = y) (a b : List α) : same2 p a b = true ↔ a = b := by
  unfold same2
  by_cases hl : a.length = b.length
  · simp [hl, all2_iff h a b hl]
  · simp [hl]
    rintro rfl
    exact hl rfl
end Go.Proofs.Ytjhnlgelcfplaaa.R

/- Plain laws: names, variables checked. -/
set_option maxRecDepth 100000
set_option linter.unusedVariables false
set_option linter.unusedSimpArgs false
noncomputable section
namespace Go.Proofs.Ytjhnlgelcfplaaa.R
open Go
def big63 : Nat := 9223372036854775807
/-! ### Names -/
def letB (c : Int) : Bool := decide (97 ≤ c) && decide (c ≤ 122)
def digB (c : Int) : Bool := decide (48 ≤ c) && decide (c ≤ 57)
def nameL (l : List Int) : Bool := l.all (fun c => letB c || digB c) && ((match l with | [] => false | c :: _ => letB c) && decide (l.length ≤ 32))
def nameB (s : ByteArray) : Bool := nameL (bytesI s)
def firstB : List Int → Bool
  | [] => true
  | c :: _ => letB c
theorem firstB_get : ∀ (l : List Int) (h : 0 < l.length), firstB l = letB l[0]
  | [], h => by simp at h
  | c :: r, _ => rfl
theorem ref02_loop (s : ByteArray) (hs : s.size ≤ big63) : ∀ (m k n : Nat), (bytesI s).length - k = m → k ≤ (bytesI s).length → m < n → m_ref02_Name_l1 s n (k : Int) = some (((bytesI s).drop k).all (fun c => letB c || digB c)) := by
  intro m
  induction m with
  | zero =>
    intro k n hm hk hn
    obtain ⟨n, rfl⟩ : ∃ n', n = n' + 1 := ⟨n - 1, by omega⟩
    have hk' : ¬ ((k : Int) < (s.size : Int)) := by rw [← bytesI_len]; omega
    rw [m_ref02_Name_l1, m_ref02_Name_l1_B]
    simp only [hk', decide_false, Bool.false_eq_true, if_false]
    rw [List.drop_eq_nil_of_le (by omega)]
    rfl
  | succ m ih =>
    intro k n hm hk hn
    obtain ⟨n, rfl⟩ : ∃ n', n = n' + 1 := ⟨n - 1, by omega⟩
    have hlt : k < (bytesI s).length := by omega
    have hk' : ((k : Int) < (s.size : Int)) := by rw [← bytesI_len]; omega
    have hc : nthS s (k : Int) = some (bytesI s)[k] := by rw [nthS_eq]; exact nthI_lt hlt
    have hw : IntKind.i64.wrap ((k : Int) + 1) = ((k + 1 : Nat) : Int) := wrap_succ (by have := bytesI_len s; unfold big63 at hs; omega)
    have hih : m_ref02_Name_l1 s n ((k : Int) + 1) = _ := ih (k + 1) n (by omega) (by omega) (by omega)
    rw [m_ref02_Name_l1, m_ref02_Name_l1_B, List.drop_eq_getElem_cons hlt, List.all_cons]
    simp only [hk', decide_true, if_true, hc, bnd_some]
    generalize (bytesI s)[k] = c at *
    have k3 : ∀ d e : Bool, m_ref02_Name_k3 (m_ref02_Name_l1 s n) (k : Int) d e = some ((d || e) && ((bytesI s).drop (k + 1)).all (fun c => letB c || digB c)) := by
      intro d e
      cases d <;> cases e <;> simp [m_ref02_Name_k3, m_ref02_Name_k4, hw, hih]
    have k2 : ∀ d : Bool, m_ref02_Name_k2 (m_ref02_Name_l1 s n) s (k : Int) d = some ((d || letB c) && ((bytesI s).drop (k + 1)).all (fun c => letB c || digB c)) := by
      intro d
      unfold m_ref02_Name_k2
      rw [hc, bnd_some]
      by_cases h : 97 ≤ c
      · simp only [h, decide_true, if_true, bnd_some, k3, letB, Bool.true_and]
      · simp only [h, decide_false, Bool.false_eq_true, if_false, k3, letB, Bool.false_and]
    by_cases h : 48 ≤ c
    · simp only [h, decide_true, if_true, k2, digB, Bool.true_and]
      cases decide (c ≤ 57) <;> cases letB c <;> rfl
    · simp only [h, decide_false, Bool.false_eq_true, if_false, k2, digB, Bool.false_and]
      cases letB c <;> rfl
theorem ref02_name {s : ByteArray} (hs : s.size ≤ big63) : m_ref02_Name s = some (nameB s) := by
  have hlen := bytesI_len s
  unfold m_ref02_Name nameB nameL
  by_cases h0 : s.size = 0
  · have : bytesI s = [] := List.eq_nil_of_length_eq_zero (by omega)
    simp [h0, m_ref02_Name_k1, this]
  · have h0' : ¬ ((s.size : Int) = 0) := by omega
    by_cases h1 : 32 < s.size
    · have h1' : (32 : Int) < (s.size : Int) := by omega
      have : ¬ (bytesI s).length ≤ 32 := by omega
      simp [h0', h1', m_ref02_Name_k1, this]
    · have h1' : ¬ ((32 : Int) < (s.size : Int)) := by omega
      have h32 : (bytesI s).length ≤ 32 := by omega
      have hl := ref02_loop s hs _ 0 ((((s.size : Int)) - 0).toNat + 1) rfl (Nat.zero_le _) (by omega)
      have hl : m_ref02_Name_l1 s ((((s.size : Int)) - 0).toNat + 1) 0 = _ := hl
      cases hb : bytesI s with
      | nil => rw [hb] at hlen; simp at hlen; omega
      | cons c r =>
        have hc : nthS s 0 = some c := by rw [nthS_eq, nthI_zero, hb]; rfl
        simp only [h0', h1', decide_false, Bool.false_eq_true, if_false, hc, bnd_some]
        rw [hb] at hl h32
        simp only [List.drop_zero] at hl
        unfold m_ref02_Name_k1
        by_cases h97 : c < 97
        · have : letB c = false := by unfold letB; simp; omega
          simp [h97, this]
        · simp only [h97, decide_false, Bool.false_eq_true, if_false, hl]
          have hd : letB c = (letB c || digB c) := by
            unfold letB digB
            by_cases h5 : c ≤ 57
            · omega
            · simp [h5]
          simp only [h32, decide_true, Bool.and_true, List.all_cons]
          cases hx : letB c with
          | true => simp
          | false =>
            rw [hx] at hd
            simp [← hd]
theorem pack_loop (s : ByteArray) (hs : s.size ≤ big63) : ∀ (m k n : Nat), (bytesI s).length - k = m → k ≤ (bytesI s).length → m < n →
    m_pack_Name_l1 s n (k : Int) = some (((bytesI s).drop k).all (fun c => letB c || digB c) && ((decide (k ≠ 0) || firstB (bytesI s)) && (decide (1 ≤ s.size) && decide (s.size ≤ 32)))) := by
  intro m
  induction m with
  | zero =>
    intro k n hm hk hn
    obtain ⟨n, rfl⟩ : ∃ n', n = n' + 1 := ⟨n - 1, by omega⟩
    have hk' : ¬ ((k : Int) < (((bytesI s).length : Nat) : Int)) := by omega
    rw [m_pack_Name_l1, m_pack_Name_l1_B]
    simp only [hk', decide_false, Bool.false_eq_true, if_false, m_pack_Name_k3]
    rw [List.drop_eq_nil_of_le (by omega)]
    have e1 : decide ((1 : Int) ≤ (s.size : Int)) = decide (1 ≤ s.size) := by congr 1; apply propext; omega
    have e2 : decide ((s.size : Int) ≤ 32) = decide (s.size ≤ 32) := by congr 1; apply propext; omega
    rw [e1, e2]
    by_cases h0 : k = 0
    · subst h0
      have hz : bytesI s = [] := List.eq_nil_of_length_eq_zero (by omega)
      have hz' : s.size = 0 := by rw [← bytesI_len, hz]; rfl
      simp [hz, hz', firstB]
    · simp [h0]
      by_cases h1 : 1 ≤ s.size <;> simp [h1]
  | succ m ih =>
    intro k n hm hk hn
    obtain ⟨n, rfl⟩ : ∃ n', n = n' + 1 := ⟨n - 1, by omega⟩
    have hlt : k < (bytesI s).length := by omega
    have hk' : ((k : Int) < (((bytesI s).length : Nat) : Int)) := by omega
    have hw : IntKind.i64.wrap ((k : Int) + 1) = ((k + 1 : Nat) : Int) := wrap_succ (by have := bytesI_len s; unfold big63 at hs; omega)
    have hih : m_pack_Name_l1 s n ((k : Int) + 1) = _ := ih (k + 1) n (by omega) (by omega) (by omega)
    simp only [ne_eq, Nat.add_eq_zero_iff, Nat.one_ne_zero, and_false, not_false_eq_true, decide_true, Bool.true_or, Bool.true_and] at hih
    have hnth : nthI (bytesI s) (k : Int) = some (bytesI s)[k] := nthI_lt hlt
    rw [m_pack_Name_l1, m_pack_Name_l1_B, List.drop_eq_getElem_cons hlt, List.all_cons]
    simp only [hk', decide_true, if_true, hnth, bnd_some]
    have hfirst : (decide (k ≠ 0) || firstB (bytesI s)) = (decide (k ≠ 0) || letB (bytesI s)[k]) := by
      by_cases h0 : k = 0
      · subst h0
        rw [firstB_get _ hlt]
      · simp [h0]
    rw [hfirst]
    generalize (bytesI s)[k] = c at *
    have k2 : ∀ b : Bool, m_pack_Name_k2 (m_pack_Name_l1 s n) (k : Int) b = some (!b && (((bytesI s).drop (k + 1)).all (fun c => letB c || digB c) && (decide (1 ≤ s.size) && decide (s.size ≤ 32)))) := by
      intro b
      cases b <;> simp [m_pack_Name_k2, hw, hih]
    have hk0 : decide ((k : Int) = 0) = !decide (k ≠ 0) := by
      by_cases h0 : k = 0 <;> simp [h0]
    have k1 : ∀ b : Bool, m_pack_Name_k1 (m_pack_Name_l1 s n) (k : Int) c b = some ((b || (decide (k ≠ 0) && digB c)) && (((bytesI s).drop (k + 1)).all (fun c => letB c || digB c) && (decide (1 ≤ s.size) && decide (s.size ≤ 32)))) := by
      intro b
      unfold m_pack_Name_k1
      rw [hk0]
      simp only [k2]
      cases b
      · by_cases h0 : k = 0
        · simp [h0]
        · by_cases h1 : c < 48
          · have : digB c = false := by unfold digB; simp; omega
            simp [h0, h1, this]
          · have : digB c = !decide (57 < c) := by
              unfold digB
              by_cases h2 : c ≤ 57
              · have : ¬ 57 < c := by omega
                simp [h2, this]; omega
              · have : 57 < c := by omega
                simp [h2, this]
            simp [h0, h1, this]
      · simp
    by_cases h : 97 ≤ c
    · simp only [h, decide_true, if_true, k1]
      have : letB c = decide (c ≤ 122) := by simp [letB, h]
      rw [this]
      cases decide (c ≤ 122) <;> cases digB c <;> cases decide (k ≠ 0) <;> simp
    · simp only [h, decide_false, Bool.false_eq_true, if_false, k1]
      have : letB c = false := by simp [letB, h]
      rw [this]
      cases digB c <;> cases decide (k ≠ 0) <;> simp
theorem pack_name {s : ByteArray} (hs : s.size ≤ big63) : m_pack_Name s = some (nameB s) := by
  have hlen := bytesI_len s
  unfold m_pack_Name nameB nameL
  have hl := pack_loop s hs _ 0 ((((((bytesI s).length : Nat) : Int)) - 0).toNat + 1) rfl (Nat.zero_le _) (by omega)
  have hl : m_pack_Name_l1 s ((((((bytesI s).length : Nat) : Int)) - 0).toNat + 1) 0 = _ := hl
  rw [hl]
  cases hb : bytesI s with
  | nil =>
    have : s.size = 0 := by rw [← hlen, hb]; rfl
    simp [this]
  | cons c r =>
    have h1 : 1 ≤ s.size := by rw [← hlen, hb]; simp
    have h2 : s.size = (c :: r).length := by rw [← hlen, hb]
    have h3 : 1 ≤ (c :: r).length := by simp
    simp only [h1, h3, decide_true, Bool.true_and, h2, List.drop_zero, ne_eq, not_true_eq_false, decide_false, Bool.false_or, firstB]
def yesS : ByteArray := ⟨#[121, 101, 115]⟩
def noS : ByteArray := ⟨#[110, 111]⟩
def varB (s : ByteArray) : Bool := nameB s && (!eqS s yesS && !eqS s noS)
/-! ### The order of texts -/
theorem bl_irr : ∀ x : List UInt8, Op.bytesLess x x = false
  | [] => rfl
  | a :: x => by simp [Op.bytesLess, bl_irr x]
theorem bl_trans : ∀ {x y z : List UInt8}, Op.bytesLess x y = true → Op.bytesLess y z = true → Op.bytesLess x z = true
  | [], [], z, h, h' => by simp [Op.bytesLess] at h
  | [], b :: y, [], h, h' => by simp [Op.bytesLess] at h'
  | [], b :: y, c :: z, h, h' => by simp [Op.bytesLess]
  | a :: x, [], z, h, h' => by simp [Op.bytesLess] at h
  | a :: x, b :: y, [], h, h' => by simp [Op.bytesLess] at h'
  | a :: x, b :: y, c :: z, h, h' => by
    simp only [Op.bytesLess, Bool.or_eq_true, decide_eq_true_eq, Bool.and_eq_true, beq_iff_eq] at h h' ⊢
    rcases h with h | ⟨rfl, h⟩
    · rcases h' with h' | ⟨rfl, h'⟩
      · exact .inl (UInt8.lt_trans h h')
      · exact .inl h
    · rcases h' with h' | ⟨rfl, h'⟩
      · exact .inl h'
      · exact .inr ⟨rfl, bl_trans h h'⟩
theorem bl_tri : ∀ (x y : List UInt8), Op.bytesLess x y = true ∨ x = y ∨ Op.bytesLess y x = true
  | [], [] => .inr (.inl rfl)
  | [], b :: y => .inl rfl
  | a :: x, [] => .inr (.inr rfl)
  | a :: x, b :: y => by
    simp only [Op.bytesLess, Bool.or_eq_true, decide_eq_true_eq, Bool.and_eq_true, beq_iff_eq]
    rcases Nat.lt_trichotomy a.toNat b.toNat with h | h | h
    · exact .inl (.inl (UInt8.lt_iff_toNat_lt.2 h))
    · have : a = b := UInt8.toNat_inj.1 h
      subst this
      rcases bl_tri x y with h | h | h
      · exact .inl (.inr ⟨rfl, h⟩)
      · subst h; exact .inr (.inl rfl)
      · exact .inr (.inr (.inr ⟨rfl, h⟩))
    · exact .inr (.inr (.inl (UInt8.lt_iff_toNat_lt.2 h)))
theorem ltS_irr (a : ByteArray) : ltS a a = false := bl_irr _
theorem ltS_trans {a b c : ByteArray} (h : ltS a b = true) (h' : ltS b c = true) : ltS a c = true := bl_trans h h'
theorem ltS_tri (a b : ByteArray) : ltS a b = true ∨ a = b ∨ ltS b a = true := by
  rcases bl_tri a.toList b.toList with h | h | h
  · exact .inl h
  · exact .inr (.inl (toList_inj h))
  · exact .inr (.inr h)
theorem ltS_asymm {a b : ByteArray} (h : ltS a b = true) : ltS b a = false := by
  cases hb : ltS b a with
  | false => rfl
  | true => have := ltS_trans h hb; rw [ltS_irr] at this; cases this
theorem eqS_self (a : ByteArray) : eqS a a = true := eqS_iff.2 rfl
/-! ### 9.1 -/
structure OkV (v : TVars) : Prop where
  len : v.Names.length ≤ big63
  lenV : v.Vals.length ≤ big63
  names : ∀ s ∈ v.Names, s.size ≤ big63
  vals : ∀ n ∈ v.Vals, inR n
def afterB : Option ByteArray → ByteArray → Bool
  | none, _ => true
  | some q, x => ltS q x
/-- Names that may be, rising, behind one. -/
def namesB : Option ByteArray → List ByteArray → Bool
  | _, [] => true
  | p, x :: r => varB x && (afterB p x && namesB (some x) r)
def vchk (v : TVars) : Int := if v.Names.length ≠ v.Vals.length then 1 else if 64 < v.Names.length then 6 else if namesB none v.Names = true then 0 else 1
def prevO (l : List ByteArray) (k : Nat) : Option ByteArray := if k = 0 then none else l[k - 1]?
theorem prevO_succ {l : List ByteArray} {k : Nat} (h : k < l.length) : prevO l (k + 1) = some l[k] := by
  unfold prevO
  rw [if_neg (by omega), Nat.add_sub_cancel, List.getElem?_eq_getElem h]
theorem ref09_chk_loop {v : TVars} (hv : OkV v) : ∀ (m k n : Nat), v.Names.length - k = m → k ≤ v.Names.length → m < n →
    m_ref09_Check_l1 v n (k : Int) = some (if namesB (prevO v.Names k) (v.Names.drop k) = true then 0 else 1) := by
  intro m
  induction m with
  | zero =>
    intro k n hm hk hn
    obtain ⟨n, rfl⟩ : ∃ n', n = n' + 1 := ⟨n - 1, by omega⟩
    have hk' : ¬ ((k : Int) < (v.Names.length : Int)) := by omega
    rw [m_ref09_Check_l1, m_ref09_Check_l1_B, List.drop_eq_nil_of_le (by omega)]
    simp [hk', namesB]
  | succ m ih =>
    intro k n hm hk hn
    obtain ⟨n, rfl⟩ : ∃ n', n = n' + 1 := ⟨n - 1, by omega⟩
    have hlt : k < v.Names.length := by omega
    have hk' : ((k : Int) < (v.Names.length : Int)) := by omega
    have hw : IntKind.i64.wrap ((k : Int) + 1) = (k : Int) + 1 := wrap_succ' (by omega) (by have := hv.len; unfold big63 at this; omega)
    have hih : m_ref09_Check_l1 v n ((k : Int) + 1) = _ := ih (k + 1) n (by omega) (by omega) (by omega)
    rw [prevO_succ hlt] at hih
    rw [m_ref09_Check_l1, m_ref09_Check_l1_B, List.drop_eq_getElem_cons hlt]
    simp only [hk', decide_true, if_true, nthI_lt hlt, bnd_some, ref02_name (hv.names _ (List.getElem_mem hlt)), namesB]
    have k1 : ∀ b : Bool, m_ref09_Check_k1 (m_ref09_Check_l1 v n) (k : Int) b = some (if (!b && namesB (some v.Names[k]) (v.Names.drop (k + 1))) = true then 0 else 1) := by
      intro b
      unfold m_ref09_Check_k1
      rw [hw, hih]
      cases b <;> simp
    have hp : (if decide ((0 : Int) < (k : Int)) = true then bnd (nthI v.Names (IntKind.i64.wrap ((k : Int) - 1))) fun e_1 => m_ref09_Check_k1 (m_ref09_Check_l1 v n) (k : Int) (!(ltS e_1 v.Names[k])) else m_ref09_Check_k1 (m_ref09_Check_l1 v n) (k : Int) false) = some (if (afterB (prevO v.Names k) v.Names[k] && namesB (some v.Names[k]) (v.Names.drop (k + 1))) = true then 0 else 1) := by
      by_cases h0 : k = 0
      · subst h0
        have hk1 := k1 false
        rw [show (((0 : Nat) : Int)) = 0 from rfl] at hk1 ⊢
        rw [show decide ((0 : Int) < 0) = false from rfl, if_neg (by decide), hk1]
        rfl
      · have e1 : (0 : Int) < (k : Int) := by omega
        have e2 : IntKind.i64.wrap ((k : Int) - 1) = ((k - 1 : Nat) : Int) := by
          rw [wrap_in (by have := hv.len; unfold inR; unfold big63 at this; omega)]
          omega
        have e3 : nthI v.Names ((k - 1 : Nat) : Int) = some v.Names[k - 1] := nthI_lt (by omega)
        have e4 : prevO v.Names k = some v.Names[k - 1] := by
          unfold prevO
          rw [if_neg h0, List.getElem?_eq_getElem (by omega)]
        simp only [e1, decide_true, if_true, e2, e3, bnd_some, k1, e4, Bool.not_not, afterB]
    generalize v.Names[k] = x at *
    unfold varB
    rcases Bool.eq_false_or_eq_true (nameB x) with hb | hb
    · simp only [hb, if_true, Bool.true_and]
      change (if eqS x yesS = true then _ else if eqS x noS = true then _ else _) = _
      rcases Bool.eq_false_or_eq_true (eqS x yesS) with hy | hy
      · simp [hy, k1]
      · simp only [hy, Bool.false_eq_true, if_false, Bool.not_false, Bool.true_and]
        rcases Bool.eq_false_or_eq_true (eqS x noS) with ho | ho
        · simp [ho, k1]
        · simp only [ho, Bool.false_eq_true, if_false, Bool.not_false, Bool.true_and, hp]
    · simp [hb, k1]
theorem vars_chk_loop {v : TVars} (hv : OkV v) : ∀ (m k n : Nat), v.Names.length - k = m → k ≤ v.Names.length → m < n →
    m_vars_Check_l1 v n (k : Int) = some (if namesB (prevO v.Names k) (v.Names.drop k) = true then 0 else 1) := by
  intro m
  induction m with
  | zero =>
    intro k n hm hk hn
    obtain ⟨n, rfl⟩ : ∃ n', n = n' + 1 := ⟨n - 1, by omega⟩
    have hk' : ¬ ((k : Int) < (v.Names.length : Int)) := by omega
    rw [m_vars_Check_l1, m_vars_Check_l1_B, List.drop_eq_nil_of_le (by omega)]
    simp [hk', namesB]
  | succ m ih =>
    intro k n hm hk hn
    obtain ⟨n, rfl⟩ : ∃ n', n = n' + 1 := ⟨n - 1, by omega⟩
    have hlt : k < v.Names.length := by omega
    have hk' : ((k : Int) < (v.Names.length : Int)) := by omega
    have hw : IntKind.i64.wrap ((k : Int) + 1) = (k : Int) + 1 := wrap_succ' (by omega) (by have := hv.len; unfold big63 at this; omega)
    have hih : m_vars_Check_l1 v n ((k : Int) + 1) = _ := ih (k + 1) n (by omega) (by omega) (by omega)
    rw [prevO_succ hlt] at hih
    rw [m_vars_Check_l1, m_vars_Check_l1_B, List.drop_eq_getElem_cons hlt]
    simp only [hk', decide_true, if_true, nthI_lt hlt, bnd_some, pack_name (hv.names _ (List.getElem_mem hlt)), namesB]
    have k2 : ∀ b : Bool, m_vars_Check_k2 (m_vars_Check_l1 v n) (k : Int) b = some (if (!b && namesB (some v.Names[k]) (v.Names.drop (k + 1))) = true then 0 else 1) := by
      intro b
      unfold m_vars_Check_k2
      rw [hw, hih]
      cases b <;> simp
    have k1 : ∀ b : Bool, m_vars_Check_k1 (m_vars_Check_l1 v n) v (k : Int) v.Names[k] b = some (if (!b && (afterB (prevO v.Names k) v.Names[k] && namesB (some v.Names[k]) (v.Names.drop (k + 1)))) = true then 0 else 1) := by
      intro b
      unfold m_vars_Check_k1
      cases b
      · by_cases h0 : k = 0
        · subst h0
          have hk2 := k2 false
          rw [show (((0 : Nat) : Int)) = 0 from rfl] at hk2 ⊢
          rw [show decide ((0 : Int) < 0) = false from rfl, if_neg (by decide), if_neg (by decide), hk2]
          rfl
        · have e1 : (0 : Int) < (k : Int) := by omega
          have e2 : IntKind.i64.wrap ((k : Int) - 1) = ((k - 1 : Nat) : Int) := by
            rw [wrap_in (by have := hv.len; unfold inR; unfold big63 at this; omega)]
            omega
          have e3 : nthI v.Names ((k - 1 : Nat) : Int) = some v.Names[k - 1] := nthI_lt (by omega)
          have e4 : prevO v.Names k = some v.Names[k - 1] := by
            unfold prevO
            rw [if_neg h0, List.getElem?_eq_getElem (by omega)]
          simp only [e1, decide_true, if_true, e2, e3, bnd_some, k2, e4, Bool.not_not, afterB, Bool.false_eq_true, if_false, Bool.not_false, Bool.true_and]
      · rfl
    generalize v.Names[k] = x at *
    unfold varB
    rcases Bool.eq_false_or_eq_true (nameB x) with hb | hb
    · simp only [hb, if_true, Bool.true_and]
      change (if eqS x yesS = true then _ else m_vars_Check_k1 _ v (k : Int) x (eqS x noS)) = _
      rcases Bool.eq_false_or_eq_true (eqS x yesS) with hy | hy
      · simp [hy, k1]
      · simp only [hy, Bool.false_eq_true, if_false, Bool.not_false, Bool.true_and, k1]
    · simp [hb, k1]
theorem ref09_Check {v : TVars} (hv : OkV v) : m_ref09_Check v = some (vchk v) := by
  unfold m_ref09_Check vchk
  have hlp := ref09_chk_loop hv _ 0 ((((v.Names.length : Int)) - 0).toNat + 1) rfl (Nat.zero_le _) (by omega)
  have hlp : m_ref09_Check_l1 v ((((v.Names.length : Int)) - 0).toNat + 1) 0 = some (if namesB none v.Names = true then 0 else 1) := hlp
  by_cases h1 : v.Names.length = v.Vals.length
  · have h1' : decide ((v.Names.length : Int) ≠ (v.Vals.length : Int)) = false := by simp; omega
    rw [h1', hlp]
    simp only [Bool.false_eq_true, if_false, h1, ne_eq, not_true_eq_false]
    rw [← h1]
    by_cases h2 : 64 < v.Names.length
    · have h2' : decide ((64 : Int) < (v.Names.length : Int)) = true := by simp; omega
      rw [h2']
      simp [h2]
    · have h2' : decide ((64 : Int) < (v.Names.length : Int)) = false := by simp; omega
      rw [h2']
      simp [h2]
  · have h1' : decide ((v.Names.length : Int) ≠ (v.Vals.length : Int)) = true := by simp; omega
    rw [h1']
    simp [h1]
theorem vars_Check {v : TVars} (hv : OkV v) : m_vars_Check v = some (vchk v) := by
  unfold m_vars_Check vchk
  have hlp := vars_chk_loop hv _ 0 ((((v.Names.length : Int)) - 0).toNat + 1) rfl (Nat.zero_le _) (by omega)
  have hlp : m_vars_Check_l1 v ((((v.Names.length : Int)) - 0).toNat + 1) 0 = some (if namesB none v.Names = true then 0 else 1) := hlp
  by_cases h1 : v.Names.length = v.Vals.length
  · have h1' : decide ((v.Names.length : Int) ≠ (v.Vals.length : Int)) = false := by simp; omega
    rw [h1', hlp]
    simp only [Bool.false_eq_true, if_false, h1, ne_eq, not_true_eq_false]
    rw [← h1]
    by_cases h2 : 64 < v.Names.length
    · have h2' : decide ((64 : Int) < (v.Names.length : Int)) = true := by simp; omega
      rw [h2']
      simp [h2]
    · have h2' : decide ((64 : Int) < (v.Names.length : Int)) = false := by simp; omega
      rw [h2']
      simp [h2]
  · have h1' : decide ((v.Names.length : Int) ≠ (v.Vals.length : Int)) = true := by simp; omega
    rw [h1']
    simp [h1]
end Go.Proofs.Ytjhnlgelcfplaaa.R

/- Plain laws: variables compared, light ones. -/
set_option maxRecDepth 100000
set_option linter.unusedVariables false
set_option linter.unusedSimpArgs false
noncomputable section
namespace Go.Proofs.Ytjhnlgelcfplaaa.R
open Go
def eqI (x y : Int) : Bool := decide (x = y)
theorem eqI_iff (x y : Int) : eqI x y = true ↔ x = y := by simp [eqI]
theorem big_max {n : Nat} (h : n ≤ big63) : n ≤ maxLen := by rw [maxLen_eq]; exact h
theorem texts_eq {a b : List ByteArray} (hl : a.length ≤ maxLen) : m_ref08_Texts a b = some (same2 eqS a b) := by
  unfold m_ref08_Texts same2
  by_cases h : a.length = b.length
  · have h1 : ¬ ((a.length : Int) ≠ (b.length : Int)) := by omega
    rw [decide_eq_false h1, if_neg (by simp), all2_loop0 (f := m_ref08_Texts_l1 a b) (p := eqS) h hl, decide_eq_true h, Bool.true_and]
    intro n k
    rw [m_ref08_Texts_l1, m_ref08_Texts_l1_B]
    simp only [decide_eq_true_eq, Int.ofNat_lt]
  · have h1 : ((a.length : Int) ≠ (b.length : Int)) := by omega
    simp [h1, h]
def sameV (a b : TVars) : Bool := same2 eqS a.Names b.Names && same2 eqI a.Vals b.Vals
theorem sameV_iff (a b : TVars) : sameV a b = true ↔ a = b := by
  unfold sameV
  rw [Bool.and_eq_true, same2_iff (fun x y => eqS_iff), same2_iff eqI_iff]
  cases a; cases b
  simp
theorem ref09_Same {a b : TVars} (ha : OkV a) : m_ref09_Same a b = some (sameV a b) := by
  unfold m_ref09_Same sameV m_ref09_Same_k1
  rw [texts_eq (big_max ha.len)]
  simp only [bnd_some]
  cases same2 eqS a.Names b.Names with
  | false => simp
  | true =>
    simp only [if_true, Bool.true_and]
    unfold same2
    by_cases h : a.Vals.length = b.Vals.length
    · have h1 : ¬ ((a.Vals.length : Int) ≠ (b.Vals.length : Int)) := by omega
      rw [decide_eq_false h1, if_neg (by simp), all2_loop0 (f := m_ref09_Same_l1 a b) (p := eqI) h (big_max ha.lenV), decide_eq_true h, Bool.true_and]
      intro n k
      rw [m_ref09_Same_l1, m_ref09_Same_l1_B]
      simp only [decide_eq_true_eq, Int.ofNat_lt]
      congr 1
      congr 1; funext x; congr 1; funext y
      by_cases ht : x = y <;> simp [ht, eqI]
    · have h1 : ((a.Vals.length : Int) ≠ (b.Vals.length : Int)) := by omega
      simp [h1, h]
/-- Variables that are not more than is waited for. -/
structure Light (v : TVars) : Prop where
  n : v.Names.length ≤ 200
  vl : v.Vals.length ≤ 200
  s : ∀ x ∈ v.Names, x.size ≤ 60
theorem light_loop {v : TVars} (hv : OkV v) : ∀ (m k n : Nat), v.Names.length - k = m → k ≤ v.Names.length → m < n → m_law09_light_l1 v n (k : Int) = some ((v.Names.drop k).all fun x => decide (x.size ≤ 60)) := by
  intro m
  induction m with
  | zero =>
    intro k n hm hk hn
    obtain ⟨n, rfl⟩ : ∃ n', n = n' + 1 := ⟨n - 1, by omega⟩
    have hk' : ¬ ((k : Int) < (v.Names.length : Int)) := by omega
    rw [m_law09_light_l1, m_law09_light_l1_B, decide_eq_false hk', if_neg (by simp), List.drop_eq_nil_of_le (by omega)]
    rfl
  | succ m ih =>
    intro k n hm hk hn
    obtain ⟨n, rfl⟩ : ∃ n', n = n' + 1 := ⟨n - 1, by omega⟩
    have hlt : k < v.Names.length := by omega
    have hk' : ((k : Int) < (v.Names.length : Int)) := by omega
    have hw : IntKind.i64.wrap ((k : Int) + 1) = ((k + 1 : Nat) : Int) := wrap_succ (by have := hv.len; unfold big63 at this; omega)
    rw [m_law09_light_l1, m_law09_light_l1_B, decide_eq_true hk', if_pos rfl, nthI_lt hlt, bnd_some, hw, ih (k + 1) n (by omega) (by omega) (by omega), List.drop_eq_getElem_cons hlt, List.all_cons]
    by_cases h : 60 < v.Names[k].size
    · have h1 : ((60 : Int) < (v.Names[k].size : Int)) := by omega
      have h2 : ¬ v.Names[k].size ≤ 60 := by omega
      simp [h1, h2]
    · have h1 : ¬ ((60 : Int) < (v.Names[k].size : Int)) := by omega
      have h2 : v.Names[k].size ≤ 60 := by omega
      simp [h1, h2]
theorem light_ok {v : TVars} (hv : OkV v) : ∃ b, m_law09_light v = some b ∧ (b = true → Light v) := by
  unfold m_law09_light m_law09_light_k1
  have hl : m_law09_light_l1 v ((((v.Names.length : Int)) - ((0 : Int))).toNat + 1) (0 : Int) = some ((v.Names.drop 0).all fun x => decide (x.size ≤ 60)) := light_loop hv _ 0 ((((v.Names.length : Int)) - ((0 : Int))).toNat + 1) rfl (Nat.zero_le _) (by omega)
  rw [hl]
  by_cases h1 : (200 : Int) < (v.Names.length : Int)
  · exact ⟨false, by simp [h1], by simp⟩
  · by_cases h2 : (200 : Int) < (v.Vals.length : Int)
    · exact ⟨false, by simp [h1, h2], by simp⟩
    · refine ⟨_, by simp only [h1, h2, decide_false, Bool.false_eq_true, if_false]; rfl, fun h => ⟨by omega, by omega, fun x hx => ?_⟩⟩
      have := List.all_eq_true.1 h x (by simpa using hx)
      simpa using this
end Go.Proofs.Ytjhnlgelcfplaaa.R

/- Plain laws: numbers as bytes, seven bits a byte, and back. -/
set_option maxRecDepth 100000
set_option linter.unusedVariables false
set_option linter.unusedSimpArgs false
noncomputable section
namespace Go.Proofs.Ytjhnlgelcfplaaa.R
open Go
/-! ### Bits -/
def two64 : Nat := 18446744073709551616
theorem bv_nat {a : Nat} (h : a < 18446744073709551616) : (BitVec.ofInt 64 (a : Int)).toNat = a := by
  rw [BitVec.toNat_ofInt]
  omega
theorem or64 {a b : Nat} (ha : a < 18446744073709551616) (hb : b < 18446744073709551616) : orI .u64 a b = ((a ||| b : Nat) : Int) := by
  have hh : orI .u64 a b = IntKind.u64.wrap ((BitVec.ofInt 64 (a : Int) ||| BitVec.ofInt 64 (b : Int)).toNat : Int) := rfl
  rw [hh, BitVec.toNat_or, bv_nat ha, bv_nat hb]
  have : a ||| b < 2 ^ 64 := Nat.or_lt_two_pow (by omega) (by omega)
  exact u64_in (by omega) (by omega)
theorem and64 {a b : Nat} (ha : a < 18446744073709551616) (hb : b < 18446744073709551616) : andI .u64 a b = ((a &&& b : Nat) : Int) := by
  have hh : andI .u64 a b = IntKind.u64.wrap ((BitVec.ofInt 64 (a : Int) &&& BitVec.ofInt 64 (b : Int)).toNat : Int) := rfl
  rw [hh, BitVec.toNat_and, bv_nat ha, bv_nat hb]
  have : a &&& b ≤ a := Nat.and_le_left
  exact u64_in (by omega) (by omega)
theorem and127 {e : Nat} (h : e < 18446744073709551616) : andI .u64 e 127 = ((e % 128 : Nat) : Int) := by
  have h1 := and64 h (b := 127) (by omega)
  have h2 : e &&& 127 = e % 128 := Nat.and_two_pow_sub_one_eq_mod e 7
  rw [h2] at h1
  exact h1
theorem and1 {e : Nat} (h : e < 18446744073709551616) : andI .u64 e 1 = ((e % 2 : Nat) : Int) := by
  have h1 := and64 h (b := 1) (by omega)
  have h2 : e &&& 1 = e % 2 := Nat.and_two_pow_sub_one_eq_mod e 1
  rw [h2] at h1
  exact h1
theorem or8 {n : Nat} : orI .u8 (IntKind.u8.wrap n) 128 = ((n % 128 + 128 : Nat) : Int) := by
  have h8 : IntKind.u8.wrap n = ((n % 256 : Nat) : Int) := by
    simp only [IntKind.wrap, IntKind.signed, IntKind.bits]
    simp
  have hall : ∀ x : Fin 256, (BitVec.ofNat 8 x.val ||| BitVec.ofNat 8 128).toNat = x.val % 128 + 128 := by decide +kernel
  have h : (BitVec.ofNat 8 (n % 256) ||| BitVec.ofNat 8 128).toNat = n % 256 % 128 + 128 := hall ⟨n % 256, by omega⟩
  have hh : ∀ a b : Int, orI .u8 a b = IntKind.u8.wrap ((BitVec.ofInt 8 a ||| BitVec.ofInt 8 b).toNat : Int) := fun _ _ => rfl
  rw [h8, hh]
  have e1 : BitVec.ofInt 8 ((n % 256 : Nat) : Int) = BitVec.ofNat 8 (n % 256) := BitVec.ofInt_natCast ..
  have e2 : BitVec.ofInt 8 (128 : Int) = BitVec.ofNat 8 128 := BitVec.ofInt_natCast (n := 128) ..
  rw [e1, e2, h]
  have h8' : ∀ m : Nat, m < 256 → IntKind.u8.wrap (m : Int) = (m : Int) := by
    intro m hm
    simp only [IntKind.wrap, IntKind.signed, IntKind.bits]
    simp
    omega
  have e3 : n % 256 % 128 + 128 = n % 128 + 128 := by omega
  rw [h8' _ (by omega), e3]
theorem u8_small {n : Nat} (h : n < 256) : IntKind.u8.wrap (n : Int) = (n : Int) := by
  simp only [IntKind.wrap, IntKind.signed, IntKind.bits]
  simp
  omega
theorem shr64 (n k : Nat) (h : k < 64) : shrI .u64 n k = ((n / 2 ^ k : Nat) : Int) := by
  unfold shrI
  have : min ((k : Int).toNat) (IntKind.u64.bits) = k := by simp only [IntKind.bits]; omega
  rw [this, Int.fdiv_eq_ediv_of_nonneg _ (by exact Int.le_of_lt (Int.pow_pos (by omega)))]
  simp
theorem shr7 (n : Nat) : shrI .u64 n 7 = ((n / 128 : Nat) : Int) := shr64 n 7 (by omega)
theorem shr1 (n : Nat) : shrI .u64 n 1 = ((n / 2 : Nat) : Int) := shr64 n 1 (by omega)
/-! ### As bytes -/
def encU (n : Nat) : List Int := if n < 128 then [(n : Int)] else ((n % 128 + 128 : Nat) : Int) :: encU (n / 128)
termination_by n
decreasing_by omega
theorem encU_small {n : Nat} (h : n < 128) : encU n = [(n : Int)] := by rw [encU, if_pos h]
theorem encU_big {n : Nat} (h : ¬ n < 128) : encU n = ((n % 128 + 128 : Nat) : Int) :: encU (n / 128) := by rw [encU, if_neg h]
def byteI (x : Int) : Prop := 0 ≤ x ∧ x ≤ 255
theorem encU_bytes : ∀ (n : Nat), ∀ x ∈ encU n, byteI x := by
  intro n
  induction n using Nat.strongRecOn with
  | _ n ih =>
    by_cases h : n < 128
    · rw [encU_small h]
      intro x hx
      simp only [List.mem_singleton] at hx
      subst hx
      unfold byteI; omega
    · rw [encU_big h]
      intro x hx
      rcases List.mem_cons.1 hx with rfl | hx
      · unfold byteI; omega
      · exact ih _ (by omega) x hx
theorem encU_len : ∀ (k n : Nat), n < 128 ^ (k + 1) → (encU n).length ≤ k + 1 := by
  intro k
  induction k with
  | zero => intro n h; rw [encU_small (by omega)]; simp
  | succ k ih =>
    intro n h
    by_cases hn : n < 128
    · rw [encU_small hn]; simp
    · rw [encU_big hn, List.length_cons]
      have := ih (n / 128) (by rw [Nat.pow_succ] at h; exact Nat.div_lt_of_lt_mul (by rw [Nat.mul_comm]; exact h))
      omega
theorem encU_len10 {n : Nat} (h : n < 18446744073709551616) : (encU n).length ≤ 10 := encU_len 9 n (Nat.lt_of_lt_of_le h (by decide))
/-- The loops of pack.Uint. -/
theorem uint_loop {f : Nat → Int → List Int → Option (List Int)} (hf : ∀ n (v : Int) b, f (n + 1) v b = if (decide ((128 : Int) ≤ v)) = true then (if (capB (b.length + 1)) = true then f n (shrI .u64 v 7) (b ++ [orI .u8 (IntKind.u8.wrap v) 128]) else none) else (if (capB (b.length + 1)) = true then some (b ++ [IntKind.u8.wrap v]) else none)) :
    ∀ (j n k : Nat) (b : List Int), n < 128 ^ (j + 1) → j < k → b.length + j + 1 ≤ 549755813888 → f k n b = some (b ++ encU n) := by
  intro j
  induction j with
  | zero =>
    intro n k b hn hk hb
    obtain ⟨k, rfl⟩ : ∃ k', k = k' + 1 := ⟨k - 1, by omega⟩
    have h1 : ¬ (128 : Int) ≤ (n : Int) := by omega
    rw [hf, decide_eq_false h1, if_neg (by simp), if_pos (capB_small (by omega)), encU_small (by omega), u8_small (by omega)]
  | succ j ih =>
    intro n k b hn hk hb
    obtain ⟨k, rfl⟩ : ∃ k', k = k' + 1 := ⟨k - 1, by omega⟩
    by_cases h : n < 128
    · have h1 : ¬ (128 : Int) ≤ (n : Int) := by omega
      rw [hf, decide_eq_false h1, if_neg (by simp), if_pos (capB_small (by omega)), encU_small h, u8_small (by omega)]
    · have h1 : (128 : Int) ≤ (n : Int) := by omega
      rw [hf, decide_eq_true h1, if_pos rfl, if_pos (capB_small (by omega)), or8, shr7, ih (n / 128) k _ (by rw [Nat.pow_succ] at hn; exact Nat.div_lt_of_lt_mul (by rw [Nat.mul_comm]; exact hn)) (by omega) (by simp; omega), encU_big h]
      simp
theorem pack_Uint {n : Nat} (h : n < 18446744073709551616) : m_pack_Uint n = some (encU n) := by
  have := uint_loop (f := m_pack_Uint_l1) (fun n v b => by rw [m_pack_Uint_l1, m_pack_Uint_l1_B, m_pack_Uint_k1]) 9 n 1000000 [] (Nat.lt_of_lt_of_le h (by decide)) (by omega) (by simp)
  unfold m_pack_Uint
  exact this
theorem pack_Uint_v1 {n : Nat} {b : List Int} (h : n < 18446744073709551616) (hb : b.length + 10 ≤ 549755813888) : m_pack_Uint_v1 b n = some (b ++ encU n) := by
  have := uint_loop (f := m_pack_Uint_v1_l1) (fun n v b => by rw [m_pack_Uint_v1_l1, m_pack_Uint_v1_l1_B, m_pack_Uint_v1_k1]) 9 n 1000000 b (Nat.lt_of_lt_of_le h (by decide)) (by omega) (by omega)
  unfold m_pack_Uint_v1
  exact this
/-! ### Back -/
/-- The number that bytes begin with, and the bytes behind; so many came ahead. -/
def dec (k : Nat) : List Int → Option (Nat × List Int)
  | [] => none
  | e :: r => if 10 ≤ k then none else if k = 9 ∧ 1 < e then none else if e < 128 then (if e = 0 ∧ 0 < k then none else some (e.toNat, r)) else match dec (k + 1) r with | some (n, r') => some (e.toNat - 128 + 128 * n, r') | none => none
theorem pw (k : Nat) (h : k + 1 ≤ 9) : 2 ^ (64 - 7 * k) = 128 * 2 ^ (64 - 7 * (k + 1)) := by
  have : 64 - 7 * k = 7 + (64 - 7 * (k + 1)) := by omega
  rw [this, Nat.pow_add]
theorem dec_enc : ∀ (n k : Nat) (r : List Int), n < 2 ^ (64 - 7 * k) → k ≤ 9 → (k = 0 ∨ n ≠ 0) → dec k (encU n ++ r) = some (n, r) := by
  intro n
  induction n using Nat.strongRecOn with
  | _ n ih =>
    intro k r hn hk h0
    have h9 : k = 9 → n < 2 := by intro h; subst h; simpa using hn
    by_cases h : n < 128
    · rw [encU_small h]
      simp only [List.cons_append, List.nil_append, dec]
      rw [if_neg (by omega), if_neg (by omega), if_pos (by omega), if_neg (by omega)]
      rfl
    · have hk9 : k + 1 ≤ 9 := by
        rcases Nat.lt_or_ge k 9 with h1 | h1
        · omega
        · have := h9 (by omega); omega
      rw [encU_big h, List.cons_append]
      simp only [dec]
      rw [if_neg (by omega), if_neg (by omega), if_neg (by omega), ih (n / 128) (by omega) (k + 1) r (by rw [pw k hk9] at hn; exact Nat.div_lt_of_lt_mul hn) hk9 (.inr (by omega))]
      simp only [Option.some.injEq, Prod.mk.injEq, and_true]
      omega
theorem enc_dec : ∀ (l : List Int) (k : Nat) (n : Nat) (r : List Int), (∀ x ∈ l, byteI x) → dec k l = some (n, r) → l = encU n ++ r ∧ (k = 0 ∨ n ≠ 0) ∧ k ≤ 9 ∧ n < 2 ^ (64 - 7 * k) := by
  intro l
  induction l with
  | nil => intro k n r _ h; simp [dec] at h
  | cons e l ih =>
    intro k n r hb h
    have he := hb e List.mem_cons_self
    unfold byteI at he
    simp only [dec] at h
    split at h
    · cases h
    · rename_i h10
      split at h
      · cases h
      · rename_i h9
        split at h
        · rename_i h128
          split at h
          · cases h
          · rename_i h0
            simp only [Option.some.injEq, Prod.mk.injEq] at h
            obtain ⟨rfl, rfl⟩ := h
            refine ⟨?_, by omega, by omega, ?_⟩
            · rw [encU_small (by omega), List.cons_append, List.nil_append]
              congr 1
              omega
            · by_cases hk : k = 9
              · subst hk
                have : ¬ 1 < e := fun h => h9 ⟨rfl, h⟩
                simp only [Nat.reduceMul, Nat.reduceSub, Nat.pow_one]
                omega
              · have h1 := pw k (by omega)
                have h2 : 0 < 2 ^ (64 - 7 * (k + 1)) := Nat.pow_pos (by omega)
                omega
        · rename_i h128
          split at h
          · rename_i n' r' hd
            simp only [Option.some.injEq, Prod.mk.injEq] at h
            obtain ⟨rfl, rfl⟩ := h
            obtain ⟨h1, h2, h3, h4⟩ := ih (k + 1) n' r' (fun x hx => hb x (List.mem_cons_of_mem _ hx)) hd
            have hn0 : n' ≠ 0 := by omega
            refine ⟨?_, .inr (by omega), by omega, ?_⟩
            · rw [encU_big (by omega), h1, List.cons_append]
              have e1 : (e.toNat - 128 + 128 * n') / 128 = n' := by omega
              rw [e1]
              congr 1
              omega
            · rw [pw k h3]
              omega
          · cases h
theorem dec_bytes {l : List Int} {k n : Nat} {r : List Int} (hb : ∀ x ∈ l, byteI x) (h : dec k l = some (n, r)) : (∀ x ∈ r, byteI x) ∧ r.length < l.length := by
  obtain ⟨h1, _⟩ := enc_dec l k n r hb h
  subst h1
  refine ⟨fun x hx => hb x (by simp [hx]), ?_⟩
  have : 0 < (encU n).length := by
    by_cases h : n < 128
    · rw [encU_small h]; simp
    · rw [encU_big h]; simp
  simp
  omega
end Go.Proofs.Ytjhnlgelcfplaaa.R

/- Plain laws: bytes read, numbers, texts, whole numbers. -/
set_option maxRecDepth 100000
set_option linter.unusedVariables false
set_option linter.unusedSimpArgs false
noncomputable section
namespace Go.Proofs.Ytjhnlgelcfplaaa.R
open Go
theorem acc_step {k n0 e : Nat} (hk : k ≤ 9) (h0 : n0 < 2 ^ (7 * k)) (he : e < 256) (h9 : k = 9 → e ≤ 1) :
    orI .u64 n0 (shlI .u64 (andI .u64 (IntKind.u64.wrap e) 127) (IntKind.i64.wrap (7 * k))) = ((n0 + (e % 128) * 2 ^ (7 * k) : Nat) : Int) := by
  have hp : 2 ^ (7 * k) ≤ 2 ^ 63 := Nat.pow_le_pow_right (by omega) (by omega)
  have hc : (e % 128) * 2 ^ (7 * k) < 18446744073709551616 := by
    by_cases h : k = 9
    · subst h
      have := h9 rfl
      have e1 : e % 128 ≤ 1 := by omega
      have := Nat.mul_le_mul e1 hp
      omega
    · have hq : 2 ^ (7 * k) ≤ 2 ^ 56 := Nat.pow_le_pow_right (by omega) (by omega)
      have e1 : e % 128 ≤ 127 := by omega
      have := Nat.mul_le_mul e1 hq
      omega
  rw [u64_in (by omega) (by omega), and127 (by omega), wrap_in (by unfold inR; omega)]
  have e2 : shlI .u64 ((e % 128 : Nat) : Int) (7 * (k : Int)) = (((e % 128) * 2 ^ (7 * k) : Nat) : Int) := by
    unfold shlI
    have : min ((7 * (k : Int)).toNat) (IntKind.u64.bits) = 7 * k := by simp only [IntKind.bits]; omega
    rw [this]
    have e3 : ((e % 128 : Nat) : Int) * 2 ^ (7 * k) = (((e % 128) * 2 ^ (7 * k) : Nat) : Int) := by simp
    rw [e3]
    exact u64_in (by omega) (by omega)
  rw [e2, or64 (by omega) hc]
  congr 1
  rw [Nat.or_comm, Nat.mul_comm, ← Nat.two_pow_add_eq_or_of_lt h0, Nat.add_comm]
/-- What came of reading: the number, and what is behind; or an error. -/
def uintR (n0 k : Nat) : Option (Nat × List Int) → Option (Int × List Int × Int) → Prop
  | some (n, r), x => x = some (((n0 + n * 2 ^ (7 * k) : Nat) : Int), r, 0)
  | none, x => ∃ e : Int, e ≠ 0 ∧ x = some (0, [], e)
theorem read_loop {b : List Int} (hb : ∀ x ∈ b, byteI x) (hl : b.length ≤ 549755813888) : ∀ (m k n n0 : Nat), b.length - k = m → k ≤ b.length → k ≤ 10 → m < n → n0 < 2 ^ (7 * k) →
    uintR n0 k (dec k (b.drop k)) (m_pack_ReadUint_l1 b n (n0 : Int) (k : Int)) := by
  intro m
  induction m with
  | zero =>
    intro k n n0 hm hk h10 hn h0
    obtain ⟨n, rfl⟩ : ∃ n', n = n' + 1 := ⟨n - 1, by omega⟩
    have hk' : ¬ ((k : Int) < (if (10 : Int) < (b.length : Int) then (10 : Int) else (b.length : Int))) := by split <;> omega
    rw [m_pack_ReadUint_l1, m_pack_ReadUint_l1_B, decide_eq_false hk', if_neg (by simp), List.drop_eq_nil_of_le (by omega)]
    exact ⟨5, by omega, rfl⟩
  | succ m ih =>
    intro k n n0 hm hk h10 hn h0
    obtain ⟨n, rfl⟩ : ∃ n', n = n' + 1 := ⟨n - 1, by omega⟩
    have hlt : k < b.length := by omega
    by_cases hten : 10 ≤ k
    · have hk' : ¬ ((k : Int) < (if (10 : Int) < (b.length : Int) then (10 : Int) else (b.length : Int))) := by split <;> omega
      rw [m_pack_ReadUint_l1, m_pack_ReadUint_l1_B, decide_eq_false hk', if_neg (by simp), List.drop_eq_getElem_cons hlt]
      simp only [dec]
      rw [if_pos hten]
      exact ⟨5, by omega, rfl⟩
    · have hk' : ((k : Int) < (if (10 : Int) < (b.length : Int) then (10 : Int) else (b.length : Int))) := by split <;> omega
      have hbk := hb b[k] (List.getElem_mem hlt)
      unfold byteI at hbk
      rw [m_pack_ReadUint_l1, m_pack_ReadUint_l1_B, decide_eq_true hk', if_pos rfl, nthI_lt hlt, bnd_some, List.drop_eq_getElem_cons hlt]
      obtain ⟨e, he⟩ : ∃ e : Nat, b[k] = (e : Int) := ⟨b[k].toNat, by omega⟩
      rw [he] at hbk ⊢
      have hu : IntKind.u64.wrap (e : Int) = (e : Int) := u64_in (by omega) (by omega)
      have key : uintR n0 k (dec k ((e : Int) :: b.drop (k + 1))) (m_pack_ReadUint_k1 (m_pack_ReadUint_l1 b n) b n0 k e (decide (k = 9 ∧ 1 < e))) := by
        unfold m_pack_ReadUint_k1
        simp only [dec]
        rw [if_neg hten]
        by_cases h9 : k = 9 ∧ 1 < e
        · have h9' : k = 9 ∧ (1 : Int) < (e : Int) := ⟨h9.1, by omega⟩
          rw [decide_eq_true h9, if_pos rfl, if_pos h9']
          exact ⟨2, by omega, rfl⟩
        · have h9' : ¬ (k = 9 ∧ (1 : Int) < (e : Int)) := fun h => h9 ⟨h.1, by omega⟩
          have hw : ¬ IntKind.i64.wrap (7 * (k : Int)) < 0 := by rw [wrap_in (by unfold inR; omega)]; omega
          have h9e : k = 9 → e ≤ 1 := fun h => by
            rcases Nat.lt_or_ge 1 e with h1 | h1
            · exact absurd ⟨h, h1⟩ h9
            · exact h1
          have hacc := acc_step (k := k) (n0 := n0) (e := e) (by omega) h0 (by omega) h9e
          rw [decide_eq_false h9, if_neg h9', if_neg (show ¬ (false = true) by simp), decide_eq_false hw, if_neg (show ¬ (false = true) by simp), hu]
          rw [hu] at hacc
          by_cases h128 : e < 128
          · have h128' : (e : Int) < 128 := by omega
            rw [decide_eq_true h128', if_pos (show true = true from rfl), if_pos h128']
            have hem : e % 128 = e := by omega
            rw [hem] at hacc
            have hsl : sliceL b (IntKind.i64.wrap ((k : Int) + 1)) b.length = some (b.drop (k + 1)) := by
              rw [wrap_succ (by omega)]
              unfold sliceL
              rw [if_pos (by omega)]
              simp
            unfold m_pack_ReadUint_k2
            rw [hu, hacc, hsl]
            by_cases hz : e = 0
            · subst hz
              by_cases hk0 : 0 < k
              · have h1 : (0 : Int) < (k : Int) := by omega
                simp only [Int.ofNat_zero, decide_true, if_true, decide_eq_true h1, hk0, and_self, Int.natCast_zero]
                exact ⟨2, by omega, rfl⟩
              · have : k = 0 := by omega
                subst this
                simp [uintR, bnd_some]
            · have hz1 : ¬ (e : Int) = 0 := by omega
              have hz2 : ¬ ((e : Int) = 0 ∧ 0 < k) := fun h => hz1 h.1
              rw [decide_eq_false hz1, if_neg hz2, if_neg (show ¬ (false = true) by simp), if_neg (show ¬ (false = true) by simp)]
              simp [uintR, bnd_some]
          · have h128' : ¬ (e : Int) < 128 := by omega
            rw [decide_eq_false h128', if_neg (show ¬ (false = true) by simp), if_neg h128', wrap_succ (by omega), hacc]
            have hk9 : k ≤ 8 := by
              rcases Nat.lt_or_ge 8 k with h | h
              · have := h9e (by omega); omega
              · exact h
            have hem : e % 128 = e - 128 := by omega
            have hpow : 2 ^ (7 * (k + 1)) = 2 ^ (7 * k) * 128 := by rw [Nat.mul_succ, Nat.pow_add]
            have hbound : n0 + (e % 128) * 2 ^ (7 * k) < 2 ^ (7 * (k + 1)) := by
              have e1 : e % 128 ≤ 127 := by omega
              have := Nat.mul_le_mul_right (2 ^ (7 * k)) e1
              omega
            have hi := ih (k + 1) n _ (by omega) (by omega) (by omega) (by omega) hbound
            cases hd : dec (k + 1) (b.drop (k + 1)) with
            | none => rw [hd] at hi; exact hi
            | some x =>
              obtain ⟨n', r'⟩ := x
              rw [hd] at hi
              simp only [uintR] at hi ⊢
              rw [hi]
              have e1 : (e : Int).toNat = e := by omega
              have e2 : n0 + e % 128 * 2 ^ (7 * k) + n' * 2 ^ (7 * (k + 1)) = n0 + (e - 128 + 128 * n') * 2 ^ (7 * k) := by
                rw [hem, hpow, Nat.add_mul, Nat.mul_comm (2 ^ (7 * k)) 128, ← Nat.mul_assoc, Nat.mul_comm n' 128, Nat.add_assoc]
              rw [e1, e2]
      by_cases h9 : k = 9
      · subst h9
        rw [if_pos (by simp), hu]
        have : decide ((1 : Int) < (e : Int)) = decide (9 = 9 ∧ 1 < e) := by
          rw [decide_eq_decide]
          omega
        rw [this]
        exact key
      · have h1 : ¬ ((k : Int) = 9) := by omega
        have : decide (k = 9 ∧ 1 < e) = false := decide_eq_false fun h => h9 h.1
        rw [this] at key
        rw [decide_eq_false h1, if_neg (by simp)]
        exact key
theorem read_Uint {b : List Int} (hb : ∀ x ∈ b, byteI x) (hl : b.length ≤ 900000) : uintR 0 0 (dec 0 b) (m_pack_ReadUint b) := by
  have := read_loop hb (by omega) _ 0 1000000 0 rfl (Nat.zero_le _) (by omega) (by omega) (by omega)
  unfold m_pack_ReadUint
  simpa using this
theorem read_some {b : List Int} (hb : ∀ x ∈ b, byteI x) (hl : b.length ≤ 900000) {n : Nat} {r : List Int} (h : dec 0 b = some (n, r)) : m_pack_ReadUint b = some ((n : Int), r, 0) := by
  have := read_Uint hb hl
  rw [h] at this
  simpa [uintR] using this
theorem read_none {b : List Int} (hb : ∀ x ∈ b, byteI x) (hl : b.length ≤ 900000) (h : dec 0 b = none) : ∃ e : Int, e ≠ 0 ∧ m_pack_ReadUint b = some (0, [], e) := by
  have := read_Uint hb hl
  rw [h] at this
  exact this
/-! ### Texts -/
def decB (b : List Int) : Option (List Int × List Int) :=
  match dec 0 b with
  | some (n, r) => if r.length < n then none else some (r.take n, r.drop n)
  | none => none
theorem dec_lt {b : List Int} (hb : ∀ x ∈ b, byteI x) {n : Nat} {r : List Int} (h : dec 0 b = some (n, r)) : n < 18446744073709551616 := by
  have := (enc_dec b 0 n r hb h).2.2.2
  simpa using this
theorem readB_some {b : List Int} (hb : ∀ x ∈ b, byteI x) (hl : b.length ≤ 900000) {s r : List Int} (h : decB b = some (s, r)) : m_pack_ReadBytes b = some (s, r, 0) := by
  unfold decB at h
  split at h
  · rename_i n r' hd
    split at h
    · cases h
    · rename_i hn
      simp only [Option.some.injEq, Prod.mk.injEq] at h
      obtain ⟨rfl, rfl⟩ := h
      have hrl := (dec_bytes hb hd).2
      unfold m_pack_ReadBytes
      have h1 : ¬ ((r'.length : Int) < (n : Int)) := by omega
      have e1 : sliceL r' 0 (n : Int) = some (r'.take n) := by
        unfold sliceL
        rw [if_pos (by omega)]
        simp
      have e2 : sliceL r' (n : Int) r'.length = some (r'.drop n) := by
        unfold sliceL
        rw [if_pos (by omega)]
        simp
      rw [read_some hb hl hd, bnd_some]
      simp only [ne_eq, not_true_eq_false, decide_false, Bool.false_eq_true, if_false]
      rw [u64_in (by omega) (by omega), decide_eq_false h1, if_neg (by simp), e1, bnd_some, e2, bnd_some]
  · cases h
theorem readB_none {b : List Int} (hb : ∀ x ∈ b, byteI x) (hl : b.length ≤ 900000) (h : decB b = none) : ∃ e : Int, e ≠ 0 ∧ m_pack_ReadBytes b = some ([], [], e) := by
  unfold decB at h
  unfold m_pack_ReadBytes
  split at h
  · rename_i n r' hd
    split at h
    · rename_i hn
      have hrl := (dec_bytes hb hd).2
      have h1 : ((r'.length : Int) < (n : Int)) := by omega
      rw [read_some hb hl hd, bnd_some]
      simp only [ne_eq, not_true_eq_false, decide_false, Bool.false_eq_true, if_false]
      rw [u64_in (by omega) (by omega), decide_eq_true h1, if_pos rfl]
      exact ⟨5, by omega, rfl⟩
    · cases h
  · rename_i hd
    obtain ⟨e, h0, h1⟩ := read_none hb hl hd
    rw [h1, bnd_some]
    refine ⟨e, h0, ?_⟩
    simp [h0]
/-! ### Whole numbers -/
def zz (n : Int) : Nat := if 0 ≤ n then (2 * n).toNat else (-2 * n - 1).toNat
def unzz (u : Nat) : Int := if u % 2 = 0 then (u / 2 : Nat) else -((u / 2 : Nat) : Int) - 1
theorem unzz_zz (n : Int) : unzz (zz n) = n := by
  unfold unzz zz
  by_cases h : 0 ≤ n
  · rw [if_pos h, if_pos (by omega)]; omega
  · rw [if_neg h, if_neg (by omega)]; omega
theorem zz_unzz (u : Nat) : zz (unzz u) = u := by
  unfold unzz zz
  by_cases h : u % 2 = 0
  · rw [if_pos h, if_pos (by omega)]; omega
  · rw [if_neg h, if_neg (by omega)]; omega
theorem zz_lt {n : Int} (h : inR n) : zz n < 18446744073709551616 := by
  unfold inR at h
  unfold zz
  split <;> omega
theorem unzz_r {u : Nat} (h : u < 18446744073709551616) : inR (unzz u) := by
  unfold inR unzz
  split <;> omega
theorem bvm1 : BitVec.ofInt 64 (-1) = BitVec.allOnes 64 := by decide +kernel
theorem bv0 : BitVec.ofInt 64 0 = 0#64 := by decide +kernel
theorem xor_ones (a : Nat) (h : a < 18446744073709551616) : (BitVec.ofInt 64 (a : Int) ^^^ BitVec.ofInt 64 (-1)).toNat = 18446744073709551615 - a := by
  rw [bvm1, BitVec.xor_allOnes, BitVec.toNat_not, bv_nat h]
theorem xor_zero (a : Nat) (h : a < 18446744073709551616) : (BitVec.ofInt 64 (a : Int) ^^^ BitVec.ofInt 64 0).toNat = a := by
  rw [bv0, BitVec.xor_zero, bv_nat h]
theorem bv_ones' : BitVec.ofInt 64 18446744073709551615 = BitVec.ofInt 64 (-1) := by decide +kernel
theorem enc_zz {n : Int} (h : inR n) : xorI .u64 (shlI .u64 (IntKind.u64.wrap n) 1) (IntKind.u64.wrap (shrI .i64 n 63)) = ((zz n : Nat) : Int) := by
  have hx : ∀ a b : Int, xorI .u64 a b = IntKind.u64.wrap ((BitVec.ofInt 64 a ^^^ BitVec.ofInt 64 b).toNat : Int) := fun _ _ => rfl
  have hs : shlI .u64 (IntKind.u64.wrap n) 1 = (IntKind.u64.wrap n * 2) % 18446744073709551616 := by
    have : shlI .u64 (IntKind.u64.wrap n) 1 = IntKind.u64.wrap (IntKind.u64.wrap n * 2 ^ 1) := rfl
    rw [this, u64_mod, Int.pow_one]
  have hr : shrI .i64 n 63 = n.fdiv (2 ^ 63) := rfl
  unfold inR at h
  rw [hx, hs, hr, u64_mod n, Int.fdiv_eq_ediv_of_nonneg _ (by decide)]
  unfold zz
  by_cases h0 : 0 ≤ n
  · rw [if_pos h0]
    have e1 : n / 2 ^ 63 = 0 := by omega
    have e2 : n % 18446744073709551616 * 2 % 18446744073709551616 = ((2 * n).toNat : Int) := by omega
    have e0 : IntKind.u64.wrap 0 = 0 := by rw [u64_mod]; rfl
    rw [e1, e2, e0, xor_zero _ (by omega), u64_in (by omega) (by omega)]
  · rw [if_neg h0]
    have e1 : n / 2 ^ 63 = -1 := by omega
    have e2 : n % 18446744073709551616 * 2 % 18446744073709551616 = ((2 * n + 18446744073709551616).toNat : Int) := by omega
    have e3 : IntKind.u64.wrap (-1) = 18446744073709551615 := by rw [u64_mod]; rfl
    rw [e1, e2, e3, bv_ones', xor_ones _ (by omega), u64_in (by omega) (by omega)]
    omega
theorem dec_zz {u : Nat} (h : u < 18446744073709551616) : xorI .i64 (IntKind.i64.wrap (shrI .u64 u 1)) (IntKind.i64.wrap (0 - (IntKind.i64.wrap (andI .u64 u 1)))) = unzz u := by
  have hx : ∀ a b : Int, xorI .i64 a b = IntKind.i64.wrap ((BitVec.ofInt 64 a ^^^ BitVec.ofInt 64 b).toNat : Int) := fun _ _ => rfl
  rw [hx, shr1, and1 h, wrap_in (n := ((u / 2 : Nat) : Int)) (by unfold inR; omega), wrap_in (n := ((u % 2 : Nat) : Int)) (by unfold inR; omega), wrap_in (n := 0 - ((u % 2 : Nat) : Int)) (by unfold inR; omega)]
  unfold unzz
  by_cases h0 : u % 2 = 0
  · rw [if_pos h0, h0]
    have : (0 : Int) - ((0 : Nat) : Int) = 0 := rfl
    rw [this, xor_zero _ (by omega), wrap_in (by unfold inR; omega)]
  · have h1 : u % 2 = 1 := by omega
    rw [if_neg h0, h1]
    have : (0 : Int) - ((1 : Nat) : Int) = -1 := rfl
    rw [this, xor_ones _ (by omega), IntKind.wrap_i64]
    omega
def decI (b : List Int) : Option (Int × List Int) :=
  match dec 0 b with
  | some (n, r) => some (unzz n, r)
  | none => none
theorem readI_some {b : List Int} (hb : ∀ x ∈ b, byteI x) (hl : b.length ≤ 900000) {x : Int} {r : List Int} (h : decI b = some (x, r)) : m_pack_ReadInt b = some (x, r, 0) := by
  unfold decI at h
  split at h
  · rename_i n r' hd
    simp only [Option.some.injEq, Prod.mk.injEq] at h
    obtain ⟨rfl, rfl⟩ := h
    unfold m_pack_ReadInt
    rw [read_some hb hl hd, bnd_some]
    simp only
    rw [dec_zz (dec_lt hb hd)]
  · cases h
theorem readI_none {b : List Int} (hb : ∀ x ∈ b, byteI x) (hl : b.length ≤ 900000) (h : decI b = none) : ∃ (x e : Int), e ≠ 0 ∧ m_pack_ReadInt b = some (x, [], e) := by
  unfold decI at h
  split at h
  · cases h
  · rename_i hd
    obtain ⟨e, h0, h1⟩ := read_none hb hl hd
    unfold m_pack_ReadInt
    rw [h1, bnd_some]
    exact ⟨_, e, h0, rfl⟩
end Go.Proofs.Ytjhnlgelcfplaaa.R

/- Plain laws: variables as bytes and back. -/
set_option maxRecDepth 100000
set_option linter.unusedVariables false
set_option linter.unusedSimpArgs false
noncomputable section
namespace Go.Proofs.Ytjhnlgelcfplaaa.R
open Go
theorem strI_len (l : List Int) : (strI l).size = l.length := by
  unfold strI
  show ((l.map fun n => UInt8.ofNat n.toNat).toArray).size = l.length
  simp
theorem bytesI_strI {l : List Int} (h : ∀ x ∈ l, byteI x) : bytesI (strI l) = l := by
  unfold bytesI strI
  simp only [List.map_map]
  rw [show l = l.map id from (List.map_id l).symm]
  simp only [List.map_map]
  refine List.map_congr_left fun x hx => ?_
  have := h x hx
  unfold byteI at this
  simp
  omega
theorem strI_bytesI (s : ByteArray) : strI (bytesI s) = s := by
  unfold bytesI strI
  simp only [List.map_map]
  have : ((fun n : Int => UInt8.ofNat n.toNat) ∘ fun b : UInt8 => (b.toNat : Int)) = id := by
    funext b
    simp
  rw [this, List.map_id]
theorem bytesI_byte (s : ByteArray) : ∀ x ∈ bytesI s, byteI x := by
  intro x hx
  unfold bytesI at hx
  obtain ⟨b, _, rfl⟩ := List.mem_map.1 hx
  have := b.toNat_lt
  unfold byteI
  omega
/-! ### Written -/
def encV : List ByteArray → List Int → List Int
  | s :: ns, x :: vs => encU s.size ++ bytesI s ++ encU (zz x) ++ encV ns vs
  | _, _ => []
def encVs (v : TVars) : List Int := encU v.Names.length ++ encV v.Names v.Vals
theorem pack_Bytes {b : List Int} {s : ByteArray} (hs : s.size ≤ 10000) (hb : b.length ≤ 900000) : m_pack_Bytes b (bytesI s) = some (b ++ encU s.size ++ bytesI s) := by
  unfold m_pack_Bytes
  have := encU_len10 (n := s.size) (by omega)
  rw [bytesI_len, u64_in (by omega) (by omega), pack_Uint_v1 (by omega) (by omega), bnd_some, if_pos (capB_small (by simp; omega))]
theorem pack_Int {b : List Int} {n : Int} (hn : inR n) (hb : b.length ≤ 900000) : m_pack_Int b n = some (b ++ encU (zz n)) := by
  unfold m_pack_Int
  rw [enc_zz hn, pack_Uint_v1 (zz_lt hn) (by omega), bnd_some]
theorem put_loop9 {v : TVars} (hl : v.Names.length = v.Vals.length) (hb : v.Names.length ≤ 64) (hs : ∀ s ∈ v.Names, s.size ≤ 1000) (hv : ∀ n ∈ v.Vals, inR n) : ∀ (m k n : Nat) (b : List Int), v.Names.length - k = m → k ≤ v.Names.length → m < n → b.length ≤ 10 + 1100 * k →
    m_vars_Put_l1 v n (k : Int) b = some (b ++ encV (v.Names.drop k) (v.Vals.drop k)) := by
  intro m
  induction m with
  | zero =>
    intro k n b hm hk hn hbl
    obtain ⟨n, rfl⟩ : ∃ n', n = n' + 1 := ⟨n - 1, by omega⟩
    have hk' : ¬ ((k : Int) < (v.Names.length : Int)) := by omega
    rw [m_vars_Put_l1, m_vars_Put_l1_B, decide_eq_false hk', if_neg (by simp), List.drop_eq_nil_of_le (by omega)]
    simp [encV]
  | succ m ih =>
    intro k n b hm hk hn hbl
    obtain ⟨n, rfl⟩ : ∃ n', n = n' + 1 := ⟨n - 1, by omega⟩
    have hlt : k < v.Names.length := by omega
    have hltv : k < v.Vals.length := by omega
    have hk' : ((k : Int) < (v.Names.length : Int)) := by omega
    have hsz := hs v.Names[k] (List.getElem_mem hlt)
    have hvr := hv v.Vals[k] (List.getElem_mem hltv)
    have e1 := encU_len10 (n := v.Names[k].size) (by omega)
    have e2 := encU_len10 (n := zz v.Vals[k]) (zz_lt hvr)
    have e3 := bytesI_len v.Names[k]
    rw [m_vars_Put_l1, m_vars_Put_l1_B, decide_eq_true hk', if_pos rfl, nthI_lt hlt, bnd_some, pack_Bytes (by omega) (by omega), bnd_some, nthI_lt hltv, bnd_some, pack_Int hvr (by simp; omega), bnd_some, wrap_succ (by omega), ih (k + 1) n _ (by omega) (by omega) (by omega) (by simp; omega), List.drop_eq_getElem_cons hlt, List.drop_eq_getElem_cons hltv]
    simp [encV]
theorem vars_Put {v : TVars} (hl : v.Names.length = v.Vals.length) (hb : v.Names.length ≤ 64) (hs : ∀ s ∈ v.Names, s.size ≤ 1000) (hv : ∀ n ∈ v.Vals, inR n) : m_vars_Put v = some (encVs v) := by
  unfold m_vars_Put encVs
  have e1 := encU_len10 (n := v.Names.length) (by omega)
  have := put_loop9 hl hb hs hv _ 0 ((((v.Names.length : Int)) - ((0 : Int))).toNat + 1) (encU v.Names.length) rfl (Nat.zero_le _) (by omega) (by omega)
  rw [u64_in (by omega) (by omega), pack_Uint (by omega), bnd_some]
  exact this
theorem encV_len : ∀ (ns : List ByteArray) (vs : List Int), (∀ s ∈ ns, s.size ≤ 1000) → (∀ n ∈ vs, inR n) → (encV ns vs).length ≤ 1100 * ns.length
  | [], vs, _, _ => by simp [encV]
  | s :: ns, [], _, _ => by simp [encV]
  | s :: ns, x :: vs, h, h' => by
    have := encV_len ns vs (fun y hy => h y (List.mem_cons_of_mem _ hy)) (fun y hy => h' y (List.mem_cons_of_mem _ hy))
    have hs := h s List.mem_cons_self
    have hx := h' x List.mem_cons_self
    have e1 := encU_len10 (n := s.size) (by omega)
    have e2 := encU_len10 (n := zz x) (zz_lt hx)
    have e3 := bytesI_len s
    simp only [encV, List.length_append, List.length_cons]
    omega
theorem encV_bytes : ∀ (ns : List ByteArray) (vs : List Int), ∀ x ∈ encV ns vs, byteI x
  | [], vs, x, h => by simp [encV] at h
  | s :: ns, [], x, h => by simp [encV] at h
  | s :: ns, y :: vs, x, h => by
    simp only [encV, List.mem_append] at h
    rcases h with ((h | h) | h) | h
    · exact encU_bytes _ x h
    · exact bytesI_byte _ x h
    · exact encU_bytes _ x h
    · exact encV_bytes ns vs x h
theorem encVs_bytes (v : TVars) : ∀ x ∈ encVs v, byteI x := by
  intro x h
  unfold encVs at h
  rcases List.mem_append.1 h with h | h
  · exact encU_bytes _ x h
  · exact encV_bytes _ _ x h
/-! ### Read -/
def decV : Nat → List Int → Option (List ByteArray × List Int × List Int)
  | 0, b => some ([], [], b)
  | j + 1, b =>
    match decB b with
    | none => none
    | some (s, r) =>
      match decI r with
      | none => none
      | some (x, r') =>
        match decV j r' with
        | none => none
        | some (ns, vs, r'') => some (strI s :: ns, x :: vs, r'')
theorem decB_enc (s : ByteArray) (r : List Int) (hs : s.size < 18446744073709551616) : decB (encU s.size ++ bytesI s ++ r) = some (bytesI s, r) := by
  unfold decB
  rw [List.append_assoc, dec_enc s.size 0 _ (by simpa using hs) (by omega) (.inl rfl)]
  have e3 := bytesI_len s
  simp only
  rw [if_neg (by simp; omega), ← e3]
  simp
theorem decI_enc (n : Int) (r : List Int) (h : inR n) : decI (encU (zz n) ++ r) = some (n, r) := by
  unfold decI
  rw [dec_enc (zz n) 0 _ (by simpa using zz_lt h) (by omega) (.inl rfl)]
  simp only [unzz_zz]
theorem decV_enc : ∀ (ns : List ByteArray) (vs : List Int) (r : List Int), ns.length = vs.length → (∀ s ∈ ns, s.size ≤ 1000) → (∀ n ∈ vs, inR n) → decV ns.length (encV ns vs ++ r) = some (ns, vs, r)
  | [], [], r, _, _, _ => by simp [encV, decV]
  | s :: ns, x :: vs, r, hl, h, h' => by
    have ih := decV_enc ns vs r (by simpa using hl) (fun y hy => h y (List.mem_cons_of_mem _ hy)) (fun y hy => h' y (List.mem_cons_of_mem _ hy))
    have hs := h s List.mem_cons_self
    have hx := h' x List.mem_cons_self
    have e : encV (s :: ns) (x :: vs) ++ r = encU s.size ++ bytesI s ++ (encU (zz x) ++ (encV ns vs ++ r)) := by simp [encV]
    rw [e, List.length_cons]
    simp only [decV]
    rw [decB_enc s _ (by omega)]
    simp only
    rw [decI_enc x _ hx]
    simp only
    rw [ih]
    simp only [strI_bytesI]
structure DecOk (b : List Int) (j : Nat) (ns : List ByteArray) (vs : List Int) (r : List Int) : Prop where
  eq : b = encV ns vs ++ r
  len : ns.length = j
  lenV : vs.length = j
  vals : ∀ n ∈ vs, inR n
  size : ∀ s ∈ ns, s.size ≤ b.length
theorem decB_ok {b : List Int} (hb : ∀ x ∈ b, byteI x) {s r : List Int} (h : decB b = some (s, r)) : b = encU (strI s).size ++ bytesI (strI s) ++ r ∧ (∀ x ∈ r, byteI x) ∧ s.length ≤ b.length ∧ r.length ≤ b.length := by
  unfold decB at h
  split at h
  · rename_i n r' hd
    split at h
    · cases h
    · rename_i hn
      simp only [Option.some.injEq, Prod.mk.injEq] at h
      obtain ⟨rfl, rfl⟩ := h
      obtain ⟨h1, _⟩ := enc_dec b 0 n r' hb hd
      obtain ⟨h2, h3⟩ := dec_bytes hb hd
      rw [strI_len, bytesI_strI fun x hx => h2 x (List.mem_of_mem_take hx)]
      refine ⟨?_, fun x hx => h2 x (List.mem_of_mem_drop hx), by simp; omega, by simp; omega⟩
      have : (r'.take n).length = n := by simp; omega
      rw [this, List.append_assoc, List.take_append_drop]
      exact h1
  · cases h
theorem decI_ok {b : List Int} (hb : ∀ x ∈ b, byteI x) {x : Int} {r : List Int} (h : decI b = some (x, r)) : b = encU (zz x) ++ r ∧ inR x ∧ (∀ y ∈ r, byteI y) ∧ r.length ≤ b.length := by
  unfold decI at h
  split at h
  · rename_i n r' hd
    simp only [Option.some.injEq, Prod.mk.injEq] at h
    obtain ⟨rfl, rfl⟩ := h
    obtain ⟨h2, h3⟩ := dec_bytes hb hd
    rw [zz_unzz]
    exact ⟨(enc_dec b 0 n r' hb hd).1, unzz_r (dec_lt hb hd), h2, by omega⟩
  · cases h
theorem decV_ok : ∀ (j : Nat) (b : List Int) (ns : List ByteArray) (vs r : List Int), (∀ x ∈ b, byteI x) → decV j b = some (ns, vs, r) → DecOk b j ns vs r := by
  intro j
  induction j with
  | zero =>
    intro b ns vs r hb h
    simp only [decV, Option.some.injEq, Prod.mk.injEq] at h
    obtain ⟨rfl, rfl, rfl⟩ := h
    exact ⟨by simp [encV], rfl, rfl, by simp, by simp⟩
  | succ j ih =>
    intro b ns vs r hb h
    simp only [decV] at h
    split at h
    · cases h
    · rename_i s r1 hB
      split at h
      · cases h
      · rename_i x r2 hI
        split at h
        · cases h
        · rename_i ns' vs' r3 hV
          simp only [Option.some.injEq, Prod.mk.injEq] at h
          obtain ⟨rfl, rfl, rfl⟩ := h
          obtain ⟨a1, a2, a3, a4⟩ := decB_ok hb hB
          obtain ⟨b1, b2, b3, b4⟩ := decI_ok a2 hI
          obtain ⟨c1, c2, c3, c4, c5⟩ := ih r2 ns' vs' r3 b3 hV
          refine ⟨?_, by simp [c2], by simp [c3], fun n hn => ?_, fun y hy => ?_⟩
          · rw [a1, b1, c1]
            simp [encV]
          · rcases List.mem_cons.1 hn with rfl | hn
            · exact b2
            · exact c4 n hn
          · rcases List.mem_cons.1 hy with rfl | hy
            · rw [strI_len]; exact a3
            · have := c5 y hy; omega
def readR (ns : List ByteArray) (vs : List Int) : Option (List ByteArray × List Int × List Int) → Option (TVars × List Int × Int) → Prop
  | some (ns', vs', r), x => x = m_vars_Read_k1 r (ns ++ ns') (vs ++ vs')
  | none, x => ∃ e : Int, e ≠ 0 ∧ x = some (⟨[], []⟩, [], e)
theorem read_loop9 {r0 : Int × List Int × Int} {t : Nat} (h0 : r0.1 = (t : Int)) (ht : t ≤ 64) : ∀ (j i n : Nat) (b : List Int) (ns : List ByteArray) (vs : List Int), i + j = t → j < n → ns.length ≤ i → vs.length ≤ i → (∀ x ∈ b, byteI x) → b.length ≤ 900000 →
    readR ns vs (decV j b) (m_vars_Read_l1 r0 n b (i : Int) ns vs) := by
  intro j
  induction j with
  | zero =>
    intro i n b ns vs hi hn h1 h2 hb hl
    obtain ⟨n, rfl⟩ : ∃ n', n = n' + 1 := ⟨n - 1, by omega⟩
    have hk' : ¬ ((i : Int) < r0.1) := by omega
    rw [m_vars_Read_l1, m_vars_Read_l1_B, decide_eq_false hk', if_neg (by simp)]
    simp [decV, readR]
  | succ j ih =>
    intro i n b ns vs hi hn h1 h2 hb hl
    obtain ⟨n, rfl⟩ : ∃ n', n = n' + 1 := ⟨n - 1, by omega⟩
    have hk' : ((i : Int) < r0.1) := by omega
    rw [m_vars_Read_l1, m_vars_Read_l1_B, decide_eq_true hk', if_pos rfl]
    simp only [decV]
    cases hB : decB b with
    | none =>
      obtain ⟨e, e0, e1⟩ := readB_none hb hl hB
      rw [e1, bnd_some]
      refine ⟨e, e0, ?_⟩
      simp [e0]
    | some x =>
      obtain ⟨s, r1⟩ := x
      obtain ⟨a1, a2, a3, a4⟩ := decB_ok hb hB
      rw [readB_some hb hl hB, bnd_some]
      simp only [ne_eq, not_true_eq_false, decide_false, Bool.false_eq_true, if_false]
      cases hI : decI r1 with
      | none =>
        obtain ⟨x, e, e0, e1⟩ := readI_none a2 (by omega) hI
        rw [e1, bnd_some]
        refine ⟨e, e0, ?_⟩
        simp [e0]
      | some x =>
        obtain ⟨x, r2⟩ := x
        obtain ⟨b1, b2, b3, b4⟩ := decI_ok a2 hI
        rw [readI_some a2 (by omega) hI, bnd_some]
        simp only [ne_eq, not_true_eq_false, decide_false, Bool.false_eq_true, if_false]
        have hw : IntKind.u64.wrap ((i : Int) + 1) = ((i + 1 : Nat) : Int) := by rw [u64_in (by omega) (by omega)]; rfl
        rw [if_pos (capB_small (by omega)), if_pos (capB_small (by omega)), hw]
        have hi := ih (i + 1) n r2 (ns ++ [strI s]) (vs ++ [x]) (by omega) (by omega) (by simp; omega) (by simp; omega) b3 (by omega)
        cases hV : decV j r2 with
        | none => rw [hV] at hi; exact hi
        | some y =>
          obtain ⟨ns', vs', r3⟩ := y
          rw [hV] at hi
          simp only [readR] at hi ⊢
          rw [hi]
          simp
/-- The variables that bytes begin with, and the bytes behind. -/
def decR (b : List Int) : Option (TVars × List Int) :=
  match dec 0 b with
  | none => none
  | some (n, r) =>
    if 64 < n then none else
    match decV n r with
    | none => none
    | some (ns, vs, r') => if vchk ⟨ns, vs⟩ = 0 then some (⟨ns, vs⟩, r') else none
theorem vars_Read {b : List Int} (hb : ∀ x ∈ b, byteI x) (hl : b.length ≤ 900000) : (∃ w r, decR b = some (w, r) ∧ m_vars_Read b = some (w, r, 0)) ∨ (decR b = none ∧ ∃ e : Int, e ≠ 0 ∧ m_vars_Read b = some (⟨[], []⟩, [], e)) := by
  unfold m_vars_Read decR
  cases hd : dec 0 b with
  | none =>
    obtain ⟨e, e0, e1⟩ := read_none hb hl hd
    right
    refine ⟨rfl, e, e0, ?_⟩
    rw [e1, bnd_some]
    simp [e0]
  | some x =>
    obtain ⟨n, r⟩ := x
    obtain ⟨hr1, hr2⟩ := dec_bytes hb hd
    rw [read_some hb hl hd, bnd_some]
    simp only [ne_eq, not_true_eq_false, decide_false, Bool.false_eq_true, if_false]
    by_cases h64 : 64 < n
    · have : (64 : Int) < (n : Int) := by omega
      right
      simp only [h64, this, decide_true, if_true]
      exact ⟨trivial, 6, by omega, rfl⟩
    · have h64' : ¬ (64 : Int) < (n : Int) := by omega
      simp only [h64, h64', decide_false, Bool.false_eq_true, if_false]
      have hlp := read_loop9 (r0 := ((n : Int), r, 0)) (t := n) rfl (by omega) n 0 (((n : Int) - 0).toNat + 1) r [] [] (by omega) (by omega) (by simp) (by simp) hr1 (by omega)
      cases hV : decV n r with
      | none =>
        rw [hV] at hlp
        obtain ⟨e, e0, e1⟩ := hlp
        exact .inr ⟨rfl, e, e0, e1⟩
      | some y =>
        obtain ⟨ns, vs, r'⟩ := y
        rw [hV] at hlp
        simp only [readR, List.nil_append] at hlp
        obtain ⟨c1, c2, c3, c4, c5⟩ := decV_ok n r ns vs r' hr1 hV
        have hok : OkV ⟨ns, vs⟩ := ⟨by show ns.length ≤ _; unfold big63; omega, by show vs.length ≤ _; unfold big63; omega, fun s hs => by have := c5 s hs; unfold big63; omega, c4⟩
        simp only
        have hlp' : m_vars_Read_l1 ((n : Int), r, 0) (((n : Int) - 0).toNat + 1) r 0 [] [] = m_vars_Read_k1 r' ns vs := hlp
        rw [hlp']
        unfold m_vars_Read_k1
        rw [vars_Check hok, bnd_some]
        by_cases hc : vchk ⟨ns, vs⟩ = 0
        · left
          refine ⟨⟨ns, vs⟩, r', by simp [hc], by simp [hc]⟩
        · right
          refine ⟨by simp [hc], vchk ⟨ns, vs⟩, hc, by simp [hc]⟩
end Go.Proofs.Ytjhnlgelcfplaaa.R

/- The law of variables written and read: its answer is always true. -/
set_option maxRecDepth 100000
set_option linter.unusedVariables false
set_option linter.unusedSimpArgs false
noncomputable section
namespace Go.Proofs.Ytjhnlgelcfplaaa.R
open Go
theorem namesB_var : ∀ (p : Option ByteArray) (l : List ByteArray), namesB p l = true → ∀ x ∈ l, varB x = true
  | _, [], _, x, hx => by cases hx
  | p, y :: l, h, x, hx => by
    simp only [namesB, Bool.and_eq_true] at h
    rcases List.mem_cons.1 hx with rfl | hx
    · exact h.1
    · exact namesB_var _ l h.2.2 x hx
theorem varB_small {s : ByteArray} (h : varB s = true) : s.size ≤ 1000 := by
  unfold varB nameB nameL at h
  simp only [Bool.and_eq_true, decide_eq_true_eq] at h
  have := h.1.2.2
  rw [bytesI_len] at this
  omega
structure ChkOk (v : TVars) : Prop where
  len : v.Names.length = v.Vals.length
  most : v.Names.length ≤ 64
  size : ∀ s ∈ v.Names, s.size ≤ 1000
theorem chk_ok {v : TVars} (h : vchk v = 0) : ChkOk v := by
  unfold vchk at h
  split at h
  · cases h
  · rename_i h1
    split at h
    · cases h
    · rename_i h2
      split at h
      · rename_i h3
        exact ⟨by simpa using h1, by omega, fun s hs => varB_small (namesB_var _ _ h3 s hs)⟩
      · cases h
theorem decR_put {v : TVars} (hv : OkV v) (hc : vchk v = 0) (b : List Int) : decR (encVs v ++ b) = some (v, b) := by
  obtain ⟨h1, h2, h3⟩ := chk_ok hc
  unfold decR encVs
  rw [List.append_assoc, dec_enc v.Names.length 0 _ (by simp; omega) (by omega) (.inl rfl)]
  simp only
  rw [if_neg (by omega), decV_enc v.Names v.Vals b h1 h3 hv.vals]
  simp only
  rw [if_pos hc]
theorem decR_ok {b : List Int} (hb : ∀ x ∈ b, byteI x) {w : TVars} {r : List Int} (h : decR b = some (w, r)) : b = encVs w ++ r ∧ vchk w = 0 ∧ ∀ n ∈ w.Vals, inR n := by
  unfold decR at h
  split at h
  · cases h
  · rename_i n r1 hd
    split at h
    · cases h
    · split at h
      · cases h
      · rename_i ns vs r2 hV
        split at h
        · rename_i hc
          simp only [Option.some.injEq, Prod.mk.injEq] at h
          obtain ⟨rfl, rfl⟩ := h
          obtain ⟨c1, c2, c3, c4, c5⟩ := decV_ok n r1 ns vs r2 (dec_bytes hb hd).1 hV
          refine ⟨?_, hc, c4⟩
          rw [(enc_dec b 0 n r1 hb hd).1, c1]
          unfold encVs
          simp [c2]
        · cases h
theorem ref02_self (a : List Int) : m_ref02_Same a a = some true := by
  unfold m_ref02_Same
  rw [eqS_self]
theorem back_k3 {b : List Int} (hb : ∀ x ∈ b, byteI x) (hl : b.length ≤ 3000) : m_law09_VarsBack_k3 b = some true := by
  unfold m_law09_VarsBack_k3
  rcases vars_Read hb (by omega) with ⟨w, r, h1, h2⟩ | ⟨h1, e, h0, h2⟩
  · obtain ⟨e1, e2, e3⟩ := decR_ok hb h1
    obtain ⟨c1, c2, c3⟩ := chk_ok e2
    rw [h2, bnd_some]
    simp only [ne_eq, not_true_eq_false, decide_false, Bool.false_eq_true, if_false]
    have hlen : (encVs w).length + r.length = b.length := by rw [e1]; simp
    rw [vars_Put c1 c2 c3 e3, bnd_some, if_pos (capB_small (by omega)), ← e1, ref02_self, bnd_some]
    rfl
  · rw [h2, bnd_some]
    simp only [ne_eq, h0, not_false_eq_true, decide_true, if_true]
    rfl
theorem ans_VarsBack {v : TVars} {b : List Int} (hv : OkV v) (hb : ∀ x ∈ b, byteI x) : m_law09_VarsBack v b = some true := by
  have hw : m_law09_works = some true := rfl
  unfold m_law09_VarsBack
  obtain ⟨lb, h1, h2⟩ := light_ok hv
  rw [h1, bnd_some]
  have htrue : m_law09_VarsBack_k1 v b true = some true := by
    unfold m_law09_VarsBack_k1
    rw [if_pos rfl, hw]
    rfl
  cases lb with
  | false => simpa using htrue
  | true =>
    rw [if_pos rfl]
    by_cases hl : (3000 : Int) < (b.length : Int)
    · rw [decide_eq_true hl]; exact htrue
    · rw [decide_eq_false hl]
      unfold m_law09_VarsBack_k1
      rw [if_neg (by simp), ref09_Check hv, bnd_some]
      have h3 := back_k3 hb (by omega)
      by_cases hc : vchk v = 0
      · obtain ⟨c1, c2, c3⟩ := chk_ok hc
        have hen := encV_len v.Names v.Vals c3 hv.vals
        have heu := encU_len10 (n := v.Names.length) (by omega)
        have hlen : (encVs v).length ≤ 80000 := by unfold encVs; simp; omega
        have hbb : ∀ x ∈ encVs v ++ b, byteI x := by
          intro x hx
          rcases List.mem_append.1 hx with hx | hx
          · exact encVs_bytes v x hx
          · exact hb x hx
        have hr : m_vars_Read (encVs v ++ b) = some (v, b, 0) := by
          rcases vars_Read hbb (by simp; omega) with ⟨w, r, g1, g2⟩ | ⟨g1, _⟩
          · rw [decR_put hv hc] at g1
            simp only [Option.some.injEq, Prod.mk.injEq] at g1
            obtain ⟨rfl, rfl⟩ := g1
            exact g2
          · rw [decR_put hv hc] at g1; cases g1
        have hs : sameV v v = true := (sameV_iff v v).2 rfl
        rw [decide_eq_true hc, if_pos rfl, vars_Put c1 c2 c3 hv.vals, bnd_some, if_pos (capB_small (by omega)), if_pos (capB_small (by omega)), hr, bnd_some]
        simp only [ne_eq, not_true_eq_false, decide_false, Bool.false_eq_true, if_false]
        rw [ref09_Same hv, bnd_some, hs, if_pos rfl, ref02_self, bnd_some]
        unfold m_law09_VarsBack_k2
        rw [if_neg (by simp)]
        exact h3
      · rw [decide_eq_false hc, if_neg (by simp)]
        exact h3
end Go.Proofs.Ytjhnlgelcfplaaa.R

