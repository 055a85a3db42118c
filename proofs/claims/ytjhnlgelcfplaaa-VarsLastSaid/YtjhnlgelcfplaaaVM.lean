/- Plain laws: numbers, elements, lists compared. -/
import Derived.Test.YtjhnlgelcfplaaaMF
import Derived.IntWalk
set_option maxRecDepth 100000
set_option linter.unusedVariables false
set_option linter.unusedSimpArgs false
noncomputable section
namespace Go.Proofs.Ytjhnlgelcfplaaa.R
open Go
/-! ### Ranges -/
def inR (n : Int) : Prop := -9223372036854775808 ≤ n ∧ n ≤ 9223372036854775807
instance (n : Int) : Decidable (inR n) := inferInstanceAs (Decidable (_ ∧ _))
theorem wrap_in {n : Int} (h : inR n) : IntKind.i64.wrap n = n := IntWalk.i64_in n h
theorem wrap_r (n : Int) : inR (IntKind.i64.wrap n) := by
  unfold inR
  rw [IntKind.wrap_i64]
  omega
theorem u64_in {n : Int} (h0 : 0 ≤ n) (h1 : n < 18446744073709551616) : IntKind.u64.wrap n = n := by
  simp only [IntKind.wrap, IntKind.signed, IntKind.bits]
  simp
  omega
theorem u64_mod (n : Int) : IntKind.u64.wrap n = n % 18446744073709551616 := by
  simp only [IntKind.wrap, IntKind.signed, IntKind.bits]
  simp
theorem tmod_nn {a b : Int} (ha : 0 ≤ a) : a.tmod b = a % b := Int.tmod_eq_emod_of_nonneg ha
theorem tdiv_nn {a b : Int} (ha : 0 ≤ a) : a.tdiv b = a / b := Int.tdiv_eq_ediv_of_nonneg ha
theorem wrap_succ {k : Nat} (h : k < 9223372036854775807) : IntKind.i64.wrap ((k : Int) + 1) = ((k + 1 : Nat) : Int) := by
  rw [wrap_in (by unfold inR; omega)]
  rfl
theorem wrap_succ' {i : Int} (h0 : 0 ≤ i) (h : i < 9223372036854775807) : IntKind.i64.wrap (i + 1) = i + 1 := wrap_in (by unfold inR; omega)
/-! ### Elements -/
theorem nthI_nat {α : Type} (l : List α) (k : Nat) : nthI l (k : Int) = l[k]? := by simp [nthI]
theorem nthI_lt {α : Type} {l : List α} {k : Nat} (h : k < l.length) : nthI l (k : Int) = some l[k] := by rw [nthI_nat, List.getElem?_eq_getElem h]
theorem nthI_zero {α : Type} (l : List α) : nthI l 0 = l[0]? := by simp [nthI]
theorem nthI_one {α : Type} (l : List α) : nthI l 1 = l[1]? := by simp [nthI]
theorem bytesI_len (s : ByteArray) : (bytesI s).length = s.size := by simp [bytesI]
theorem nthS_eq (s : ByteArray) (i : Int) : nthS s i = nthI (bytesI s) i := by
  unfold nthS nthI bytesI
  split
  · rw [List.getElem?_map]
  · rfl
theorem maxLen_eq : maxLen = 9223372036854775807 := rfl
theorem capB_small {n : Nat} (h : n ≤ 549755813888) : capB n = true := by
  unfold capB limN
  simpa using h
/-! ### Two lists compared -/
def all2 {α : Type} (p : α → α → Bool) : List α → List α → Bool
  | x :: a, y :: b => p x y && all2 p a b
  | _, _ => true
def same2 {α : Type} (p : α → α → Bool) (a b : List α) : Bool := decide (a.length = b.length) && all2 p a b
theorem all2_loop {α : Type} {p : α → α → Bool} {a b : List α} (hab : a.length = b.length) (hl : a.length ≤ maxLen) {f : Nat → Int → Option Bool}
    (hf : ∀ n (k : Nat), f (n + 1) (k : Int) = if k < a.length then bnd (nthI a (k : Int)) fun x => bnd (nthI b (k : Int)) fun y => if p x y = true then f n (IntKind.i64.wrap ((k : Int) + 1)) else some false else some true) :
    ∀ (m k n : Nat), a.length - k = m → k ≤ a.length → m < n → f n (k : Int) = some (all2 p (a.drop k) (b.drop k)) := by
  intro m
  induction m with
  | zero =>
    intro k n hm hk hn
    obtain ⟨n, rfl⟩ : ∃ n', n = n' + 1 := ⟨n - 1, by omega⟩
    rw [hf, if_neg (by omega), List.drop_eq_nil_of_le (as := a) (by omega)]
    rfl
  | succ m ih =>
    intro k n hm hk hn
    obtain ⟨n, rfl⟩ : ∃ n', n = n' + 1 := ⟨n - 1, by omega⟩
    have h1 : k < a.length := by omega
    have h2 : k < b.length := by omega
    rw [maxLen_eq] at hl
    rw [hf, if_pos h1, nthI_lt h1, nthI_lt h2, bnd_some, bnd_some, wrap_succ (by omega), ih (k + 1) n (by omega) (by omega) (by omega), List.drop_eq_getElem_cons h1, List.drop_eq_getElem_cons h2]
    cases h : p a[k] b[k] <;> simp [all2, h]
theorem all2_loop0 {α : Type} {p : α → α → Bool} {a b : List α} (hab : a.length = b.length) (hl : a.length ≤ maxLen) {f : Nat → Int → Option Bool}
    (hf : ∀ n (k : Nat), f (n + 1) (k : Int) = if k < a.length then bnd (nthI a (k : Int)) fun x => bnd (nthI b (k : Int)) fun y => if p x y = true then f n (IntKind.i64.wrap ((k : Int) + 1)) else some false else some true) :
    f ((((a.length : Int)) - ((0 : Int))).toNat + 1) (0 : Int) = some (all2 p a b) := by
  have := all2_loop hab hl hf _ 0 ((((a.length : Int)) - ((0 : Int))).toNat + 1) rfl (Nat.zero_le _) (by omega)
  simpa using this
theorem all2_refl {α : Type} {p : α → α → Bool} (h : ∀ x, p x x = true) : ∀ (a : List α), all2 p a a = true
  | [] => rfl
  | x :: a => by simp [all2, h x, all2_refl h a]
theorem same2_refl {α : Type} {p : α → α → Bool} (h : ∀ x, p x x = true) (a : List α) : same2 p a a = true := by simp [same2, all2_refl h a]
theorem all2_iff {α : Type} {p : α → α → Bool} (h : ∀ x y, p x y = true ↔ x = y) : ∀ (a b : List α), a.length = b.length → (all2 p a b = true ↔ a = b)
  | [], [], _ => by simp [all2]
  | x :: a, y :: b, hl => by
    have := all2_iff h a b (by simpa using hl)
    simp [all2, h, this]
theorem same2_iff {α : Type} {p : α → α → Bool} (h : ∀ x y, p x y = true ↔ x = y) (a b : List α) : same2 p a b = true ↔ a = b := by
  unfold same2
  by_cases hl : a.length = b.length
  · simp [hl, all2_iff h a b hl]
  · simp [hl]
    rintro rfl
    exact hl rfl
end Go.Proofs.Ytjhnlgelcfplaaa.R

/- Plain laws: names, variables checked. -/
set_option maxRecDepth 100000
set_option linter.unusedVariables false
set_option linter.unusedSimpArgs false
noncomputable section
namespace Go.Proofs.Ytjhnlgelcfplaaa.R
open Go
def big63 : Nat := 9223372036854775807
/-! ### Names -/
def letB (c : Int) : Bool := decide (97 ≤ c) && decide (c ≤ 122)
def digB (c : Int) : Bool := decide (48 ≤ c) && decide (c ≤ 57)
def nameL (l : List Int) : Bool := l.all (fun c => letB c || digB c) && ((match l with | [] => false | c :: _ => letB c) && decide (l.length ≤ 32))
def nameB (s : ByteArray) : Bool := nameL (bytesI s)
def firstB : List Int → Bool
  | [] => true
  | c :: _ => letB c
theorem firstB_get : ∀ (l : List Int) (h : 0 < l.length), firstB l = letB l[0]
  | [], h => by simp at h
  | c :: r, _ => rfl
theorem ref02_loop (s : ByteArray) (hs : s.size ≤ big63) : ∀ (m k n : Nat), (bytesI s).length - k = m → k ≤ (bytesI s).length → m < n → m_ref02_Name_l1 s n (k : Int) = some (((bytesI s).drop k).all (fun c => letB c || digB c)) := by
  intro m
  induction m with
  | zero =>
    intro k n hm hk hn
    obtain ⟨n, rfl⟩ : ∃ n', n = n' + 1 := ⟨n - 1, by omega⟩
    have hk' : ¬ ((k : Int) < (s.size : Int)) := by rw [← bytesI_len]; omega
    rw [m_ref02_Name_l1, m_ref02_Name_l1_B]
    simp only [hk', decide_false, Bool.false_eq_true, if_false]
    rw [List.drop_eq_nil_of_le (by omega)]
    rfl
  | succ m ih =>
    intro k n hm hk hn
    obtain ⟨n, rfl⟩ : ∃ n', n = n' + 1 := ⟨n - 1, by omega⟩
    have hlt : k < (bytesI s).length := by omega
    have hk' : ((k : Int) < (s.size : Int)) := by rw [← bytesI_len]; omega
    have hc : nthS s (k : Int) = some (bytesI s)[k] := by rw [nthS_eq]; exact nthI_lt hlt
    have hw : IntKind.i64.wrap ((k : Int) + 1) = ((k + 1 : Nat) : Int) := wrap_succ (by have := bytesI_len s; unfold big63 at hs; omega)
    have hih : m_ref02_Name_l1 s n ((k : Int) + 1) = _ := ih (k + 1) n (by omega) (by omega) (by omega)
    rw [m_ref02_Name_l1, m_ref02_Name_l1_B, List.drop_eq_getElem_cons hlt, List.all_cons]
    simp only [hk', decide_true, if_true, hc, bnd_some]
    generalize (bytesI s)[k] = c at *
    have k3 : ∀ d e : Bool, m_ref02_Name_k3 (m_ref02_Name_l1 s n) (k : Int) d e = some ((d || e) && ((bytesI s).drop (k + 1)).all (fun c => letB c || digB c)) := by
      intro d e
      cases d <;> cases e <;> simp [m_ref02_Name_k3, m_ref02_Name_k4, hw, hih]
    have k2 : ∀ d : Bool, m_ref02_Name_k2 (m_ref02_Name_l1 s n) s (k : Int) d = some ((d || letB c) && ((bytesI s).drop (k + 1)).all (fun c => letB c || digB c)) := by
      intro d
      unfold m_ref02_Name_k2
      rw [hc, bnd_some]
      by_cases h : 97 ≤ c
      · simp only [h, decide_true, if_true, bnd_some, k3, letB, Bool.true_and]
      · simp only [h, decide_false, Bool.false_eq_true, if_false, k3, letB, Bool.false_and]
    by_cases h : 48 ≤ c
    · simp only [h, decide_true, if_true, k2, digB, Bool.true_and]
      cases decide (c ≤ 57) <;> cases letB c <;> rfl
    · simp only [h, decide_false, Bool.false_eq_true, if_false, k2, digB, Bool.false_and]
      cases letB c <;> rfl
theorem ref02_name {s : ByteArray} (hs : s.size ≤ big63) : m_ref02_Name s = some (nameB s) := by
  have hlen := bytesI_len s
  unfold m_ref02_Name nameB nameL
  by_cases h0 : s.size = 0
  · have : bytesI s = [] := List.eq_nil_of_length_eq_zero (by omega)
    simp [h0, m_ref02_Name_k1, this]
  · have h0' : ¬ ((s.size : Int) = 0) := by omega
    by_cases h1 : 32 < s.size
    · have h1' : (32 : Int) < (s.size : Int) := by omega
      have : ¬ (bytesI s).length ≤ 32 := by omega
      simp [h0', h1', m_ref02_Name_k1, this]
    · have h1' : ¬ ((32 : Int) < (s.size : Int)) := by omega
      have h32 : (bytesI s).length ≤ 32 := by omega
      have hl := ref02_loop s hs _ 0 ((((s.size : Int)) - 0).toNat + 1) rfl (Nat.zero_le _) (by omega)
      have hl : m_ref02_Name_l1 s ((((s.size : Int)) - 0).toNat + 1) 0 = _ := hl
      cases hb : bytesI s with
      | nil => rw [hb] at hlen; simp at hlen; omega
      | cons c r =>
        have hc : nthS s 0 = some c := by rw [nthS_eq, nthI_zero, hb]; rfl
        simp only [h0', h1', decide_false, Bool.false_eq_true, if_false, hc, bnd_some]
        rw [hb] at hl h32
        simp only [List.drop_zero] at hl
        unfold m_ref02_Name_k1
        by_cases h97 : c < 97
        · have : letB c = false := by unfold letB; simp; omega
          simp [h97, this]
        · simp only [h97, decide_false, Bool.false_eq_true, if_false, hl]
          have hd : letB c = (letB c || digB c) := by
            unfold letB digB
            by_cases h5 : c ≤ 57
            · omega
            · simp [h5]
          simp only [h32, decide_true, Bool.and_true, List.all_cons]
          cases hx : letB c with
          | true => simp
          | false =>
            rw [hx] at hd
            simp [← hd]
theorem pack_loop (s : ByteArray) (hs : s.size ≤ big63) : ∀ (m k n : Nat), (bytesI s).length - k = m → k ≤ (bytesI s).length → m < n →
    m_pack_Name_l1 s n (k : Int) = some (((bytesI s).drop k).all (fun c => letB c || digB c) && ((decide (k ≠ 0) || firstB (bytesI s)) && (decide (1 ≤ s.size) && decide (s.size ≤ 32)))) := by
  intro m
  induction m with
  | zero =>
    intro k n hm hk hn
    obtain ⟨n, rfl⟩ : ∃ n', n = n' + 1 := ⟨n - 1, by omega⟩
    have hk' : ¬ ((k : Int) < (((bytesI s).length : Nat) : Int)) := by omega
    rw [m_pack_Name_l1, m_pack_Name_l1_B]
    simp only [hk', decide_false, Bool.false_eq_true, if_false, m_pack_Name_k3]
    rw [List.drop_eq_nil_of_le (by omega)]
    have e1 : decide ((1 : Int) ≤ (s.size : Int)) = decide (1 ≤ s.size) := by congr 1; apply propext; omega
    have e2 : decide ((s.size : Int) ≤ 32) = decide (s.size ≤ 32) := by congr 1; apply propext; omega
    rw [e1, e2]
    by_cases h0 : k = 0
    · subst h0
      have hz : bytesI s = [] := List.eq_nil_of_length_eq_zero (by omega)
      have hz' : s.size = 0 := by rw [← bytesI_len, hz]; rfl
      simp [hz, hz', firstB]
    · simp [h0]
      by_cases h1 : 1 ≤ s.size <;> simp [h1]
  | succ m ih =>
    intro k n hm hk hn
    obtain ⟨n, rfl⟩ : ∃ n', n = n' + 1 := ⟨n - 1, by omega⟩
    have hlt : k < (bytesI s).length := by omega
    have hk' : ((k : Int) < (((bytesI s).length : Nat) : Int)) := by omega
    have hw : IntKind.i64.wrap ((k : Int) + 1) = ((k + 1 : Nat) : Int) := wrap_succ (by have := bytesI_len s; unfold big63 at hs; omega)
    have hih : m_pack_Name_l1 s n ((k : Int) + 1) = _ := ih (k + 1) n (by omega) (by omega) (by omega)
    simp only [ne_eq, Nat.add_eq_zero_iff, Nat.one_ne_zero, and_false, not_false_eq_true, decide_true, Bool.true_or, Bool.true_and] at hih
    have hnth : nthI (bytesI s) (k : Int) = some (bytesI s)[k] := nthI_lt hlt
    rw [m_pack_Name_l1, m_pack_Name_l1_B, List.drop_eq_getElem_cons hlt, List.all_cons]
    simp only [hk', decide_true, if_true, hnth, bnd_some]
    have hfirst : (decide (k ≠ 0) || firstB (bytesI s)) = (decide (k ≠ 0) || letB (bytesI s)[k]) := by
      by_cases h0 : k = 0
      · subst h0
        rw [firstB_get _ hlt]
      · simp [h0]
    rw [hfirst]
    generalize (bytesI s)[k] = c at *
    have k2 : ∀ b : Bool, m_pack_Name_k2 (m_pack_Name_l1 s n) (k : Int) b = some (!b && (((bytesI s).drop (k + 1)).all (fun c => letB c || digB c) && (decide (1 ≤ s.size) && decide (s.size ≤ 32)))) := by
      intro b
      cases b <;> simp [m_pack_Name_k2, hw, hih]
    have hk0 : decide ((k : Int) = 0) = !decide (k ≠ 0) := by
      by_cases h0 : k = 0 <;> simp [h0]
    have k1 : ∀ b : Bool, m_pack_Name_k1 (m_pack_Name_l1 s n) (k : Int) c b = some ((b || (decide (k ≠ 0) && digB c)) && (((bytesI s).drop (k + 1)).all (fun c => letB c || digB c) && (decide (1 ≤ s.size) && decide (s.size ≤ 32)))) := by
      intro b
      unfold m_pack_Name_k1
      rw [hk0]
      simp only [k2]
      cases b
      · by_cases h0 : k = 0
        · simp [h0]
        · by_cases h1 : c < 48
          · have : digB c = false := by unfold digB; simp; omega
            simp [h0, h1, this]
          · have : digB c = !decide (57 < c) := by
              unfold digB
              by_cases h2 : c ≤ 57
              · have : ¬ 57 < c := by omega
                simp [h2, this]; omega
              · have : 57 < c := by omega
                simp [h2, this]
            simp [h0, h1, this]
      · simp
    by_cases h : 97 ≤ c
    · simp only [h, decide_true, if_true, k1]
      have : letB c = decide (c ≤ 122) := by simp [letB, h]
      rw [this]
      cases decide (c ≤ 122) <;> cases digB c <;> cases decide (k ≠ 0) <;> simp
    · simp only [h, decide_false, Bool.false_eq_true, if_false, k1]
      have : letB c = false := by simp [letB, h]
      rw [this]
      cases digB c <;> cases decide (k ≠ 0) <;> simp
theorem pack_name {s : ByteArray} (hs : s.size ≤ big63) : m_pack_Name s = some (nameB s) := by
  have hlen := bytesI_len s
  unfold m_pack_Name nameB nameL
  have hl := pack_loop s hs _ 0 ((((((bytesI s).length : Nat) : Int)) - 0).toNat + 1) rfl (Nat.zero_le _) (by omega)
  have hl : m_pack_Name_l1 s ((((((bytesI s).length : Nat) : Int)) - 0).toNat + 1) 0 = _ := hl
  rw [hl]
  cases hb : bytesI s with
  | nil =>
    have : s.size = 0 := by rw [← hlen, hb]; rfl
    simp [this]
  | cons c r =>
    have h1 : 1 ≤ s.size := by rw [← hlen, hb]; simp
    have h2 : s.size = (c :: r).length := by rw [← hlen, hb]
    have h3 : 1 ≤ (c :: r).length := by simp
    simp only [h1, h3, decide_true, Bool.true_and, h2, List.drop_zero, ne_eq, not_true_eq_false, decide_false, Bool.false_or, firstB]
def yesS : ByteArray := ⟨#[121, 101, 115]⟩
def noS : ByteArray := ⟨#[110, 111]⟩
def varB (s : ByteArray) : Bool := nameB s && (!eqS s yesS && !eqS s noS)
/-! ### The order of texts -/
theorem bl_irr : ∀ x : List UInt8, Op.bytesLess x x = false
  | [] => rfl
  | a :: x => by simp [Op.bytesLess, bl_irr x]
theorem bl_trans : ∀ {x y z : List UInt8}, Op.bytesLess x y = true → Op.bytesLess y z = true → Op.bytesLess x z = true
  | [], [], z, h, h' => by simp [Op.bytesLess] at h
  | [], b :: y, [], h, h' => by simp [Op.bytesLess] at h'
  | [], b :: y, c :: z, h, h' => by simp [Op.bytesLess]
  | a :: x, [], z, h, h' => by simp [Op.bytesLess] at h
  | a :: x, b :: y, [], h, h' => by simp [Op.bytesLess] at h'
  | a :: x, b :: y, c :: z, h, h' => by
    simp only [Op.bytesLess, Bool.or_eq_true, decide_eq_true_eq, Bool.and_eq_true, beq_iff_eq] at h h' ⊢
    rcases h with h | ⟨rfl, h⟩
    · rcases h' with h' | ⟨rfl, h'⟩
      · exact .inl (UInt8.lt_trans h h')
      · exact .inl h
    · rcases h' with h' | ⟨rfl, h'⟩
      · exact .inl h'
      · exact .inr ⟨rfl, bl_trans h h'⟩
theorem bl_tri : ∀ (x y : List UInt8), Op.bytesLess x y = true ∨ x = y ∨ Op.bytesLess y x = true
  | [], [] => .inr (.inl rfl)
  | [], b :: y => .inl rfl
  | a :: x, [] => .inr (.inr rfl)
  | a :: x, b :: y => by
    simp only [Op.bytesLess, Bool.or_eq_true, decide_eq_true_eq, Bool.and_eq_true, beq_iff_eq]
    rcases Nat.lt_trichotomy a.toNat b.toNat with h | h | h
    · exact .inl (.inl (UInt8.lt_iff_toNat_lt.2 h))
    · have : a = b := UInt8.toNat_inj.1 h
      subst this
      rcases bl_tri x y with h | h | h
      · exact .inl (.inr ⟨rfl, h⟩)
      · subst h; exact .inr (.inl rfl)
      · exact .inr (.inr (.inr ⟨rfl, h⟩))
    · exact .inr (.inr (.inl (UInt8.lt_iff_toNat_lt.2 h)))
theorem ltS_irr (a : ByteArray) : ltS a a = false := bl_irr _
theorem ltS_trans {a b c : ByteArray} (h : ltS a b = true) (h' : ltS b c = true) : ltS a c = true := bl_trans h h'
theorem ltS_tri (a b : ByteArray) : ltS a b = true ∨ a = b ∨ ltS b a = true := by
  rcases bl_tri a.toList b.toList with h | h | h
  · exact .inl h
  · exact .inr (.inl (toList_inj h))
  · exact .inr (.inr h)
theorem ltS_asymm {a b : ByteArray} (h : ltS a b = true) : ltS b a = false := by
  cases hb : ltS b a with
  | false => rfl
  | true => have := ltS_trans h hb; rw [ltS_irr] at this; cases this
theorem eqS_self (a : ByteArray) : eqS a a = true := eqS_iff.2 rfl
/-! ### 9.1 -/
structure OkV (v : TVars) : Prop where
  len : v.Names.length ≤ big63
  lenV : v.Vals.length ≤ big63
  names : ∀ s ∈ v.Names, s.size ≤ big63
  vals : ∀ n ∈ v.Vals, inR n
def afterB : Option ByteArray → ByteArray → Bool
  | none, _ => true
  | some q, x => ltS q x
/-- Names that may be, rising, behind one. -/
def namesB : Option ByteArray → List ByteArray → Bool
  | _, [] => true
  | p, x :: r => varB x && (afterB p x && namesB (some x) r)
def vchk (v : TVars) : Int := if v.Names.length ≠ v.Vals.length then 1 else if 64 < v.Names.length then 6 else if namesB none v.Names = true then 0 else 1
def prevO (l : List ByteArray) (k : Nat) : Option ByteArray := if k = 0 then none else l[k - 1]?
theorem prevO_succ {l : List ByteArray} {k : Nat} (h : k < l.length) : prevO l (k + 1) = some l[k] := by
  unfold prevO
  rw [if_neg (by omega), Nat.add_sub_cancel, List.getElem?_eq_getElem h]
theorem ref09_chk_loop {v : TVars} (hv : OkV v) : ∀ (m k n : Nat), v.Names.length - k = m → k ≤ v.Names.length → m < n →
    m_ref09_Check_l1 v n (k : Int) = some (if namesB (prevO v.Names k) (v.Names.drop k) = true then 0 else 1) := by
  intro m
  induction m with
  | zero =>
    intro k n hm hk hn
    obtain ⟨n, rfl⟩ : ∃ n', n = n' + 1 := ⟨n - 1, by omega⟩
    have hk' : ¬ ((k : Int) < (v.Names.length : Int)) := by omega
    rw [m_ref09_Check_l1, m_ref09_Check_l1_B, List.drop_eq_nil_of_le (by omega)]
    simp [hk', namesB]
  | succ m ih =>
    intro k n hm hk hn
    obtain ⟨n, rfl⟩ : ∃ n', n = n' + 1 := ⟨n - 1, by omega⟩
    have hlt : k < v.Names.length := by omega
    have hk' : ((k : Int) < (v.Names.length : Int)) := by omega
    have hw : IntKind.i64.wrap ((k : Int) + 1) = (k : Int) + 1 := wrap_succ' (by omega) (by have := hv.len; unfold big63 at this; omega)
    have hih : m_ref09_Check_l1 v n ((k : Int) + 1) = _ := ih (k + 1) n (by omega) (by omega) (by omega)
    rw [prevO_succ hlt] at hih
    rw [m_ref09_Check_l1, m_ref09_Check_l1_B, List.drop_eq_getElem_cons hlt]
    simp only [hk', decide_true, if_true, nthI_lt hlt, bnd_some, ref02_name (hv.names _ (List.getElem_mem hlt)), namesB]
    have k1 : ∀ b : Bool, m_ref09_Check_k1 (m_ref09_Check_l1 v n) (k : Int) b = some (if (!b && namesB (some v.Names[k]) (v.Names.drop (k + 1))) = true then 0 else 1) := by
      intro b
      unfold m_ref09_Check_k1
      rw [hw, hih]
      cases b <;> simp
    have hp : (if decide ((0 : Int) < (k : Int)) = true then bnd (nthI v.Names (IntKind.i64.wrap ((k : Int) - 1))) fun e_1 => m_ref09_Check_k1 (m_ref09_Check_l1 v n) (k : Int) (!(ltS e_1 v.Names[k])) else m_ref09_Check_k1 (m_ref09_Check_l1 v n) (k : Int) false) = some (if (afterB (prevO v.Names k) v.Names[k] && namesB (some v.Names[k]) (v.Names.drop (k + 1))) = true then 0 else 1) := by
      by_cases h0 : k = 0
      · subst h0
        have hk1 := k1 false
        rw [show (((0 : Nat) : Int)) = 0 from rfl] at hk1 ⊢
        rw [show decide ((0 : Int) < 0) = false from rfl, if_neg (by decide), hk1]
        rfl
      · have e1 : (0 : Int) < (k : Int) := by omega
        have e2 : IntKind.i64.wrap ((k : Int) - 1) = ((k - 1 : Nat) : Int) := by
          rw [wrap_in (by have := hv.len; unfold inR; unfold big63 at this; omega)]
          omega
        have e3 : nthI v.Names ((k - 1 : Nat) : Int) = some v.Names[k - 1] := nthI_lt (by omega)
        have e4 : prevO v.Names k = some v.Names[k - 1] := by
          unfold prevO
          rw [if_neg h0, List.getElem?_eq_getElem (by omega)]
        simp only [e1, decide_true, if_true, e2, e3, bnd_some, k1, e4, Bool.not_not, afterB]
    generalize v.Names[k] = x at *
    unfold varB
    rcases Bool.eq_false_or_eq_true (nameB x) with hb | hb
    · simp only [hb, if_true, Bool.true_and]
      change (if eqS x yesS = true then _ else if eqS x noS = true then _ else _) = _
      rcases Bool.eq_false_or_eq_true (eqS x yesS) with hy | hy
      · simp [hy, k1]
      · simp only [hy, Bool.false_eq_true, if_false, Bool.not_false, Bool.true_and]
        rcases Bool.eq_false_or_eq_true (eqS x noS) with ho | ho
        · simp [ho, k1]
        · simp only [ho, Bool.false_eq_true, if_false, Bool.not_false, Bool.true_and, hp]
    · simp [hb, k1]
theorem vars_chk_loop {v : TVars} (hv : OkV v) : ∀ (m k n : Nat), v.Names.length - k = m → k ≤ v.Names.length → m < n →
    m_vars_Check_l1 v n (k : Int) = some (if namesB (prevO v.Names k) (v.Names.drop k) = true then 0 else 1) := by
  intro m
  induction m with
  | zero =>
    intro k n hm hk hn
    obtain ⟨n, rfl⟩ : ∃ n', n = n' + 1 := ⟨n - 1, by omega⟩
    have hk' : ¬ ((k : Int) < (v.Names.length : Int)) := by omega
    rw [m_vars_Check_l1, m_vars_Check_l1_B, List.drop_eq_nil_of_le (by omega)]
    simp [hk', namesB]
  | succ m ih =>
    intro k n hm hk hn
    obtain ⟨n, rfl⟩ : ∃ n', n = n' + 1 := ⟨n - 1, by omega⟩
    have hlt : k < v.Names.length := by omega
    have hk' : ((k : Int) < (v.Names.length : Int)) := by omega
    have hw : IntKind.i64.wrap ((k : Int) + 1) = (k : Int) + 1 := wrap_succ' (by omega) (by have := hv.len; unfold big63 at this; omega)
    have hih : m_vars_Check_l1 v n ((k : Int) + 1) = _ := ih (k + 1) n (by omega) (by omega) (by omega)
    rw [prevO_succ hlt] at hih
    rw [m_vars_Check_l1, m_vars_Check_l1_B, List.drop_eq_getElem_cons hlt]
    simp only [hk', decide_true, if_true, nthI_lt hlt, bnd_some, pack_name (hv.names _ (List.getElem_mem hlt)), namesB]
    have k2 : ∀ b : Bool, m_vars_Check_k2 (m_vars_Check_l1 v n) (k : Int) b = some (if (!b && namesB (some v.Names[k]) (v.Names.drop (k + 1))) = true then 0 else 1) := by
      intro b
      unfold m_vars_Check_k2
      rw [hw, hih]
      cases b <;> simp
    have k1 : ∀ b : Bool, m_vars_Check_k1 (m_vars_Check_l1 v n) v (k : Int) v.Names[k] b = some (if (!b && (afterB (prevO v.Names k) v.Names[k] && namesB (some v.Names[k]) (v.Names.drop (k + 1)))) = true then 0 else 1) := by
      intro b
      unfold m_vars_Check_k1
      cases b
      · by_cases h0 : k = 0
        · subst h0
          have hk2 := k2 false
          rw [show (((0 : Nat) : Int)) = 0 from rfl] at hk2 ⊢
          rw [show decide ((0 : Int) < 0) = false from rfl, if_neg (by decide), if_neg (by decide), hk2]
          rfl
        · have e1 : (0 : Int) < (k : Int) := by omega
          have e2 : IntKind.i64.wrap ((k : Int) - 1) = ((k - 1 : Nat) : Int) := by
            rw [wrap_in (by have := hv.len; unfold inR; unfold big63 at this; omega)]
            omega
          have e3 : nthI v.Names ((k - 1 : Nat) : Int) = some v.Names[k - 1] := nthI_lt (by omega)
          have e4 : prevO v.Names k = some v.Names[k - 1] := by
            unfold prevO
            rw [if_neg h0, List.getElem?_eq_getElem (by omega)]
          simp only [e1, decide_true, if_true, e2, e3, bnd_some, k2, e4, Bool.not_not, afterB, Bool.false_eq_true, if_false, Bool.not_false, Bool.true_and]
      · rfl
    generalize v.Names[k] = x at *
    unfold varB
    rcases Bool.eq_false_or_eq_true (nameB x) with hb | hb
    · simp only [hb, if_true, Bool.true_and]
      change (if eqS x yesS = true then _ else m_vars_Check_k1 _ v (k : Int) x (eqS x noS)) = _
      rcases Bool.eq_false_or_eq_true (eqS x yesS) with hy | hy
      · simp [hy, k1]
      · simp only [hy, Bool.false_eq_true, if_false, Bool.not_false, Bool.true_and, k1]
    · simp [hb, k1]
theorem ref09_Check {v : TVars} (hv : OkV v) : m_ref09_Check v = some (vchk v) := by
  unfold m_ref09_Check vchk
  have hlp := ref09_chk_loop hv _ 0 ((((v.Names.length : Int)) - 0).toNat + 1) rfl (Nat.zero_le _) (by omega)
  have hlp : m_ref09_Check_l1 v ((((v.Names.length : Int)) - 0).toNat + 1) 0 = some (if namesB none v.Names = true then 0 else 1) := hlp
  by_cases h1 : v.Names.length = v.Vals.length
  · have h1' : decide ((v.Names.length : Int) ≠ (v.Vals.length : Int)) = false := by simp; omega
    rw [h1', hlp]
    simp only [Bool.false_eq_true, if_false, h1, ne_eq, not_true_eq_false]
    rw [← h1]
    by_cases h2 : 64 < v.Names.length
    · have h2' : decide ((64 : Int) < (v.Names.length : Int)) = true := by simp; omega
      rw [h2']
      simp [h2]
    · have h2' : decide ((64 : Int) < (v.Names.length : Int)) = false := by simp; omega
      rw [h2']
      simp [h2]
  · have h1' : decide ((v.Names.length : Int) ≠ (v.Vals.length : Int)) = true := by simp; omega
    rw [h1']
    simp [h1]
theorem vars_Check {v : TVars} (hv : OkV v) : m_vars_Check v = some (vchk v) := by
  unfold m_vars_Check vchk
  have hlp := vars_chk_loop hv _ 0 ((((v.Names.length : Int)) - 0).toNat + 1) rfl (Nat.zero_le _) (by omega)
  have hlp : m_vars_Check_l1 v ((((v.Names.length : Int)) - 0).toNat + 1) 0 = some (if namesB none v.Names = true then 0 else 1) := hlp
  by_cases h1 : v.Names.length = v.Vals.length
  · have h1' : decide ((v.Names.length : Int) ≠ (v.Vals.length : Int)) = false := by simp; omega
    rw [h1', hlp]
    simp only [Bool.false_eq_true, if_false, h1, ne_eq, not_true_eq_false]
    rw [← h1]
    by_cases h2 : 64 < v.Names.length
    · have h2' : decide ((64 : Int) < (v.Names.length : Int)) = true := by simp; omega
      rw [h2']
      simp [h2]
    · have h2' : decide ((64 : Int) < (v.Names.length : Int)) = false := by simp; omega
      rw [h2']
      simp [h2]
  · have h1' : decide ((v.Names.length : Int) ≠ (v.Vals.length : Int)) = true := by simp; omega
    rw [h1']
    simp [h1]
end Go.Proofs.Ytjhnlgelcfplaaa.R

/- Plain laws: variables compared, light ones. -/
set_option maxRecDepth 100000
set_option linter.unusedVariables false
set_option linter.unusedSimpArgs false
noncomputable section
namespace Go.Proofs.Ytjhnlgelcfplaaa.R
open Go
def eqI (x y : Int) : Bool := decide (x = y)
theorem eqI_iff (x y : Int) : eqI x y = true ↔ x = y := by simp [eqI]
theorem big_max {n : Nat} (h : n ≤ big63) : n ≤ maxLen := by rw [maxLen_eq]; exact h
theorem texts_eq {a b : List ByteArray} (hl : a.length ≤ maxLen) : m_ref08_Texts a b = some (same2 eqS a b) := by
  unfold m_ref08_Texts same2
  by_cases h : a.length = b.length
  · have h1 : ¬ ((a.length : Int) ≠ (b.length : Int)) := by omega
    rw [decide_eq_false h1, if_neg (by simp), all2_loop0 (f := m_ref08_Texts_l1 a b) (p := eqS) h hl, decide_eq_true h, Bool.true_and]
    intro n k
    rw [m_ref08_Texts_l1, m_ref08_Texts_l1_B]
    simp only [decide_eq_true_eq, Int.ofNat_lt]
  · have h1 : ((a.length : Int) ≠ (b.length : Int)) := by omega
    simp [h1, h]
def sameV (a b : TVars) : Bool := same2 eqS a.Names b.Names && same2 eqI a.Vals b.Vals
theorem sameV_iff (a b : TVars) : sameV a b = true ↔ a = b := by
  unfold sameV
  rw [Bool.and_eq_true, same2_iff (fun x y => eqS_iff), same2_iff eqI_iff]
  cases a; cases b
  simp
theorem ref09_Same {a b : TVars} (ha : OkV a) : m_ref09_Same a b = some (sameV a b) := by
  unfold m_ref09_Same sameV m_ref09_Same_k1
  rw [texts_eq (big_max ha.len)]
  simp only [bnd_some]
  cases same2 eqS a.Names b.Names with
  | false => simp
  | true =>
    simp only [if_true, Bool.true_and]
    unfold same2
    by_cases h : a.Vals.length = b.Vals.length
    · have h1 : ¬ ((a.Vals.length : Int) ≠ (b.Vals.length : Int)) := by omega
      rw [decide_eq_false h1, if_neg (by simp), all2_loop0 (f := m_ref09_Same_l1 a b) (p := eqI) h (big_max ha.lenV), decide_eq_true h, Bool.true_and]
      intro n k
      rw [m_ref09_Same_l1, m_ref09_Same_l1_B]
      simp only [decide_eq_true_eq, Int.ofNat_lt]
      congr 1
      congr 1; funext x; congr 1; funext y
      by_cases ht : x = y <;> simp [ht, eqI]
    · have h1 : ((a.Vals.length : Int) ≠ (b.Vals.length : Int)) := by omega
      simp [h1, h]
/-- Variables that are not more than is waited for. -/
structure Light (v : TVars) : Prop where
  n : v.Names.length ≤ 200
  vl : v.Vals.length ≤ 200
  s : ∀ x ∈ v.Names, x.size ≤ 60
theorem light_loop {v : TVars} (hv : OkV v) : ∀ (m k n : Nat), v.Names.length - k = m → k ≤ v.Names.length → m < n → m_law09_light_l1 v n (k : Int) = some ((v.Names.drop k).all fun x => decide (x.size ≤ 60)) := by
  intro m
  induction m with
  | zero =>
    intro k n hm hk hn
    obtain ⟨n, rfl⟩ : ∃ n', n = n' + 1 := ⟨n - 1, by omega⟩
    have hk' : ¬ ((k : Int) < (v.Names.length : Int)) := by omega
    rw [m_law09_light_l1, m_law09_light_l1_B, decide_eq_false hk', if_neg (by simp), List.drop_eq_nil_of_le (by omega)]
    rfl
  | succ m ih =>
    intro k n hm hk hn
    obtain ⟨n, rfl⟩ : ∃ n', n = n' + 1 := ⟨n - 1, by omega⟩
    have hlt : k < v.Names.length := by omega
    have hk' : ((k : Int) < (v.Names.length : Int)) := by omega
    have hw : IntKind.i64.wrap ((k : Int) + 1) = ((k + 1 : Nat) : Int) := wrap_succ (by have := hv.len; unfold big63 at this; omega)
    rw [m_law09_light_l1, m_law09_light_l1_B, decide_eq_true hk', if_pos rfl, nthI_lt hlt, bnd_some, hw, ih (k + 1) n (by omega) (by omega) (by omega), List.drop_eq_getElem_cons hlt, List.all_cons]
    by_cases h : 60 < v.Names[k].size
    · have h1 : ((60 : Int) < (v.Names[k].size : Int)) := by omega
      have h2 : ¬ v.Names[k].size ≤ 60 := by omega
      simp [h1, h2]
    · have h1 : ¬ ((60 : Int) < (v.Names[k].size : Int)) := by omega
      have h2 : v.Names[k].size ≤ 60 := by omega
      simp [h1, h2]
theorem light_ok {v : TVars} (hv : OkV v) : ∃ b, m_law09_light v = some b ∧ (b = true → Light v) := by
  unfold m_law09_light m_law09_light_k1
  have hl : m_law09_light_l1 v ((((v.Names.length : Int)) - ((0 : Int))).toNat + 1) (0 : Int) = some ((v.Names.drop 0).all fun x => decide (x.size ≤ 60)) := light_loop hv _ 0 ((((v.Names.length : Int)) - ((0 : Int))).toNat + 1) rfl (Nat.zero_le _) (by omega)
  rw [hl]
  by_cases h1 : (200 : Int) < (v.Names.length : Int)
  · exact ⟨false, by simp [h1], by simp⟩
  · by_cases h2 : (200 : Int) < (v.Vals.length : Int)
    · exact ⟨false, by simp [h1, h2], by simp⟩
    · refine ⟨_, by simp only [h1, h2, decide_false, Bool.false_eq_true, if_false]; rfl, fun h => ⟨by omega, by omega, fun x hx => ?_⟩⟩
      have := List.all_eq_true.1 h x (by simpa using hx)
      simpa using this
end Go.Proofs.Ytjhnlgelcfplaaa.R

/- Plain laws: what a variable has. -/
set_option maxRecDepth 100000
set_option linter.unusedVariables false
set_option linter.unusedSimpArgs false
noncomputable section
namespace Go.Proofs.Ytjhnlgelcfplaaa.R
open Go
theorem namesB_pw : ∀ {l : List ByteArray} {p : Option ByteArray}, namesB p l = true → (∀ q, p = some q → ∀ x ∈ l, ltS q x = true) ∧ l.Pairwise (fun a b => ltS a b = true) ∧ ∀ x ∈ l, varB x = true
  | [], p, h => ⟨by simp, List.Pairwise.nil, by simp⟩
  | x :: r, p, h => by
    simp only [namesB, Bool.and_eq_true] at h
    obtain ⟨h0, h1, h2⟩ := h
    obtain ⟨g1, g2, g3⟩ := namesB_pw h2
    refine ⟨fun q hq y hy => ?_, List.Pairwise.cons (fun y hy => g1 x rfl y hy) g2, fun y hy => ?_⟩
    · subst hq
      have hx : ltS q x = true := h1
      rcases List.mem_cons.1 hy with rfl | hy
      · exact hx
      · exact ltS_trans hx (g1 x rfl y hy)
    · rcases List.mem_cons.1 hy with rfl | hy
      · exact h0
      · exact g3 y hy
theorem vchk_zero {v : TVars} (h : vchk v = 0) : v.Names.length = v.Vals.length ∧ v.Names.length ≤ 64 ∧ namesB none v.Names = true := by
  unfold vchk at h
  split at h
  · cases h
  · split at h
    · cases h
    · split at h
      · rename_i h1 h2 h3
        exact ⟨by simpa using h1, by omega, h3⟩
      · cases h
/-! ### 9.2 -/
def getV : List ByteArray → List Int → ByteArray → Option Int
  | [], _, _ => none
  | x :: r, vs, name => if x = name then vs.head? else getV r vs.tail name
def getR : Option Int → Int × Bool
  | some n => (n, true)
  | none => (0, false)
theorem ref09_get_loop {v : TVars} {name : ByteArray} (hl : v.Names.length = v.Vals.length) (hb : v.Names.length ≤ big63) : ∀ (m k n : Nat), v.Names.length - k = m → k ≤ v.Names.length → m < n →
    m_ref09_Get_l1 v name n (k : Int) = some (getR (getV (v.Names.drop k) (v.Vals.drop k) name)) := by
  intro m
  induction m with
  | zero =>
    intro k n hm hk hn
    obtain ⟨n, rfl⟩ : ∃ n', n = n' + 1 := ⟨n - 1, by omega⟩
    have hk' : ¬ ((k : Int) < (v.Names.length : Int)) := by omega
    rw [m_ref09_Get_l1, m_ref09_Get_l1_B, List.drop_eq_nil_of_le (by omega)]
    simp [hk', getV, getR]
  | succ m ih =>
    intro k n hm hk hn
    obtain ⟨n, rfl⟩ : ∃ n', n = n' + 1 := ⟨n - 1, by omega⟩
    have hlt : k < v.Names.length := by omega
    have hltv : k < v.Vals.length := by omega
    have hk' : ((k : Int) < (v.Names.length : Int)) := by omega
    have hw : IntKind.i64.wrap ((k : Int) + 1) = (k : Int) + 1 := wrap_succ' (by omega) (by unfold big63 at hb; omega)
    have hih : m_ref09_Get_l1 v name n ((k : Int) + 1) = _ := ih (k + 1) n (by omega) (by omega) (by omega)
    rw [m_ref09_Get_l1, m_ref09_Get_l1_B, List.drop_eq_getElem_cons hlt, List.drop_eq_getElem_cons hltv]
    simp only [hk', decide_true, if_true, nthI_lt hlt, nthI_lt hltv, bnd_some, hw, hih, getV, List.head?_cons, List.tail_cons, eqS_dec, decide_eq_true_eq]
    by_cases h : v.Names[k] = name <;> simp [h, getR]
theorem ref09_Get {v : TVars} {name : ByteArray} (hl : v.Names.length = v.Vals.length) (hb : v.Names.length ≤ big63) : m_ref09_Get v name = some (getR (getV v.Names v.Vals name)) := by
  have := ref09_get_loop (name := name) hl hb _ 0 ((((v.Names.length : Int)) - 0).toNat + 1) rfl (Nat.zero_le _) (by omega)
  exact this
theorem cmp_Less (x y : ByteArray) : m_cmp_Less_string x y = some (ltS x y) := by
  simp [m_cmp_Less_string, m_cmp_isNaN_string, eqS_self, bnd_some]
theorem bs_loop {l : List ByteArray} {t : ByteArray} (hs : l.Pairwise (fun a b => ltS a b = true)) (hb : l.length ≤ 4611686018427387904) : ∀ (m i j n : Nat), j - i = m → i ≤ j → j ≤ l.length → m < n →
    (∀ q (h : q < l.length), q < i → ltS l[q] t = true) → (∀ q (h : q < l.length), j ≤ q → ltS l[q] t = false) →
    ∃ (p : Nat) (b : Bool), m_slices_BinarySearch_string_string_l1 l t n (i : Int) (j : Int) = some ((p : Int), b) ∧ (b = true → l[p]? = some t) ∧ (b = false → t ∉ l) := by
  intro m
  induction m using Nat.strongRecOn with
  | _ m ih =>
    intro i j n hm hij hj hn h1 h2
    obtain ⟨n, rfl⟩ : ∃ n', n = n' + 1 := ⟨n - 1, by omega⟩
    rw [m_slices_BinarySearch_string_string_l1, m_slices_BinarySearch_string_string_l1_B]
    by_cases hlt : i < j
    · have hlt' : (i : Int) < (j : Int) := by omega
      have hw : IntKind.i64.wrap (shrI .u64 (IntKind.u64.wrap (IntKind.i64.wrap ((i : Int) + (j : Int)))) 1) = (((i + j) / 2 : Nat) : Int) := by
        have e1 : IntKind.i64.wrap ((i : Int) + (j : Int)) = ((i + j : Nat) : Int) := by
          rw [wrap_in (by unfold inR; omega)]
          omega
        have e2 : IntKind.u64.wrap ((i + j : Nat) : Int) = ((i + j : Nat) : Int) := u64_in (by omega) (by omega)
        have e3 : shrI .u64 ((i + j : Nat) : Int) 1 = (((i + j) / 2 : Nat) : Int) := by
          unfold shrI
          rw [show (2 : Int) ^ (min (1 : Int).toNat (IntKind.bits .u64)) = 2 from rfl, Int.fdiv_eq_ediv_of_nonneg _ (by decide)]
          omega
        rw [e1, e2, e3]
        exact wrap_in (by unfold inR; omega)
      have hmid : (i + j) / 2 < l.length := by omega
      have hw2 : IntKind.i64.wrap ((((i + j) / 2 : Nat) : Int) + 1) = (((i + j) / 2 + 1 : Nat) : Int) := wrap_succ (by omega)
      simp only [hlt', decide_true, if_true, hw, nthI_lt hmid, bnd_some, cmp_Less, hw2]
      by_cases hc : ltS l[(i + j) / 2] t = true
      · simp only [hc, if_true]
        refine ih (j - ((i + j) / 2 + 1)) (by omega) _ j n rfl (by omega) hj (by omega) ?_ h2
        intro q hq hqi
        by_cases he : q = (i + j) / 2
        · subst he; exact hc
        · exact ltS_trans (List.pairwise_iff_getElem.1 hs q ((i + j) / 2) hq hmid (by omega)) hc
      · have hc' : ltS l[(i + j) / 2] t = false := by simpa using hc
        simp only [hc', Bool.false_eq_true, if_false]
        refine ih ((i + j) / 2 - i) (by omega) i _ n rfl (by omega) (by omega) (by omega) h1 ?_
        intro q hq hqj
        by_cases he : q = (i + j) / 2
        · subst he; exact hc'
        · cases hx : ltS l[q] t with
          | false => rfl
          | true =>
            have := ltS_trans (List.pairwise_iff_getElem.1 hs ((i + j) / 2) q hmid hq (by omega)) hx
            rw [hc'] at this
            cases this
    · have hlt' : ¬ (i : Int) < (j : Int) := by omega
      have hij : i = j := by omega
      subst hij
      simp only [hlt', decide_false, Bool.false_eq_true, if_false, m_slices_BinarySearch_string_string_k1]
      have nomem : (∀ h : i < l.length, l[i] ≠ t) → t ∉ l := by
        intro hne hmem
        obtain ⟨q, hq, hqe⟩ := List.mem_iff_getElem.1 hmem
        rcases Nat.lt_trichotomy q i with h | h | h
        · have := h1 q hq h
          rw [hqe, ltS_irr] at this
          cases this
        · subst h; exact hne hq hqe
        · have hil : i < l.length := by omega
          have a := List.pairwise_iff_getElem.1 hs i q hil hq h
          rw [hqe] at a
          have b := h2 i hil (Nat.le_refl _)
          rw [a] at b
          cases b
      by_cases hil : i < l.length
      · have hil' : (i : Int) < (l.length : Int) := by omega
        simp only [hil', decide_true, if_true, nthI_lt hil, bnd_some, m_slices_isNaN_string, eqS_self, Bool.not_true, Bool.false_eq_true, if_false]
        by_cases he : l[i] = t
        · refine ⟨i, true, by simp [he, eqS_self], fun _ => by rw [List.getElem?_eq_getElem hil, he], by simp⟩
        · have : eqS l[i] t = false := by rw [eqS_dec]; simpa using he
          exact ⟨i, false, by simp [this], by simp, fun _ => nomem fun _ => he⟩
      · have hil' : ¬ (i : Int) < (l.length : Int) := by omega
        exact ⟨i, false, by simp [hil'], by simp, fun _ => nomem fun h => absurd h hil⟩
theorem getV_none : ∀ {l : List ByteArray} {vs : List Int} {name : ByteArray}, name ∉ l → getV l vs name = none
  | [], _, _, _ => rfl
  | x :: r, vs, name, h => by
    simp only [List.mem_cons, not_or] at h
    rw [getV, if_neg (fun e => h.1 e.symm)]
    exact getV_none h.2
theorem getV_at : ∀ {l : List ByteArray} {vs : List Int} {name : ByteArray} {p : Nat}, l.Pairwise (fun a b => ltS a b = true) → l[p]? = some name → getV l vs name = vs[p]?
  | [], vs, name, p, _, h => by simp at h
  | x :: r, vs, name, 0, hs, h => by
    simp at h
    subst h
    rw [getV, if_pos rfl]
    cases vs <;> rfl
  | x :: r, vs, name, p + 1, hs, h => by
    simp only [List.getElem?_cons_succ] at h
    have hx : ltS x name = true := (List.pairwise_cons.1 hs).1 name (List.mem_of_getElem? h)
    have hne : x ≠ name := by
      rintro rfl
      rw [ltS_irr] at hx
      cases hx
    rw [getV, if_neg hne, getV_at (List.pairwise_cons.1 hs).2 h]
    cases vs with
    | nil => rfl
    | cons a vs => rfl
theorem vars_Get {v : TVars} {name : ByteArray} (h : vchk v = 0) : m_vars_Get v name = some (getR (getV v.Names v.Vals name)) := by
  obtain ⟨h1, h2, h3⟩ := vchk_zero h
  obtain ⟨_, hs, _⟩ := namesB_pw h3
  obtain ⟨p, b, e, g1, g2⟩ := bs_loop (t := name) hs (by omega) v.Names.length 0 v.Names.length 1000000 (by omega) (by omega) (Nat.le_refl _) (by omega) (fun q _ h => by omega) (fun q h h' => by omega)
  have e : m_slices_BinarySearch_string_string v.Names name = some ((p : Int), b) := e
  unfold m_vars_Get
  rw [e, bnd_some]
  cases b with
  | false => simp [m_vars_Get_k1, getV_none (g2 rfl), getR]
  | true =>
    have hp := g1 rfl
    have hlt : p < v.Names.length := by
      rcases Nat.lt_or_ge p v.Names.length with h | h
      · exact h
      · rw [List.getElem?_eq_none h] at hp; cases hp
    have hltv : p < v.Vals.length := by omega
    have h4 : ¬ ((v.Vals.length : Int) ≤ (p : Int)) := by omega
    rw [getV_at hs hp, List.getElem?_eq_getElem hltv]
    simp [m_vars_Get_k1, h4, nthI_lt hltv, bnd_some, getR]
end Go.Proofs.Ytjhnlgelcfplaaa.R

/- Plain laws: variables put together. -/
set_option maxRecDepth 100000
set_option linter.unusedVariables false
set_option linter.unusedSimpArgs false
noncomputable section
namespace Go.Proofs.Ytjhnlgelcfplaaa.R
open Go
/-! ### One more variable -/
def putL (name : ByteArray) (n : Int) : Bool → List ByteArray → List Int → List ByteArray × List Int
  | true, [], _ => ([], [])
  | false, [], _ => ([name], [n])
  | d, x :: r, vs =>
    let p := putL name n (d || !ltS x name) r vs.tail
    let q := if x = name then p else (x :: p.1, vs.headD 0 :: p.2)
    if (!d && !ltS x name) = true then (name :: q.1, n :: q.2) else q
theorem put_loop {v : TVars} {name : ByteArray} {n0 : Int} (hl : v.Names.length = v.Vals.length) (hb : v.Names.length ≤ 1000) : ∀ (m k n : Nat) (d : Bool) (o0 : List ByteArray) (o1 : List Int), v.Names.length - k = m → k ≤ v.Names.length → m < n → o0.length ≤ 2 * k → o1.length ≤ 2 * k →
    m_ref09_put_l1 v name n0 n d (k : Int) o0 o1 = some ⟨o0 ++ (putL name n0 d (v.Names.drop k) (v.Vals.drop k)).1, o1 ++ (putL name n0 d (v.Names.drop k) (v.Vals.drop k)).2⟩ := by
  intro m
  induction m with
  | zero =>
    intro k n d o0 o1 hm hk hn h0 h1
    obtain ⟨n, rfl⟩ : ∃ n', n = n' + 1 := ⟨n - 1, by omega⟩
    have hk' : ¬ ((k : Int) < (v.Names.length : Int)) := by omega
    have c0 : capB (o0.length + 1) = true := capB_small (by omega)
    have c1 : capB (o1.length + 1) = true := capB_small (by omega)
    rw [m_ref09_put_l1, m_ref09_put_l1_B, List.drop_eq_nil_of_le (by omega)]
    cases d <;> simp [hk', m_ref09_put_k4, putL, c0, c1]
  | succ m ih =>
    intro k n d o0 o1 hm hk hn h0 h1
    obtain ⟨n, rfl⟩ : ∃ n', n = n' + 1 := ⟨n - 1, by omega⟩
    have hlt : k < v.Names.length := by omega
    have hltv : k < v.Vals.length := by omega
    have hk' : ((k : Int) < (v.Names.length : Int)) := by omega
    have hw : IntKind.i64.wrap ((k : Int) + 1) = ((k + 1 : Nat) : Int) := wrap_succ (by omega)
    have hih := fun d o0 o1 a b => ih (k + 1) n d o0 o1 (by omega) (by omega) (by omega) a b
    have k2 : ∀ (d : Bool) (p0 : List ByteArray) (p1 : List Int), p0.length ≤ 2 * k + 1 → p1.length ≤ 2 * k + 1 →
        m_ref09_put_k2 (m_ref09_put_l1 v name n0 n) v name (k : Int) d p0 p1 = some (if v.Names[k] = name then
          ⟨p0 ++ (putL name n0 d (v.Names.drop (k + 1)) (v.Vals.drop (k + 1))).1, p1 ++ (putL name n0 d (v.Names.drop (k + 1)) (v.Vals.drop (k + 1))).2⟩
          else ⟨p0 ++ v.Names[k] :: (putL name n0 d (v.Names.drop (k + 1)) (v.Vals.drop (k + 1))).1, p1 ++ v.Vals[k] :: (putL name n0 d (v.Names.drop (k + 1)) (v.Vals.drop (k + 1))).2⟩) := by
      intro d p0 p1 g0 g1
      have c0 : capB (p0.length + 1) = true := capB_small (by omega)
      have c1 : capB (p1.length + 1) = true := capB_small (by omega)
      unfold m_ref09_put_k2 m_ref09_put_k3
      simp only [nthI_lt hlt, nthI_lt hltv, bnd_some, eqS_dec, decide_eq_true_eq, c0, c1, if_true, hw]
      by_cases he : v.Names[k] = name
      · rw [if_pos he, if_pos he, hih d p0 p1 (by omega) (by omega)]
      · rw [if_neg he, if_neg he, hih d (p0 ++ [v.Names[k]]) (p1 ++ [v.Vals[k]]) (by simp; omega) (by simp; omega)]
        simp
    have c0 : capB (o0.length + 1) = true := capB_small (by omega)
    have c1 : capB (o1.length + 1) = true := capB_small (by omega)
    rw [m_ref09_put_l1, m_ref09_put_l1_B, List.drop_eq_getElem_cons hlt, List.drop_eq_getElem_cons hltv]
    simp only [hk', decide_true, if_true, nthI_lt hlt, bnd_some, m_ref09_put_k1, c0, c1]
    cases d
    · cases hle : ltS v.Names[k] name
      · simp only [Bool.false_eq_true, if_false, Bool.not_false, if_true, putL, hle, Bool.or_true, Bool.and_true, List.tail_cons, List.headD_cons]
        rw [k2 true (o0 ++ [name]) (o1 ++ [n0]) (by simp; omega) (by simp; omega)]
        by_cases he : v.Names[k] = name <;> simp [he]
      · simp only [Bool.false_eq_true, if_false, Bool.not_true, putL, hle, Bool.or_false, Bool.and_false, List.tail_cons, List.headD_cons]
        rw [k2 false o0 o1 (by omega) (by omega)]
        by_cases he : v.Names[k] = name <;> simp [he]
    · simp only [if_true, Bool.false_eq_true, if_false, putL, Bool.true_or, Bool.not_true, Bool.false_and, List.tail_cons, List.headD_cons]
      rw [k2 true o0 o1 (by omega) (by omega)]
      by_cases he : v.Names[k] = name <;> simp [he]
theorem put_eq {v : TVars} {name : ByteArray} {n0 : Int} (hl : v.Names.length = v.Vals.length) (hb : v.Names.length ≤ 1000) : m_ref09_put v name n0 = some ⟨(putL name n0 false v.Names v.Vals).1, (putL name n0 false v.Names v.Vals).2⟩ := by
  have := put_loop (n0 := n0) (name := name) hl hb _ 0 ((((v.Names.length : Int)) - 0).toNat + 1) false [] [] rfl (Nat.zero_le _) (by omega) (by simp) (by simp)
  exact this
/-- Behind its place all stays. -/
theorem putL_done {name : ByteArray} {n : Int} : ∀ {l : List ByteArray} {vs : List Int}, l.length = vs.length → (∀ x ∈ l, x ≠ name) → putL name n true l vs = (l, vs)
  | [], [], _, _ => rfl
  | x :: r, y :: vs, hl, h => by
    have ih := putL_done (name := name) (n := n) (l := r) (vs := vs) (by simpa using hl) fun z hz => h z (by simp [hz])
    have hx : ¬ x = name := h x (by simp)
    simp [putL, ih, hx]
structure PutOk (name : ByteArray) (n : Int) (p : Option ByteArray) (l : List ByteArray) (vs : List Int) (o : List ByteArray × List Int) : Prop where
  len : o.1.length = o.2.length
  most : o.1.length ≤ l.length + 1
  names : namesB p o.1 = true
  get : ∀ s, getV o.1 o.2 s = if s = name then some n else getV l vs s
  vals : ∀ w ∈ o.2, w = n ∨ w ∈ vs
theorem namesB_ne {q : ByteArray} {l : List ByteArray} (h : namesB (some q) l = true) : ∀ x ∈ l, x ≠ q := by
  obtain ⟨h1, _, _⟩ := namesB_pw h
  rintro x hx rfl
  have := h1 x rfl x hx
  rw [ltS_irr] at this
  cases this
theorem putL_ok {name : ByteArray} {n : Int} (hn : varB name = true) : ∀ {l : List ByteArray} {vs : List Int} {p : Option ByteArray}, l.length = vs.length → namesB p l = true → afterB p name = true → PutOk name n p l vs (putL name n false l vs)
  | [], [], p, hl, h, ha => by
    refine ⟨rfl, by simp [putL], ?_, fun s => ?_, by simp [putL]⟩
    · simp [putL, namesB, hn, ha]
    · simp only [putL, getV]
      by_cases hs : s = name
      · simp [hs]
      · have : ¬ name = s := fun e => hs e.symm
        simp [hs, this]
  | x :: r, y :: vs, p, hl, h, ha => by
    simp only [namesB, Bool.and_eq_true] at h
    obtain ⟨h0, h1, h2⟩ := h
    have hl' : r.length = vs.length := by simpa using hl
    rcases ltS_tri x name with hlt | heq | hgt
    · have ih := putL_ok (n := n) hn (p := some x) hl' h2 hlt
      have hne : ¬ x = name := by rintro rfl; rw [ltS_irr] at hlt; cases hlt
      have e : putL name n false (x :: r) (y :: vs) = (x :: (putL name n false r vs).1, y :: (putL name n false r vs).2) := by simp [putL, hlt, hne]
      rw [e]
      refine ⟨by simpa using ih.len, by simpa using ih.most, ?_, fun s => ?_, fun w hw => ?_⟩
      · simp only [namesB, Bool.and_eq_true]
        exact ⟨h0, h1, ih.names⟩
      · simp only [getV, List.head?_cons, List.tail_cons, ih.get s]
        by_cases hs : x = s
        · have : ¬ s = name := by rw [← hs]; exact hne
          simp [hs, this]
        · simp [hs]
      · rcases List.mem_cons.1 hw with rfl | hw
        · simp
        · rcases ih.vals w hw with h | h <;> simp [h]
    · subst heq
      have hd := putL_done (name := x) (n := n) hl' (namesB_ne h2)
      have e : putL x n false (x :: r) (y :: vs) = (x :: r, n :: vs) := by simp [putL, ltS_irr, hd]
      rw [e]
      refine ⟨by simpa using hl', by simp, ?_, fun s => ?_, fun w hw => ?_⟩
      · simp only [namesB, Bool.and_eq_true]
        exact ⟨h0, ha, h2⟩
      · simp only [getV, List.head?_cons, List.tail_cons]
        by_cases hs : x = s
        · simp [hs]
        · have : ¬ s = x := fun e => hs e.symm
          simp [hs, this]
      · rcases List.mem_cons.1 hw with rfl | hw
        · simp
        · simp [hw]
    · have hne : ¬ x = name := by rintro rfl; rw [ltS_irr] at hgt; cases hgt
      have hall : ∀ z ∈ r, z ≠ name := by
        obtain ⟨g1, _, _⟩ := namesB_pw h2
        rintro z hz rfl
        have := ltS_trans hgt (g1 x rfl z hz)
        rw [ltS_irr] at this
        cases this
      have hd := putL_done (name := name) (n := n) hl' hall
      have e : putL name n false (x :: r) (y :: vs) = (name :: x :: r, n :: y :: vs) := by simp [putL, ltS_asymm hgt, hd, hne]
      rw [e]
      refine ⟨by simpa using hl', by simp, ?_, fun s => ?_, fun w hw => ?_⟩
      · simp only [namesB, Bool.and_eq_true]
        exact ⟨hn, ha, h0, hgt, h2⟩
      · rw [getV]
        by_cases hs : s = name
        · simp [hs]
        · have : ¬ name = s := fun e => hs e.symm
          simp [hs, this]
      · simpa using hw
/-- What is put behind all. -/
theorem putL_end {name : ByteArray} {n : Int} : ∀ {l : List ByteArray} {vs : List Int}, l.length = vs.length → (∀ x ∈ l, ltS x name = true) → putL name n false l vs = (l ++ [name], vs ++ [n])
  | [], [], _, _ => rfl
  | x :: r, y :: vs, hl, h => by
    have ih := putL_end (name := name) (n := n) (l := r) (vs := vs) (by simpa using hl) fun z hz => h z (by simp [hz])
    have hlt := h x (by simp)
    have hne : ¬ x = name := by rintro rfl; rw [ltS_irr] at hlt; cases hlt
    simp [putL, hlt, hne, ih]
/-! ### Two put together -/
theorem of_inner {rc : Int → List ByteArray → List Int → Option (TVars × Int)} {l : List TVars} {i : Int} {v : TVars} (hi : nthI l i = some v) (hl : v.Names.length = v.Vals.length) (hb : v.Names.length ≤ 64) (hp : v.Names.Pairwise (fun a b => ltS a b = true)) :
    ∀ (m k n : Nat), v.Names.length - k = m → k ≤ v.Names.length → m < n → m_ref09_Of_l2 rc l i n (k : Int) (v.Names.take k) (v.Vals.take k) = m_ref09_Of_k1 rc i v.Names v.Vals := by
  intro m
  induction m with
  | zero =>
    intro k n hm hk hn
    obtain ⟨n, rfl⟩ : ∃ n', n = n' + 1 := ⟨n - 1, by omega⟩
    have hk' : ¬ ((k : Int) < (v.Names.length : Int)) := by omega
    rw [m_ref09_Of_l2, m_ref09_Of_l2_B, List.take_of_length_le (by omega), List.take_of_length_le (by omega)]
    simp only [hi, bnd_some, hk', decide_false, Bool.false_eq_true, if_false]
  | succ m ih =>
    intro k n hm hk hn
    obtain ⟨n, rfl⟩ : ∃ n', n = n' + 1 := ⟨n - 1, by omega⟩
    have hlt : k < v.Names.length := by omega
    have hltv : k < v.Vals.length := by omega
    have hk' : ((k : Int) < (v.Names.length : Int)) := by omega
    have hw : IntKind.i64.wrap ((k : Int) + 1) = ((k + 1 : Nat) : Int) := wrap_succ (by omega)
    have hput := put_eq (v := ⟨v.Names.take k, v.Vals.take k⟩) (name := v.Names[k]) (n0 := v.Vals[k]) (by simp; omega) (by simp; omega)
    have hall : ∀ x ∈ v.Names.take k, ltS x v.Names[k] = true := by
      intro x hx
      obtain ⟨j, hj, rfl⟩ := List.mem_iff_getElem.1 hx
      have hjk : j < k := by simp at hj; omega
      rw [List.getElem_take]
      exact List.pairwise_iff_getElem.1 hp j k (by omega) hlt hjk
    rw [putL_end (by simp; omega) hall] at hput
    rw [m_ref09_Of_l2, m_ref09_Of_l2_B]
    simp only [hi, bnd_some, hk', decide_true, if_true, nthI_lt hlt, nthI_lt hltv, hput, hw]
    rw [← List.take_succ_eq_append_getElem hlt, ← List.take_succ_eq_append_getElem hltv]
    exact ih (k + 1) n (by omega) (by omega) (by omega)
theorem varB_size {s : ByteArray} (h : varB s = true) : s.size ≤ 32 := by
  unfold varB nameB nameL at h
  simp only [Bool.and_eq_true, decide_eq_true_eq] at h
  have := h.1.2.2
  rwa [bytesI_len] at this
/-- Some variables and one more. -/
structure MoreOk (v : TVars) (name : ByteArray) (n : Int) (w : TVars) : Prop where
  ok : OkV w
  chk : vchk w = 0
  get : ∀ s, getV w.Names w.Vals s = if s = name then some n else getV v.Names v.Vals s
theorem of_two {v : TVars} {name : ByteArray} {n : Int} (hv : OkV v) (hc : vchk v = 0) (hs : name.size ≤ maxLen) (hn : inR n) : ∃ w e, m_ref09_Of [v, ⟨[name], [n]⟩] = some (w, e) ∧ (e = 0 → MoreOk v name n w) := by
  obtain ⟨h1, h2, h3⟩ := vchk_zero hc
  obtain ⟨_, hp, _⟩ := namesB_pw h3
  have hov : OkV ⟨[name], [n]⟩ := ⟨by simp [big63], by simp [big63], fun s hs' => by rw [List.mem_singleton.1 hs']; exact hs, fun s hs' => by rw [List.mem_singleton.1 hs']; exact hn⟩
  have hlen : ([v, ⟨[name], [n]⟩] : List TVars).length = 2 := rfl
  have hn0 : nthI [v, ⟨[name], [n]⟩] 0 = some v := rfl
  have hn1 : nthI [v, ⟨[name], [n]⟩] 1 = some ⟨[name], [n]⟩ := rfl
  have hw1 : IntKind.i64.wrap ((0 : Int) + 1) = 1 := by decide
  have hw2 : IntKind.i64.wrap ((1 : Int) + 1) = 2 := by decide
  have hfu : ((((([v, ⟨[name], [n]⟩] : List TVars).length : Int)) - ((0 : Int))).toNat + 1) = 3 := by rw [hlen]; decide
  unfold m_ref09_Of
  rw [hfu, m_ref09_Of_l1, m_ref09_Of_l1_B]
  have hin := of_inner (rc := m_ref09_Of_l1 [v, ⟨[name], [n]⟩] 2) (l := [v, ⟨[name], [n]⟩]) (i := 0) hn0 h1 h2 hp _ 0 1000000 rfl (Nat.zero_le _) (by omega)
  have hin : m_ref09_Of_l2 (m_ref09_Of_l1 [v, ⟨[name], [n]⟩] 2) [v, ⟨[name], [n]⟩] 0 1000000 0 [] [] = _ := hin
  simp only [hlen, show ((0 : Int) < ((2 : Nat) : Int)) = True from by simp, decide_true, if_true, hn0, bnd_some, ref09_Check hv, hc, ne_eq, not_true_eq_false, decide_false, Bool.false_eq_true, if_false, hin]
  unfold m_ref09_Of_k1
  rw [hw1, m_ref09_Of_l1, m_ref09_Of_l1_B]
  simp only [hlen, show ((1 : Int) < ((2 : Nat) : Int)) = True from by simp, decide_true, if_true, hn1, bnd_some, ref09_Check hov]
  by_cases hco : vchk ⟨[name], [n]⟩ = 0
  · have hvar : varB name = true := by
      obtain ⟨_, _, g⟩ := vchk_zero hco
      simp only [namesB, Bool.and_eq_true] at g
      exact g.1
    have P := putL_ok (n := n) hvar (p := none) h1 h3 rfl
    have hput := put_eq (name := name) (n0 := n) h1 (by omega)
    have hl2 : ∀ (rc : Int → List ByteArray → List Int → Option (TVars × Int)) (f : Nat), m_ref09_Of_l2 rc [v, ⟨[name], [n]⟩] 1 (f + 1 + 1) 0 v.Names v.Vals = m_ref09_Of_k1 rc 1 (putL name n false v.Names v.Vals).1 (putL name n false v.Names v.Vals).2 := by
      intro rc f
      rw [m_ref09_Of_l2, m_ref09_Of_l2_B]
      have a0 : nthI [name] 0 = some name := rfl
      have a1 : nthI [n] 0 = some n := rfl
      simp only [hn1, bnd_some, List.length_singleton, show ((0 : Int) < ((1 : Nat) : Int)) = True from by simp, decide_true, if_true, a0, a1, hput, hw1]
      rw [m_ref09_Of_l2, m_ref09_Of_l2_B]
      simp only [hn1, bnd_some, List.length_singleton, show ((1 : Int) < ((1 : Nat) : Int)) = False from by simp, decide_false, Bool.false_eq_true, if_false]
    have hl2' : ∀ rc : Int → List ByteArray → List Int → Option (TVars × Int), m_ref09_Of_l2 rc [v, ⟨[name], [n]⟩] 1 1000000 0 v.Names v.Vals = m_ref09_Of_k1 rc 1 (putL name n false v.Names v.Vals).1 (putL name n false v.Names v.Vals).2 := fun rc => hl2 rc 999998
    simp only [hco, ne_eq, not_true_eq_false, decide_false, Bool.false_eq_true, if_false, hl2']
    unfold m_ref09_Of_k1
    rw [hw2, m_ref09_Of_l1, m_ref09_Of_l1_B]
    simp only [hlen, show ((2 : Int) < ((2 : Nat) : Int)) = False from by simp, decide_false, Bool.false_eq_true, if_false]
    unfold m_ref09_Of_k2
    generalize putL name n false v.Names v.Vals = o at P
    by_cases h64 : (64 : Int) < (o.1.length : Int)
    · refine ⟨⟨[], []⟩, 6, ?_, by simp⟩
      simp only [h64, decide_true, if_true]
    · refine ⟨⟨o.1, o.2⟩, 0, by simp only [h64, decide_false, Bool.false_eq_true, if_false], fun _ => ⟨⟨?_, ?_, ?_, ?_⟩, ?_, P.get⟩⟩
      · have := P.most; show o.1.length ≤ _; unfold big63; omega
      · have := P.most; have := P.len; show o.2.length ≤ _; unfold big63; omega
      · intro s hs
        have := varB_size ((namesB_pw P.names).2.2 s hs)
        unfold big63; omega
      · intro w hw
        rcases P.vals w hw with h | h
        · rw [h]; exact hn
        · exact hv.vals w h
      · have := P.len
        have := P.names
        unfold vchk
        simp only
        rw [if_neg (by simpa using P.len), if_neg (by omega), if_pos P.names]
  · exact ⟨⟨[], []⟩, vchk ⟨[name], [n]⟩, by simp [hco], fun h => absurd h hco⟩
end Go.Proofs.Ytjhnlgelcfplaaa.R

/- Plain laws: the program's variables put together. -/
set_option maxRecDepth 100000
set_option linter.unusedVariables false
set_option linter.unusedSimpArgs false
noncomputable section
namespace Go.Proofs.Ytjhnlgelcfplaaa.R
open Go
/-! ### Where a name stands -/
theorem bs_pos {l : List ByteArray} {t : ByteArray} (hs : l.Pairwise (fun a b => ltS a b = true)) (hb : l.length ≤ 4611686018427387904) : ∀ (m i j n : Nat), j - i = m → i ≤ j → j ≤ l.length → m < n →
    (∀ q (h : q < l.length), q < i → ltS l[q] t = true) → (∀ q (h : q < l.length), j ≤ q → ltS l[q] t = false) →
    ∃ (p : Nat) (b : Bool), m_slices_BinarySearch_string_string_l1 l t n (i : Int) (j : Int) = some ((p : Int), b) ∧ (b = true → l[p]? = some t) ∧ (b = false → t ∉ l) ∧ p ≤ l.length ∧ (∀ q (h : q < l.length), q < p → ltS l[q] t = true) ∧ (∀ q (h : q < l.length), p ≤ q → ltS l[q] t = false) := by
  intro m
  induction m using Nat.strongRecOn with
  | _ m ih =>
    intro i j n hm hij hj hn h1 h2
    obtain ⟨n, rfl⟩ : ∃ n', n = n' + 1 := ⟨n - 1, by omega⟩
    rw [m_slices_BinarySearch_string_string_l1, m_slices_BinarySearch_string_string_l1_B]
    by_cases hlt : i < j
    · have hlt' : (i : Int) < (j : Int) := by omega
      have hw : IntKind.i64.wrap (shrI .u64 (IntKind.u64.wrap (IntKind.i64.wrap ((i : Int) + (j : Int)))) 1) = (((i + j) / 2 : Nat) : Int) := by
        have e1 : IntKind.i64.wrap ((i : Int) + (j : Int)) = ((i + j : Nat) : Int) := by
          rw [wrap_in (by unfold inR; omega)]
          omega
        have e2 : IntKind.u64.wrap ((i + j : Nat) : Int) = ((i + j : Nat) : Int) := u64_in (by omega) (by omega)
        have e3 : shrI .u64 ((i + j : Nat) : Int) 1 = (((i + j) / 2 : Nat) : Int) := by
          unfold shrI
          rw [show (2 : Int) ^ (min (1 : Int).toNat (IntKind.bits .u64)) = 2 from rfl, Int.fdiv_eq_ediv_of_nonneg _ (by decide)]
          omega
        rw [e1, e2, e3]
        exact wrap_in (by unfold inR; omega)
      have hmid : (i + j) / 2 < l.length := by omega
      have hw2 : IntKind.i64.wrap ((((i + j) / 2 : Nat) : Int) + 1) = (((i + j) / 2 + 1 : Nat) : Int) := wrap_succ (by omega)
      simp only [hlt', decide_true, if_true, hw, nthI_lt hmid, bnd_some, cmp_Less, hw2]
      by_cases hc : ltS l[(i + j) / 2] t = true
      · simp only [hc, if_true]
        refine ih (j - ((i + j) / 2 + 1)) (by omega) _ j n rfl (by omega) hj (by omega) ?_ h2
        intro q hq hqi
        by_cases he : q = (i + j) / 2
        · subst he; exact hc
        · exact ltS_trans (List.pairwise_iff_getElem.1 hs q ((i + j) / 2) hq hmid (by omega)) hc
      · have hc' : ltS l[(i + j) / 2] t = false := by simpa using hc
        simp only [hc', Bool.false_eq_true, if_false]
        refine ih ((i + j) / 2 - i) (by omega) i _ n rfl (by omega) (by omega) (by omega) h1 ?_
        intro q hq hqj
        by_cases he : q = (i + j) / 2
        · subst he; exact hc'
        · cases hx : ltS l[q] t with
          | false => rfl
          | true =>
            have := ltS_trans (List.pairwise_iff_getElem.1 hs ((i + j) / 2) q hmid hq (by omega)) hx
            rw [hc'] at this
            cases this
    · have hlt' : ¬ (i : Int) < (j : Int) := by omega
      have hij : i = j := by omega
      subst hij
      simp only [hlt', decide_false, Bool.false_eq_true, if_false, m_slices_BinarySearch_string_string_k1]
      have nomem : (∀ h : i < l.length, l[i] ≠ t) → t ∉ l := by
        intro hne hmem
        obtain ⟨q, hq, hqe⟩ := List.mem_iff_getElem.1 hmem
        rcases Nat.lt_trichotomy q i with h | h | h
        · have := h1 q hq h
          rw [hqe, ltS_irr] at this
          cases this
        · subst h; exact hne hq hqe
        · have hil : i < l.length := by omega
          have a := List.pairwise_iff_getElem.1 hs i q hil hq h
          rw [hqe] at a
          have b := h2 i hil (Nat.le_refl _)
          rw [a] at b
          cases b
      by_cases hil : i < l.length
      · have hil' : (i : Int) < (l.length : Int) := by omega
        simp only [hil', decide_true, if_true, nthI_lt hil, bnd_some, m_slices_isNaN_string, eqS_self, Bool.not_true, Bool.false_eq_true, if_false]
        by_cases he : l[i] = t
        · refine ⟨i, true, by simp [he, eqS_self], fun _ => by rw [List.getElem?_eq_getElem hil, he], by simp, hj, h1, h2⟩
        · have : eqS l[i] t = false := by rw [eqS_dec]; simpa using he
          exact ⟨i, false, by simp [this], by simp, fun _ => nomem fun _ => he, hj, h1, h2⟩
      · have hil' : ¬ (i : Int) < (l.length : Int) := by omega
        exact ⟨i, false, by simp [hil'], by simp, fun _ => nomem fun h => absurd h hil, hj, h1, h2⟩
theorem putL_at {name : ByteArray} {n : Int} : ∀ {l : List ByteArray} {vs : List Int} {p : Nat}, l.length = vs.length → l.Pairwise (fun a b => ltS a b = true) → (∀ q (h : q < l.length), q < p → ltS l[q] name = true) → (∀ q (h : q < l.length), p ≤ q → ltS l[q] name = false) → p ≤ l.length →
    (l[p]? = some name → putL name n false l vs = (l, vs.set p n)) ∧ (name ∉ l → putL name n false l vs = (l.take p ++ name :: l.drop p, vs.take p ++ n :: vs.drop p))
  | [], [], p, _, _, _, _, hp => by
    obtain rfl : p = 0 := by simpa using hp
    exact ⟨by simp, fun _ => rfl⟩
  | x :: r, y :: vs, 0, hl, hs, _, h2, _ => by
    have hx : ltS x name = false := h2 0 (by simp) (Nat.le_refl _)
    have hne : ∀ z ∈ r, z ≠ name := by
      rintro z hz rfl
      have := (List.pairwise_cons.1 hs).1 z hz
      rw [hx] at this
      cases this
    have hd := putL_done (name := name) (n := n) (l := r) (vs := vs) (by simpa using hl) hne
    refine ⟨fun h => ?_, fun h => ?_⟩
    · have he : x = name := by simpa using h
      subst he
      simp [putL, hx, hd]
    · have he : ¬ x = name := fun e => h (by simp [e])
      simp [putL, hx, hd, he]
  | x :: r, y :: vs, p + 1, hl, hs, h1, h2, hp => by
    have hx : ltS x name = true := h1 0 (by simp) (by omega)
    have he : ¬ x = name := by rintro rfl; rw [ltS_irr] at hx; cases hx
    have ih := putL_at (name := name) (n := n) (l := r) (vs := vs) (p := p) (by simpa using hl) (List.pairwise_cons.1 hs).2 (fun q h hq => by have := h1 (q + 1) (by simpa using h) (by omega); rwa [List.getElem_cons_succ] at this) (fun q h hq => by have := h2 (q + 1) (by simpa using h) (by omega); rwa [List.getElem_cons_succ] at this) (by simpa using hp)
    refine ⟨fun h => ?_, fun h => ?_⟩
    · have := ih.1 (by simpa using h)
      simp [putL, hx, he, this]
    · have := ih.2 (fun h' => h (by simp [h']))
      simp [putL, hx, he, this]
/-! ### Many put together -/
/-- The variables so far, and one's from a place on. -/
def putAll : List ByteArray → List Int → List ByteArray × List Int → List ByteArray × List Int
  | x :: r, vs, o => putAll r vs.tail (putL x (vs.headD 0) false o.1 o.2)
  | [], _, o => o
structure OkO (o : List ByteArray × List Int) (b : Nat) : Prop where
  len : o.1.length = o.2.length
  most : o.1.length ≤ b
  names : namesB none o.1 = true
theorem OkO.put {o : List ByteArray × List Int} {b : Nat} (h : OkO o b) {x : ByteArray} (hx : varB x = true) (n : Int) : OkO (putL x n false o.1 o.2) (b + 1) := by
  have P := putL_ok (n := n) hx (p := none) h.len h.names rfl
  exact ⟨P.len, by have := P.most; have := h.most; omega, P.names⟩
/-- The program's inner loop. -/
theorem of_prog_inner {rc : Int → List ByteArray → List Int → Option (TVars × Int)} {i : Int} {v : TVars} (hl : v.Names.length = v.Vals.length) (hb : v.Names.length ≤ 64) (hv : ∀ x ∈ v.Names, varB x = true) :
    ∀ (m k n b : Nat) (o : List ByteArray × List Int), v.Names.length - k = m → k ≤ v.Names.length → m < n → OkO o b → b + m ≤ 1000 →
      m_vars_Of_l2 rc i v n (k : Int) o.1 o.2 = rc (IntKind.i64.wrap (i + 1)) (putAll (v.Names.drop k) (v.Vals.drop k) o).1 (putAll (v.Names.drop k) (v.Vals.drop k) o).2 := by
  intro m
  induction m with
  | zero =>
    intro k n b o hm hk hn ho hbm
    obtain ⟨n, rfl⟩ : ∃ n', n = n' + 1 := ⟨n - 1, by omega⟩
    have hk' : ¬ ((k : Int) < (v.Names.length : Int)) := by omega
    rw [m_vars_Of_l2, m_vars_Of_l2_B, decide_eq_false hk', if_neg (by simp), List.drop_eq_nil_of_le (by omega)]
    rfl
  | succ m ih =>
    intro k n b o hm hk hn ho hbm
    obtain ⟨n, rfl⟩ : ∃ n', n = n' + 1 := ⟨n - 1, by omega⟩
    have hlt : k < v.Names.length := by omega
    have hltv : k < v.Vals.length := by omega
    have hk' : ((k : Int) < (v.Names.length : Int)) := by omega
    have hw : IntKind.i64.wrap ((k : Int) + 1) = ((k + 1 : Nat) : Int) := wrap_succ (by omega)
    obtain ⟨_, hs, _⟩ := namesB_pw ho.names
    have hmost := ho.most
    have hlen := ho.len
    obtain ⟨p, f, e, g1, g2, g3, g4, g5⟩ := bs_pos (t := v.Names[k]) hs (by omega) o.1.length 0 o.1.length 1000000 (by omega) (by omega) (Nat.le_refl _) (by omega) (fun q _ h => by omega) (fun q h h' => by omega)
    have e : m_slices_BinarySearch_string_string o.1 v.Names[k] = some ((p : Int), f) := e
    obtain ⟨a1, a2⟩ := putL_at (name := v.Names[k]) (n := v.Vals[k]) ho.len hs g4 g5 g3
    have hput := ho.put (hv _ (List.getElem_mem hlt)) v.Vals[k]
    have hih := ih (k + 1) n (b + 1) (putL v.Names[k] v.Vals[k] false o.1 o.2) (by omega) (by omega) (by omega) hput (by omega)
    rw [m_vars_Of_l2, m_vars_Of_l2_B, decide_eq_true hk', if_pos rfl, nthI_lt hlt, bnd_some, e, bnd_some, nthI_lt hltv, List.drop_eq_getElem_cons hlt, List.drop_eq_getElem_cons hltv, hw]
    show _ = rc _ (putAll (v.Names.drop (k + 1)) (v.Vals.drop (k + 1)) (putL v.Names[k] v.Vals[k] false o.1 o.2)).1 (putAll (v.Names.drop (k + 1)) (v.Vals.drop (k + 1)) (putL v.Names[k] v.Vals[k] false o.1 o.2)).2
    cases f with
    | true =>
      have hp := g1 rfl
      have hpl : p < o.1.length := by
        rcases Nat.lt_or_ge p o.1.length with h | h
        · exact h
        · rw [List.getElem?_eq_none h] at hp; cases hp
      rw [a1 hp] at hih ⊢
      simp only [if_true, bnd_some, nthI_lt (show p < o.2.length by omega), setI, Int.toNat_natCast]
      exact hih
    | false =>
      rw [a2 (g2 rfl)] at hih ⊢
      have d0 : decide ((0 : Int) ≤ (p : Int)) = true := by simp
      have d1 : decide ((p : Int) ≤ (o.1.length : Int)) = true := by simp; omega
      have d2 : decide ((p : Int) ≤ (o.2.length : Int)) = true := by simp; omega
      have c1 : capB (o.1.length + 1) = true := capB_small (by omega)
      have c2 : capB (o.2.length + 1) = true := capB_small (by omega)
      simp only [Bool.false_eq_true, if_false, d0, d1, d2, c1, c2, if_true, bnd_some, insI, Int.toNat_natCast]
      exact hih
end Go.Proofs.Ytjhnlgelcfplaaa.R

/- Plain laws: any variables put together. -/
set_option maxRecDepth 100000
set_option linter.unusedVariables false
set_option linter.unusedSimpArgs false
noncomputable section
namespace Go.Proofs.Ytjhnlgelcfplaaa.R
open Go
/-- The reference's inner loop. -/
theorem of_ref_inner {rc : Int → List ByteArray → List Int → Option (TVars × Int)} {l : List TVars} {i : Int} {v : TVars} (hi : nthI l i = some v) (hl : v.Names.length = v.Vals.length) (hb : v.Names.length ≤ 64) (hv : ∀ x ∈ v.Names, varB x = true) :
    ∀ (m k n b : Nat) (o : List ByteArray × List Int), v.Names.length - k = m → k ≤ v.Names.length → m < n → OkO o b → b + m ≤ 1000 →
      m_ref09_Of_l2 rc l i n (k : Int) o.1 o.2 = rc (IntKind.i64.wrap (i + 1)) (putAll (v.Names.drop k) (v.Vals.drop k) o).1 (putAll (v.Names.drop k) (v.Vals.drop k) o).2 := by
  intro m
  induction m with
  | zero =>
    intro k n b o hm hk hn ho hbm
    obtain ⟨n, rfl⟩ : ∃ n', n = n' + 1 := ⟨n - 1, by omega⟩
    have hk' : ¬ ((k : Int) < (v.Names.length : Int)) := by omega
    rw [m_ref09_Of_l2, m_ref09_Of_l2_B, hi, bnd_some, decide_eq_false hk', if_neg (by simp), List.drop_eq_nil_of_le (by omega)]
    rfl
  | succ m ih =>
    intro k n b o hm hk hn ho hbm
    obtain ⟨n, rfl⟩ : ∃ n', n = n' + 1 := ⟨n - 1, by omega⟩
    have hlt : k < v.Names.length := by omega
    have hltv : k < v.Vals.length := by omega
    have hk' : ((k : Int) < (v.Names.length : Int)) := by omega
    have hw : IntKind.i64.wrap ((k : Int) + 1) = ((k + 1 : Nat) : Int) := wrap_succ (by omega)
    have hmost := ho.most
    have hput := put_eq (v := ⟨o.1, o.2⟩) (name := v.Names[k]) (n0 := v.Vals[k]) ho.len (show o.1.length ≤ 1000 by omega)
    have hih := ih (k + 1) n (b + 1) (putL v.Names[k] v.Vals[k] false o.1 o.2) (by omega) (by omega) (by omega) (ho.put (hv _ (List.getElem_mem hlt)) v.Vals[k]) (by omega)
    rw [m_ref09_Of_l2, m_ref09_Of_l2_B, hi, bnd_some, decide_eq_true hk', if_pos rfl, nthI_lt hlt, bnd_some, nthI_lt hltv, bnd_some, hput, bnd_some, hw, List.drop_eq_getElem_cons hlt, List.drop_eq_getElem_cons hltv]
    exact hih
theorem putAll_ok : ∀ {ns : List ByteArray} {vs : List Int} {o : List ByteArray × List Int} {b : Nat}, OkO o b → (∀ x ∈ ns, varB x = true) → OkO (putAll ns vs o) (b + ns.length)
  | [], vs, o, b, h, _ => h
  | x :: r, vs, o, b, h, hv => by
    have := putAll_ok (ns := r) (vs := vs.tail) (h.put (hv x (by simp)) (vs.headD 0)) (fun y hy => hv y (by simp [hy]))
    rw [List.length_cons, show b + (r.length + 1) = b + 1 + r.length by omega]
    exact this
/-- What variables put together are. -/
def ofS : List TVars → List ByteArray × List Int → TVars × Int
  | [], o => if 64 < o.1.length then (⟨[], []⟩, 6) else (⟨o.1, o.2⟩, 0)
  | v :: r, o => if vchk v ≠ 0 then (⟨[], []⟩, vchk v) else ofS r (putAll v.Names v.Vals o)
theorem of_prog_loop {l : List TVars} (hl : l.length ≤ 4) (hv : ∀ v ∈ l, OkV v) : ∀ (m k n : Nat) (o : List ByteArray × List Int), l.length - k = m → k ≤ l.length → m < n → OkO o (64 * k) → m_vars_Of_l1 l n (k : Int) o.1 o.2 = some (ofS (l.drop k) o) := by
  intro m
  induction m with
  | zero =>
    intro k n o hm hk hn ho
    obtain ⟨n, rfl⟩ : ∃ n', n = n' + 1 := ⟨n - 1, by omega⟩
    have hk' : ¬ ((k : Int) < (l.length : Int)) := by omega
    rw [m_vars_Of_l1, m_vars_Of_l1_B, decide_eq_false hk', if_neg (by simp), List.drop_eq_nil_of_le (by omega), m_vars_Of_k1, ofS]
    by_cases h : 64 < o.1.length
    · have h' : (64 : Int) < ((o.1.length : Nat) : Int) := by omega
      simp [h, h']
    · have h' : ¬ (64 : Int) < ((o.1.length : Nat) : Int) := by omega
      simp [h, h']
  | succ m ih =>
    intro k n o hm hk hn ho
    obtain ⟨n, rfl⟩ : ∃ n', n = n' + 1 := ⟨n - 1, by omega⟩
    have hlt : k < l.length := by omega
    have hk' : ((k : Int) < (l.length : Int)) := by omega
    have hw : IntKind.i64.wrap ((k : Int) + 1) = ((k + 1 : Nat) : Int) := wrap_succ (by omega)
    have hok := hv _ (List.getElem_mem hlt)
    rw [m_vars_Of_l1, m_vars_Of_l1_B, decide_eq_true hk', if_pos rfl, nthI_lt hlt, bnd_some, vars_Check hok, bnd_some, List.drop_eq_getElem_cons hlt, ofS]
    by_cases hc : vchk l[k] = 0
    · obtain ⟨h1, h2, h3⟩ := vchk_zero hc
      obtain ⟨_, hs, hvar⟩ := namesB_pw h3
      have hin := of_prog_inner (rc := m_vars_Of_l1 l n) (i := (k : Int)) h1 h2 hvar _ 0 ((((l[k].Names.length : Int)) - ((0 : Int))).toNat + 1) (64 * k) o rfl (Nat.zero_le _) (by omega) ho (by omega)
      have hin : m_vars_Of_l2 (m_vars_Of_l1 l n) (k : Int) l[k] ((((l[k].Names.length : Int)) - ((0 : Int))).toNat + 1) 0 o.1 o.2 = _ := hin
      have hput := putAll_ok (vs := l[k].Vals) ho hvar
      have hput' : OkO (putAll l[k].Names l[k].Vals o) (64 * (k + 1)) := ⟨hput.len, by have := hput.most; omega, hput.names⟩
      simp only [hc, ne_eq, not_true_eq_false, decide_false, Bool.false_eq_true, if_false, hin, hw, List.drop_zero]
      exact ih (k + 1) n _ (by omega) (by omega) (by omega) hput'
    · simp [hc]
theorem of_ref_loop {l : List TVars} (hl : l.length ≤ 4) (hv : ∀ v ∈ l, OkV v) : ∀ (m k n : Nat) (o : List ByteArray × List Int), l.length - k = m → k ≤ l.length → m < n → OkO o (64 * k) → m_ref09_Of_l1 l n (k : Int) o.1 o.2 = some (ofS (l.drop k) o) := by
  intro m
  induction m with
  | zero =>
    intro k n o hm hk hn ho
    obtain ⟨n, rfl⟩ : ∃ n', n = n' + 1 := ⟨n - 1, by omega⟩
    have hk' : ¬ ((k : Int) < (l.length : Int)) := by omega
    rw [m_ref09_Of_l1, m_ref09_Of_l1_B, decide_eq_false hk', if_neg (by simp), List.drop_eq_nil_of_le (by omega), m_ref09_Of_k2, ofS]
    by_cases h : 64 < o.1.length
    · have h' : (64 : Int) < ((o.1.length : Nat) : Int) := by omega
      simp [h, h']
    · have h' : ¬ (64 : Int) < ((o.1.length : Nat) : Int) := by omega
      simp [h, h']
  | succ m ih =>
    intro k n o hm hk hn ho
    obtain ⟨n, rfl⟩ : ∃ n', n = n' + 1 := ⟨n - 1, by omega⟩
    have hlt : k < l.length := by omega
    have hk' : ((k : Int) < (l.length : Int)) := by omega
    have hw : IntKind.i64.wrap ((k : Int) + 1) = ((k + 1 : Nat) : Int) := wrap_succ (by omega)
    have hok := hv _ (List.getElem_mem hlt)
    rw [m_ref09_Of_l1, m_ref09_Of_l1_B, decide_eq_true hk', if_pos rfl, nthI_lt hlt, bnd_some, ref09_Check hok, bnd_some, List.drop_eq_getElem_cons hlt, ofS]
    by_cases hc : vchk l[k] = 0
    · obtain ⟨h1, h2, h3⟩ := vchk_zero hc
      obtain ⟨_, hs, hvar⟩ := namesB_pw h3
      have hin := of_ref_inner (rc := m_ref09_Of_l1 l n) (l := l) (i := (k : Int)) (nthI_lt hlt) h1 h2 hvar _ 0 1000000 (64 * k) o rfl (Nat.zero_le _) (by omega) ho (by omega)
      have hin : m_ref09_Of_l2 (m_ref09_Of_l1 l n) l (k : Int) 1000000 0 o.1 o.2 = _ := hin
      have hput := putAll_ok (vs := l[k].Vals) ho hvar
      have hput' : OkO (putAll l[k].Names l[k].Vals o) (64 * (k + 1)) := ⟨hput.len, by have := hput.most; omega, hput.names⟩
      simp only [hc, ne_eq, not_true_eq_false, decide_false, Bool.false_eq_true, if_false, hin, hw, List.drop_zero]
      exact ih (k + 1) n _ (by omega) (by omega) (by omega) hput'
    · simp [hc]
theorem okO_nil : OkO ([], []) 0 := ⟨rfl, by simp, rfl⟩
theorem vars_Of {l : List TVars} (hl : l.length ≤ 4) (hv : ∀ v ∈ l, OkV v) : m_vars_Of l = some (ofS l ([], [])) := by
  have := of_prog_loop hl hv _ 0 ((((l.length : Int)) - ((0 : Int))).toNat + 1) ([], []) rfl (Nat.zero_le _) (by omega) okO_nil
  exact this
theorem ref09_Of {l : List TVars} (hl : l.length ≤ 4) (hv : ∀ v ∈ l, OkV v) : m_ref09_Of l = some (ofS l ([], [])) := by
  have := of_ref_loop hl hv _ 0 ((((l.length : Int)) - ((0 : Int))).toNat + 1) ([], []) rfl (Nat.zero_le _) (by omega) okO_nil
  exact this
end Go.Proofs.Ytjhnlgelcfplaaa.R

/- Plain laws: what must be put to variables. -/
set_option maxRecDepth 100000
set_option linter.unusedVariables false
set_option linter.unusedSimpArgs false
noncomputable section
namespace Go.Proofs.Ytjhnlgelcfplaaa.R
open Go
def diffL (fr : TVars) : List ByteArray → List Int → List ByteArray × List Int
  | x :: r, vs => if getV fr.Names fr.Vals x = some (vs.headD 0) then diffL fr r vs.tail else (x :: (diffL fr r vs.tail).1, vs.headD 0 :: (diffL fr r vs.tail).2)
  | [], _ => ([], [])
def allIn (to : TVars) (l : List ByteArray) : Bool := l.all fun x => (getV to.Names to.Vals x).isSome
def diffS (fr to : TVars) : TVars × Int :=
  if vchk fr ≠ 0 then (⟨[], []⟩, vchk fr) else if vchk to ≠ 0 then (⟨[], []⟩, vchk to) else if allIn to fr.Names = true then (⟨(diffL fr to.Names to.Vals).1, (diffL fr to.Names to.Vals).2⟩, 0) else (⟨[], []⟩, 9)
theorem getR_2 (o : Option Int) : (getR o).2 = o.isSome := by cases o <;> rfl
theorem diff_prog3 {fr to : TVars} (hf : vchk fr = 0) (ht : vchk to = 0) : ∀ (m k n : Nat) (o : List ByteArray × List Int), to.Names.length - k = m → k ≤ to.Names.length → m < n → o.1.length ≤ k → o.2.length ≤ k →
    m_vars_Diff_l3 fr to n (k : Int) o.1 o.2 = some (⟨o.1 ++ (diffL fr (to.Names.drop k) (to.Vals.drop k)).1, o.2 ++ (diffL fr (to.Names.drop k) (to.Vals.drop k)).2⟩, 0) := by
  obtain ⟨h1, h2, h3⟩ := vchk_zero ht
  intro m
  induction m with
  | zero =>
    intro k n o hm hk hn ho1 ho2
    obtain ⟨n, rfl⟩ : ∃ n', n = n' + 1 := ⟨n - 1, by omega⟩
    have hk' : ¬ ((k : Int) < (to.Names.length : Int)) := by omega
    rw [m_vars_Diff_l3, m_vars_Diff_l3_B, decide_eq_false hk', if_neg (by simp), List.drop_eq_nil_of_le (by omega), m_vars_Diff_k4]
    simp [diffL]
  | succ m ih =>
    intro k n o hm hk hn ho1 ho2
    obtain ⟨n, rfl⟩ : ∃ n', n = n' + 1 := ⟨n - 1, by omega⟩
    have hlt : k < to.Names.length := by omega
    have hltv : k < to.Vals.length := by omega
    have hk' : ((k : Int) < (to.Names.length : Int)) := by omega
    have hw : IntKind.i64.wrap ((k : Int) + 1) = ((k + 1 : Nat) : Int) := wrap_succ (by omega)
    have c1 : capB (o.1.length + 1) = true := capB_small (by omega)
    have c2 : capB (o.2.length + 1) = true := capB_small (by omega)
    have k3 : ∀ b : Bool, m_vars_Diff_k3 (m_vars_Diff_l3 fr to n) to (k : Int) o.1 o.2 to.Names[k] b = if b = true then m_vars_Diff_l3 fr to n ((k + 1 : Nat) : Int) o.1 o.2 else m_vars_Diff_l3 fr to n ((k + 1 : Nat) : Int) (o.1 ++ [to.Names[k]]) (o.2 ++ [to.Vals[k]]) := by
      intro b
      unfold m_vars_Diff_k3
      rw [hw, c1, c2, nthI_lt hltv]
      cases b <;> simp [bnd_some]
    have hA := ih (k + 1) n o (by omega) (by omega) (by omega) (by omega) (by omega)
    have hB := ih (k + 1) n (o.1 ++ [to.Names[k]], o.2 ++ [to.Vals[k]]) (by omega) (by omega) (by omega) (by simp; omega) (by simp; omega)
    simp only at hB
    rw [m_vars_Diff_l3, m_vars_Diff_l3_B, decide_eq_true hk', if_pos rfl, nthI_lt hlt, bnd_some, vars_Get hf, bnd_some, nthI_lt hltv, bnd_some, k3, k3, List.drop_eq_getElem_cons hlt, List.drop_eq_getElem_cons hltv, diffL]
    simp only [List.headD_cons, List.tail_cons]
    rw [hA, hB]
    cases hg : getV fr.Names fr.Vals to.Names[k] with
    | none => simp [getR]
    | some q =>
      by_cases hq : q = to.Vals[k] <;> simp [getR, hq]
theorem diff_ref2 {fr to : TVars} (hf : vchk fr = 0) (ht : vchk to = 0) : ∀ (m k n : Nat) (o : List ByteArray × List Int), to.Names.length - k = m → k ≤ to.Names.length → m < n → o.1.length ≤ k → o.1.length = o.2.length → (∀ y ∈ o.1, y ∈ to.Names.take k) →
    m_ref09_Diff_l2 fr to n (k : Int) o.1 o.2 = some (⟨o.1 ++ (diffL fr (to.Names.drop k) (to.Vals.drop k)).1, o.2 ++ (diffL fr (to.Names.drop k) (to.Vals.drop k)).2⟩, 0) := by
  obtain ⟨h1, h2, h3⟩ := vchk_zero ht
  obtain ⟨f1, f2, f3⟩ := vchk_zero hf
  obtain ⟨_, hp, _⟩ := namesB_pw h3
  intro m
  induction m with
  | zero =>
    intro k n o hm hk hn ho1 ho2 ho3
    obtain ⟨n, rfl⟩ : ∃ n', n = n' + 1 := ⟨n - 1, by omega⟩
    have hk' : ¬ ((k : Int) < (to.Names.length : Int)) := by omega
    rw [m_ref09_Diff_l2, m_ref09_Diff_l2_B, decide_eq_false hk', if_neg (by simp), List.drop_eq_nil_of_le (by omega), m_ref09_Diff_k4]
    simp [diffL]
  | succ m ih =>
    intro k n o hm hk hn ho1 ho2 ho3
    obtain ⟨n, rfl⟩ : ∃ n', n = n' + 1 := ⟨n - 1, by omega⟩
    have hlt : k < to.Names.length := by omega
    have hltv : k < to.Vals.length := by omega
    have hk' : ((k : Int) < (to.Names.length : Int)) := by omega
    have hw : IntKind.i64.wrap ((k : Int) + 1) = ((k + 1 : Nat) : Int) := wrap_succ (by omega)
    have hall : ∀ x ∈ o.1, ltS x to.Names[k] = true := by
      intro x hx
      obtain ⟨j, hj, rfl⟩ := List.mem_iff_getElem.1 (ho3 x hx)
      have hjk : j < k := by simp at hj; omega
      rw [List.getElem_take]
      exact List.pairwise_iff_getElem.1 hp j k (by omega) hlt hjk
    have hput := put_eq (v := ⟨o.1, o.2⟩) (name := to.Names[k]) (n0 := to.Vals[k]) ho2 (show o.1.length ≤ 1000 by omega)
    rw [putL_end ho2 hall] at hput
    have hA := ih (k + 1) n o (by omega) (by omega) (by omega) (by omega) ho2 (fun y hy => by
      have := ho3 y hy
      rw [List.take_succ_eq_append_getElem hlt]
      exact List.mem_append_left _ this)
    have hB := ih (k + 1) n (o.1 ++ [to.Names[k]], o.2 ++ [to.Vals[k]]) (by omega) (by omega) (by omega) (by simp; omega) (by simp [ho2]) (fun y hy => by
      rw [List.take_succ_eq_append_getElem hlt]
      rcases List.mem_append.1 hy with h | h
      · exact List.mem_append_left _ (ho3 y h)
      · exact List.mem_append_right _ h)
    simp only at hB
    have k3 : ∀ b : Bool, m_ref09_Diff_k2 (m_ref09_Diff_l2 fr to n) to (k : Int) o.1 o.2 b = if b = true then m_ref09_Diff_l2 fr to n ((k + 1 : Nat) : Int) (o.1 ++ [to.Names[k]]) (o.2 ++ [to.Vals[k]]) else m_ref09_Diff_l2 fr to n ((k + 1 : Nat) : Int) o.1 o.2 := by
      intro b
      unfold m_ref09_Diff_k2 m_ref09_Diff_k3
      rw [hw, nthI_lt hlt, nthI_lt hltv, bnd_some, bnd_some, hput, bnd_some]
    rw [m_ref09_Diff_l2, m_ref09_Diff_l2_B, decide_eq_true hk', if_pos rfl, nthI_lt hlt, bnd_some, ref09_Get f1 (by unfold big63; omega), bnd_some, nthI_lt hltv, bnd_some, k3, k3, List.drop_eq_getElem_cons hlt, List.drop_eq_getElem_cons hltv, diffL]
    simp only [List.headD_cons, List.tail_cons]
    rw [hA, hB]
    cases hg : getV fr.Names fr.Vals to.Names[k] with
    | none => simp [getR]
    | some q =>
      by_cases hq : q = to.Vals[k] <;> simp [getR, hq]
theorem diff_prog2 {fr to : TVars} (hf : vchk fr = 0) (ht : vchk to = 0) : ∀ (m k n : Nat), fr.Names.length - k = m → k ≤ fr.Names.length → m < n →
    m_vars_Diff_l2 fr to n (k : Int) = if allIn to (fr.Names.drop k) = true then m_vars_Diff_k2 fr to else some (⟨[], []⟩, 9) := by
  obtain ⟨f1, f2, f3⟩ := vchk_zero hf
  intro m
  induction m with
  | zero =>
    intro k n hm hk hn
    obtain ⟨n, rfl⟩ : ∃ n', n = n' + 1 := ⟨n - 1, by omega⟩
    have hk' : ¬ ((k : Int) < (fr.Names.length : Int)) := by omega
    rw [m_vars_Diff_l2, m_vars_Diff_l2_B, decide_eq_false hk', if_neg (by simp), List.drop_eq_nil_of_le (by omega)]
    simp [allIn]
  | succ m ih =>
    intro k n hm hk hn
    obtain ⟨n, rfl⟩ : ∃ n', n = n' + 1 := ⟨n - 1, by omega⟩
    have hlt : k < fr.Names.length := by omega
    have hk' : ((k : Int) < (fr.Names.length : Int)) := by omega
    have hw : IntKind.i64.wrap ((k : Int) + 1) = ((k + 1 : Nat) : Int) := wrap_succ (by omega)
    rw [m_vars_Diff_l2, m_vars_Diff_l2_B, decide_eq_true hk', if_pos rfl, nthI_lt hlt, bnd_some, vars_Get ht, bnd_some, hw, ih (k + 1) n (by omega) (by omega) (by omega), List.drop_eq_getElem_cons hlt, getR_2]
    have ha : allIn to (fr.Names[k] :: fr.Names.drop (k + 1)) = ((getV to.Names to.Vals fr.Names[k]).isSome && allIn to (fr.Names.drop (k + 1))) := rfl
    rw [ha]
    generalize (getV to.Names to.Vals fr.Names[k]).isSome = b, allIn to (fr.Names.drop (k + 1)) = b2
    cases b <;> simp
theorem diff_ref1 {fr to : TVars} (hf : vchk fr = 0) (ht : vchk to = 0) : ∀ (m k n : Nat), fr.Names.length - k = m → k ≤ fr.Names.length → m < n →
    m_ref09_Diff_l1 fr to n (k : Int) = if allIn to (fr.Names.drop k) = true then m_ref09_Diff_k1 fr to else some (⟨[], []⟩, 9) := by
  obtain ⟨f1, f2, f3⟩ := vchk_zero hf
  obtain ⟨h1, h2, h3⟩ := vchk_zero ht
  intro m
  induction m with
  | zero =>
    intro k n hm hk hn
    obtain ⟨n, rfl⟩ : ∃ n', n = n' + 1 := ⟨n - 1, by omega⟩
    have hk' : ¬ ((k : Int) < (fr.Names.length : Int)) := by omega
    rw [m_ref09_Diff_l1, m_ref09_Diff_l1_B, decide_eq_false hk', if_neg (by simp), List.drop_eq_nil_of_le (by omega)]
    simp [allIn]
  | succ m ih =>
    intro k n hm hk hn
    obtain ⟨n, rfl⟩ : ∃ n', n = n' + 1 := ⟨n - 1, by omega⟩
    have hlt : k < fr.Names.length := by omega
    have hk' : ((k : Int) < (fr.Names.length : Int)) := by omega
    have hw : IntKind.i64.wrap ((k : Int) + 1) = ((k + 1 : Nat) : Int) := wrap_succ (by omega)
    rw [m_ref09_Diff_l1, m_ref09_Diff_l1_B, decide_eq_true hk', if_pos rfl, nthI_lt hlt, bnd_some, ref09_Get h1 (by unfold big63; omega), bnd_some, hw, ih (k + 1) n (by omega) (by omega) (by omega), List.drop_eq_getElem_cons hlt, getR_2]
    have ha : allIn to (fr.Names[k] :: fr.Names.drop (k + 1)) = ((getV to.Names to.Vals fr.Names[k]).isSome && allIn to (fr.Names.drop (k + 1))) := rfl
    rw [ha]
    generalize (getV to.Names to.Vals fr.Names[k]).isSome = b, allIn to (fr.Names.drop (k + 1)) = b2
    cases b <;> simp
theorem vars_Diff {fr to : TVars} (hf : OkV fr) (ht : OkV to) : m_vars_Diff fr to = some (diffS fr to) := by
  have hw1 : IntKind.i64.wrap ((0 : Int) + 1) = 1 := by decide
  have hw2 : IntKind.i64.wrap ((1 : Int) + 1) = 2 := by decide
  have n0 : nthI [fr, to] 0 = some fr := rfl
  have n1 : nthI [fr, to] 1 = some to := rfl
  have hfu : (((((2 : Nat) : Int)) - ((0 : Int))).toNat + 1) = 3 := by decide
  have l0 : decide ((0 : Int) < ((2 : Nat) : Int)) = true := by decide
  have l1 : decide ((1 : Int) < ((2 : Nat) : Int)) = true := by decide
  have l2 : decide ((2 : Int) < ((2 : Nat) : Int)) = false := by decide
  unfold m_vars_Diff diffS
  rw [hfu, m_vars_Diff_l1, m_vars_Diff_l1_B, l0, if_pos rfl, n0, bnd_some, vars_Check hf, bnd_some, hw1]
  by_cases c1 : vchk fr = 0
  · rw [m_vars_Diff_l1, m_vars_Diff_l1_B, l1, if_pos rfl, n1, bnd_some, vars_Check ht, bnd_some, hw2]
    by_cases c2 : vchk to = 0
    · have e1 : m_vars_Diff_l2 fr to ((((fr.Names.length : Int)) - ((0 : Int))).toNat + 1) (0 : Int) = _ := diff_prog2 c1 c2 _ 0 ((((fr.Names.length : Int)) - ((0 : Int))).toNat + 1) rfl (Nat.zero_le _) (by omega)
      have e2 : m_vars_Diff_l3 fr to ((((to.Names.length : Int)) - ((0 : Int))).toNat + 1) (0 : Int) [] [] = _ := diff_prog3 c1 c2 _ 0 ((((to.Names.length : Int)) - ((0 : Int))).toNat + 1) ([], []) rfl (Nat.zero_le _) (by omega) (by simp) (by simp)
      have e3 : m_vars_Diff_l1 fr to 1 2 = m_vars_Diff_k1 fr to := by
        rw [m_vars_Diff_l1, m_vars_Diff_l1_B, l2]
        rfl
      rw [e3]
      unfold m_vars_Diff_k1
      rw [e1]
      unfold m_vars_Diff_k2
      rw [e2]
      simp only [c1, c2, ne_eq, not_true_eq_false, decide_false, Bool.false_eq_true, if_false, List.drop_zero, List.nil_append]
      split <;> rfl
    · simp [c1, c2]
  · simp [c1]
theorem ref09_Diff {fr to : TVars} (hf : OkV fr) (ht : OkV to) : m_ref09_Diff fr to = some (diffS fr to) := by
  unfold m_ref09_Diff diffS
  rw [ref09_Check hf, bnd_some, ref09_Check ht, bnd_some]
  by_cases c1 : vchk fr = 0
  · by_cases c2 : vchk to = 0
    · have e1 : m_ref09_Diff_l1 fr to ((((fr.Names.length : Int)) - ((0 : Int))).toNat + 1) (0 : Int) = _ := diff_ref1 c1 c2 _ 0 ((((fr.Names.length : Int)) - ((0 : Int))).toNat + 1) rfl (Nat.zero_le _) (by omega)
      have e2 : m_ref09_Diff_l2 fr to ((((to.Names.length : Int)) - ((0 : Int))).toNat + 1) (0 : Int) [] [] = _ := diff_ref2 c1 c2 _ 0 ((((to.Names.length : Int)) - ((0 : Int))).toNat + 1) ([], []) rfl (Nat.zero_le _) (by omega) (by simp) rfl (by simp)
      rw [e1]
      unfold m_ref09_Diff_k1
      rw [e2]
      simp only [c1, c2, ne_eq, not_true_eq_false, decide_false, Bool.false_eq_true, if_false, List.drop_zero, List.nil_append]
      split <;> rfl
    · simp [c1, c2]
  · simp [c1]
end Go.Proofs.Ytjhnlgelcfplaaa.R

/- Plain laws: VarsPuts. -/
set_option maxRecDepth 100000
set_option linter.unusedVariables false
set_option linter.unusedSimpArgs false
noncomputable section
namespace Go.Proofs.Ytjhnlgelcfplaaa.R
open Go
theorem ref09_refl {a : TVars} (h1 : a.Names.length ≤ 200) (h2 : a.Vals.length ≤ 200) : m_ref09_Same a a = some true := by
  have e1 : a.Names.length ≤ maxLen := by rw [maxLen_eq]; omega
  have e2 : a.Vals.length ≤ maxLen := by rw [maxLen_eq]; omega
  unfold m_ref09_Same m_ref09_Same_k1
  rw [texts_eq e1, same2_refl (fun x => eqS_iff.2 rfl)]
  have h : ¬ ((a.Vals.length : Int) ≠ (a.Vals.length : Int)) := by simp
  simp only [bnd_some, if_true]
  rw [decide_eq_false h, if_neg (by simp), all2_loop0 (f := m_ref09_Same_l1 a a) (p := eqI) rfl e2, all2_refl (fun x => (eqI_iff x x).2 rfl)]
  intro n k
  rw [m_ref09_Same_l1, m_ref09_Same_l1_B]
  simp only [decide_eq_true_eq, Int.ofNat_lt]
  congr 1
  congr 1; funext x; congr 1; funext y
  by_cases ht : x = y <;> simp [ht, eqI]
theorem ofS_len : ∀ {l : List TVars} {o : List ByteArray × List Int} {b : Nat}, OkO o b → (ofS l o).1.Names.length ≤ 200 ∧ (ofS l o).1.Vals.length ≤ 200
  | [], o, b, h => by
    rw [ofS]
    have := h.len
    split
    · simp
    · simp only; omega
  | v :: r, o, b, h => by
    rw [ofS]
    split
    · simp
    · rename_i hc
      have hc : vchk v = 0 := by simpa using hc
      obtain ⟨_, _, h3⟩ := vchk_zero hc
      obtain ⟨_, _, hvar⟩ := namesB_pw h3
      exact ofS_len (putAll_ok h hvar)
theorem diffL_len (fr : TVars) : ∀ (l : List ByteArray) (vs : List Int), (diffL fr l vs).1.length ≤ l.length ∧ (diffL fr l vs).2.length = (diffL fr l vs).1.length
  | [], _ => ⟨Nat.le_refl _, rfl⟩
  | x :: r, vs => by
    have := diffL_len fr r vs.tail
    rw [diffL]
    split
    · exact ⟨by simp; omega, this.2⟩
    · simp only [List.length_cons]; omega
theorem diffS_len {fr to : TVars} (h : to.Names.length ≤ 200) : (diffS fr to).1.Names.length ≤ 200 ∧ (diffS fr to).1.Vals.length ≤ 200 := by
  unfold diffS
  have := diffL_len fr to.Names to.Vals
  repeat' split
  all_goals first | (simp; done) | (simp only; omega)
theorem okOne {name : ByteArray} {n : Int} (h : name.size ≤ big63) (hn : inR n) : OkV ⟨[name], [n]⟩ :=
  ⟨by simp [big63], by simp [big63], fun s hs => by rw [List.mem_singleton.1 hs]; exact h, fun s hs => by rw [List.mem_singleton.1 hs]; exact hn⟩
theorem ans_VarsPuts {v w x : TVars} {name : ByteArray} {n : Int} (hv : OkV v) (hw : OkV w) (hx : OkV x) (hs : name.size ≤ big63) (hn : inR n) : m_law09_VarsPuts v w x name n = some true := by
  obtain ⟨b1, h1, l1⟩ := light_ok hv
  obtain ⟨b2, h2, l2⟩ := light_ok hw
  obtain ⟨b3, h3, _⟩ := light_ok hx
  have hwk : m_law09_works = some true := rfl
  unfold m_law09_VarsPuts
  rw [h1, h2, h3]
  have ktrue : m_law09_VarsPuts_k1 v w x name n true = some true := by simp [m_law09_VarsPuts_k1, hwk, bnd_some]
  simp only [bnd_some, ktrue]
  cases b1 with
  | false => simp
  | true =>
    cases b2 with
    | false => simp
    | true =>
      cases b3 with
      | false => simp
      | true =>
        simp only [if_true]
        by_cases hsz : (60 : Int) < (name.size : Int)
        · simp [hsz, ktrue]
        · have hone := okOne hs hn
          have a1 : m_vars_Of [v, w, x] = _ := vars_Of (by simp) (by simp [hv, hw, hx])
          have a2 : m_ref09_Of [v, w, x] = _ := ref09_Of (by simp) (by simp [hv, hw, hx])
          have a3 : m_vars_Of [v, ⟨[name], [n]⟩] = _ := vars_Of (by simp) (by simp [hv, hone])
          have a4 : m_ref09_Of [v, ⟨[name], [n]⟩] = _ := ref09_Of (by simp) (by simp [hv, hone])
          have s1 := ofS_len (l := [v, w, x]) okO_nil
          have s2 := ofS_len (l := [v, ⟨[name], [n]⟩]) okO_nil
          have s3 := diffS_len (fr := v) (l2 rfl).n
          have hk2 : m_law09_VarsPuts_k2 v name false = some true := by
            unfold m_law09_VarsPuts_k2
            rw [ref09_Check hv, bnd_some, hwk]
            by_cases hc : vchk v = 0
            · obtain ⟨c1, _, _⟩ := vchk_zero hc
              simp [hc, vars_Get hc, ref09_Get c1 hv.len, bnd_some]
            · simp [hc, bnd_some]
          unfold m_law09_VarsPuts_k1 m_vars_Set m_ref09_One
          rw [a1, a2, a3, vars_Diff hv hw, ref09_Diff hv hw]
          simp only [hsz, decide_false, Bool.false_eq_true, if_false, bnd_some, a4, ne_eq, not_true_eq_false, ref09_refl s1.1 s1.2, ref09_refl s2.1 s2.2, ref09_refl s3.1 s3.2, if_true, Bool.not_true, hk2]
end Go.Proofs.Ytjhnlgelcfplaaa.R


/- Plain laws: VarsLast. -/
set_option maxRecDepth 100000
set_option linter.unusedVariables false
set_option linter.unusedSimpArgs false
noncomputable section
namespace Go.Proofs.Ytjhnlgelcfplaaa.R
open Go
theorem not_mem_of_lt {x : ByteArray} {r : List ByteArray} (h : ∀ y ∈ r, ltS x y = true) : x ∉ r := by
  intro hm
  have := h x hm
  rw [ltS_irr] at this
  cases this
/-- What a variable has when all of some were put. -/
theorem getV_putAll {s : ByteArray} : ∀ {ns : List ByteArray} {vs : List Int} {o : List ByteArray × List Int} {b : Nat}, OkO o b → (∀ x ∈ ns, varB x = true) → ns.Pairwise (fun a b => ltS a b = true) → ns.length = vs.length →
    getV (putAll ns vs o).1 (putAll ns vs o).2 s = (match getV ns vs s with | some n => some n | none => getV o.1 o.2 s)
  | [], vs, o, b, ho, _, _, _ => by simp [putAll, getV]
  | x :: r, [], o, b, _, _, _, hl => by simp at hl
  | x :: r, y :: vs, o, b, ho, hv, hp, hl => by
    have P := putL_ok (n := y) (hv x (by simp)) (p := none) ho.len ho.names rfl
    have ih := getV_putAll (s := s) (ns := r) (vs := vs) (ho.put (hv x (by simp)) y) (fun z hz => hv z (by simp [hz])) (List.pairwise_cons.1 hp).2 (by simpa using hl)
    have hx : x ∉ r := not_mem_of_lt (List.pairwise_cons.1 hp).1
    rw [putAll]
    simp only [List.headD_cons, List.tail_cons]
    rw [ih, P.get s, getV]
    by_cases hs : x = s
    · subst hs
      simp [getV_none hx]
    · have hs' : ¬ s = x := fun e => hs e.symm
      simp [hs, hs']
theorem getV_some_mem : ∀ {l : List ByteArray} {vs : List Int} {s : ByteArray} {n : Int}, getV l vs s = some n → s ∈ l
  | [], _, _, _, h => by simp [getV] at h
  | x :: r, vs, s, n, h => by
    rw [getV] at h
    split at h
    · rename_i e; subst e; simp
    · exact List.mem_cons_of_mem _ (getV_some_mem h)
theorem getV_mem_vals : ∀ {l : List ByteArray} {vs : List Int} {s : ByteArray} {n : Int}, getV l vs s = some n → n ∈ vs
  | [], _, _, _, h => by simp [getV] at h
  | x :: r, vs, s, n, h => by
    rw [getV] at h
    split at h
    · exact List.mem_of_mem_head? (by simpa using h)
    · exact List.mem_of_mem_tail (getV_mem_vals h)
theorem getV_of_mem : ∀ {l : List ByteArray} {vs : List Int} {s : ByteArray}, l.length = vs.length → s ∈ l → ∃ n, getV l vs s = some n
  | x :: r, y :: vs, s, hl, h => by
    rw [getV]
    by_cases e : x = s
    · exact ⟨y, by simp [e]⟩
    · rw [if_neg e]
      rcases List.mem_cons.1 h with h | h
      · exact absurd h.symm e
      · exact getV_of_mem (by simpa using hl) h
/-- Two rows that answer alike are one. -/
theorem getV_ext : ∀ {l l' : List ByteArray} {vs vs' : List Int}, l.length = vs.length → l'.length = vs'.length → l.Pairwise (fun a b => ltS a b = true) → l'.Pairwise (fun a b => ltS a b = true) → (∀ s, getV l vs s = getV l' vs' s) → l = l' ∧ vs = vs'
  | [], [], [], [], _, _, _, _, _ => ⟨rfl, rfl⟩
  | [], x :: r, vs, y :: vs', _, _, _, _, h => by
    have := h x
    simp [getV] at this
  | x :: r, [], y :: vs, vs', _, _, _, _, h => by
    have := h x
    simp [getV] at this
  | x :: r, x' :: r', y :: vs, y' :: vs', hl, hl', hp, hp', h => by
    have nx : x ∉ r := not_mem_of_lt (List.pairwise_cons.1 hp).1
    have nx' : x' ∉ r' := not_mem_of_lt (List.pairwise_cons.1 hp').1
    have hxx : x = x' := by
      rcases ltS_tri x x' with c | c | c
      · have h1 := h x
        have hne : ¬ x' = x := by rintro rfl; rw [ltS_irr] at c; cases c
        have hnm : x ∉ r' := fun hm => by
          have := ltS_trans c ((List.pairwise_cons.1 hp').1 x hm)
          rw [ltS_irr] at this
          cases this
        simp [getV, hne, getV_none hnm] at h1
      · exact c
      · have h1 := h x'
        have hne : ¬ x = x' := by rintro rfl; rw [ltS_irr] at c; cases c
        have hnm : x' ∉ r := fun hm => by
          have := ltS_trans c ((List.pairwise_cons.1 hp).1 x' hm)
          rw [ltS_irr] at this
          cases this
        simp [getV, hne, getV_none hnm] at h1
    subst hxx
    have hy : y = y' := by simpa [getV] using h x
    subst hy
    obtain ⟨e1, e2⟩ := getV_ext (l := r) (l' := r') (vs := vs) (vs' := vs') (by simpa using hl) (by simpa using hl') (List.pairwise_cons.1 hp).2 (List.pairwise_cons.1 hp').2 (fun s => by
      by_cases e : x = s
      · subst e; rw [getV_none nx, getV_none nx']
      · have := h s
        simpa [getV, e] using this)
    exact ⟨by rw [e1], by rw [e2]⟩
end Go.Proofs.Ytjhnlgelcfplaaa.R

/- Plain laws: VarsLast, the law. -/
set_option maxRecDepth 100000
set_option linter.unusedVariables false
set_option linter.unusedSimpArgs false
noncomputable section
namespace Go.Proofs.Ytjhnlgelcfplaaa.R
open Go
theorem putAll_vals : ∀ {ns : List ByteArray} {vs : List Int} {o : List ByteArray × List Int} {b : Nat}, OkO o b → (∀ x ∈ ns, varB x = true) → ns.length = vs.length → (∀ n ∈ vs, inR n) → (∀ n ∈ o.2, inR n) → ∀ n ∈ (putAll ns vs o).2, inR n
  | [], vs, o, b, _, _, _, _, ho => ho
  | x :: r, [], o, b, _, _, hl, _, _ => by simp at hl
  | x :: r, y :: vs, o, b, h, hv, hl, hn, ho => by
    have P := putL_ok (n := y) (hv x (by simp)) (p := none) h.len h.names rfl
    show ∀ n ∈ (putAll r vs (putL x y false o.1 o.2)).2, inR n
    refine putAll_vals (h.put (hv x (by simp)) y) (fun z hz => hv z (by simp [hz])) (by simpa using hl) (fun n hn' => hn n (by simp [hn'])) (fun n hn' => ?_)
    rcases P.vals n hn' with rfl | h
    · exact hn _ (by simp)
    · exact ho n h
/-- Variables that may be, as a row. -/
structure Good (o : List ByteArray × List Int) : Prop where
  len : o.1.length = o.2.length
  most : o.1.length ≤ 64
  names : namesB none o.1 = true
  vals : ∀ n ∈ o.2, inR n
theorem Good.okO {o : List ByteArray × List Int} (h : Good o) : OkO o 64 := ⟨h.len, h.most, h.names⟩
theorem Good.pw {o : List ByteArray × List Int} (h : Good o) : o.1.Pairwise (fun a b => ltS a b = true) := (namesB_pw h.names).2.1
theorem Good.var {o : List ByteArray × List Int} (h : Good o) : ∀ x ∈ o.1, varB x = true := (namesB_pw h.names).2.2
theorem Good.ok {o : List ByteArray × List Int} (h : Good o) : OkV ⟨o.1, o.2⟩ :=
  ⟨by have := h.most; show o.1.length ≤ _; unfold big63; omega, by have := h.most; have := h.len; show o.2.length ≤ _; unfold big63; omega, fun s hs => by
    have := varB_size (h.var s hs)
    unfold big63; omega, h.vals⟩
theorem Good.chk {o : List ByteArray × List Int} (h : Good o) : vchk ⟨o.1, o.2⟩ = 0 := by
  have := h.most
  unfold vchk
  simp only
  rw [if_neg (by simpa using h.len), if_neg (by omega), if_pos h.names]
theorem good_of {v : TVars} (hv : OkV v) (hc : vchk v = 0) : Good (v.Names, v.Vals) := by
  obtain ⟨h1, h2, h3⟩ := vchk_zero hc
  exact ⟨h1, h2, h3, hv.vals⟩
/-- Two rows put together, where these are not too many. -/
theorem of_good {a c : List ByteArray × List Int} (ha : Good a) (hc : Good c) : ∃ o, OkO o 128 ∧ (∀ n ∈ o.2, inR n) ∧ (∀ s, getV o.1 o.2 s = (match getV c.1 c.2 s with | some n => some n | none => getV a.1 a.2 s)) ∧ ofS [⟨a.1, a.2⟩, ⟨c.1, c.2⟩] ([], []) = if 64 < o.1.length then (⟨[], []⟩, 6) else (⟨o.1, o.2⟩, 0) := by
  have h1 := putAll_ok (ns := a.1) (vs := a.2) okO_nil ha.var
  have h2 := putAll_ok (ns := c.1) (vs := c.2) h1 hc.var
  refine ⟨putAll c.1 c.2 (putAll a.1 a.2 ([], [])), ⟨h2.len, by have := h2.most; have := ha.most; have := hc.most; omega, h2.names⟩, ?_, fun s => ?_, ?_⟩
  · exact putAll_vals h1 hc.var hc.len hc.vals (putAll_vals okO_nil ha.var ha.len ha.vals (by simp))
  · rw [getV_putAll h1 hc.var hc.pw hc.len, getV_putAll okO_nil ha.var ha.pw ha.len]
    cases getV c.1 c.2 s with
    | some n => rfl
    | none => cases getV a.1 a.2 s <;> rfl
  · rw [ofS, if_neg (by simpa using ha.chk), ofS, if_neg (by simpa using hc.chk), ofS]
theorem diffL_mem (fr : TVars) : ∀ {l : List ByteArray} {vs : List Int}, (∀ x ∈ (diffL fr l vs).1, x ∈ l)
  | [], _, x, hx => by simp [diffL] at hx
  | y :: r, vs, x, hx => by
    rw [diffL] at hx
    split at hx
    · exact List.mem_cons_of_mem _ (diffL_mem fr x hx)
    · rcases List.mem_cons.1 hx with rfl | hx
      · simp
      · exact List.mem_cons_of_mem _ (diffL_mem fr x hx)
theorem diffL_vals (fr : TVars) : ∀ {l : List ByteArray} {vs : List Int}, l.length = vs.length → (∀ n ∈ (diffL fr l vs).2, n ∈ vs)
  | [], _, _, n, hx => by simp [diffL] at hx
  | y :: r, [], hl, _, _ => by simp at hl
  | y :: r, z :: vs, hl, n, hx => by
    rw [diffL] at hx
    split at hx
    · exact List.mem_cons_of_mem _ (diffL_vals fr (by simpa using hl) n hx)
    · rcases List.mem_cons.1 hx with rfl | hx
      · simp
      · exact List.mem_cons_of_mem _ (diffL_vals fr (by simpa using hl) n hx)
theorem namesB_weak : ∀ {l : List ByteArray} {p q : Option ByteArray}, namesB p l = true → (∀ x ∈ l, afterB q x = true) → namesB q l = true
  | [], _, _, _, _ => rfl
  | x :: r, p, q, h, hq => by
    simp only [namesB, Bool.and_eq_true] at h ⊢
    exact ⟨h.1, hq x (by simp), h.2.2⟩
theorem diffL_names (fr : TVars) : ∀ {l : List ByteArray} {vs : List Int} {p : Option ByteArray}, namesB p l = true → namesB p (diffL fr l vs).1 = true
  | [], _, _, _ => rfl
  | x :: r, vs, p, h => by
    have h' := h
    simp only [namesB, Bool.and_eq_true] at h
    have ih := diffL_names fr (vs := vs.tail) h.2.2
    rw [diffL]
    split
    · refine namesB_weak ih fun y hy => ?_
      cases p with
      | none => rfl
      | some q => exact (namesB_pw h').1 q rfl y (List.mem_cons_of_mem _ (diffL_mem fr y hy))
    · simp only [namesB, Bool.and_eq_true]
      exact ⟨h.1, h.2.1, ih⟩
theorem diffL_cons (fr : TVars) (x : ByteArray) (r : List ByteArray) (y : Int) (vs : List Int) : diffL fr (x :: r) (y :: vs) = if getV fr.Names fr.Vals x = some y then diffL fr r vs else (x :: (diffL fr r vs).1, y :: (diffL fr r vs).2) := rfl
theorem getV_diffL (fr : TVars) {s : ByteArray} : ∀ {l : List ByteArray} {vs : List Int}, l.length = vs.length → l.Pairwise (fun a b => ltS a b = true) → getV (diffL fr l vs).1 (diffL fr l vs).2 s = if getV fr.Names fr.Vals s = getV l vs s then none else getV l vs s
  | [], [], _, _ => by
    show none = if getV fr.Names fr.Vals s = none then none else none
    generalize getV fr.Names fr.Vals s = q
    cases q <;> rfl
  | x :: r, y :: vs, hl, hp => by
    have ih := getV_diffL fr (s := s) (l := r) (vs := vs) (by simpa using hl) (List.pairwise_cons.1 hp).2
    have nx : x ∉ r := not_mem_of_lt (List.pairwise_cons.1 hp).1
    rw [diffL_cons]
    by_cases hs : x = s
    · subst hs
      have hn : getV (diffL fr r vs).1 (diffL fr r vs).2 x = none := getV_none fun h => nx (diffL_mem fr x h)
      by_cases h : getV fr.Names fr.Vals x = some y
      · rw [if_pos h, hn]
        simp [getV, h]
      · rw [if_neg h]
        simp [getV, h]
    · by_cases h : getV fr.Names fr.Vals x = some y
      · rw [if_pos h, ih]
        simp [getV, hs]
      · rw [if_neg h]
        simp only [getV, hs, if_false, List.tail_cons]
        exact ih
end Go.Proofs.Ytjhnlgelcfplaaa.R

/- Plain laws: VarsLast holds. -/
set_option maxRecDepth 100000
set_option linter.unusedVariables false
set_option linter.unusedSimpArgs false
noncomputable section
namespace Go.Proofs.Ytjhnlgelcfplaaa.R
open Go
theorem good_o {o : List ByteArray × List Int} (h : OkO o 128) (hn : ∀ n ∈ o.2, inR n) (h64 : ¬ 64 < o.1.length) : Good o := ⟨h.len, by omega, h.names, hn⟩
theorem good_ext {o o' : List ByteArray × List Int} {b b' : Nat} (h : OkO o b) (h' : OkO o' b') (he : ∀ s, getV o.1 o.2 s = getV o'.1 o'.2 s) : o = o' := by
  obtain ⟨e1, e2⟩ := getV_ext h.len h'.len (namesB_pw h.names).2.1 (namesB_pw h'.names).2.1 he
  exact Prod.ext e1 e2
theorem good_diff {fr : TVars} {a : List ByteArray × List Int} (ha : Good a) : Good (diffL fr a.1 a.2) := by
  have hl := diffL_len fr a.1 a.2
  have := ha.most
  exact ⟨hl.2.symm, by omega, diffL_names fr ha.names, fun n hn => ha.vals n (diffL_vals fr ha.len n hn)⟩
theorem ans_VarsLast {v w : TVars} {name : ByteArray} (hv : OkV v) (hw : OkV w) : m_law09_VarsLast v w name = some true := by
  obtain ⟨b1, h1, l1⟩ := light_ok hv
  obtain ⟨b2, h2, l2⟩ := light_ok hw
  have hwk : m_law09_works = some true := rfl
  have ktrue : m_law09_VarsLast_k1 v w name true = some true := by simp [m_law09_VarsLast_k1, hwk, bnd_some]
  unfold m_law09_VarsLast
  rw [h1, h2]
  simp only [bnd_some, ktrue]
  cases b1 with
  | false => simp
  | true =>
    cases b2 with
    | false => simp
    | true =>
      simp only [if_true]
      by_cases hsz : (60 : Int) < (name.size : Int)
      · simp [hsz, ktrue]
      · have a1 : m_vars_Of [v, w] = some (ofS [v, w] ([], [])) := vars_Of (by simp) (by simp [hv, hw])
        have hd : decide ((60 : Int) < (name.size : Int)) = false := by simp [hsz]
        rw [hd]
        unfold m_law09_VarsLast_k1
        rw [a1, bnd_some, if_neg (by simp)]
        by_cases hvc : vchk v = 0
        · by_cases hwc : vchk w = 0
          · have gv := good_of hv hvc
            have gw := good_of hw hwc
            obtain ⟨o, o1, o2, o3, o4⟩ := of_good gv gw
            have o4 : ofS [v, w] ([], []) = _ := o4
            rw [o4]
            by_cases h64 : 64 < o.1.length
            · simp [h64, hwk, bnd_some]
            · have go := good_o o1 o2 h64
              rw [if_neg h64]
              have a2 : m_vars_Of [⟨o.1, o.2⟩, w] = some (ofS [⟨o.1, o.2⟩, w] ([], [])) := vars_Of (by simp) (by simp [go.ok, hw])
              obtain ⟨p, p1, p2, p3, p4⟩ := of_good go gw
              have p4 : ofS [⟨o.1, o.2⟩, w] ([], []) = _ := p4
              have epo : p = o := good_ext p1 o1 fun s => by
                rw [p3 s, o3 s]
                cases getV w.Names w.Vals s <;> rfl
              subst epo
              rw [if_neg h64] at p4
              have gd := good_diff (fr := v) go
              obtain ⟨q, q1, q2, q3, q4⟩ := of_good gv gd
              have q4 : ofS [v, ⟨(diffL v p.1 p.2).1, (diffL v p.1 p.2).2⟩] ([], []) = _ := q4
              have eqp : q = p := good_ext q1 p1 fun s => by
                rw [q3 s, getV_diffL v go.len go.pw]
                by_cases hg : getV v.Names v.Vals s = getV p.1 p.2 s
                · rw [if_pos hg]; exact hg
                · rw [if_neg hg]
                  cases hq : getV p.1 p.2 s with
                  | some n => rfl
                  | none =>
                    exfalso
                    rw [o3 s] at hq
                    cases hww : getV w.Names w.Vals s with
                    | some n => rw [hww] at hq; cases hq
                    | none =>
                      rw [hww] at hq
                      apply hg
                      rw [o3 s, hww]
              subst eqp
              rw [if_neg h64] at q4
              have a3 : m_vars_Of [v, ⟨(diffL v q.1 q.2).1, (diffL v q.1 q.2).2⟩] = some (ofS [v, ⟨(diffL v q.1 q.2).1, (diffL v q.1 q.2).2⟩] ([], [])) := vars_Of (by simp) (by simp [hv, gd.ok])
              have hall : allIn ⟨q.1, q.2⟩ v.Names = true := by
                unfold allIn
                rw [List.all_eq_true]
                intro x hx
                obtain ⟨n, hn⟩ := getV_of_mem gv.len hx
                show (getV q.1 q.2 x).isSome = true
                rw [o3 x]
                cases getV w.Names w.Vals x with
                | some n => rfl
                | none => show (getV v.Names v.Vals x).isSome = true; rw [hn]; rfl
              have hdiff : diffS v ⟨q.1, q.2⟩ = (⟨(diffL v q.1 q.2).1, (diffL v q.1 q.2).2⟩, 0) := by
                unfold diffS
                rw [if_neg (by simpa using hvc), if_neg (by simpa using go.chk), if_pos hall]
              have hl1 : q.1.length ≤ 200 := by omega
              have hl2 : q.2.length ≤ 200 := by have := go.len; omega
              have hsame : m_ref09_Same ⟨q.1, q.2⟩ ⟨q.1, q.2⟩ = some true := ref09_refl hl1 hl2
              have hk4 : m_law09_VarsLast_k4 v (⟨q.1, q.2⟩, 0) false = some true := by
                unfold m_law09_VarsLast_k4
                simp only [Bool.false_eq_true, if_false, vars_Diff hv go.ok, hdiff, bnd_some, a3, q4, decide_true, if_true, hsame, hwk]
              have e1 : m_vars_Get ⟨q.1, q.2⟩ name = some (getR (getV q.1 q.2 name)) := vars_Get go.chk
              have hk2 : m_law09_VarsLast_k2 v w name (⟨q.1, q.2⟩, 0) false = some true := by
                unfold m_law09_VarsLast_k2 m_law09_VarsLast_k3
                rw [e1, vars_Get hwc, vars_Get hvc]
                simp only [Bool.false_eq_true, if_false, bnd_some]
                rw [o3 name]
                show (if (getR (getV w.Names w.Vals name)).2 = true then _ else _) = _
                cases hg : getV w.Names w.Vals name with
                | some n => simp [getR, hk4]
                | none => simp [getR, hk4]
              simp only [ne_eq, not_true_eq_false, decide_false, Bool.false_eq_true, if_false, a2, bnd_some, p4, hsame, Bool.not_true, hk2]
          · have : ofS [v, w] ([], []) = (⟨[], []⟩, vchk w) := by
              rw [ofS, if_neg (by simpa using hvc), ofS, if_pos hwc]
            rw [this]
            simp [hwc, hwk, bnd_some]
        · have : ofS [v, w] ([], []) = (⟨[], []⟩, vchk v) := by
            rw [ofS, if_pos hvc]
          rw [this]
          simp [hvc, hwk, bnd_some]
end Go.Proofs.Ytjhnlgelcfplaaa.R

