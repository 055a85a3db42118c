/- Plain laws: numbers, elements, lists compared. -/
import Derived.Test.YtefjblgmnoheiaaMF
import Derived.IntWalk
set_option maxRecDepth 100000
set_option linter.unusedVariables false
set_option linter.unusedSimpArgs false
noncomputable section
namespace Go.Proofs.Ytefjblgmnoheiaa.R
open Go
/-! ### Ranges -/
def inR (n : Int) : Prop := -9223372036854775808 ≤ n ∧ n ≤ 9223372036854775807
instance (n : Int) : Decidable (inR n) := inferInstanceAs (Decidable (_ ∧ _))
theorem wrap_in {n : Int} (h : inR n) : IntKind.i64.wrap n = n := IntWalk.i64_in n h
theorem u64_in {n : Int} (h0 : 0 ≤ n) (h1 : n < 18446744073709551616) : IntKind.u64.wrap n = n := by
  simp only [IntKind.wrap, IntKind.signed, IntKind.bits]
  simp
  omega
theorem tdiv_nn {a b : Int} (ha : 0 ≤ a) : a.tdiv b = a / b := Int.tdiv_eq_ediv_of_nonneg ha
theorem wrap_succ {k : Nat} (h : k < 9223372036854775807) : IntKind.i64.wrap ((k : Int) + 1) = ((k + 1 : Nat) : Int) := by
  rw [wrap_in (by unfold inR; omega)]
  rfl
theorem wrap_succ' {i : Int} (h0 : 0 ≤ i) (h : i < 9223372036854775807) : IntKind.i64.wrap (i + 1) = i + 1 := wrap_in (by unfold inR; omega)
/-! ### Elements -/
theorem nthI_nat {α : Type} (l : List α) (k : Nat) : nthI l (k : Int) = l[k]? := by simp [nthI]
theorem nthI_lt {α : Type} {l : List α} {k : Nat} (h : k < l.length) : nthI l (k : Int) = some l[k] := by rw [nthI_nat, List.getElem?_eq_getElem h]
theorem nthI_zero {α : Type} (l : List α) : nthI l 0 = l[0]? := by simp [nthI]
theorem bytesI_len (s : ByteArray) : (bytesI s).length = s.size := by simp [bytesI]
theorem nthS_eq (s : ByteArray) (i : Int) : nthS s i = nthI (bytesI s) i := by
  unfold nthS nthI bytesI
  split
  · rw [List.getElem?_map]
  · rfl
theorem maxLen_eq : maxLen = 9223372036854775807 := rfl
theorem capB_small {n : Nat} (h : n ≤ 549755813888) : capB n = true := by
  unfold capB limN
  simpa using h
/-! ### Two lists compared -/
def all2 {α : Type} (p : α → α → Bool) : List α → List α → Bool
  | x :: a, y :: b => p x y && all2 p a b
  | _, _ => true
def same2 {α : Type} (p : α → α → Bool) (a b : List α) : Bool := decide (a.length = b.length) && all2 p a b
theorem all2_loop {α : Type} {p : α → α → Bool} {a b : List α} (hab : a.length = b.length) (hl : a.length ≤ maxLen) {f : Nat → Int → Option Bool}
    (hf : ∀ n (k : Nat), f (n + 1) (k : Int) = if k < a.length then bnd (nthI a (k : Int)) fun x => bnd (nthI b (k : Int)) fun y => if p x y = true then f n (IntKind.i64.wrap ((k : Int) + 1)) else some false else some true) :
    ∀ (m k n : Nat), a.length - k = m → k ≤ a.length → m < n → f n (k : Int) = some (all2 p (a.drop k) (b.drop k)) := by
  intro m
  induction m with
  | zero =>
    intro k n hm hk hn
    obtain ⟨n, rfl⟩ : ∃ n', n = n' + 1 := ⟨n - 1, by omega⟩
    rw [hf, if_neg (by omega), List.drop_eq_nil_of_le (as := a) (by omega)]
    rfl
  | succ m ih =>
    intro k n hm hk hn
    obtain ⟨n, rfl⟩ : ∃ n', n = n' + 1 := ⟨n - 1, by omega⟩
    have h1 : k < a.length := by omega
    have h2 : k < b.length := by omega
    rw [maxLen_eq] at hl
    rw [hf, if_pos h1, nthI_lt h1, nthI_lt h2, bnd_some, bnd_some, wrap_succ (by omega), ih (k + 1) n (by omega) (by omega) (by omega), List.drop_eq_getElem_cons h1, List.drop_eq_getElem_cons h2]
    cases h : p a[k] b[k] <;> simp [all2, h]
theorem all2_loop0 {α : Type} {p : α → α → Bool} {a b : List α} (hab : a.length = b.length) (hl : a.length ≤ maxLen) {f : Nat → Int → Option Bool}
    (hf : ∀ n (k : Nat), f (n + 1) (k : Int) = if k < a.length then bnd (nthI a (k : Int)) fun x => bnd (nthI b (k : Int)) fun y => if p x y = true then f n (IntKind.i64.wrap ((k : Int) + 1)) else some false else some true) :
    f ((((a.length : Int)) - ((0 : Int))).toNat + 1) (0 : Int) = some (all2 p a b) := by
  have := all2_loop hab hl hf _ 0 ((((a.length : Int)) - ((0 : Int))).toNat + 1) rfl (Nat.zero_le _) (by omega)
  simpa using this
theorem all2_iff {α : Type} {p : α → α → Bool} (h : ∀ x y, p x y = true ↔ x = y) : ∀ (a b : List α), a.length = b.length → (all2 p a b = true ↔ a = b)
  | [], [], _ => by simp [all2]
  | x :: a, y :: b, hl => by
    have := all2_iff h a b (by simpa using hl)
    simp [all2, h, this]
theorem same2_iff {α : Type} {p : α → α → Bool} (h : ∀ x y, p x y = true ↔ x = y) (a b : List α) : same2 p a b = true ↔ a = b := by
  unfold same2
  by_cases hl : a.length = b.length
  · simp [hl, all2_iff h a b hl]
  · simp [hl]
    rintro rfl
    exact hl rfl
end Go.Proofs.Ytefjblgmnoheiaa.R

/- Plain laws: names, variables checked. -/
set_option maxRecDepth 100000
set_option linter.unusedVariables false
set_option linter.unusedSimpArgs false
noncomputable section
namespace Go.Proofs.Ytefjblgmnoheiaa.R
open Go
def big63 : Nat := 140737488351232
/-! ### Names -/
def letB (c : Int) : Bool := decide (97 ≤ c) && decide (c ≤ 122)
def digB (c : Int) : Bool := decide (48 ≤ c) && decide (c ≤ 57)
def nameL (l : List Int) : Bool := l.all (fun c => letB c || digB c) && ((match l with | [] => false | c :: _ => letB c) && decide (l.length ≤ 32))
def nameB (s : ByteArray) : Bool := nameL (bytesI s)
def firstB : List Int → Bool
  | [] => true
  | c :: _ => letB c
theorem firstB_get : ∀ (l : List Int) (h : 0 < l.length), firstB l = letB l[0]
  | [], h => by simp at h
  | c :: r, _ => rfl
theorem ref02_loop (s : ByteArray) (hs : s.size ≤ big63) : ∀ (m k n : Nat), (bytesI s).length - k = m → k ≤ (bytesI s).length → m < n → m_ref02_Name_l1 s n (k : Int) = some (((bytesI s).drop k).all (fun c => letB c || digB c)) := by
  intro m
  induction m with
  | zero =>
    intro k n hm hk hn
    obtain ⟨n, rfl⟩ : ∃ n', n = n' + 1 := ⟨n - 1, by omega⟩
    have hk' : ¬ ((k : Int) < (s.size : Int)) := by rw [← bytesI_len]; omega
    rw [m_ref02_Name_l1, m_ref02_Name_l1_B]
    simp only [hk', decide_false, Bool.false_eq_true, if_false]
    rw [List.drop_eq_nil_of_le (by omega)]
    rfl
  | succ m ih =>
    intro k n hm hk hn
    obtain ⟨n, rfl⟩ : ∃ n', n = n' + 1 := ⟨n - 1, by omega⟩
    have hlt : k < (bytesI s).length := by omega
    have hk' : ((k : Int) < (s.size : Int)) := by rw [← bytesI_len]; omega
    have hc : nthS s (k : Int) = some (bytesI s)[k] := by rw [nthS_eq]; exact nthI_lt hlt
    have hw : IntKind.i64.wrap ((k : Int) + 1) = ((k + 1 : Nat) : Int) := wrap_succ (by have := bytesI_len s; unfold big63 at hs; omega)
    have hih : m_ref02_Name_l1 s n ((k : Int) + 1) = _ := ih (k + 1) n (by omega) (by omega) (by omega)
    rw [m_ref02_Name_l1, m_ref02_Name_l1_B, List.drop_eq_getElem_cons hlt, List.all_cons]
    simp only [hk', decide_true, if_true, hc, bnd_some]
    generalize (bytesI s)[k] = c at *
    have k3 : ∀ d e : Bool, m_ref02_Name_k3 (m_ref02_Name_l1 s n) (k : Int) d e = some ((d || e) && ((bytesI s).drop (k + 1)).all (fun c => letB c || digB c)) := by
      intro d e
      cases d <;> cases e <;> simp [m_ref02_Name_k3, m_ref02_Name_k4, hw, hih]
    have k2 : ∀ d : Bool, m_ref02_Name_k2 (m_ref02_Name_l1 s n) s (k : Int) d = some ((d || letB c) && ((bytesI s).drop (k + 1)).all (fun c => letB c || digB c)) := by
      intro d
      unfold m_ref02_Name_k2
      rw [hc, bnd_some]
      by_cases h : 97 ≤ c
      · simp only [h, decide_true, if_true, bnd_some, k3, letB, Bool.true_and]
      · simp only [h, decide_false, Bool.false_eq_true, if_false, k3, letB, Bool.false_and]
    by_cases h : 48 ≤ c
    · simp only [h, decide_true, if_true, k2, digB, Bool.true_and]
      cases decide (c ≤ 57) <;> cases letB c <;> rfl
    · simp only [h, decide_false, Bool.false_eq_true, if_false, k2, digB, Bool.false_and]
      cases letB c <;> rfl
theorem ref02_name {s : ByteArray} (hs : s.size ≤ big63) : m_ref02_Name s = some (nameB s) := by
  have hlen := bytesI_len s
  unfold m_ref02_Name nameB nameL
  by_cases h0 : s.size = 0
  · have : bytesI s = [] := List.eq_nil_of_length_eq_zero (by omega)
    simp [h0, m_ref02_Name_k1, this]
  · have h0' : ¬ ((s.size : Int) = 0) := by omega
    by_cases h1 : 32 < s.size
    · have h1' : (32 : Int) < (s.size : Int) := by omega
      have : ¬ (bytesI s).length ≤ 32 := by omega
      simp [h0', h1', m_ref02_Name_k1, this]
    · have h1' : ¬ ((32 : Int) < (s.size : Int)) := by omega
      have h32 : (bytesI s).length ≤ 32 := by omega
      have hl := ref02_loop s hs _ 0 ((((s.size : Int)) - 0).toNat + 1) rfl (Nat.zero_le _) (by omega)
      have hl : m_ref02_Name_l1 s ((((s.size : Int)) - 0).toNat + 1) 0 = _ := hl
      cases hb : bytesI s with
      | nil => rw [hb] at hlen; simp at hlen; omega
      | cons c r =>
        have hc : nthS s 0 = some c := by rw [nthS_eq, nthI_zero, hb]; rfl
        simp only [h0', h1', decide_false, Bool.false_eq_true, if_false, hc, bnd_some]
        rw [hb] at hl h32
        simp only [List.drop_zero] at hl
        unfold m_ref02_Name_k1
        by_cases h97 : c < 97
        · have : letB c = false := by unfold letB; simp; omega
          simp [h97, this]
        · simp only [h97, decide_false, Bool.false_eq_true, if_false, hl]
          have hd : letB c = (letB c || digB c) := by
            unfold letB digB
            by_cases h5 : c ≤ 57
            · omega
            · simp [h5]
          simp only [h32, decide_true, Bool.and_true, List.all_cons]
          cases hx : letB c with
          | true => simp
          | false =>
            rw [hx] at hd
            simp [← hd]
theorem pack_loop (s : ByteArray) (hs : s.size ≤ big63) : ∀ (m k n : Nat), (bytesI s).length - k = m → k ≤ (bytesI s).length → m < n →
    m_pack_Name_l1 s n (k : Int) = some (((bytesI s).drop k).all (fun c => letB c || digB c) && ((decide (k ≠ 0) || firstB (bytesI s)) && (decide (1 ≤ s.size) && decide (s.size ≤ 32)))) := by
  intro m
  induction m with
  | zero =>
    intro k n hm hk hn
    obtain ⟨n, rfl⟩ : ∃ n', n = n' + 1 := ⟨n - 1, by omega⟩
    have hk' : ¬ ((k : Int) < (((bytesI s).length : Nat) : Int)) := by omega
    rw [m_pack_Name_l1, m_pack_Name_l1_B]
    simp only [hk', decide_false, Bool.false_eq_true, if_false, m_pack_Name_k3]
    rw [List.drop_eq_nil_of_le (by omega)]
    have e1 : decide ((1 : Int) ≤ (s.size : Int)) = decide (1 ≤ s.size) := by congr 1; apply propext; omega
    have e2 : decide ((s.size : Int) ≤ 32) = decide (s.size ≤ 32) := by congr 1; apply propext; omega
    rw [e1, e2]
    by_cases h0 : k = 0
    · subst h0
      have hz : bytesI s = [] := List.eq_nil_of_length_eq_zero (by omega)
      have hz' : s.size = 0 := by rw [← bytesI_len, hz]; rfl
      simp [hz, hz', firstB]
    · simp [h0]
      by_cases h1 : 1 ≤ s.size <;> simp [h1]
  | succ m ih =>
    intro k n hm hk hn
    obtain ⟨n, rfl⟩ : ∃ n', n = n' + 1 := ⟨n - 1, by omega⟩
    have hlt : k < (bytesI s).length := by omega
    have hk' : ((k : Int) < (((bytesI s).length : Nat) : Int)) := by omega
    have hw : IntKind.i64.wrap ((k : Int) + 1) = ((k + 1 : Nat) : Int) := wrap_succ (by have := bytesI_len s; unfold big63 at hs; omega)
    have hih : m_pack_Name_l1 s n ((k : Int) + 1) = _ := ih (k + 1) n (by omega) (by omega) (by omega)
    simp only [ne_eq, Nat.add_eq_zero_iff, Nat.one_ne_zero, and_false, not_false_eq_true, decide_true, Bool.true_or, Bool.true_and] at hih
    have hnth : nthI (bytesI s) (k : Int) = some (bytesI s)[k] := nthI_lt hlt
    rw [m_pack_Name_l1, m_pack_Name_l1_B, List.drop_eq_getElem_cons hlt, List.all_cons]
    simp only [hk', decide_true, if_true, hnth, bnd_some]
    have hfirst : (decide (k ≠ 0) || firstB (bytesI s)) = (decide (k ≠ 0) || letB (bytesI s)[k]) := by
      by_cases h0 : k = 0
      · subst h0
        rw [firstB_get _ hlt]
      · simp [h0]
    rw [hfirst]
    generalize (bytesI s)[k] = c at *
    have k2 : ∀ b : Bool, m_pack_Name_k2 (m_pack_Name_l1 s n) (k : Int) b = some (!b && (((bytesI s).drop (k + 1)).all (fun c => letB c || digB c) && (decide (1 ≤ s.size) && decide (s.size ≤ 32)))) := by
      intro b
      cases b <;> simp [m_pack_Name_k2, hw, hih]
    have hk0 : decide ((k : Int) = 0) = !decide (k ≠ 0) := by
      by_cases h0 : k = 0 <;> simp [h0]
    have k1 : ∀ b : Bool, m_pack_Name_k1 (m_pack_Name_l1 s n) (k : Int) c b = some ((b || (decide (k ≠ 0) && digB c)) && (((bytesI s).drop (k + 1)).all (fun c => letB c || digB c) && (decide (1 ≤ s.size) && decide (s.size ≤ 32)))) := by
      intro b
      unfold m_pack_Name_k1
      rw [hk0]
      simp only [k2]
      cases b
      · by_cases h0 : k = 0
        · simp [h0]
        · by_cases h1 : c < 48
          · have : digB c = false := by unfold digB; simp; omega
            simp [h0, h1, this]
          · have : digB c = !decide (57 < c) := by
              unfold digB
              by_cases h2 : c ≤ 57
              · have : ¬ 57 < c := by omega
                simp [h2, this]; omega
              · have : 57 < c := by omega
                simp [h2, this]
            simp [h0, h1, this]
      · simp
    by_cases h : 97 ≤ c
    · simp only [h, decide_true, if_true, k1]
      have : letB c = decide (c ≤ 122) := by simp [letB, h]
      rw [this]
      cases decide (c ≤ 122) <;> cases digB c <;> cases decide (k ≠ 0) <;> simp
    · simp only [h, decide_false, Bool.false_eq_true, if_false, k1]
      have : letB c = false := by simp [letB, h]
      rw [this]
      cases digB c <;> cases decide (k ≠ 0) <;> simp
theorem pack_name {s : ByteArray} (hs : s.size ≤ big63) : m_pack_Name s = some (nameB s) := by
  have hlen := bytesI_len s
  unfold m_pack_Name nameB nameL
  have hl := pack_loop s hs _ 0 ((((((bytesI s).length : Nat) : Int)) - 0).toNat + 1) rfl (Nat.zero_le _) (by omega)
  have hl : m_pack_Name_l1 s ((((((bytesI s).length : Nat) : Int)) - 0).toNat + 1) 0 = _ := hl
  rw [hl]
  cases hb : bytesI s with
  | nil =>
    have : s.size = 0 := by rw [← hlen, hb]; rfl
    simp [this]
  | cons c r =>
    have h1 : 1 ≤ s.size := by rw [← hlen, hb]; simp
    have h2 : s.size = (c :: r).length := by rw [← hlen, hb]
    have h3 : 1 ≤ (c :: r).length := by simp
    simp only [h1, h3, decide_true, Bool.true_and, h2, List.drop_zero, ne_eq, not_true_eq_false, decide_false, Bool.false_or, firstB]
def yesS : ByteArray := ⟨#[121, 101, 115]⟩
def noS : ByteArray := ⟨#[110, 111]⟩
def varB (s : ByteArray) : Bool := nameB s && (!eqS s yesS && !eqS s noS)
/-! ### The order of texts -/
/-! ### 9.1 -/
structure OkV (v : TVars) : Prop where
  len : v.Names.length ≤ big63
  lenV : v.Vals.length ≤ big63
  names : ∀ s ∈ v.Names, s.size ≤ big63
  vals : ∀ n ∈ v.Vals, inR n
def afterB : Option ByteArray → ByteArray → Bool
  | none, _ => true
  | some q, x => ltS q x
/-- Names that may be, rising, behind one. -/
def namesB : Option ByteArray → List ByteArray → Bool
  | _, [] => true
  | p, x :: r => varB x && (afterB p x && namesB (some x) r)
def vchk (v : TVars) : Int := if v.Names.length ≠ v.Vals.length then 1 else if 64 < v.Names.length then 6 else if namesB none v.Names = true then 0 else 1
def prevO (l : List ByteArray) (k : Nat) : Option ByteArray := if k = 0 then none else l[k - 1]?
theorem prevO_succ {l : List ByteArray} {k : Nat} (h : k < l.length) : prevO l (k + 1) = some l[k] := by
  unfold prevO
  rw [if_neg (by omega), Nat.add_sub_cancel, List.getElem?_eq_getElem h]
theorem ref09_chk_loop {v : TVars} (hv : OkV v) : ∀ (m k n : Nat), v.Names.length - k = m → k ≤ v.Names.length → m < n →
    m_ref09_Check_l1 v n (k : Int) = some (if namesB (prevO v.Names k) (v.Names.drop k) = true then 0 else 1) := by
  intro m
  induction m with
  | zero =>
    intro k n hm hk hn
    obtain ⟨n, rfl⟩ : ∃ n', n = n' + 1 := ⟨n - 1, by omega⟩
    have hk' : ¬ ((k : Int) < (v.Names.length : Int)) := by omega
    rw [m_ref09_Check_l1, m_ref09_Check_l1_B, List.drop_eq_nil_of_le (by omega)]
    simp [hk', namesB]
  | succ m ih =>
    intro k n hm hk hn
    obtain ⟨n, rfl⟩ : ∃ n', n = n' + 1 := ⟨n - 1, by omega⟩
    have hlt : k < v.Names.length := by omega
    have hk' : ((k : Int) < (v.Names.length : Int)) := by omega
    have hw : IntKind.i64.wrap ((k : Int) + 1) = (k : Int) + 1 := wrap_succ' (by omega) (by have := hv.len; unfold big63 at this; omega)
    have hih : m_ref09_Check_l1 v n ((k : Int) + 1) = _ := ih (k + 1) n (by omega) (by omega) (by omega)
    rw [prevO_succ hlt] at hih
    rw [m_ref09_Check_l1, m_ref09_Check_l1_B, List.drop_eq_getElem_cons hlt]
    simp only [hk', decide_true, if_true, nthI_lt hlt, bnd_some, ref02_name (hv.names _ (List.getElem_mem hlt)), namesB]
    have k1 : ∀ b : Bool, m_ref09_Check_k1 (m_ref09_Check_l1 v n) (k : Int) b = some (if (!b && namesB (some v.Names[k]) (v.Names.drop (k + 1))) = true then 0 else 1) := by
      intro b
      unfold m_ref09_Check_k1
      rw [hw, hih]
      cases b <;> simp
    have hp : (if decide ((0 : Int) < (k : Int)) = true then bnd (nthI v.Names (IntKind.i64.wrap ((k : Int) - 1))) fun e_1 => m_ref09_Check_k1 (m_ref09_Check_l1 v n) (k : Int) (!(ltS e_1 v.Names[k])) else m_ref09_Check_k1 (m_ref09_Check_l1 v n) (k : Int) false) = some (if (afterB (prevO v.Names k) v.Names[k] && namesB (some v.Names[k]) (v.Names.drop (k + 1))) = true then 0 else 1) := by
      by_cases h0 : k = 0
      · subst h0
        have hk1 := k1 false
        rw [show (((0 : Nat) : Int)) = 0 from rfl] at hk1 ⊢
        rw [show decide ((0 : Int) < 0) = false from rfl, if_neg (by decide), hk1]
        rfl
      · have e1 : (0 : Int) < (k : Int) := by omega
        have e2 : IntKind.i64.wrap ((k : Int) - 1) = ((k - 1 : Nat) : Int) := by
          rw [wrap_in (by have := hv.len; unfold inR; unfold big63 at this; omega)]
          omega
        have e3 : nthI v.Names ((k - 1 : Nat) : Int) = some v.Names[k - 1] := nthI_lt (by omega)
        have e4 : prevO v.Names k = some v.Names[k - 1] := by
          unfold prevO
          rw [if_neg h0, List.getElem?_eq_getElem (by omega)]
        simp only [e1, decide_true, if_true, e2, e3, bnd_some, k1, e4, Bool.not_not, afterB]
    generalize v.Names[k] = x at *
    unfold varB
    rcases Bool.eq_false_or_eq_true (nameB x) with hb | hb
    · simp only [hb, if_true, Bool.true_and]
      change (if eqS x yesS = true then _ else if eqS x noS = true then _ else _) = _
      rcases Bool.eq_false_or_eq_true (eqS x yesS) with hy | hy
      · simp [hy, k1]
      · simp only [hy, Bool.false_eq_true, if_false, Bool.not_false, Bool.true_and]
        rcases Bool.eq_false_or_eq_true (eqS x noS) with ho | ho
        · simp [ho, k1]
        · simp only [ho, Bool.false_eq_true, if_false, Bool.not_false, Bool.true_and, hp]
    · simp [hb, k1]
theorem vars_chk_loop {v : TVars} (hv : OkV v) : ∀ (m k n : Nat), v.Names.length - k = m → k ≤ v.Names.length → m < n →
    m_vars_Check_l1 v n (k : Int) = some (if namesB (prevO v.Names k) (v.Names.drop k) = true then 0 else 1) := by
  intro m
  induction m with
  | zero =>
    intro k n hm hk hn
    obtain ⟨n, rfl⟩ : ∃ n', n = n' + 1 := ⟨n - 1, by omega⟩
    have hk' : ¬ ((k : Int) < (v.Names.length : Int)) := by omega
    rw [m_vars_Check_l1, m_vars_Check_l1_B, List.drop_eq_nil_of_le (by omega)]
    simp [hk', namesB]
  | succ m ih =>
    intro k n hm hk hn
    obtain ⟨n, rfl⟩ : ∃ n', n = n' + 1 := ⟨n - 1, by omega⟩
    have hlt : k < v.Names.length := by omega
    have hk' : ((k : Int) < (v.Names.length : Int)) := by omega
    have hw : IntKind.i64.wrap ((k : Int) + 1) = (k : Int) + 1 := wrap_succ' (by omega) (by have := hv.len; unfold big63 at this; omega)
    have hih : m_vars_Check_l1 v n ((k : Int) + 1) = _ := ih (k + 1) n (by omega) (by omega) (by omega)
    rw [prevO_succ hlt] at hih
    rw [m_vars_Check_l1, m_vars_Check_l1_B, List.drop_eq_getElem_cons hlt]
    simp only [hk', decide_true, if_true, nthI_lt hlt, bnd_some, pack_name (hv.names _ (List.getElem_mem hlt)), namesB]
    have k2 : ∀ b : Bool, m_vars_Check_k2 (m_vars_Check_l1 v n) (k : Int) b = some (if (!b && namesB (some v.Names[k]) (v.Names.drop (k + 1))) = true then 0 else 1) := by
      intro b
      unfold m_vars_Check_k2
      rw [hw, hih]
      cases b <;> simp
    have k1 : ∀ b : Bool, m_vars_Check_k1 (m_vars_Check_l1 v n) v (k : Int) v.Names[k] b = some (if (!b && (afterB (prevO v.Names k) v.Names[k] && namesB (some v.Names[k]) (v.Names.drop (k + 1)))) = true then 0 else 1) := by
      intro b
      unfold m_vars_Check_k1
      cases b
      · by_cases h0 : k = 0
        · subst h0
          have hk2 := k2 false
          rw [show (((0 : Nat) : Int)) = 0 from rfl] at hk2 ⊢
          rw [show decide ((0 : Int) < 0) = false from rfl, if_neg (by decide), if_neg (by decide), hk2]
          rfl
        · have e1 : (0 : Int) < (k : Int) := by omega
          have e2 : IntKind.i64.wrap ((k : Int) - 1) = ((k - 1 : Nat) : Int) := by
            rw [wrap_in (by have := hv.len; unfold inR; unfold big63 at this; omega)]
            omega
          have e3 : nthI v.Names ((k - 1 : Nat) : Int) = some v.Names[k - 1] := nthI_lt (by omega)
          have e4 : prevO v.Names k = some v.Names[k - 1] := by
            unfold prevO
            rw [if_neg h0, List.getElem?_eq_getElem (by omega)]
          simp only [e1, decide_true, if_true, e2, e3, bnd_some, k2, e4, Bool.not_not, afterB, Bool.false_eq_true, if_false, Bool.not_false, Bool.true_and]
      · rfl
    generalize v.Names[k] = x at *
    unfold varB
    rcases Bool.eq_false_or_eq_true (nameB x) with hb | hb
    · simp only [hb, if_true, Bool.true_and]
      change (if eqS x yesS = true then _ else m_vars_Check_k1 _ v (k : Int) x (eqS x noS)) = _
      rcases Bool.eq_false_or_eq_true (eqS x yesS) with hy | hy
      · simp [hy, k1]
      · simp only [hy, Bool.false_eq_true, if_false, Bool.not_false, Bool.true_and, k1]
    · simp [hb, k1]
theorem ref09_Check {v : TVars} (hv : OkV v) : m_ref09_Check v = some (vchk v) := by
  unfold m_ref09_Check vchk
  have hlp := ref09_chk_loop hv _ 0 ((((v.Names.length : Int)) - 0).toNat + 1) rfl (Nat.zero_le _) (by omega)
  have hlp : m_ref09_Check_l1 v ((((v.Names.length : Int)) - 0).toNat + 1) 0 = some (if namesB none v.Names = true then 0 else 1) := hlp
  by_cases h1 : v.Names.length = v.Vals.length
  · have h1' : decide ((v.Names.length : Int) ≠ (v.Vals.length : Int)) = false := by simp; omega
    rw [h1', hlp]
    simp only [Bool.false_eq_true, if_false, h1, ne_eq, not_true_eq_false]
    rw [← h1]
    by_cases h2 : 64 < v.Names.length
    · have h2' : decide ((64 : Int) < (v.Names.length : Int)) = true := by simp; omega
      rw [h2']
      simp [h2]
    · have h2' : decide ((64 : Int) < (v.Names.length : Int)) = false := by simp; omega
      rw [h2']
      simp [h2]
  · have h1' : decide ((v.Names.length : Int) ≠ (v.Vals.length : Int)) = true := by simp; omega
    rw [h1']
    simp [h1]
theorem vars_Check {v : TVars} (hv : OkV v) : m_vars_Check v = some (vchk v) := by
  unfold m_vars_Check vchk
  have hlp := vars_chk_loop hv _ 0 ((((v.Names.length : Int)) - 0).toNat + 1) rfl (Nat.zero_le _) (by omega)
  have hlp : m_vars_Check_l1 v ((((v.Names.length : Int)) - 0).toNat + 1) 0 = some (if namesB none v.Names = true then 0 else 1) := hlp
  by_cases h1 : v.Names.length = v.Vals.length
  · have h1' : decide ((v.Names.length : Int) ≠ (v.Vals.length : Int)) = false := by simp; omega
    rw [h1', hlp]
    simp only [Bool.false_eq_true, if_false, h1, ne_eq, not_true_eq_false]
    rw [← h1]
    by_cases h2 : 64 < v.Names.length
    · have h2' : decide ((64 : Int) < (v.Names.length : Int)) = true := by simp; omega
      rw [h2']
      simp [h2]
    · have h2' : decide ((64 : Int) < (v.Names.length : Int)) = false := by simp; omega
      rw [h2']
      simp [h2]
  · have h1' : decide ((v.Names.length : Int) ≠ (v.Vals.length : Int)) = true := by simp; omega
    rw [h1']
    simp [h1]
end Go.Proofs.Ytefjblgmnoheiaa.R

/- Plain laws: variables compared, copied; loops. -/
set_option maxRecDepth 100000
set_option linter.unusedVariables false
set_option linter.unusedSimpArgs false
noncomputable section
namespace Go.Proofs.Ytefjblgmnoheiaa.R
open Go
def eqI (x y : Int) : Bool := decide (x = y)
theorem eqI_iff (x y : Int) : eqI x y = true ↔ x = y := by simp [eqI]
theorem big_max {n : Nat} (h : n ≤ big63) : n ≤ maxLen := by rw [maxLen_eq]; unfold big63 at h; omega
theorem texts_eq {a b : List ByteArray} (hl : a.length ≤ maxLen) : m_ref08_Texts a b = some (same2 eqS a b) := by
  unfold m_ref08_Texts same2
  by_cases h : a.length = b.length
  · have h1 : ¬ ((a.length : Int) ≠ (b.length : Int)) := by omega
    rw [decide_eq_false h1, if_neg (by simp), all2_loop0 (f := m_ref08_Texts_l1 a b) (p := eqS) h hl, decide_eq_true h, Bool.true_and]
    intro n k
    rw [m_ref08_Texts_l1, m_ref08_Texts_l1_B]
    simp only [decide_eq_true_eq, Int.ofNat_lt]
  · have h1 : ((a.length : Int) ≠ (b.length : Int)) := by omega
    simp [h1, h]
def sameV (a b : TVars) : Bool := same2 eqS a.Names b.Names && same2 eqI a.Vals b.Vals
theorem sameV_iff (a b : TVars) : sameV a b = true ↔ a = b := by
  unfold sameV
  rw [Bool.and_eq_true, same2_iff (fun x y => eqS_iff), same2_iff eqI_iff]
  cases a; cases b
  simp
theorem ref09_Same {a b : TVars} (ha : OkV a) : m_ref09_Same a b = some (sameV a b) := by
  unfold m_ref09_Same sameV m_ref09_Same_k1
  rw [texts_eq (big_max ha.len)]
  simp only [bnd_some]
  cases same2 eqS a.Names b.Names with
  | false => simp
  | true =>
    simp only [if_true, Bool.true_and]
    unfold same2
    by_cases h : a.Vals.length = b.Vals.length
    · have h1 : ¬ ((a.Vals.length : Int) ≠ (b.Vals.length : Int)) := by omega
      rw [decide_eq_false h1, if_neg (by simp), all2_loop0 (f := m_ref09_Same_l1 a b) (p := eqI) h (big_max ha.lenV), decide_eq_true h, Bool.true_and]
      intro n k
      rw [m_ref09_Same_l1, m_ref09_Same_l1_B]
      simp only [decide_eq_true_eq, Int.ofNat_lt]
      congr 1
      congr 1; funext x; congr 1; funext y
      by_cases ht : x = y <;> simp [ht, eqI]
    · have h1 : ((a.Vals.length : Int) ≠ (b.Vals.length : Int)) := by omega
      simp [h1, h]
/-! ### Loops over a list -/
theorem loop_ind {β : Type} {len : Nat} {f : Nat → Int → Option β} {R : Nat → Option β → Prop} (hlen : len < 9223372036854775807) (hz : ∀ n, R len (f (n + 1) (len : Int)))
    (hs : ∀ n k, k < len → IntKind.i64.wrap ((k : Int) + 1) = ((k + 1 : Nat) : Int) → R (k + 1) (f n ((k + 1 : Nat) : Int)) → R k (f (n + 1) (k : Int))) : ∀ m k n, len - k = m → k ≤ len → m < n → R k (f n (k : Int)) := by
  intro m
  induction m with
  | zero =>
    intro k n hm hk hn
    obtain ⟨n, rfl⟩ : ∃ n', n = n' + 1 := ⟨n - 1, by omega⟩
    have : k = len := by omega
    subst this
    exact hz n
  | succ m ih =>
    intro k n hm hk hn
    obtain ⟨n, rfl⟩ : ∃ n', n = n' + 1 := ⟨n - 1, by omega⟩
    exact hs n k (by omega) (wrap_succ (by omega)) (ih (k + 1) n (by omega) (by omega) (by omega))
theorem loop0 {β : Type} {len : Nat} {f : Nat → Int → Option β} {R : Nat → Option β → Prop} (hlen : len < 9223372036854775807) (hz : ∀ n, R len (f (n + 1) (len : Int)))
    (hs : ∀ n k, k < len → IntKind.i64.wrap ((k : Int) + 1) = ((k + 1 : Nat) : Int) → R (k + 1) (f n ((k + 1 : Nat) : Int)) → R k (f (n + 1) (k : Int))) : R 0 (f ((((len : Int)) - ((0 : Int))).toNat + 1) (0 : Int)) :=
  loop_ind hlen hz hs _ 0 _ rfl (Nat.zero_le _) (by omega)
theorem lt_k {k len : Nat} (h : k < len) : ((k : Int) < (len : Int)) := by omega
theorem nlt_k {len : Nat} : ¬ ((len : Int) < (len : Int)) := by omega
end Go.Proofs.Ytefjblgmnoheiaa.R

/- Plain laws: who took a message; messages and subscriptions that may be. -/
set_option maxRecDepth 100000
set_option linter.unusedVariables false
set_option linter.unusedSimpArgs false
noncomputable section
namespace Go.Proofs.Ytefjblgmnoheiaa.R
open Go
abbrev most : Int := 1099511627776
def inZ (n a b : Int) : Bool := decide (a ≤ n) && decide (n ≤ b)
theorem inZ_iff {n a b : Int} : inZ n a b = true ↔ a ≤ n ∧ n ≤ b := by simp [inZ]
def tookB (l : List TWho) (p i : Int) : Bool := l.any fun w => decide (w.Part = p) && decide (w.Inst = i)
structure OkM (m : TMail) : Prop where
  id : inR m.Id
  key : inR m.Key
  til : inR m.Until
  name : m.Name.size ≤ big63
  vars : OkV m.Vars
  took : m.Took.length ≤ big63
  tk : ∀ w ∈ m.Took, inR w.Part ∧ inR w.Inst
structure OkS (s : TSub) : Prop where
  part : inR s.Part
  id : inR s.Id
  inst : inR s.Inst
  key : inR s.Key
  mail : inR s.Mail
  name : s.Name.size ≤ big63
structure OkP (p : TPost) : Prop where
  next : inR p.Next
  ml : p.Mails.length ≤ big63
  sl : p.Subs.length ≤ big63
  mails : ∀ m ∈ p.Mails, OkM m
  subs : ∀ s ∈ p.Subs, OkS s
theorem big_lt {n : Nat} (h : n ≤ big63) : n < 9223372036854775807 := by unfold big63 at h; omega
theorem ref22_took {l : List TWho} (hl : l.length ≤ big63) (p i : Int) : m_ref22_took l p i = some (tookB l p i) := by
  unfold m_ref22_took tookB
  refine (loop0 (R := fun k o => o = some ((l.drop k).any fun w => decide (w.Part = p) && decide (w.Inst = i))) (f := m_ref22_took_l1 l p i) (big_lt hl) (fun n => ?_) (fun n k hk hw ih => ?_)).trans (by simp)
  · rw [m_ref22_took_l1, m_ref22_took_l1_B, decide_eq_false nlt_k, List.drop_eq_nil_of_le (Nat.le_refl _)]
    rfl
  · rw [m_ref22_took_l1, m_ref22_took_l1_B, decide_eq_true (lt_k hk), if_pos rfl, nthI_lt hk, bnd_some, List.drop_eq_getElem_cons hk, List.any_cons]
    simp only [m_ref22_took_k1, hw, ih]
    by_cases h1 : l[k].Part = p <;> by_cases h2 : l[k].Inst = i <;> simp [h1, h2]
theorem contains_who {l : List TWho} (hl : l.length ≤ big63) (v : TWho) : m_slices_Contains_api_Who_api_Who l v = some (tookB l v.Part v.Inst) := by
  unfold m_slices_Contains_api_Who_api_Who m_slices_Index_api_Who_api_Who tookB
  suffices h : ∃ r, m_slices_Index_api_Who_api_Who_l1 l v ((((l.length : Int)) - ((0 : Int))).toNat + 1) (0 : Int) = some r ∧ decide (0 ≤ r) = ((l.drop 0).any fun w => decide (w.Part = v.Part) && decide (w.Inst = v.Inst)) by
    obtain ⟨r, h1, h2⟩ := h
    rw [h1, bnd_some, h2, List.drop_zero]
  refine loop0 (R := fun k o => ∃ r, o = some r ∧ decide (0 ≤ r) = ((l.drop k).any fun w => decide (w.Part = v.Part) && decide (w.Inst = v.Inst))) (f := m_slices_Index_api_Who_api_Who_l1 l v) (big_lt hl) (fun n => ?_) (fun n k hk hw ih => ?_)
  · rw [m_slices_Index_api_Who_api_Who_l1, m_slices_Index_api_Who_api_Who_l1_B, decide_eq_false nlt_k, List.drop_eq_nil_of_le (Nat.le_refl _)]
    exact ⟨-1, rfl, rfl⟩
  · rw [m_slices_Index_api_Who_api_Who_l1, m_slices_Index_api_Who_api_Who_l1_B, decide_eq_true (lt_k hk), if_pos rfl, nthI_lt hk, bnd_some, List.drop_eq_getElem_cons hk, List.any_cons]
    have e1 : (v.Part = l[k].Part) = (l[k].Part = v.Part) := propext eq_comm
    have e2 : (v.Inst = l[k].Inst) = (l[k].Inst = v.Inst) := propext eq_comm
    simp only [e1, e2, hw]
    obtain ⟨r, h1, h2⟩ := ih
    by_cases h : (decide (l[k].Part = v.Part) && decide (l[k].Inst = v.Inst)) = true
    · rw [if_pos h, h]
      exact ⟨k, rfl, by simp⟩
    · rw [if_neg h, h1, Bool.eq_false_iff.2 h]
      exact ⟨r, rfl, h2⟩
/-! ### 22.1 -/
def whoB (w : TWho) : Bool := inZ w.Part 0 63 && inZ w.Inst 1 most
def whosB : List TWho → List TWho → Bool
  | _, [] => true
  | pre, w :: r => whoB w && (!tookB pre w.Part w.Inst && whosB (pre ++ [w]) r)
def mchk (m : TMail) : Int :=
  if (inZ m.Id 1 most && (nameB m.Name && inZ m.Until 0 most)) = true then
    if vchk m.Vars ≠ 0 then vchk m.Vars else if whosB [] m.Took = true then 0 else 1
  else 1
theorem in_eq (n a b : Int) : m_ref22_in n a b = some (inZ n a b) := by
  unfold m_ref22_in inZ
  by_cases h : a ≤ n <;> simp [h]
theorem wide_eq (n : Int) : m_post_wide n = some (inZ n 1 1099511627776) := by
  unfold m_post_wide inZ
  by_cases h : 1 ≤ n <;> simp [h]
theorem part_eq (n : Int) : m_post_part n = some (inZ n 0 63) := by
  unfold m_post_part inZ
  have : decide (n < 64) = decide (n ≤ 63) := by congr 1; apply propext; omega
  by_cases h : 0 ≤ n <;> simp [h, this]
theorem sliceL_take {α : Type} {l : List α} {k : Nat} (h : k ≤ l.length) : sliceL l 0 (k : Int) = some (l.take k) := by
  unfold sliceL
  simp [h]
theorem take_succ_get {α : Type} {l : List α} {k : Nat} (h : k < l.length) : l.take (k + 1) = l.take k ++ [l[k]] := by rw [List.take_add_one, List.getElem?_eq_getElem h]; rfl
theorem take_big {α : Type} {l : List α} {k : Nat} (h : l.length ≤ big63) : (l.take k).length ≤ big63 := by rw [List.length_take]; omega
theorem ref22_Mail {m : TMail} (hm : OkM m) : m_ref22_Mail m = some (mchk m) := by
  have hlp : m_ref22_Mail_l1 m ((((m.Took.length : Int)) - ((0 : Int))).toNat + 1) (0 : Int) = some (if whosB [] m.Took = true then 0 else 1) := by
    refine loop0 (R := fun k o => o = some (if whosB (m.Took.take k) (m.Took.drop k) = true then 0 else 1)) (f := m_ref22_Mail_l1 m) (big_lt hm.took) (fun n => ?_) (fun n k hk hw ih => ?_)
    · rw [m_ref22_Mail_l1, m_ref22_Mail_l1_B, decide_eq_false nlt_k, List.drop_eq_nil_of_le (Nat.le_refl _)]
      rfl
    · rw [take_succ_get hk] at ih
      rw [m_ref22_Mail_l1, m_ref22_Mail_l1_B, decide_eq_true (lt_k hk), if_pos rfl, nthI_lt hk, bnd_some, List.drop_eq_getElem_cons hk]
      simp only [in_eq, bnd_some, sliceL_take (Nat.le_of_lt hk), ref22_took (take_big hm.took), m_ref22_Mail_k2, hw, ih, whosB, whoB, most, if_true, Bool.false_eq_true, if_false]
      rcases Bool.eq_false_or_eq_true (inZ m.Took[k].Part 0 63) with g0 | g0 <;> rcases Bool.eq_false_or_eq_true (inZ m.Took[k].Inst 1 1099511627776) with g1 | g1 <;> rcases Bool.eq_false_or_eq_true (tookB (m.Took.take k) m.Took[k].Part m.Took[k].Inst) with g2 | g2 <;> simp [g0, g1, g2]
  unfold m_ref22_Mail
  simp only [in_eq, bnd_some, ref02_name hm.name, m_ref22_Mail_k1, ref09_Check hm.vars, hlp, mchk, most]
  cases h1 : inZ m.Id 1 1099511627776 <;> cases h2 : nameB m.Name <;> cases h3 : inZ m.Until 0 1099511627776 <;> by_cases h4 : vchk m.Vars = 0 <;> simp [h4]
/-! ### 22.2 -/
def subB (s : TSub) : Bool := inZ s.Part 0 63 && (inZ s.Id 1 most && (inZ s.Inst 1 most && (nameB s.Name && inZ s.Mail 0 most)))
theorem ref22_Sub {s : TSub} (hs : OkS s) : m_ref22_Sub s = some (subB s) := by
  unfold m_ref22_Sub subB
  simp only [in_eq, bnd_some, ref02_name hs.name]
  cases inZ s.Part 0 63 <;> cases inZ s.Id 1 1099511627776 <;> cases inZ s.Inst 1 1099511627776 <;> cases nameB s.Name <;> rfl
theorem post_sub {s : TSub} (hs : OkS s) : m_post_sub s = some (subB s) := by
  unfold m_post_sub subB
  simp only [part_eq, wide_eq, bnd_some, pack_name hs.name]
  cases inZ s.Part 0 63 <;> cases inZ s.Id 1 1099511627776 <;> cases inZ s.Inst 1 1099511627776 <;> cases nameB s.Name <;> simp [inZ]
  by_cases h : 0 ≤ s.Mail <;> simp [h]
/-! ### 22.3 -/
def aheadB (a b : TSub) : Bool := decide (a.Part < b.Part) || (decide (a.Part = b.Part) && decide (a.Id < b.Id))
theorem ahead_eq (a b : TSub) : m_ref22_ahead a b = some (aheadB a b) := by
  unfold m_ref22_ahead aheadB
  by_cases h1 : a.Part < b.Part <;> by_cases h2 : a.Part = b.Part <;> simp [h1, h2]
theorem order_eq (a b : Tkey) : m_post_key_order a b = some (if a.f_part = b.f_part ∧ a.f_id = b.f_id then 0 else if a.f_part < b.f_part ∨ (a.f_part = b.f_part ∧ a.f_id < b.f_id) then -1 else 1) := by
  unfold m_post_key_order m_post_key_order_k1
  by_cases h1 : a.f_part = b.f_part <;> by_cases h2 : a.f_id = b.f_id <;> by_cases h3 : a.f_part < b.f_part <;> by_cases h4 : a.f_id < b.f_id <;> simp [h1, h2, h3, h4] <;> omega
def mailsE (next : Int) : Int → List TMail → Int
  | _, [] => 0
  | last, m :: r => if mchk m ≠ 0 then mchk m else if m.Id ≤ last ∨ next ≤ m.Id then 1 else mailsE next m.Id r
def behindB : Option TSub → TSub → Bool
  | none, _ => true
  | some a, b => aheadB a b
def subsB (next : Int) : Option TSub → List TSub → Bool
  | _, [] => true
  | q, s :: r => subB s && (decide (s.Mail < next) && (behindB q s && subsB next (some s) r))
def pchk (p : TPost) : Int :=
  if inZ p.Next 1 most = true then
    if 4096 < p.Mails.length ∨ 4096 < p.Subs.length then 6
    else if mailsE p.Next 0 p.Mails ≠ 0 then mailsE p.Next 0 p.Mails else if subsB p.Next none p.Subs = true then 0 else 1
  else 1
def prevS (l : List TSub) (k : Nat) : Option TSub := if k = 0 then none else l[k - 1]?
theorem prevS_succ {l : List TSub} {k : Nat} (h : k < l.length) : prevS l (k + 1) = some l[k] := by
  unfold prevS
  rw [if_neg (by omega), Nat.add_sub_cancel, List.getElem?_eq_getElem h]
theorem prevS_pos {l : List TSub} {k : Nat} (h : k < l.length) (h0 : k ≠ 0) : prevS l k = some l[k - 1] := by
  unfold prevS
  rw [if_neg h0, List.getElem?_eq_getElem (by omega)]
theorem wrap_pred {k : Nat} (h : k < 9223372036854775807) (h0 : k ≠ 0) : IntKind.i64.wrap ((k : Int) - 1) = ((k - 1 : Nat) : Int) := by
  rw [wrap_in (by unfold inR; omega)]
  omega
theorem ref22_subs {p : TPost} (hp : OkP p) : m_ref22_Check_k3 p = some (if subsB p.Next none p.Subs = true then 0 else 1) := by
  unfold m_ref22_Check_k3
  refine loop0 (R := fun k o => o = some (if subsB p.Next (prevS p.Subs k) (p.Subs.drop k) = true then 0 else 1)) (f := m_ref22_Check_l2 p) (big_lt hp.sl) (fun n => ?_) (fun n k hk hw ih => ?_)
  · rw [m_ref22_Check_l2, m_ref22_Check_l2_B, decide_eq_false nlt_k, List.drop_eq_nil_of_le (Nat.le_refl _)]
    rfl
  · rw [prevS_succ hk] at ih
    rw [m_ref22_Check_l2, m_ref22_Check_l2_B, decide_eq_true (lt_k hk), if_pos rfl, nthI_lt hk, bnd_some, List.drop_eq_getElem_cons hk, ref22_Sub (hp.subs _ (List.getElem_mem hk)), bnd_some]
    simp only [m_ref22_Check_k4, hw, ih, subsB, if_true, Bool.false_eq_true, if_false]
    have e1 : decide (p.Next ≤ p.Subs[k].Mail) = !decide (p.Subs[k].Mail < p.Next) := by
      by_cases h : p.Next ≤ p.Subs[k].Mail
      · have : ¬ p.Subs[k].Mail < p.Next := by omega
        simp [h, this]
      · have : p.Subs[k].Mail < p.Next := by omega
        simp [h, this]
    rw [e1]
    by_cases h0 : k = 0
    · subst h0
      rcases Bool.eq_false_or_eq_true (subB p.Subs[0]) with g0 | g0 <;> rcases Bool.eq_false_or_eq_true (decide (p.Subs[0].Mail < p.Next)) with g1 | g1 <;> simp [g0, g1, prevS, behindB]
    · have h1 : (0 : Int) < (k : Int) := by omega
      rw [wrap_pred (big_lt (by have := hp.sl; omega)) h0, nthI_lt (by omega), prevS_pos hk h0]
      simp only [bnd_some, ahead_eq, behindB, decide_eq_true h1, if_true]
      rcases Bool.eq_false_or_eq_true (subB p.Subs[k]) with g0 | g0 <;> rcases Bool.eq_false_or_eq_true (decide (p.Subs[k].Mail < p.Next)) with g1 | g1 <;> rcases Bool.eq_false_or_eq_true (aheadB p.Subs[k - 1] p.Subs[k]) with g2 | g2 <;> simp [g0, g1, g2]
def prevI (l : List TMail) (k : Nat) : Int := if k = 0 then 0 else match l[k - 1]? with | some m => m.Id | none => 0
theorem prevI_succ {l : List TMail} {k : Nat} (h : k < l.length) : prevI l (k + 1) = l[k].Id := by
  unfold prevI
  rw [if_neg (by omega), Nat.add_sub_cancel, List.getElem?_eq_getElem h]
theorem prevI_pos {l : List TMail} {k : Nat} (h : k < l.length) (h0 : k ≠ 0) : prevI l k = l[k - 1].Id := by
  unfold prevI
  rw [if_neg h0, List.getElem?_eq_getElem (by omega)]
theorem mchk_id {m : TMail} (h : mchk m = 0) : 1 ≤ m.Id ∧ m.Id ≤ most ∧ nameB m.Name = true ∧ 0 ≤ m.Until ∧ m.Until ≤ most ∧ vchk m.Vars = 0 ∧ whosB [] m.Took = true := by
  unfold mchk at h
  split at h
  · rename_i h1
    simp only [Bool.and_eq_true, inZ_iff] at h1
    split at h
    · rename_i h2; exact absurd h h2
    · rename_i h2
      split at h
      · rename_i h3
        exact ⟨h1.1.1, h1.1.2, h1.2.1, h1.2.2.1, h1.2.2.2, by simpa using h2, h3⟩
      · cases h
  · cases h
theorem ref22_mails {p : TPost} (hp : OkP p) : m_ref22_Check_l1 p ((((p.Mails.length : Int)) - ((0 : Int))).toNat + 1) (0 : Int) = some (if mailsE p.Next 0 p.Mails ≠ 0 then mailsE p.Next 0 p.Mails else if subsB p.Next none p.Subs = true then 0 else 1) := by
  refine loop0 (R := fun k o => o = some (if mailsE p.Next (prevI p.Mails k) (p.Mails.drop k) ≠ 0 then mailsE p.Next (prevI p.Mails k) (p.Mails.drop k) else if subsB p.Next none p.Subs = true then 0 else 1)) (f := m_ref22_Check_l1 p) (big_lt hp.ml) (fun n => ?_) (fun n k hk hw ih => ?_)
  · rw [m_ref22_Check_l1, m_ref22_Check_l1_B, decide_eq_false nlt_k, List.drop_eq_nil_of_le (Nat.le_refl _), ref22_subs hp]
    rfl
  · rw [prevI_succ hk] at ih
    rw [m_ref22_Check_l1, m_ref22_Check_l1_B, decide_eq_true (lt_k hk), if_pos rfl, nthI_lt hk, bnd_some, List.drop_eq_getElem_cons hk, ref22_Mail (hp.mails _ (List.getElem_mem hk)), bnd_some]
    simp only [m_ref22_Check_k2, hw, ih, mailsE]
    by_cases hc : mchk p.Mails[k] = 0
    · have hid := (mchk_id hc).1
      simp only [hc, ne_eq, not_true_eq_false, decide_false, Bool.false_eq_true, if_false]
      by_cases h0 : k = 0
      · subst h0
        have h2 : ¬ p.Mails[0].Id ≤ 0 := by omega
        have h4 : prevI p.Mails 0 = 0 := rfl
        have h5 : decide ((0 : Int) < ((0 : Nat) : Int)) = false := rfl
        rw [h4, h5]
        by_cases h3 : p.Next ≤ p.Mails[0].Id <;> simp [h2, h3]
      · have h1 : (0 : Int) < (k : Int) := by omega
        rw [wrap_pred (big_lt (by have := hp.ml; omega)) h0, nthI_lt (by omega), prevI_pos hk h0]
        by_cases h2 : p.Mails[k].Id ≤ p.Mails[k - 1].Id <;> by_cases h3 : p.Next ≤ p.Mails[k].Id <;> simp [h0, h1, h2, h3, bnd_some]
    · simp [hc]
theorem ref22_Check {p : TPost} (hp : OkP p) : m_ref22_Check p = some (pchk p) := by
  unfold m_ref22_Check pchk m_ref22_Check_k1
  rw [in_eq, bnd_some, ref22_mails hp]
  change (if inZ p.Next 1 most = true then _ else _) = _
  cases inZ p.Next 1 most
  · rfl
  · by_cases h1 : 4096 < p.Mails.length
    · have : (4096 : Int) < (p.Mails.length : Int) := by omega
      simp [h1, this]
    · have h1' : ¬ (4096 : Int) < (p.Mails.length : Int) := by omega
      by_cases h2 : 4096 < p.Subs.length
      · have h2' : (4096 : Int) < (p.Subs.length : Int) := by omega
        simp [h1, h1', h2, h2']
      · have h2' : ¬ (4096 : Int) < (p.Subs.length : Int) := by omega
        simp only [h1, h1', h2, h2', decide_false, Bool.false_eq_true, if_false, if_true, or_self]
end Go.Proofs.Ytefjblgmnoheiaa.R

/- Plain laws: posts compared, weighed. -/
set_option maxRecDepth 100000
set_option linter.unusedVariables false
set_option linter.unusedSimpArgs false
noncomputable section
namespace Go.Proofs.Ytefjblgmnoheiaa.R
open Go
theorem big_mx {n : Nat} (h : n ≤ big63) : n ≤ maxLen := big_max h
/-! ### 22.11 -/
def sameW (a b : TWho) : Bool := decide (a.Part = b.Part) && decide (a.Inst = b.Inst)
theorem sameW_iff (a b : TWho) : sameW a b = true ↔ a = b := by
  cases a; cases b
  simp [sameW]
def sameS (a b : TSub) : Bool := (decide (a.Part = b.Part)) && ((decide (a.Id = b.Id)) && ((decide (a.Inst = b.Inst)) && ((eqS a.Name b.Name) && ((decide (a.Key = b.Key)) && (decide (a.Mail = b.Mail))))))
theorem sameS_iff (a b : TSub) : sameS a b = true ↔ a = b := by
  cases a; cases b
  simp [sameS, eqS_iff]
def sameM (a b : TMail) : Bool := decide (a.Id = b.Id) && (eqS a.Name b.Name && (decide (a.Key = b.Key) && (decide (a.Until = b.Until) && (sameV a.Vars b.Vars && same2 sameW a.Took b.Took))))
theorem sameM_iff (a b : TMail) : sameM a b = true ↔ a = b := by
  cases a; cases b
  simp only [sameM, Bool.and_eq_true, decide_eq_true_eq, eqS_iff, sameV_iff, same2_iff sameW_iff, TMail.mk.injEq]
  constructor
  · rintro ⟨a, b, c, d, e, f⟩; exact ⟨a, b, c, e, d, f⟩
  · rintro ⟨a, b, c, d, e, f⟩; exact ⟨a, b, c, e, d, f⟩
def sameP (a b : TPost) : Bool := decide (a.Next = b.Next) && (same2 sameS a.Subs b.Subs && same2 sameM a.Mails b.Mails)
theorem sameP_iff (a b : TPost) : sameP a b = true ↔ a = b := by
  cases a; cases b
  simp only [sameP, Bool.and_eq_true, decide_eq_true_eq, same2_iff sameS_iff, same2_iff sameM_iff, TPost.mk.injEq]
  constructor
  · rintro ⟨a, b, c⟩; exact ⟨a, c, b⟩
  · rintro ⟨a, b, c⟩; exact ⟨a, c, b⟩
theorem ref_mail {a b : TMail} (ha : OkM a) : m_ref22_sameMail a b = some (sameM a b) := by
  have hl : ∀ h : a.Took.length = b.Took.length, m_ref22_sameMail_l1 a b ((((a.Took.length : Int)) - ((0 : Int))).toNat + 1) (0 : Int) = some (all2 sameW a.Took b.Took) := fun h => by
    refine all2_loop0 (f := m_ref22_sameMail_l1 a b) (p := sameW) h (big_mx ha.took) ?_
    intro n k
    rw [m_ref22_sameMail_l1, m_ref22_sameMail_l1_B]
    simp only [decide_eq_true_eq, Int.ofNat_lt]
    rfl
  unfold m_ref22_sameMail sameM m_ref22_sameMail_k1 same2
  rw [ref09_Same ha.vars]
  simp only [bnd_some]
  have e : decide ((a.Took.length : Int) ≠ (b.Took.length : Int)) = !decide (a.Took.length = b.Took.length) := by
    by_cases h : a.Took.length = b.Took.length
    · simp [h]
    · have : ¬ ((a.Took.length : Int) = (b.Took.length : Int)) := by omega
      simp [h, this]
  rw [e]
  by_cases h1 : a.Id = b.Id <;> rcases Bool.eq_false_or_eq_true (eqS a.Name b.Name) with h2 | h2 <;> by_cases h3 : a.Key = b.Key <;> by_cases h4 : a.Until = b.Until <;> rcases Bool.eq_false_or_eq_true (sameV a.Vars b.Vars) with h5 | h5 <;> by_cases h6 : a.Took.length = b.Took.length <;> simp [h1, h2, h3, h4, h5, h6]
  rw [← h6]
  exact hl h6
theorem ref22_Same {a b : TPost} (ha : OkP a) : m_ref22_Same a b = some (sameP a b) := by
  have hs : ∀ h : a.Subs.length = b.Subs.length, m_ref22_Same_k2 a b = some (all2 sameS a.Subs b.Subs) := fun h => by
    unfold m_ref22_Same_k2
    refine all2_loop0 (f := m_ref22_Same_l2 a b) (p := sameS) h (big_mx ha.sl) ?_
    intro n k
    rw [m_ref22_Same_l2, m_ref22_Same_l2_B]
    simp only [decide_eq_true_eq, Int.ofNat_lt]
    rfl
  have hm : a.Mails.length = b.Mails.length → a.Subs.length = b.Subs.length → m_ref22_Same_l1 a b ((((a.Mails.length : Int)) - ((0 : Int))).toNat + 1) (0 : Int) = some (all2 sameM a.Mails b.Mails && all2 sameS a.Subs b.Subs) := fun h h' => by
    refine loop0 (R := fun k o => o = some (all2 sameM (a.Mails.drop k) (b.Mails.drop k) && all2 sameS a.Subs b.Subs)) (f := m_ref22_Same_l1 a b) (big_lt ha.ml) (fun n => ?_) (fun n k hk hw ih => ?_)
    · rw [m_ref22_Same_l1, m_ref22_Same_l1_B, decide_eq_false nlt_k, if_neg (by simp), hs h', List.drop_eq_nil_of_le (as := a.Mails) (Nat.le_refl _)]
      simp [all2]
    · have hk' : k < b.Mails.length := by omega
      rw [m_ref22_Same_l1, m_ref22_Same_l1_B, decide_eq_true (lt_k hk), if_pos rfl, nthI_lt hk, nthI_lt hk', bnd_some, bnd_some, ref_mail (ha.mails _ (List.getElem_mem hk)), bnd_some, hw, ih, List.drop_eq_getElem_cons hk, List.drop_eq_getElem_cons hk', all2]
      rcases Bool.eq_false_or_eq_true (sameM a.Mails[k] b.Mails[k]) with h1 | h1 <;> simp [h1]
  unfold m_ref22_Same sameP m_ref22_Same_k1 same2
  by_cases h1 : a.Next = b.Next
  · by_cases h2 : a.Mails.length = b.Mails.length
    · by_cases h3 : a.Subs.length = b.Subs.length
      · have e2 : ¬ ((a.Mails.length : Int) ≠ (b.Mails.length : Int)) := by omega
        have e3 : ¬ ((a.Subs.length : Int) ≠ (b.Subs.length : Int)) := by omega
        rw [hm h2 h3]
        simp [h1, h2, h3, Bool.and_comm]
      · have e3 : ((a.Subs.length : Int) ≠ (b.Subs.length : Int)) := by omega
        by_cases e2 : ((a.Mails.length : Int) ≠ (b.Mails.length : Int)) <;> simp [h1, e2, e3, h3]
    · have e2 : ((a.Mails.length : Int) ≠ (b.Mails.length : Int)) := by omega
      simp [h1, e2, h2]
  · simp [h1]
structure CapM (m : TMail) : Prop where
  took : m.Took.length ≤ 549755813888
  names : m.Vars.Names.length ≤ 549755813888
  vals : m.Vars.Vals.length ≤ 549755813888
structure CapP (p : TPost) : Prop where
  ml : p.Mails.length ≤ 549755813888
  sl : p.Subs.length ≤ 549755813888
  mails : ∀ m ∈ p.Mails, CapM m
/-! ### Weights -/
structure SmallM (m : TMail) : Prop where
  took : m.Took.length ≤ 200
  names : m.Vars.Names.length ≤ 200
  vals : m.Vars.Vals.length ≤ 200
  name : m.Name.size < 8040
  nm : ∀ s ∈ m.Vars.Names, s.size < 8040
structure SmallP (p : TPost) : Prop where
  ml : p.Mails.length ≤ 200
  sl : p.Subs.length ≤ 200
  mails : ∀ m ∈ p.Mails, SmallM m
  subs : ∀ s ∈ p.Subs, s.Name.size < 8040
theorem SmallP.cap {p : TPost} (h : SmallP p) : CapP p := ⟨by have := h.ml; omega, by have := h.sl; omega, fun m hm => ⟨by have := (h.mails m hm).took; omega, by have := (h.mails m hm).names; omega, by have := (h.mails m hm).vals; omega⟩⟩
theorem wrap_add {a b : Int} (h : -9223372036854775808 ≤ a + b) (h' : a + b ≤ 9223372036854775807) : IntKind.i64.wrap (a + b) = a + b := wrap_in ⟨h, h'⟩
theorem div40 {n : Nat} (h : n ≤ big63) : IntKind.i64.wrap ((n : Int).tdiv 40) = ((n / 40 : Nat) : Int) := by
  rw [tdiv_nn (by omega), wrap_in (by unfold inR; unfold big63 at h; omega)]
  omega
theorem weight_l3 {rec : Int → Int → Option Int} {i : Int} {m : TMail} (hm : OkM m) {n0 : Int} (h0 : 0 ≤ n0) (hb : n0 ≤ 1125899906842624) :
    ∃ n', n0 ≤ n' ∧ n' ≤ 1125899906842624 + big63 ∧ (n' ≤ 200 → ∀ s ∈ m.Vars.Names, s.size < 8040) ∧ m_ref22_Weight_l3 rec 200 i m ((((m.Vars.Names.length : Int)) - ((0 : Int))).toNat + 1) n0 (0 : Int) = m_ref22_Weight_k5 rec i n' := by
  suffices h : ∀ n0 : Int, 0 ≤ n0 → n0 ≤ 1125899906842624 + big63 → (n0 ≤ 200 ∨ (0 : Nat) ≤ 0) → n0 ≤ 1125899906842624 + big63 → ∃ n', n0 ≤ n' ∧ n' ≤ 1125899906842624 + big63 ∧ (n' ≤ 200 → ∀ s ∈ m.Vars.Names.drop 0, s.size < 8040) ∧ m_ref22_Weight_l3 rec 200 i m ((((m.Vars.Names.length : Int)) - ((0 : Int))).toNat + 1) n0 (0 : Int) = m_ref22_Weight_k5 rec i n' by
    exact h n0 h0 (by unfold big63; omega) (Or.inr (Nat.le_refl _)) (by unfold big63; omega)
  suffices h : ∀ n0 : Int, 0 ≤ n0 → n0 ≤ 1125899906842624 + big63 → ∃ n', n0 ≤ n' ∧ n' ≤ 1125899906842624 + big63 ∧ (n' ≤ 200 → ∀ s ∈ m.Vars.Names.drop 0, s.size < 8040) ∧ m_ref22_Weight_l3 rec 200 i m ((((m.Vars.Names.length : Int)) - ((0 : Int))).toNat + 1) n0 (0 : Int) = m_ref22_Weight_k5 rec i n' by
    intro n0 a b _ _
    exact h n0 a b
  refine loop0 (β := Int → Option Int) (R := fun k o => ∀ n0 : Int, 0 ≤ n0 → n0 ≤ 1125899906842624 + big63 → ∃ n', n0 ≤ n' ∧ n' ≤ 1125899906842624 + big63 ∧ (n' ≤ 200 → ∀ s ∈ m.Vars.Names.drop k, s.size < 8040) ∧ (match o with | some g => g n0 | none => none) = m_ref22_Weight_k5 rec i n') (f := fun n k => some fun n0 => m_ref22_Weight_l3 rec 200 i m n n0 k) (big_lt hm.vars.len) (fun n n0 a b => ?_) (fun n k hk hw ih n0 a b => ?_)
  · refine ⟨n0, Int.le_refl _, b, fun _ s hs => ?_, ?_⟩
    · rw [List.drop_eq_nil_of_le (Nat.le_refl _)] at hs
      simp at hs
    · simp only [m_ref22_Weight_l3, m_ref22_Weight_l3_B, decide_eq_false nlt_k]
      rfl
  · simp only [m_ref22_Weight_l3, m_ref22_Weight_l3_B, decide_eq_true (lt_k hk), if_true, m_ref22_Weight_k4]
    have hs := hm.vars.names _ (List.getElem_mem hk)
    by_cases h : n0 ≤ 200
    · rw [decide_eq_true h, if_pos rfl, nthI_lt hk, bnd_some, div40 hs, wrap_add (by omega) (by unfold big63 at hs; omega), hw]
      obtain ⟨n', g1, g2, g3, g4⟩ := ih (n0 + ((m.Vars.Names[k].size / 40 : Nat) : Int)) (by omega) (by unfold big63 at hs ⊢; omega)
      refine ⟨n', by omega, g2, fun hn s hs' => ?_, g4⟩
      rw [List.drop_eq_getElem_cons hk, List.mem_cons] at hs'
      rcases hs' with rfl | hs'
      · omega
      · exact g3 hn s hs'
    · rw [decide_eq_false h]
      exact ⟨n0, Int.le_refl _, b, fun hn => absurd hn h, rfl⟩
theorem weight_mails {p : TPost} (hp : OkP p) : ∀ n0 : Int, 0 ≤ n0 → n0 ≤ 1125899906842624 → ∃ n', n0 ≤ n' ∧ (n' ≤ 200 → n0 + p.Mails.length ≤ n' ∧ ∀ m ∈ p.Mails, SmallM m) ∧ m_ref22_Weight_k2 p 200 n0 = some n' := by
  suffices h : ∀ n0 : Int, 0 ≤ n0 → n0 ≤ 1125899906842624 + big63 → ∃ n', n0 ≤ n' ∧ (n' ≤ 200 → n0 + (p.Mails.length - 0 : Nat) ≤ n' ∧ ∀ m ∈ p.Mails.drop 0, SmallM m) ∧ m_ref22_Weight_l2 p 200 ((((p.Mails.length : Int)) - ((0 : Int))).toNat + 1) n0 (0 : Int) = some n' by
    intro n0 a b
    have := h n0 a (by unfold big63; omega)
    simpa [m_ref22_Weight_k2] using this
  refine loop0 (β := Int → Option Int) (R := fun k o => ∀ n0 : Int, 0 ≤ n0 → n0 ≤ 1125899906842624 + big63 → ∃ n', n0 ≤ n' ∧ (n' ≤ 200 → n0 + (p.Mails.length - k : Nat) ≤ n' ∧ ∀ m ∈ p.Mails.drop k, SmallM m) ∧ (match o with | some g => g n0 | none => none) = some n') (f := fun n k => some fun n0 => m_ref22_Weight_l2 p 200 n n0 k) (big_lt hp.ml) (fun n n0 a b => ?_) (fun n k hk hw ih n0 a b => ?_)
  · refine ⟨n0, Int.le_refl _, fun _ => ⟨by omega, fun s hs => ?_⟩, ?_⟩
    · rw [List.drop_eq_nil_of_le (Nat.le_refl _)] at hs
      simp at hs
    · simp only [m_ref22_Weight_l2, m_ref22_Weight_l2_B, decide_eq_false nlt_k]
      rfl
  · simp only [m_ref22_Weight_l2, m_ref22_Weight_l2_B, decide_eq_true (lt_k hk), if_true, m_ref22_Weight_k3]
    have hm := hp.mails _ (List.getElem_mem hk)
    by_cases h : n0 ≤ 200
    · rw [decide_eq_true h, if_pos rfl, nthI_lt hk, bnd_some]
      have b1 := hm.name
      have b2 := hm.took
      have b3 := hm.vars.len
      have b4 := hm.vars.lenV
      unfold big63 at b1 b2 b3 b4
      rw [div40 hm.name, wrap_add (a := n0) (by omega) (by omega), wrap_add (a := n0 + 1) (by omega) (by omega), wrap_add (b := (p.Mails[k].Took.length : Int)) (by omega) (by omega), wrap_add (b := (p.Mails[k].Vars.Names.length : Int)) (by omega) (by omega), wrap_add (b := (p.Mails[k].Vars.Vals.length : Int)) (by omega) (by omega)]
      obtain ⟨n', g1, g2, g3, g4⟩ := weight_l3 (rec := m_ref22_Weight_l2 p 200 n) (i := (k : Int)) hm (n0 := n0 + 1 + ((p.Mails[k].Name.size / 40 : Nat) : Int) + (p.Mails[k].Took.length : Int) + (p.Mails[k].Vars.Names.length : Int) + (p.Mails[k].Vars.Vals.length : Int)) (by omega) (by omega)
      rw [g4, m_ref22_Weight_k5, hw]
      obtain ⟨n'', k1, k2, k3⟩ := ih n' (by omega) g2
      refine ⟨n'', by omega, fun hn => ?_, k3⟩
      obtain ⟨q1, q2⟩ := k2 hn
      refine ⟨by omega, fun x hx => ?_⟩
      rw [List.drop_eq_getElem_cons hk, List.mem_cons] at hx
      rcases hx with rfl | hx
      · exact ⟨by omega, by omega, by omega, by omega, g3 (by omega)⟩
      · exact q2 x hx
    · rw [decide_eq_false h]
      exact ⟨n0, Int.le_refl _, fun hn => absurd hn h, rfl⟩
theorem weight_ok {p : TPost} (hp : OkP p) : ∃ r, m_ref22_Weight p 200 = some r ∧ (r ≤ 200 → SmallP p) := by
  suffices h : ∀ n0 : Int, 0 ≤ n0 → n0 ≤ 1125899906842624 → ∃ n', n0 ≤ n' ∧ (n' ≤ 200 → n0 + p.Mails.length ≤ n' ∧ (∀ m ∈ p.Mails, SmallM m) ∧ ∀ s ∈ p.Subs.drop 0, s.Name.size < 8040) ∧ m_ref22_Weight_l1 p 200 ((((p.Subs.length : Int)) - ((0 : Int))).toNat + 1) n0 (0 : Int) = some n' by
    have b := hp.sl
    obtain ⟨r, h1, h2, h3⟩ := h (p.Subs.length : Int) (by omega) (by unfold big63 at b; omega)
    refine ⟨r, h3, fun hr => ?_⟩
    obtain ⟨g1, g2, g3⟩ := h2 hr
    exact ⟨by omega, by omega, g2, fun s hs => g3 s (by simpa using hs)⟩
  refine loop0 (β := Int → Option Int) (R := fun k o => ∀ n0 : Int, 0 ≤ n0 → n0 ≤ 1125899906842624 → ∃ n', n0 ≤ n' ∧ (n' ≤ 200 → n0 + p.Mails.length ≤ n' ∧ (∀ m ∈ p.Mails, SmallM m) ∧ ∀ s ∈ p.Subs.drop k, s.Name.size < 8040) ∧ (match o with | some g => g n0 | none => none) = some n') (f := fun n k => some fun n0 => m_ref22_Weight_l1 p 200 n n0 k) (big_lt hp.sl) (fun n n0 a b => ?_) (fun n k hk hw ih n0 a b => ?_)
  · obtain ⟨n', g1, g2, g3⟩ := weight_mails hp n0 a b
    refine ⟨n', g1, fun hn => ⟨(g2 hn).1, (g2 hn).2, fun s hs => ?_⟩, ?_⟩
    · rw [List.drop_eq_nil_of_le (Nat.le_refl _)] at hs
      simp at hs
    · simp only [m_ref22_Weight_l1, m_ref22_Weight_l1_B, decide_eq_false nlt_k]
      exact g3
  · simp only [m_ref22_Weight_l1, m_ref22_Weight_l1_B, decide_eq_true (lt_k hk), if_true, m_ref22_Weight_k1]
    have hs := (hp.subs _ (List.getElem_mem hk)).name
    by_cases h : n0 ≤ 200
    · rw [decide_eq_true h, if_pos rfl, nthI_lt hk, bnd_some, div40 hs, wrap_add (by omega) (by unfold big63 at hs; omega), hw]
      obtain ⟨n', g1, g2, g3⟩ := ih (n0 + ((p.Subs[k].Name.size / 40 : Nat) : Int)) (by omega) (by unfold big63 at hs; omega)
      refine ⟨n', by omega, fun hn => ?_, g3⟩
      obtain ⟨q1, q2, q3⟩ := g2 hn
      refine ⟨by omega, q2, fun s hs' => ?_⟩
      rw [List.drop_eq_getElem_cons hk, List.mem_cons] at hs'
      rcases hs' with rfl | hs'
      · omega
      · exact q3 s hs'
    · rw [decide_eq_false h]
      obtain ⟨n', g1, g2, g3⟩ := weight_mails hp n0 a b
      exact ⟨n', g1, fun hn => absurd hn (by omega), g3⟩
theorem light_ok {p : TPost} (hp : OkP p) : ∃ b, m_law22_light p = some b ∧ (b = true → SmallP p) := by
  obtain ⟨r, h1, h2⟩ := weight_ok hp
  refine ⟨decide (r ≤ 200), by unfold m_law22_light; rw [h1]; rfl, fun h => h2 (by simpa using h)⟩
end Go.Proofs.Ytefjblgmnoheiaa.R

/- Plain laws: a copy. -/
set_option maxRecDepth 100000
set_option linter.unusedVariables false
set_option linter.unusedSimpArgs false
noncomputable section
namespace Go.Proofs.Ytefjblgmnoheiaa.R
open Go
theorem copy_eq {v : TVars} (h1 : v.Names.length ≤ 549755813888) (h2 : v.Vals.length ≤ 549755813888) : m_vars_Copy v = some v := by
  simp [m_vars_Copy, capB_small h1, capB_small h2]
/-! ### A copy -/
theorem setI_same {α : Type} {l : List α} {k : Nat} (h : k < l.length) : setI l (k : Int) l[k] = l := by simp [setI]
theorem post_Copy {p : TPost} (hc : CapP p) : m_post_Copy p = some p := by
  unfold m_post_Copy
  rw [capB_small hc.ml, capB_small hc.sl]
  simp only [if_true]
  refine loop0 (R := fun k o => o = some p) (f := fun n i => m_post_Copy_l1 p n i p.Mails) (by have := hc.ml; omega) (fun n => ?_) (fun n k hk hw ih => ?_)
  · rw [m_post_Copy_l1, m_post_Copy_l1_B, decide_eq_false nlt_k]
    rfl
  · have hm := hc.mails _ (List.getElem_mem hk)
    rw [m_post_Copy_l1, m_post_Copy_l1_B, decide_eq_true (lt_k hk), if_pos rfl, nthI_lt hk, bnd_some, copy_eq hm.names hm.vals, bnd_some, capB_small hm.took, if_pos rfl, hw]
    have e : TMail.mk p.Mails[k].Id p.Mails[k].Name p.Mails[k].Key p.Mails[k].Vars p.Mails[k].Until p.Mails[k].Took = p.Mails[k] := rfl
    rw [e, setI_same hk, setI_same hk]
    exact ih
end Go.Proofs.Ytefjblgmnoheiaa.R

/- Plain laws: a message that is published. -/
set_option maxRecDepth 100000
set_option linter.unusedVariables false
set_option linter.unusedSimpArgs false
noncomputable section
namespace Go.Proofs.Ytefjblgmnoheiaa.R
open Go
/-- Of a post that may be, with few that took each. -/
structure Rdy (p : TPost) : Prop where
  ml : p.Mails.length ≤ 4096
  sl : p.Subs.length ≤ 4096
  took : ∀ m ∈ p.Mails, m.Took.length ≤ 10000
  names : ∀ m ∈ p.Mails, m.Vars.Names.length ≤ 1000
  vals : ∀ m ∈ p.Mails, m.Vars.Vals.length ≤ 1000
theorem Rdy.cap {p : TPost} (h : Rdy p) : CapP p := ⟨by have := h.ml; omega, by have := h.sl; omega, fun m hm => ⟨by have := h.took m hm; omega, by have := h.names m hm; omega, by have := h.vals m hm; omega⟩⟩
def suitB (m : TMail) (s : TSub) : Bool := decide (s.Mail = 0) && (eqS s.Name m.Name && (decide (s.Key = m.Key) && !tookB m.Took s.Part s.Inst))
def andM (m : TMail) (s : TSub) : TMail := ⟨m.Id, m.Name, m.Key, m.Vars, m.Until, m.Took ++ [⟨s.Part, s.Inst⟩]⟩
def withM (s : TSub) (n : Int) : TSub := ⟨s.Part, s.Id, s.Inst, s.Name, s.Key, n⟩
def hitOf (m : TMail) (s : TSub) : THit := ⟨s.Part, s.Id, m.Id, m.Vars⟩
theorem eqS_comm (a b : ByteArray) : eqS a b = eqS b a := by rw [Bool.eq_iff_iff, eqS_iff, eqS_iff]; exact eq_comm
theorem post_suits {m : TMail} {s : TSub} (h : m.Took.length ≤ big63) : m_post_suits m s = some (suitB m s) := by
  unfold m_post_suits suitB
  rw [contains_who h]
  by_cases h1 : s.Mail = 0 <;> rcases Bool.eq_false_or_eq_true (eqS s.Name m.Name) with h2 | h2 <;> by_cases h3 : s.Key = m.Key <;> simp [h1, h2, h3, bnd_some]
theorem ref_suits {m : TMail} {s : TSub} (h : m.Took.length ≤ big63) : m_ref22_suits m s = some (suitB m s) := by
  unfold m_ref22_suits suitB
  have e : (m.Key = s.Key) = (s.Key = m.Key) := propext eq_comm
  rw [ref22_took h, eqS_comm m.Name s.Name]
  simp only [e]
  by_cases h1 : s.Mail = 0 <;> rcases Bool.eq_false_or_eq_true (eqS s.Name m.Name) with h2 | h2 <;> by_cases h3 : s.Key = m.Key <;> simp [h1, h2, h3, bnd_some]
/-- A message given to all that wait for it. -/
def pubL : TMail → List TSub → TMail × List TSub × List THit
  | m, [] => (m, [], [])
  | m, s :: r => if suitB m s = true then ((pubL (andM m s) r).1, withM s m.Id :: (pubL (andM m s) r).2.1, hitOf m s :: (pubL (andM m s) r).2.2)
    else ((pubL m r).1, s :: (pubL m r).2.1, (pubL m r).2.2)
theorem pubL_id : ∀ (l : List TSub) (m : TMail), (pubL m l).1.Id = m.Id ∧ (pubL m l).1.Name = m.Name ∧ (pubL m l).1.Key = m.Key ∧ (pubL m l).1.Vars = m.Vars ∧ (pubL m l).1.Until = m.Until
  | [], m => ⟨rfl, rfl, rfl, rfl, rfl⟩
  | s :: r, m => by
    unfold pubL
    split
    · exact pubL_id r (andM m s)
    · exact pubL_id r m
theorem nth_mid {α : Type} (a b : List α) (x : α) : nthI (a ++ x :: b) (a.length : Int) = some x := by rw [nthI_nat]; simp
theorem set_mid {α : Type} (a b : List α) (x y : α) : setI (a ++ x :: b) (a.length : Int) y = a ++ y :: b := by simp [setI]
theorem give_v1 {m : TMail} {s : TSub} {a b : List TSub} (h1 : m.Took.length < 549755813888) (h2 : m.Vars.Names.length ≤ 549755813888) (h3 : m.Vars.Vals.length ≤ 549755813888) :
    m_post_give_v1 (a.length : Int) m (a ++ s :: b) = some (hitOf m s, andM m s, a ++ withM s m.Id :: b) := by
  unfold m_post_give_v1
  rw [nth_mid, bnd_some, capB_small (by omega), if_pos rfl, copy_eq h2 h3, bnd_some, set_mid]
  rfl
theorem pub_loop {keep : Int} {q : TPost} : ∀ (r pre : List TSub) (n : Nat) (m : TMail) (hits : List THit), r.length < n → q.Subs.length = pre.length + r.length → q.Subs.length ≤ 4096 → m.Took.length + r.length ≤ 10000 → m.Vars.Names.length ≤ 1000 → m.Vars.Vals.length ≤ 1000 → hits.length + r.length ≤ 4096 →
    m_post_Publish_l1 keep q n (pre.length : Int) (pre ++ r) m.Id m.Name m.Key m.Vars.Names m.Vars.Vals m.Until m.Took hits =
    m_post_Publish_k3 keep q (pre ++ (pubL m r).2.1) (pubL m r).1.Id (pubL m r).1.Name (pubL m r).1.Key (pubL m r).1.Vars.Names (pubL m r).1.Vars.Vals (pubL m r).1.Until (pubL m r).1.Took (hits ++ (pubL m r).2.2)
  | [], pre, n, m, hits, hn, hq, _, _, _, _, _ => by
    obtain ⟨n, rfl⟩ : ∃ n', n = n' + 1 := ⟨n - 1, by simp at hn; omega⟩
    have : ¬ ((pre.length : Int) < ((q.Subs.length : Nat) : Int)) := by simp at hq; omega
    rw [m_post_Publish_l1, m_post_Publish_l1_B, decide_eq_false this]
    simp [pubL]
  | s :: r, pre, n, m, hits, hn, hq, hb, ht, hv, hw, hh => by
    simp only [List.length_cons] at hn hq ht hh
    obtain ⟨n, rfl⟩ : ∃ n', n = n' + 1 := ⟨n - 1, by omega⟩
    have h1 : ((pre.length : Int) < ((q.Subs.length : Nat) : Int)) := by omega
    have e : TMail.mk m.Id m.Name m.Key (TVars.mk m.Vars.Names m.Vars.Vals) m.Until m.Took = m := rfl
    rw [m_post_Publish_l1, m_post_Publish_l1_B, decide_eq_true h1, if_pos rfl, nth_mid, bnd_some, e, post_suits (by unfold big63; omega), bnd_some, give_v1 (by omega) (by omega) (by omega), bnd_some, wrap_succ (by omega)]
    cases hs : suitB m s with
    | true =>
      have el : (a : Nat) → (b : Nat) → a = b → decide (a = b) = true := fun a b h => decide_eq_true h
      rw [if_pos rfl, el _ _ (by simp), if_pos rfl, capB_small (by omega), if_pos rfl]
      have := pub_loop (keep := keep) (q := q) r (pre ++ [withM s m.Id]) n (andM m s) (hits ++ [hitOf m s]) (by omega) (by simp; omega) hb (by simp [andM]; omega) hv hw (by simp; omega)
      simp only [List.length_append, List.length_cons, List.length_nil, List.append_assoc, List.cons_append, List.nil_append] at this
      rw [pubL, if_pos hs]
      exact this
    | false =>
      rw [if_neg (by decide)]
      have := pub_loop (keep := keep) (q := q) r (pre ++ [s]) n m hits (by omega) (by simp; omega) hb (by omega) hv hw (by omega)
      simp only [List.length_append, List.length_cons, List.length_nil, List.append_assoc, List.cons_append, List.nil_append] at this
      rw [pubL, hs, if_neg (by decide)]
      exact this
theorem ref_hit (m : TMail) (s : TSub) : m_ref22_hit m s = some (hitOf m s) := rfl
theorem ref_and {m : TMail} {s : TSub} (h : m.Took.length < 549755813888) : m_ref22_and m s = some (andM m s) := by
  unfold m_ref22_and
  rw [capB_small (by omega), capB_small (by omega)]
  rfl
theorem rpub_loop {keep : Int} {p : TPost} : ∀ (r pre : List TSub) (n : Nat) (m : TMail) (out : List TSub) (hits : List THit), p.Subs = pre ++ r → r.length < n → p.Subs.length ≤ 4096 → m.Took.length + r.length ≤ 10000 → out.length + r.length ≤ 4096 → hits.length + r.length ≤ 4096 →
    m_ref22_Publish_l1 p keep n (pre.length : Int) m.Id m.Name m.Key m.Vars.Names m.Vars.Vals m.Until m.Took out hits =
    m_ref22_Publish_k4 p keep (pubL m r).1.Id (pubL m r).1.Name (pubL m r).1.Key (pubL m r).1.Vars.Names (pubL m r).1.Vars.Vals (pubL m r).1.Until (pubL m r).1.Took (out ++ (pubL m r).2.1) (hits ++ (pubL m r).2.2)
  | [], pre, n, m, out, hits, hq, hn, _, _, _, _ => by
    obtain ⟨n, rfl⟩ : ∃ n', n = n' + 1 := ⟨n - 1, by simp at hn; omega⟩
    have : ¬ ((pre.length : Int) < (p.Subs.length : Int)) := by rw [hq]; simp
    rw [m_ref22_Publish_l1, m_ref22_Publish_l1_B, decide_eq_false this]
    simp [pubL]
  | s :: r, pre, n, m, out, hits, hq, hn, hb, ht, ho, hh => by
    have hq' := congrArg List.length hq
    simp only [List.length_cons, List.length_append] at hn ht hh ho hq'
    obtain ⟨n, rfl⟩ : ∃ n', n = n' + 1 := ⟨n - 1, by omega⟩
    have h1 : ((pre.length : Int) < (p.Subs.length : Int)) := by omega
    have e : TMail.mk m.Id m.Name m.Key (TVars.mk m.Vars.Names m.Vars.Vals) m.Until m.Took = m := rfl
    have hn' : nthI p.Subs (pre.length : Int) = some s := by rw [hq, nth_mid]
    rw [m_ref22_Publish_l1, m_ref22_Publish_l1_B, decide_eq_true h1, if_pos rfl, hn', bnd_some, e, ref_suits (by unfold big63; omega), bnd_some, ref_hit, bnd_some, ref_and (by omega), bnd_some]
    unfold m_ref22_Publish_k3
    rw [wrap_succ (by omega)]
    cases hs : suitB m s with
    | true =>
      rw [if_pos rfl, capB_small (by omega), if_pos rfl, capB_small (by omega), if_pos rfl]
      have := rpub_loop (keep := keep) (p := p) r (pre ++ [s]) n (andM m s) (out ++ [withM s m.Id]) (hits ++ [hitOf m s]) (by rw [hq]; simp) (by omega) hb (by simp [andM]; omega) (by simp; omega) (by simp; omega)
      simp only [List.length_append, List.length_cons, List.length_nil, List.append_assoc, List.cons_append, List.nil_append] at this
      rw [pubL, if_pos hs]
      exact this
    | false =>
      rw [if_neg (by decide), capB_small (by omega), if_pos rfl]
      have := rpub_loop (keep := keep) (p := p) r (pre ++ [s]) n m (out ++ [s]) hits (by rw [hq]; simp) (by omega) hb (by omega) (by simp; omega) (by omega)
      simp only [List.length_append, List.length_cons, List.length_nil, List.append_assoc, List.cons_append, List.nil_append] at this
      rw [pubL, hs, if_neg (by decide)]
      exact this
abbrev zeroP : TPost := ⟨0, [], []⟩
def mayK (now keep : Int) : Bool := inZ now 0 most && inZ keep 0 (most - now)
def pubP (p : TPost) (name : ByteArray) (k : Int) (v : TVars) (now keep : Int) : TPost × Int × List THit × Int :=
  if nameB name = true then
    if mayK now keep = true then
      if vchk v ≠ 0 then (zeroP, 0, [], vchk v)
      else if most ≤ p.Next ∨ (0 < keep ∧ 4096 ≤ p.Mails.length) then (zeroP, 0, [], 14)
      else (⟨p.Next + 1, if 0 < keep then p.Mails ++ [(pubL ⟨p.Next, name, k, v, now + keep, []⟩ p.Subs).1] else p.Mails, (pubL ⟨p.Next, name, k, v, now + keep, []⟩ p.Subs).2.1⟩, p.Next, (pubL ⟨p.Next, name, k, v, now + keep, []⟩ p.Subs).2.2, 0)
    else (zeroP, 0, [], 2)
  else (zeroP, 0, [], 1)
theorem wrap_most {now : Int} (h0 : 0 ≤ now) (h1 : now ≤ 1099511627776) : IntKind.i64.wrap ((1099511627776 : Int) - now) = 1099511627776 - now := wrap_in (by unfold inR; omega)
section
variable {p : TPost} {name : ByteArray} {k : Int} {v : TVars} {now keep : Int}
theorem post_pub_k1 (hp : OkP p) (hr : Rdy p) (hv : OkV v) (hl : v.Names.length ≤ 1000) (hl' : v.Vals.length ≤ 1000) (h1 : 0 ≤ now) (h2 : now ≤ most) (h3 : 0 ≤ keep) (h4 : keep ≤ most - now) (hnx : 0 ≤ p.Next) :
    m_post_Publish_k1 p name k v now keep false = some (if vchk v ≠ 0 then (zeroP, 0, [], vchk v)
      else if most ≤ p.Next ∨ (0 < keep ∧ 4096 ≤ p.Mails.length) then (zeroP, 0, [], 14)
      else (⟨p.Next + 1, if 0 < keep then p.Mails ++ [(pubL ⟨p.Next, name, k, v, now + keep, []⟩ p.Subs).1] else p.Mails, (pubL ⟨p.Next, name, k, v, now + keep, []⟩ p.Subs).2.1⟩, p.Next, (pubL ⟨p.Next, name, k, v, now + keep, []⟩ p.Subs).2.2, 0)) := by
  unfold most at *
  unfold m_post_Publish_k1
  rw [if_neg (by decide), vars_Check hv, bnd_some]
  by_cases hc : vchk v = 0
  · have hc' : ¬ (vchk v ≠ 0) := by simpa using hc
    rw [decide_eq_false hc', if_neg (by decide), if_neg hc']
    have hm := hr.ml
    have hk2 : ¬ (1099511627776 ≤ p.Next ∨ (0 < keep ∧ 4096 ≤ p.Mails.length)) → m_post_Publish_k2 p name k v now keep false = some (⟨p.Next + 1, if 0 < keep then p.Mails ++ [(pubL ⟨p.Next, name, k, v, now + keep, []⟩ p.Subs).1] else p.Mails, (pubL ⟨p.Next, name, k, v, now + keep, []⟩ p.Subs).2.1⟩, p.Next, (pubL ⟨p.Next, name, k, v, now + keep, []⟩ p.Subs).2.2, 0) := by
      intro hf
      unfold m_post_Publish_k2
      rw [if_neg (by decide), post_Copy hr.cap, bnd_some, copy_eq (by omega) (by omega), bnd_some, wrap_in (n := now + keep) (by unfold inR; omega)]
      have := pub_loop (keep := keep) (q := p) p.Subs [] (((((p.Subs.length : Nat) : Int)) - ((0 : Int))).toNat + 1) ⟨p.Next, name, k, v, now + keep, []⟩ [] (by omega) (by simp) hr.sl (by have := hr.sl; simp; omega) hl hl' (by have := hr.sl; simpa using this)
      simp only [List.length_nil, List.nil_append] at this
      rw [show (((0 : Nat) : Int)) = 0 from rfl] at this
      rw [this]
      obtain ⟨i1, i2, i3, i4, i5⟩ := pubL_id p.Subs ⟨p.Next, name, k, v, now + keep, []⟩
      unfold m_post_Publish_k3 m_post_Publish_k4
      rw [wrap_in (n := p.Next + 1) (by unfold inR; omega)]
      by_cases hk : 0 < keep
      · rw [decide_eq_true hk, if_pos rfl, capB_small (by omega), if_pos rfl, if_pos hk, i1]
        congr 3
        generalize (pubL ⟨p.Next, name, k, v, now + keep, []⟩ p.Subs).1 = x at *
        cases x
        simp only at i1
        subst i1
        rfl
      · rw [decide_eq_false hk, if_neg (by decide), if_neg hk, i1]
    by_cases g1 : 1099511627776 ≤ p.Next
    · rw [decide_eq_true g1, if_pos rfl, if_pos (.inl g1)]
      rfl
    · rw [decide_eq_false g1, if_neg (by decide)]
      by_cases g2 : 0 < keep
      · rw [decide_eq_true g2, if_pos rfl]
        by_cases g3 : 4096 ≤ p.Mails.length
        · have : (4096 : Int) ≤ (p.Mails.length : Int) := by omega
          rw [decide_eq_true this, if_pos (.inr ⟨g2, g3⟩)]
          rfl
        · have : ¬ (4096 : Int) ≤ (p.Mails.length : Int) := by omega
          have hf : ¬ (1099511627776 ≤ p.Next ∨ (0 < keep ∧ 4096 ≤ p.Mails.length)) := by omega
          rw [decide_eq_false this, hk2 hf, if_neg hf]
      · have hf : ¬ (1099511627776 ≤ p.Next ∨ (0 < keep ∧ 4096 ≤ p.Mails.length)) := by omega
        rw [decide_eq_false g2, if_neg (by decide), hk2 hf, if_neg hf]
  · rw [decide_eq_true hc, if_pos rfl, if_pos hc]
    rfl
theorem post_Publish (hp : OkP p) (hr : Rdy p) (hv : OkV v) (hl : v.Names.length ≤ 1000) (hl' : v.Vals.length ≤ 1000) (hn : name.size ≤ big63) (hnx : 0 ≤ p.Next) :
    m_post_Publish p name k v now keep = some (pubP p name k v now keep) := by
  unfold m_post_Publish pubP
  rw [pack_name hn, bnd_some]
  cases nameB name with
  | false => rfl
  | true =>
    rw [if_pos rfl, if_pos rfl]
    have ht : m_post_Publish_k1 p name k v now keep true = some (zeroP, 0, [], 2) := rfl
    by_cases h1 : now < 0
    · have : mayK now keep = false := by rw [Bool.eq_false_iff]; intro h; simp only [mayK, Bool.and_eq_true, inZ_iff] at h; omega
      rw [decide_eq_true h1, if_pos rfl, ht, this, if_neg (by decide)]
    · rw [decide_eq_false h1, if_neg (by decide)]
      by_cases h2 : 1099511627776 < now
      · have : mayK now keep = false := by rw [Bool.eq_false_iff]; intro h; simp only [mayK, Bool.and_eq_true, inZ_iff] at h; unfold most at h; omega
        rw [decide_eq_true h2, if_pos rfl, ht, this, if_neg (by decide)]
      · rw [decide_eq_false h2, if_neg (by decide)]
        by_cases h3 : keep < 0
        · have : mayK now keep = false := by rw [Bool.eq_false_iff]; intro h; simp only [mayK, Bool.and_eq_true, inZ_iff] at h; omega
          rw [decide_eq_true h3, if_pos rfl, ht, this, if_neg (by decide)]
        · rw [decide_eq_false h3, if_neg (by decide), wrap_most (by omega) (by omega)]
          by_cases h4 : 1099511627776 - now < keep
          · have : mayK now keep = false := by rw [Bool.eq_false_iff]; intro h; simp only [mayK, Bool.and_eq_true, inZ_iff] at h; unfold most at h; omega
            rw [decide_eq_true h4, ht, this, if_neg (by decide)]
          · have : mayK now keep = true := by simp only [mayK, Bool.and_eq_true, inZ_iff]; unfold most; omega
            rw [decide_eq_false h4, this, if_pos rfl, post_pub_k1 hp hr hv hl hl' (by omega) (by unfold most; omega) (by omega) (by unfold most; omega) hnx]
theorem ref_pub_k1 (hp : OkP p) (hr : Rdy p) (hv : OkV v) (h1 : 0 ≤ now) (h2 : now ≤ most) (h3 : 0 ≤ keep) (h4 : keep ≤ most - now) (hnx : 0 ≤ p.Next) :
    m_ref22_Publish_k1 p name k v now keep false = some (if vchk v ≠ 0 then (zeroP, 0, [], vchk v)
      else if most ≤ p.Next ∨ (0 < keep ∧ 4096 ≤ p.Mails.length) then (zeroP, 0, [], 14)
      else (⟨p.Next + 1, if 0 < keep then p.Mails ++ [(pubL ⟨p.Next, name, k, v, now + keep, []⟩ p.Subs).1] else p.Mails, (pubL ⟨p.Next, name, k, v, now + keep, []⟩ p.Subs).2.1⟩, p.Next, (pubL ⟨p.Next, name, k, v, now + keep, []⟩ p.Subs).2.2, 0)) := by
  unfold most at *
  unfold m_ref22_Publish_k1
  rw [if_neg (by decide), ref09_Check hv, bnd_some]
  by_cases hc : vchk v = 0
  · have hc' : ¬ (vchk v ≠ 0) := by simpa using hc
    rw [decide_eq_false hc', if_neg (by decide), if_neg hc']
    have hm := hr.ml
    have hk2 : ¬ (1099511627776 ≤ p.Next ∨ (0 < keep ∧ 4096 ≤ p.Mails.length)) → m_ref22_Publish_k2 p name k v now keep false = some (⟨p.Next + 1, if 0 < keep then p.Mails ++ [(pubL ⟨p.Next, name, k, v, now + keep, []⟩ p.Subs).1] else p.Mails, (pubL ⟨p.Next, name, k, v, now + keep, []⟩ p.Subs).2.1⟩, p.Next, (pubL ⟨p.Next, name, k, v, now + keep, []⟩ p.Subs).2.2, 0) := by
      intro hf
      unfold m_ref22_Publish_k2
      rw [if_neg (by decide), wrap_in (n := now + keep) (by unfold inR; omega)]
      have := rpub_loop (keep := keep) (p := p) p.Subs [] (((((p.Subs.length : Nat) : Int)) - ((0 : Int))).toNat + 1) ⟨p.Next, name, k, v, now + keep, []⟩ [] [] rfl (by omega) hr.sl (by have := hr.sl; simp; omega) (by have := hr.sl; simpa using this) (by have := hr.sl; simpa using this)
      simp only [List.length_nil, List.nil_append] at this
      rw [show (((0 : Nat) : Int)) = 0 from rfl] at this
      rw [this]
      obtain ⟨i1, i2, i3, i4, i5⟩ := pubL_id p.Subs ⟨p.Next, name, k, v, now + keep, []⟩
      unfold m_ref22_Publish_k4 m_ref22_Publish_k5
      rw [wrap_in (n := p.Next + 1) (by unfold inR; omega), capB_small (by omega), if_pos rfl]
      by_cases hk : 0 < keep
      · rw [decide_eq_true hk, if_pos rfl, capB_small (by omega), if_pos rfl, if_pos hk]
      · rw [decide_eq_false hk, if_neg (by decide), if_neg hk]
    by_cases g1 : 1099511627776 ≤ p.Next
    · rw [decide_eq_true g1, if_pos rfl, if_pos (.inl g1)]
      rfl
    · rw [decide_eq_false g1, if_neg (by decide)]
      by_cases g2 : 0 < keep
      · rw [decide_eq_true g2, if_pos rfl]
        by_cases g3 : 4096 ≤ p.Mails.length
        · have : (4096 : Int) ≤ (p.Mails.length : Int) := by omega
          rw [decide_eq_true this, if_pos (.inr ⟨g2, g3⟩)]
          rfl
        · have : ¬ (4096 : Int) ≤ (p.Mails.length : Int) := by omega
          have hf : ¬ (1099511627776 ≤ p.Next ∨ (0 < keep ∧ 4096 ≤ p.Mails.length)) := by omega
          rw [decide_eq_false this, hk2 hf, if_neg hf]
      · have hf : ¬ (1099511627776 ≤ p.Next ∨ (0 < keep ∧ 4096 ≤ p.Mails.length)) := by omega
        rw [decide_eq_false g2, if_neg (by decide), hk2 hf, if_neg hf]
  · rw [decide_eq_true hc, if_pos rfl, if_pos hc]
theorem ref_Publish (hp : OkP p) (hr : Rdy p) (hv : OkV v) (hn : name.size ≤ big63) (hnx : 0 ≤ p.Next) :
    m_ref22_Publish p name k v now keep = some (pubP p name k v now keep) := by
  unfold m_ref22_Publish pubP
  rw [ref02_name hn, bnd_some]
  cases nameB name with
  | false => rfl
  | true =>
    rw [if_pos rfl, if_pos rfl, in_eq, bnd_some]
    have ht : m_ref22_Publish_k1 p name k v now keep true = some (zeroP, 0, [], 2) := rfl
    cases h1 : inZ now 0 1099511627776 with
    | false =>
      have : mayK now keep = false := by unfold mayK most; rw [h1]; rfl
      rw [if_neg (by decide), ht, this, if_neg (by decide)]
    | true =>
      have h1' := inZ_iff.1 h1
      rw [if_pos rfl]
      by_cases h3 : keep < 0
      · have : mayK now keep = false := by rw [Bool.eq_false_iff]; intro h; simp only [mayK, Bool.and_eq_true, inZ_iff] at h; omega
        rw [decide_eq_true h3, if_pos rfl, ht, this, if_neg (by decide)]
      · rw [decide_eq_false h3, if_neg (by decide), wrap_most (by omega) (by omega)]
        by_cases h4 : 1099511627776 - now < keep
        · have : mayK now keep = false := by rw [Bool.eq_false_iff]; intro h; simp only [mayK, Bool.and_eq_true, inZ_iff] at h; unfold most at h; omega
          rw [decide_eq_true h4, ht, this, if_neg (by decide)]
        · have : mayK now keep = true := by simp only [mayK, Bool.and_eq_true, inZ_iff]; unfold most; omega
          rw [decide_eq_false h4, this, if_pos rfl, ref_pub_k1 hp hr hv (by omega) (by unfold most; omega) (by omega) (by unfold most; omega) hnx]
end
end Go.Proofs.Ytefjblgmnoheiaa.R

/- Plain laws: where a subscription stands. -/
set_option maxRecDepth 100000
set_option linter.unusedVariables false
set_option linter.unusedSimpArgs false
noncomputable section
namespace Go.Proofs.Ytefjblgmnoheiaa.R
open Go
/-- Ahead of a key. -/
def aheadK (a b : Int) (s : TSub) : Bool := decide (s.Part < a) || (decide (s.Part = a) && decide (s.Id < b))
def atB (a b : Int) (s : TSub) : Bool := decide (s.Part = a) && decide (s.Id = b)
theorem atB_iff {a b : Int} {s : TSub} : atB a b s = true ↔ s.Part = a ∧ s.Id = b := by simp [atB]
theorem aheadK_iff {a b : Int} {s : TSub} : aheadK a b s = true ↔ s.Part < a ∨ (s.Part = a ∧ s.Id < b) := by simp [aheadK]
theorem aheadB_iff {s t : TSub} : aheadB s t = true ↔ s.Part < t.Part ∨ (s.Part = t.Part ∧ s.Id < t.Id) := by simp [aheadB]
/-- Rising. -/
def Rises (l : List TSub) : Prop := l.Pairwise fun s t => aheadB s t = true
theorem ahead_trans {s t u : TSub} (h : aheadB s t = true) (h' : aheadB t u = true) : aheadB s u = true := by
  rw [aheadB_iff] at *
  omega
theorem subsB_rises {next : Int} : ∀ {l : List TSub} {q : Option TSub}, subsB next q l = true → Rises l ∧ ∀ s ∈ l, behindB q s = true
  | [], q, _ => ⟨List.Pairwise.nil, by simp⟩
  | x :: l, q, h => by
    simp only [subsB, Bool.and_eq_true] at h
    obtain ⟨h1, h2⟩ := subsB_rises h.2.2.2
    refine ⟨List.Pairwise.cons h2 h1, fun s hs => ?_⟩
    rcases List.mem_cons.1 hs with rfl | hs
    · exact h.2.2.1
    · have := h2 s hs
      cases q with
      | none => rfl
      | some q => exact ahead_trans h.2.2.1 this
theorem pchk_subs {p : TPost} (h : pchk p = 0) : subsB p.Next none p.Subs = true ∧ mailsE p.Next 0 p.Mails = 0 ∧ p.Mails.length ≤ 4096 ∧ p.Subs.length ≤ 4096 ∧ inZ p.Next 1 most = true := by
  unfold pchk at h
  split at h
  · rename_i h1
    split at h
    · cases h
    · rename_i h4
      split at h
      · rename_i h2; exact absurd h h2
      · rename_i h2
        split at h
        · rename_i h3
          exact ⟨h3, by simpa using h2, by omega, by omega, h1⟩
        · cases h
  · cases h
theorem mailsE_all' {next : Int} : ∀ {l : List TMail} {q : Int}, mailsE next q l = 0 → ∀ m ∈ l, mchk m = 0
  | [], _, _, m, hm => by cases hm
  | x :: l, q, h, m, hm => by
    simp only [mailsE] at h
    split at h
    · rename_i h0; exact absurd h h0
    · rename_i h0
      split at h
      · cases h
      · rcases List.mem_cons.1 hm with rfl | hm
        · simpa using h0
        · exact mailsE_all' h m hm
/-! ### Binary search -/
theorem find_order (s : TSub) (k : Tkey) : ∃ r, m_post_find_1 s k = some r ∧ decide (r < 0) = aheadK k.f_part k.f_id s ∧ decide (r = 0) = atB k.f_part k.f_id s := by
  unfold m_post_find_1 m_post_of
  refine ⟨_, by rw [bnd_some, order_eq, bnd_some], ?_, ?_⟩
  · unfold aheadK
    by_cases h1 : s.Part = k.f_part <;> by_cases h2 : s.Id = k.f_id <;> by_cases h3 : s.Part < k.f_part <;> by_cases h4 : s.Id < k.f_id <;> simp [h1, h2, h3, h4] <;> omega
  · unfold atB
    by_cases h1 : s.Part = k.f_part <;> by_cases h2 : s.Id = k.f_id <;> by_cases h3 : s.Part < k.f_part <;> by_cases h4 : s.Id < k.f_id <;> simp [h1, h2, h3, h4] <;> omega
theorem half_eq {i j : Nat} (h : i + j ≤ 10000) : IntKind.i64.wrap (shrI .u64 (IntKind.u64.wrap (IntKind.i64.wrap ((i : Int) + (j : Int)))) (1 : Int)) = (((i + j) / 2 : Nat) : Int) := by
  rw [wrap_in (n := (i : Int) + j) (by unfold inR; omega), u64_in (by omega) (by omega)]
  have : shrI .u64 ((i : Int) + (j : Int)) 1 = (((i + j) / 2 : Nat) : Int) := by
    have e : min (1 : Int).toNat IntKind.u64.bits = 1 := by decide
    unfold shrI
    rw [e, Int.fdiv_eq_ediv_of_nonneg _ (by decide)]
    omega
  rw [this, wrap_in (by unfold inR; omega)]
/-- How many stand ahead of a key. -/
def lowK (a b : Int) : List TSub → Nat
  | [] => 0
  | s :: r => if aheadK a b s = true then lowK a b r + 1 else 0
theorem lowK_le (a b : Int) : ∀ l : List TSub, lowK a b l ≤ l.length
  | [] => Nat.le_refl _
  | s :: r => by
    have := lowK_le a b r
    unfold lowK
    split <;> simp <;> omega
theorem ahead_K {s t : TSub} {a b : Int} (h : aheadB s t = true) (h' : aheadK a b t = true) : aheadK a b s = true := by
  rw [aheadB_iff] at h
  rw [aheadK_iff] at *
  omega
theorem lowK_get {a b : Int} : ∀ {l : List TSub}, Rises l → ∀ (i : Nat) (h : i < l.length), aheadK a b l[i] = decide (i < lowK a b l)
  | s :: r, hr, i, h => by
    have hr' := List.pairwise_cons.1 hr
    unfold lowK
    cases i with
    | zero =>
      by_cases hs : aheadK a b s = true
      · simp [hs]
      · simp [hs]
    | succ i =>
      have hi : i < r.length := by simpa using h
      have ih := lowK_get (a := a) (b := b) hr'.2 i hi
      by_cases hs : aheadK a b s = true
      · simp [hs, ih]
      · have h1 := hr'.1 r[i] (List.getElem_mem hi)
        have h2 : aheadK a b r[i] = false := by
          cases h3 : aheadK a b r[i] with
          | false => rfl
          | true => exact absurd (ahead_K h1 h3) hs
        simp [hs, h2]
theorem search_loop {l : List TSub} {k : Tkey} (hl : l.length ≤ 4096) (hr : Rises l) : ∀ (d i j n : Nat), j - i ≤ d → d < n → i ≤ lowK k.f_part k.f_id l → lowK k.f_part k.f_id l ≤ j → j ≤ l.length →
    m_slices_BinarySearchFunc_api_Sub_api_Sub_post_key_l1 l k n (i : Int) (j : Int) = m_slices_BinarySearchFunc_api_Sub_api_Sub_post_key_k1 l k ((lowK k.f_part k.f_id l : Nat) : Int) := by
  intro d
  induction d with
  | zero =>
    intro i j n h1 h2 h3 h4 h5
    obtain ⟨n, rfl⟩ : ∃ n', n = n' + 1 := ⟨n - 1, by omega⟩
    have h6 : ¬ ((i : Int) < (j : Int)) := by omega
    have h7 : i = lowK k.f_part k.f_id l := by omega
    rw [m_slices_BinarySearchFunc_api_Sub_api_Sub_post_key_l1, m_slices_BinarySearchFunc_api_Sub_api_Sub_post_key_l1_B, decide_eq_false h6, if_neg (by decide), ← h7]
  | succ d ih =>
    intro i j n h1 h2 h3 h4 h5
    obtain ⟨n, rfl⟩ : ∃ n', n = n' + 1 := ⟨n - 1, by omega⟩
    rw [m_slices_BinarySearchFunc_api_Sub_api_Sub_post_key_l1, m_slices_BinarySearchFunc_api_Sub_api_Sub_post_key_l1_B]
    by_cases h6 : i < j
    · have h6' : ((i : Int) < (j : Int)) := by omega
      have hm : (i + j) / 2 < l.length := by omega
      obtain ⟨r, g1, g2, g3⟩ := find_order l[(i + j) / 2] k
      rw [lowK_get hr _ hm] at g2
      rw [decide_eq_true h6', if_pos rfl, half_eq (by omega), nthI_lt hm, bnd_some, g1, bnd_some, g2, wrap_succ (by omega)]
      by_cases hc : (i + j) / 2 < lowK k.f_part k.f_id l
      · rw [decide_eq_true hc, if_pos rfl]
        exact ih _ _ _ (by omega) (by omega) (by omega) h4 h5
      · rw [decide_eq_false hc, if_neg (by decide)]
        exact ih _ _ _ (by omega) (by omega) h3 (by omega) (by omega)
    · have h6' : ¬ ((i : Int) < (j : Int)) := by omega
      have h7 : i = lowK k.f_part k.f_id l := by omega
      rw [decide_eq_false h6', if_neg (by decide), ← h7]
/-- There is such a one. -/
def hasK (a b : Int) (l : List TSub) : Bool := l.any (atB a b)
theorem low_at {a b : Int} : ∀ {l : List TSub}, Rises l → (hasK a b l = true ↔ ∃ h : lowK a b l < l.length, atB a b l[lowK a b l] = true)
  | [], _ => by simp [hasK]
  | s :: r, hr => by
    have hr' := List.pairwise_cons.1 hr
    have ih := low_at (a := a) (b := b) hr'.2
    unfold hasK at ih ⊢
    rw [List.any_cons, Bool.or_eq_true]
    by_cases hs : aheadK a b s = true
    · have e : lowK a b (s :: r) = lowK a b r + 1 := by rw [lowK, if_pos hs]
      have e0 : ¬ atB a b s = true := by rw [atB_iff]; rw [aheadK_iff] at hs; omega
      simp only [e, List.length_cons, List.getElem_cons_succ]
      constructor
      · rintro (h | h)
        · exact absurd h e0
        · obtain ⟨h1, h2⟩ := ih.1 h
          exact ⟨by omega, h2⟩
      · rintro ⟨h1, h2⟩
        exact .inr (ih.2 ⟨by omega, h2⟩)
    · have e : lowK a b (s :: r) = 0 := by rw [lowK, if_neg hs]
      simp only [e, List.length_cons, List.getElem_cons_zero]
      constructor
      · rintro (h | h)
        · exact ⟨by omega, h⟩
        · obtain ⟨x, hx, h⟩ := List.any_eq_true.1 h
          have h1 := hr'.1 x hx
          rw [atB_iff] at h
          rw [aheadB_iff] at h1
          rw [aheadK_iff] at hs
          omega
      · rintro ⟨_, h⟩
        exact .inl h
theorem post_find {p : TPost} {a b : Int} (hl : p.Subs.length ≤ 4096) (hr : Rises p.Subs) : m_post_find p ⟨a, b⟩ = some (((lowK a b p.Subs : Nat) : Int), hasK a b p.Subs) := by
  unfold m_post_find m_slices_BinarySearchFunc_api_Sub_api_Sub_post_key
  have h := search_loop (k := ⟨a, b⟩) hl hr p.Subs.length 0 p.Subs.length 1000000 (by omega) (by omega) (Nat.zero_le _) (lowK_le _ _ _) (Nat.le_refl _)
  simp only at h
  rw [show (((0 : Nat) : Int)) = 0 from rfl] at h
  rw [h]
  unfold m_slices_BinarySearchFunc_api_Sub_api_Sub_post_key_k1
  have hq := low_at (a := a) (b := b) hr
  by_cases hc : lowK a b p.Subs < p.Subs.length
  · obtain ⟨r, g1, g2, g3⟩ := find_order p.Subs[lowK a b p.Subs] ⟨a, b⟩
    rw [decide_eq_true (lt_k hc), if_pos rfl, nthI_lt hc, bnd_some, g1, bnd_some, g3, bnd_some]
    congr 2
    rw [Bool.eq_iff_iff, hq]
    simp only
    exact ⟨fun h => ⟨hc, h⟩, fun h => h.2⟩
  · have : ¬ ((lowK a b p.Subs : Nat) : Int) < (p.Subs.length : Int) := by omega
    rw [decide_eq_false this, if_neg (by decide), bnd_some]
    congr 2
    symm
    rw [Bool.eq_false_iff, ne_eq, hq]
    exact fun h => hc h.1
theorem ref_Find {p : TPost} {a b : Int} (hl : p.Subs.length ≤ 4096) (hr : Rises p.Subs) : m_ref22_Find p a b = some (if hasK a b p.Subs = true then ((lowK a b p.Subs : Nat) : Int) else -1) := by
  unfold m_ref22_Find
  have hq := low_at (a := a) (b := b) hr
  have hle := lowK_le a b p.Subs
  have step : ∀ n (k : Nat) (hk : k < p.Subs.length), m_ref22_Find_l1 p a b (n + 1) (k : Int) = if atB a b p.Subs[k] = true then some (k : Int) else m_ref22_Find_l1 p a b n (IntKind.i64.wrap ((k : Int) + 1)) := by
    intro n k hk
    rw [m_ref22_Find_l1, m_ref22_Find_l1_B, decide_eq_true (lt_k hk), if_pos rfl, nthI_lt hk, bnd_some]
    unfold atB m_ref22_Find_k1
    by_cases h1 : p.Subs[k].Part = a <;> by_cases h2 : p.Subs[k].Id = b <;> simp [h1, h2]
  have nat_ : ∀ (k : Nat) (hk : k < p.Subs.length), k ≠ lowK a b p.Subs → ¬ atB a b p.Subs[k] = true := by
    intro k hk hne h
    rw [atB_iff] at h
    have h1 : hasK a b p.Subs = true := List.any_eq_true.2 ⟨_, List.getElem_mem hk, by rw [atB_iff]; exact h⟩
    obtain ⟨h2, h3⟩ := hq.1 h1
    rw [atB_iff] at h3
    rcases Nat.lt_or_gt_of_ne hne with h4 | h4
    · have := List.pairwise_iff_getElem.1 hr k _ hk h2 h4
      rw [aheadB_iff] at this
      omega
    · have := List.pairwise_iff_getElem.1 hr _ k h2 hk h4
      rw [aheadB_iff] at this
      omega
  have h0 : (fun (k : Nat) (o : Option Int) => (∀ (j : Nat) (hj : j < p.Subs.length), j < k → ¬ atB a b p.Subs[j] = true) → o = some (if hasK a b p.Subs = true then ((lowK a b p.Subs : Nat) : Int) else -1)) 0 (m_ref22_Find_l1 p a b ((((p.Subs.length : Int)) - ((0 : Int))).toNat + 1) (0 : Int)) := by
    refine loop0 (len := p.Subs.length) (R := fun (k : Nat) (o : Option Int) => (∀ (j : Nat) (hj : j < p.Subs.length), j < k → ¬ atB a b p.Subs[j] = true) → o = some (if hasK a b p.Subs = true then ((lowK a b p.Subs : Nat) : Int) else -1)) (f := m_ref22_Find_l1 p a b) (by omega) (fun n h => ?_) (fun n k hk hw ih h => ?_)
    · have : ¬ hasK a b p.Subs = true := by rw [hq]; rintro ⟨h1, h2⟩; exact h _ h1 h1 h2
      rw [m_ref22_Find_l1, m_ref22_Find_l1_B, decide_eq_false nlt_k, if_neg (by decide), if_neg this]
    · rw [step n k hk]
      by_cases ha : atB a b p.Subs[k] = true
      · have : hasK a b p.Subs = true := List.any_eq_true.2 ⟨_, List.getElem_mem hk, ha⟩
        have he : k = lowK a b p.Subs := by
          rcases Nat.decEq k (lowK a b p.Subs) with hne | he
          · exact absurd ha (nat_ k hk hne)
          · exact he
        rw [if_pos ha, if_pos this, he]
      · rw [if_neg ha, hw]
        refine ih fun j hj h1 => ?_
        by_cases hjk : j = k
        · subst hjk; exact ha
        · exact h j hj (by omega)
  exact h0 fun j _ h => absurd h (Nat.not_lt_zero _)
end Go.Proofs.Ytefjblgmnoheiaa.R

/- Plain laws: a subscription opened, closed. -/
set_option maxRecDepth 100000
set_option linter.unusedVariables false
set_option linter.unusedSimpArgs false
noncomputable section
namespace Go.Proofs.Ytefjblgmnoheiaa.R
open Go
/-- A subscription is given the eldest message that it waits for. -/
def openL (s : TSub) : List TMail → List TMail × Int × List THit
  | [] => ([], s.Mail, [])
  | m :: r => if suitB m s = true then (andM m s :: r, m.Id, [hitOf m s]) else (m :: (openL s r).1, (openL s r).2.1, (openL s r).2.2)
def insS (x : TSub) : List TSub → List TSub
  | [] => [x]
  | y :: r => if aheadB x y = true then x :: y :: r else y :: insS x r
def openP (p : TPost) (s : TSub) : TPost × List THit × Int :=
  if (subB s && decide (s.Mail = 0)) = true then
    if hasK s.Part s.Id p.Subs = true then (zeroP, [], 10)
    else if 4096 ≤ p.Subs.length then (zeroP, [], 14)
    else (⟨p.Next, (openL s p.Mails).1, insS (withM s (openL s p.Mails).2.1) p.Subs⟩, (openL s p.Mails).2.2, 0)
  else (zeroP, [], 1)
theorem ins_low {x : TSub} : ∀ {l : List TSub}, hasK x.Part x.Id l = false → insI l ((lowK x.Part x.Id l : Nat) : Int) x = insS x l
  | [], _ => rfl
  | y :: r, h => by
    unfold hasK at h
    rw [List.any_cons, Bool.or_eq_false_iff] at h
    have ih := ins_low (x := x) (l := r) h.2
    have h1 : ¬ (y.Part = x.Part ∧ y.Id = x.Id) := by rw [← atB_iff, h.1]; decide
    unfold insI at *
    rw [Int.toNat_natCast] at *
    unfold insS
    by_cases hs : aheadK x.Part x.Id y = true
    · have h2 : ¬ aheadB x y = true := by rw [aheadB_iff]; rw [aheadK_iff] at hs; omega
      rw [lowK, if_pos hs, if_neg h2, ← ih]
      rfl
    · have h2 : aheadB x y = true := by rw [aheadB_iff]; rw [aheadK_iff] at hs; omega
      rw [lowK, if_neg hs, if_pos h2]
      rfl
theorem give_v2 {s : TSub} {m : TMail} {a b : List TMail} (h1 : m.Took.length < 549755813888) (h2 : m.Vars.Names.length ≤ 549755813888) (h3 : m.Vars.Vals.length ≤ 549755813888) :
    m_post_give_v2 (a.length : Int) s (a ++ m :: b) = some (hitOf m s, withM s m.Id, a ++ andM m s :: b) := by
  unfold m_post_give_v2
  rw [nth_mid, bnd_some, capB_small (by omega), if_pos rfl, copy_eq h2 h3, bnd_some, set_mid]
  rfl
theorem open_go {s : TSub} {q : Int × Bool} {p : TPost} : ∀ (r pre : List TMail) (n : Nat), p.Mails = pre ++ r → r.length < n → p.Mails.length ≤ 4096 → (∀ m ∈ r, m.Took.length ≤ 10000 ∧ m.Vars.Names.length ≤ 1000 ∧ m.Vars.Vals.length ≤ 1000) →
    m_post_Open_l1 s q p n (pre.length : Int) = m_post_Open_k2 q p s.Part s.Id s.Inst s.Name s.Key (openL s r).2.1 (pre ++ (openL s r).1) (openL s r).2.2
  | [], pre, n, hq, hn, hb, _ => by
    obtain ⟨n, rfl⟩ : ∃ n', n = n' + 1 := ⟨n - 1, by simp at hn; omega⟩
    have : ¬ ((pre.length : Int) < ((p.Mails.length : Nat) : Int)) := by rw [hq]; simp
    rw [m_post_Open_l1, m_post_Open_l1_B, decide_eq_false this, if_neg Bool.false_ne_true, hq]
    simp [openL]
  | m :: r, pre, n, hq, hn, hb, hm => by
    have hq' := congrArg List.length hq
    simp only [List.length_cons, List.length_append] at hn hq'
    obtain ⟨n, rfl⟩ : ∃ n', n = n' + 1 := ⟨n - 1, by omega⟩
    have h1 : ((pre.length : Int) < ((p.Mails.length : Nat) : Int)) := by omega
    obtain ⟨t1, t2, t3⟩ := hm m (by simp)
    have hn' : nthI p.Mails (pre.length : Int) = some m := by rw [hq, nth_mid]
    have hg : m_post_give_v2 (pre.length : Int) s p.Mails = some (hitOf m s, withM s m.Id, pre ++ andM m s :: r) := by rw [hq]; exact give_v2 (by omega) (by omega) (by omega)
    rw [m_post_Open_l1, m_post_Open_l1_B, decide_eq_true h1, if_pos rfl, hn', bnd_some, post_suits (by unfold big63; omega), bnd_some, hg, bnd_some, wrap_succ (by omega)]
    rw [openL]
    cases hs : suitB m s with
    | true =>
      have el : (a : Nat) → (b : Nat) → a = b → decide (a = b) = true := fun a b h => decide_eq_true h
      rw [if_pos rfl, if_pos rfl, el _ _ (by rw [hq]; simp), if_pos rfl]
      rfl
    | false =>
      rw [if_neg Bool.false_ne_true, if_neg Bool.false_ne_true]
      have := open_go (s := s) (q := q) (p := p) r (pre ++ [m]) n (by rw [hq]; simp) (by omega) hb (fun m' h => hm m' (by simp [h]))
      simp only [List.length_append, List.length_cons, List.length_nil, List.append_assoc, List.cons_append, List.nil_append] at this
      exact this
theorem post_Open {p : TPost} {s : TSub} (hr : Rdy p) (hs : OkS s) (hR : Rises p.Subs) : m_post_Open p s = some (openP p s) := by
  unfold m_post_Open openP
  rw [post_sub hs, bnd_some]
  cases subB s with
  | false => rfl
  | true =>
    rw [if_pos rfl, Bool.true_and]
    unfold m_post_Open_k1
    by_cases h0 : s.Mail = 0
    · have h0' : ¬ (s.Mail ≠ 0) := by simpa using h0
      have hl := hr.sl
      rw [decide_eq_false h0', if_neg Bool.false_ne_true, decide_eq_true h0, if_pos rfl]
      unfold m_post_of
      rw [bnd_some, post_find hr.sl hR, bnd_some]
      cases hh : hasK s.Part s.Id p.Subs with
      | true => rfl
      | false =>
        simp only [Bool.false_ne_true, if_false]
        by_cases hf : 4096 ≤ p.Subs.length
        · have : (4096 : Int) ≤ (p.Subs.length : Int) := by omega
          rw [decide_eq_true this, if_pos rfl, if_pos hf]
          rfl
        · have : ¬ (4096 : Int) ≤ (p.Subs.length : Int) := by omega
          rw [decide_eq_false this, if_neg Bool.false_ne_true, if_neg hf, post_Copy hr.cap, bnd_some]
          have := open_go (s := s) (q := (((lowK s.Part s.Id p.Subs : Nat) : Int), false)) (p := p) p.Mails [] (((((p.Mails.length : Nat) : Int)) - ((0 : Int))).toNat + 1) rfl (by omega) hr.ml (fun m h => ⟨hr.took m h, hr.names m h, hr.vals m h⟩)
          simp only [List.length_nil, List.nil_append] at this
          rw [show (((0 : Nat) : Int)) = 0 from rfl] at this
          rw [this]
          unfold m_post_Open_k2
          have g1 : (0 : Int) ≤ ((lowK s.Part s.Id p.Subs : Nat) : Int) := by omega
          have g2 : ((lowK s.Part s.Id p.Subs : Nat) : Int) ≤ (p.Subs.length : Int) := by have := lowK_le s.Part s.Id p.Subs; omega
          simp only [decide_eq_true g1, decide_eq_true g2, capB_small (show p.Subs.length + 1 ≤ 549755813888 by omega), if_true]
          have := ins_low (x := withM s (openL s p.Mails).2.1) (l := p.Subs) hh
          rw [← this]
          rfl
    · rw [decide_eq_true h0, if_pos rfl, decide_eq_false h0, if_neg Bool.false_ne_true]
theorem openL_done {s : TSub} (h : s.Mail ≠ 0) : ∀ l : List TMail, openL s l = (l, s.Mail, [])
  | [] => rfl
  | m :: r => by
    have : ¬ suitB m s = true := by unfold suitB; rw [decide_eq_false h]; simp
    rw [openL, if_neg this, openL_done h r]
theorem ropen_ins {p : TPost} {s : TSub} {ms : List TMail} {hits : List THit} {mine : Int} : ∀ (r pre : List TSub) (n : Nat) (d : Bool) (out : List TSub), p.Subs = pre ++ r → r.length < n → p.Subs.length ≤ 4096 → out.length + r.length ≤ 9999 + d.toNat →
    m_ref22_Open_l2 p s ms hits mine n d (pre.length : Int) out = m_ref22_Open_k7 p ms hits (out ++ if d = true then r else insS (withM s mine) r)
  | [], pre, n, d, out, hq, hn, hb, ho => by
    have b0 := Bool.toNat_le d
    obtain ⟨n, rfl⟩ : ∃ n', n = n' + 1 := ⟨n - 1, by simp at hn; omega⟩
    have : ¬ ((pre.length : Int) < (p.Subs.length : Int)) := by rw [hq]; simp
    simp only [List.length_nil] at ho
    rw [m_ref22_Open_l2, m_ref22_Open_l2_B, decide_eq_false this, if_neg Bool.false_ne_true]
    unfold m_ref22_Open_k6
    cases d with
    | true => simp
    | false =>
      rw [if_neg Bool.false_ne_true, capB_small (by omega), if_pos rfl]
      rfl
  | y :: r, pre, n, d, out, hq, hn, hb, ho => by
    have bt : Bool.toNat true = 1 := rfl
    have bf : Bool.toNat false = 0 := rfl
    have b0 := Bool.toNat_le d
    have hq' := congrArg List.length hq
    simp only [List.length_cons, List.length_append] at hn hq' ho
    obtain ⟨n, rfl⟩ : ∃ n', n = n' + 1 := ⟨n - 1, by omega⟩
    have h1 : ((pre.length : Int) < (p.Subs.length : Int)) := by omega
    have hn' : nthI p.Subs (pre.length : Int) = some y := by rw [hq, nth_mid]
    have h5 : ∀ (d : Bool) (out : List TSub), out.length + (r.length + 1) ≤ 9999 + d.toNat → m_ref22_Open_k5 (m_ref22_Open_l2 p s ms hits mine n) p (pre.length : Int) d out = m_ref22_Open_k7 p ms hits (out ++ y :: if d = true then r else insS (withM s mine) r) := by
      intro d out ho
      have b0 := Bool.toNat_le d
      unfold m_ref22_Open_k5
      rw [hn', bnd_some, capB_small (by omega), if_pos rfl, wrap_succ (by omega)]
      have := ropen_ins (p := p) (s := s) (ms := ms) (hits := hits) (mine := mine) r (pre ++ [y]) n d (out ++ [y]) (by rw [hq]; simp) (by omega) hb (by simp; omega)
      simp only [List.length_append, List.length_cons, List.length_nil, List.append_assoc, List.cons_append, List.nil_append] at this
      exact this
    rw [m_ref22_Open_l2, m_ref22_Open_l2_B, decide_eq_true h1, if_pos rfl]
    unfold m_ref22_Open_k4
    cases d with
    | true =>
      rw [if_pos rfl, if_neg Bool.false_ne_true, h5 _ _ (by omega), if_pos rfl, if_pos rfl]
    | false =>
      rw [if_neg Bool.false_ne_true, hn', bnd_some, ahead_eq, bnd_some, if_neg Bool.false_ne_true]
      have e : aheadB (TSub.mk s.Part s.Id s.Inst s.Name s.Key mine) y = aheadB (withM s mine) y := rfl
      rw [e, insS]
      cases ha : aheadB (withM s mine) y with
      | true =>
        rw [if_pos rfl, if_pos rfl, capB_small (by omega), if_pos rfl, h5 _ _ (by rw [List.length_append, List.length_singleton]; omega)]
        simp [withM]
      | false =>
        rw [if_neg Bool.false_ne_true, if_neg Bool.false_ne_true, h5 _ _ (by omega)]
        rfl
theorem ropen_go {s : TSub} {p : TPost} : ∀ (r pre : List TMail) (n : Nat) (out : List TMail) (hits : List THit) (mine : Int), p.Mails = pre ++ r → r.length < n → p.Mails.length ≤ 4096 → (∀ m ∈ r, m.Took.length ≤ 10000 ∧ 1 ≤ m.Id) → out.length + r.length ≤ 10000 → hits.length + r.length ≤ 10000 →
    m_ref22_Open_l1 p s n (pre.length : Int) out hits mine = m_ref22_Open_k3 p s (out ++ (openL (withM s mine) r).1) (hits ++ (openL (withM s mine) r).2.2) (openL (withM s mine) r).2.1
  | [], pre, n, out, hits, mine, hq, hn, hb, _, _, _ => by
    obtain ⟨n, rfl⟩ : ∃ n', n = n' + 1 := ⟨n - 1, by simp at hn; omega⟩
    have : ¬ ((pre.length : Int) < (p.Mails.length : Int)) := by rw [hq]; simp
    rw [m_ref22_Open_l1, m_ref22_Open_l1_B, decide_eq_false this, if_neg Bool.false_ne_true]
    simp [openL, withM]
  | m :: r, pre, n, out, hits, mine, hq, hn, hb, hm, ho, hh => by
    have hq' := congrArg List.length hq
    simp only [List.length_cons, List.length_append] at hn hq' ho hh
    obtain ⟨n, rfl⟩ : ∃ n', n = n' + 1 := ⟨n - 1, by omega⟩
    have h1 : ((pre.length : Int) < (p.Mails.length : Int)) := by omega
    obtain ⟨t1, t2⟩ := hm m (by simp)
    have hn' : nthI p.Mails (pre.length : Int) = some m := by rw [hq, nth_mid]
    have e : (TSub.mk s.Part s.Id s.Inst s.Name s.Key mine) = withM s mine := rfl
    rw [m_ref22_Open_l1, m_ref22_Open_l1_B, decide_eq_true h1, if_pos rfl, hn', bnd_some, e, ref_suits (by unfold big63; omega), bnd_some, ref_hit, bnd_some, ref_and (by omega), bnd_some]
    unfold m_ref22_Open_k2
    rw [openL]
    cases hs : suitB m (withM s mine) with
    | true =>
      rw [if_pos rfl, if_pos rfl, capB_small (show out.length + 1 ≤ _ by omega), if_pos rfl]
      rw [capB_small (by omega), if_pos rfl, wrap_succ (by omega)]
      have := ropen_go (s := s) (p := p) r (pre ++ [m]) n (out ++ [andM m (withM s mine)]) (hits ++ [hitOf m (withM s mine)]) m.Id (by rw [hq]; simp) (by omega) hb (fun m' h => hm m' (by simp [h])) (by simp; omega) (by simp; omega)
      rw [openL_done (s := withM s m.Id) (show m.Id ≠ 0 by omega)] at this
      simp only [List.length_append, List.length_cons, List.length_nil, List.append_assoc, List.cons_append, List.nil_append, List.append_nil] at this
      exact this
    | false =>
      rw [if_neg Bool.false_ne_true, if_neg Bool.false_ne_true, capB_small (show out.length + 1 ≤ _ by omega), if_pos rfl, wrap_succ (by omega)]
      have := ropen_go (s := s) (p := p) r (pre ++ [m]) n (out ++ [m]) hits mine (by rw [hq]; simp) (by omega) hb (fun m' h => hm m' (by simp [h])) (by simp; omega) (by omega)
      simp only [List.length_append, List.length_cons, List.length_nil, List.append_assoc, List.cons_append, List.nil_append, List.append_nil] at this
      exact this
theorem ref_Open {p : TPost} {s : TSub} (hr : Rdy p) (hs : OkS s) (hR : Rises p.Subs) (hi : ∀ m ∈ p.Mails, 1 ≤ m.Id) : m_ref22_Open p s = some (openP p s) := by
  unfold m_ref22_Open openP
  rw [ref22_Sub hs, bnd_some]
  cases subB s with
  | false => rfl
  | true =>
    rw [if_pos rfl, Bool.true_and]
    unfold m_ref22_Open_k1
    by_cases h0 : s.Mail = 0
    · have h0' : ¬ (s.Mail ≠ 0) := by simpa using h0
      have hl := hr.sl
      rw [decide_eq_false h0', if_neg Bool.false_ne_true, decide_eq_true h0, if_pos rfl, ref_Find hr.sl hR, bnd_some]
      cases hh : hasK s.Part s.Id p.Subs with
      | true =>
        have g1 : (0 : Int) ≤ ((lowK s.Part s.Id p.Subs : Nat) : Int) := by omega
        rw [if_pos rfl, decide_eq_true g1]
        rfl
      | false =>
        rw [if_neg Bool.false_ne_true, if_neg Bool.false_ne_true]
        have g1 : ¬ (0 : Int) ≤ -1 := by decide
        rw [decide_eq_false g1, if_neg Bool.false_ne_true]
        by_cases hf : 4096 ≤ p.Subs.length
        · have : (4096 : Int) ≤ (p.Subs.length : Int) := by omega
          rw [decide_eq_true this, if_pos rfl, if_pos hf]
        · have : ¬ (4096 : Int) ≤ (p.Subs.length : Int) := by omega
          rw [decide_eq_false this, if_neg Bool.false_ne_true, if_neg hf]
          have h1 := ropen_go (s := s) (p := p) p.Mails [] (((((p.Mails.length : Nat) : Int)) - ((0 : Int))).toNat + 1) [] [] s.Mail rfl (by omega) hr.ml (fun m h => ⟨hr.took m h, hi m h⟩) (by have := hr.ml; simp; omega) (by have := hr.ml; simp; omega)
          simp only [List.length_nil, List.nil_append] at h1
          rw [show (((0 : Nat) : Int)) = 0 from rfl] at h1
          rw [h1]
          unfold m_ref22_Open_k3
          have h2 := ropen_ins (p := p) (s := s) (ms := (openL (withM s s.Mail) p.Mails).1) (hits := (openL (withM s s.Mail) p.Mails).2.2) (mine := (openL (withM s s.Mail) p.Mails).2.1) p.Subs [] (((((p.Subs.length : Nat) : Int)) - ((0 : Int))).toNat + 1) false [] rfl (by omega) hr.sl (by have := hr.sl; simp; omega)
          simp only [List.length_nil, List.nil_append] at h2
          rw [show (((0 : Nat) : Int)) = 0 from rfl] at h2
          rw [h2]
          rfl
    · rw [decide_eq_true h0, if_pos rfl, decide_eq_false h0, if_neg Bool.false_ne_true]
/-! ### Close -/
def closeP (p : TPost) (a b : Int) : TPost × Int :=
  if hasK a b p.Subs = true then (⟨p.Next, p.Mails, p.Subs.take (lowK a b p.Subs) ++ p.Subs.drop (lowK a b p.Subs + 1)⟩, 0) else (zeroP, 9)
theorem post_Close {p : TPost} {a b : Int} (hr : Rdy p) (hR : Rises p.Subs) : m_post_Close p a b = some (closeP p a b) := by
  unfold m_post_Close closeP
  rw [post_find hr.sl hR, bnd_some]
  cases hh : hasK a b p.Subs with
  | false => rfl
  | true =>
    obtain ⟨h1, _⟩ := (low_at hR).1 hh
    have hl := hr.sl
    rw [if_pos rfl, if_pos rfl, post_Copy hr.cap, bnd_some]
    simp only
    have g1 : (0 : Int) ≤ ((lowK a b p.Subs : Nat) : Int) := by omega
    have g2 : ((lowK a b p.Subs : Nat) : Int) < ((lowK a b p.Subs + 1 : Nat) : Int) := by omega
    have g3 : ((lowK a b p.Subs + 1 : Nat) : Int) ≤ (p.Subs.length : Int) := by omega
    rw [wrap_succ (by omega), decide_eq_true g1, if_pos rfl, decide_eq_true g2, if_pos rfl, decide_eq_true g3, if_pos rfl, capB_small (by omega), if_pos rfl]
    rfl
theorem rclose_go {p : TPost} {i : Nat} : ∀ (r pre : List TSub) (n : Nat) (out : List TSub), p.Subs = pre ++ r → r.length < n → p.Subs.length ≤ 4096 → out.length + r.length ≤ 10000 →
    m_ref22_Close_l1 p (i : Int) n (pre.length : Int) out = some (⟨p.Next, p.Mails, out ++ if pre.length ≤ i then r.take (i - pre.length) ++ r.drop (i - pre.length + 1) else r⟩, 0)
  | [], pre, n, out, hq, hn, hb, ho => by
    obtain ⟨n, rfl⟩ : ∃ n', n = n' + 1 := ⟨n - 1, by simp at hn; omega⟩
    have : ¬ ((pre.length : Int) < (p.Subs.length : Int)) := by rw [hq]; simp
    rw [m_ref22_Close_l1, m_ref22_Close_l1_B, decide_eq_false this, if_neg Bool.false_ne_true]
    simp [m_ref22_Close_k2]
  | y :: r, pre, n, out, hq, hn, hb, ho => by
    have hq' := congrArg List.length hq
    simp only [List.length_cons, List.length_append] at hn hq' ho
    obtain ⟨n, rfl⟩ : ∃ n', n = n' + 1 := ⟨n - 1, by omega⟩
    have h1 : ((pre.length : Int) < (p.Subs.length : Int)) := by omega
    have hn' : nthI p.Subs (pre.length : Int) = some y := by rw [hq, nth_mid]
    rw [m_ref22_Close_l1, m_ref22_Close_l1_B, decide_eq_true h1, if_pos rfl, hn', bnd_some, capB_small (by omega), if_pos rfl]
    unfold m_ref22_Close_k1
    rw [wrap_succ (by omega)]
    by_cases he : pre.length = i
    · have : ¬ ((pre.length : Int) ≠ (i : Int)) := by omega
      rw [decide_eq_false this, if_neg Bool.false_ne_true]
      have := rclose_go (p := p) (i := i) r (pre ++ [y]) n out (by rw [hq]; simp) (by omega) hb (by omega)
      simp only [List.length_append, List.length_cons, List.length_nil] at this
      rw [if_neg (by omega)] at this
      rw [if_pos (by omega), ← he]
      rw [← he] at this
      simpa using this
    · have : ((pre.length : Int) ≠ (i : Int)) := by omega
      rw [decide_eq_true this, if_pos rfl]
      have := rclose_go (p := p) (i := i) r (pre ++ [y]) n (out ++ [y]) (by rw [hq]; simp) (by omega) hb (by simp; omega)
      simp only [List.length_append, List.length_cons, List.length_nil, List.append_assoc, List.cons_append, List.nil_append] at this
      rw [show (0 + 1 : Nat) = 1 from rfl] at this
      rw [this]
      by_cases hlt : pre.length ≤ i
      · rw [if_pos hlt, if_pos (by omega)]
        have e : i - pre.length = (i - (pre.length + 1)) + 1 := by omega
        rw [e]
        simp
      · rw [if_neg hlt, if_neg (by omega)]
theorem ref_Close {p : TPost} {a b : Int} (hr : Rdy p) (hR : Rises p.Subs) : m_ref22_Close p a b = some (closeP p a b) := by
  unfold m_ref22_Close closeP
  rw [ref_Find hr.sl hR, bnd_some]
  cases hh : hasK a b p.Subs with
  | false => rfl
  | true =>
    have g1 : ¬ ((lowK a b p.Subs : Nat) : Int) < 0 := by omega
    have hl := hr.sl
    rw [if_pos rfl, if_pos rfl, decide_eq_false g1, if_neg Bool.false_ne_true]
    have := rclose_go (p := p) (i := lowK a b p.Subs) p.Subs [] (((((p.Subs.length : Nat) : Int)) - ((0 : Int))).toNat + 1) [] rfl (by omega) hr.sl (by simp; omega)
    simpa using this
end Go.Proofs.Ytefjblgmnoheiaa.R

/- Plain law of PostDoes: what is over; results compared. -/
set_option maxRecDepth 100000
set_option linter.unusedVariables false
set_option linter.unusedSimpArgs false
noncomputable section
namespace Go.Proofs.Ytefjblgmnoheiaa.R
open Go
def keptB (now : Int) (m : TMail) : Bool := decide (now < m.Until)
def expP (p : TPost) (now : Int) : TPost := ⟨p.Next, p.Mails.filter (keptB now), p.Subs⟩
theorem exp_1 (m : TMail) (now : Int) : m_post_Expire_1 m now = some (!keptB now m) := by
  unfold m_post_Expire_1 keptB
  congr 1
  by_cases h : m.Until ≤ now
  · have : ¬ now < m.Until := by omega
    simp [h, this]
  · have : now < m.Until := by omega
    simp [h, this]
theorem index_fn {s : List TMail} {now : Int} (hl : s.length ≤ 4096) : ∃ r, m_slices_IndexFunc_api_Mail_api_Mail s now = some r ∧ ((r = -1 ∧ s.filter (keptB now) = s) ∨ ∃ (a : List TMail) (m : TMail) (b : List TMail), s = a ++ m :: b ∧ r = (a.length : Int) ∧ a.filter (keptB now) = a ∧ keptB now m = false) := by
  unfold m_slices_IndexFunc_api_Mail_api_Mail
  suffices h : ∃ r, m_slices_IndexFunc_api_Mail_api_Mail_l1 s now (((((s.length : Nat) : Int)) - ((0 : Int))).toNat + 1) (0 : Int) = some r ∧ ((r = -1 ∧ (s.drop 0).filter (keptB now) = s.drop 0) ∨ ∃ (a : List TMail) (m : TMail) (b : List TMail), s.drop 0 = a ++ m :: b ∧ r = ((0 + a.length : Nat) : Int) ∧ a.filter (keptB now) = a ∧ keptB now m = false) by
    simpa using h
  refine loop0 (R := fun k o => ∃ r, o = some r ∧ ((r = -1 ∧ (s.drop k).filter (keptB now) = s.drop k) ∨ ∃ (a : List TMail) (m : TMail) (b : List TMail), s.drop k = a ++ m :: b ∧ r = ((k + a.length : Nat) : Int) ∧ a.filter (keptB now) = a ∧ keptB now m = false)) (f := m_slices_IndexFunc_api_Mail_api_Mail_l1 s now) (by omega) (fun n => ?_) (fun n k hk hw ih => ?_)
  · rw [m_slices_IndexFunc_api_Mail_api_Mail_l1, m_slices_IndexFunc_api_Mail_api_Mail_l1_B, decide_eq_false nlt_k, List.drop_eq_nil_of_le (Nat.le_refl _)]
    exact ⟨-1, rfl, .inl ⟨rfl, rfl⟩⟩
  · rw [m_slices_IndexFunc_api_Mail_api_Mail_l1, m_slices_IndexFunc_api_Mail_api_Mail_l1_B, decide_eq_true (lt_k hk), if_pos rfl, nthI_lt hk, bnd_some, exp_1, bnd_some, List.drop_eq_getElem_cons hk, hw]
    cases hc : keptB now s[k] with
    | false => exact ⟨k, rfl, .inr ⟨[], s[k], s.drop (k + 1), rfl, by simp, rfl, hc⟩⟩
    | true =>
      obtain ⟨r, g1, g2⟩ := ih
      refine ⟨r, g1, ?_⟩
      rcases g2 with ⟨g2, g3⟩ | ⟨a, m, b, g2, g3, g4, g5⟩
      · exact .inl ⟨g2, by rw [List.filter_cons_of_pos hc, g3]⟩
      · exact .inr ⟨s[k] :: a, m, b, by rw [g2]; rfl, by rw [g3, List.length_cons]; omega, by rw [List.filter_cons_of_pos hc, g4], g5⟩
theorem delf_go {now : Int} : ∀ (c a b : List TMail) (n : Nat), b ≠ [] → c.length < n → a.length + b.length + c.length ≤ 4096 →
    m_slices_DeleteFunc_api_Mail_api_Mail_l1 now n (a.length : Int) ((a.length + b.length : Nat) : Int) (a ++ (b ++ c)) = some (a ++ c.filter (keptB now))
  | [], a, b, n, hb, hn, hl => by
    simp only [List.length_nil] at hn hl
    obtain ⟨n, rfl⟩ : ∃ n', n = n' + 1 := ⟨n - 1, by omega⟩
    have h1 : ¬ (((a.length + b.length : Nat) : Int) < (((a ++ (b ++ [])).length : Nat) : Int)) := by simp
    rw [m_slices_DeleteFunc_api_Mail_api_Mail_l1, m_slices_DeleteFunc_api_Mail_api_Mail_l1_B, decide_eq_false h1, if_neg Bool.false_ne_true]
    unfold m_slices_DeleteFunc_api_Mail_api_Mail_k2
    have h2 : ∃ l, sliceL (a ++ (b ++ [])) (a.length : Int) (((a ++ (b ++ [])).length : Nat) : Int) = some l := ⟨_, by
      unfold sliceL
      rw [if_pos]
      simp
      omega⟩
    obtain ⟨l, h2⟩ := h2
    rw [h2, bnd_some]
    have h3 : ∀ z : TMail, sliceL (clrI (a ++ (b ++ [])) (a.length : Int).toNat z) 0 (a.length : Int) = some a := fun z => by
      rw [sliceL_take]
      · simp [clrI]
      · simp [clrI]
    rw [h3]
    simp [bnd_some]
  | e :: c, a, b, n, hb, hn, hl => by
    simp only [List.length_cons] at hn hl
    obtain ⟨n, rfl⟩ : ∃ n', n = n' + 1 := ⟨n - 1, by omega⟩
    have h1 : (((a.length + b.length : Nat) : Int) < (((a ++ (b ++ e :: c)).length : Nat) : Int)) := by simp; omega
    have h2 : nthI (a ++ (b ++ e :: c)) ((a.length + b.length : Nat) : Int) = some e := by
      have := nth_mid (a ++ b) c e
      rwa [List.append_assoc, List.length_append] at this
    rw [m_slices_DeleteFunc_api_Mail_api_Mail_l1, m_slices_DeleteFunc_api_Mail_api_Mail_l1_B, decide_eq_true h1, if_pos rfl, h2, bnd_some, exp_1, bnd_some]
    unfold m_slices_DeleteFunc_api_Mail_api_Mail_k1
    rw [wrap_succ (by omega), wrap_succ (by omega)]
    cases hc : keptB now e with
    | false =>
      have ih := delf_go (now := now) c a (b ++ [e]) n (by simp) (by omega) (by simp; omega)
      have e1 : a ++ (b ++ [e] ++ c) = a ++ (b ++ e :: c) := by simp
      have e2 : a.length + (b ++ [e]).length = a.length + b.length + 1 := by simp; omega
      rw [e1, e2] at ih
      rw [List.filter_cons_of_neg (by rw [hc]; decide), Bool.not_false, if_pos rfl]
      exact ih
    | true =>
      obtain ⟨x, b, rfl⟩ : ∃ x b', b = x :: b' := by
        cases b with
        | nil => exact absurd rfl hb
        | cons x b => exact ⟨x, b, rfl⟩
      have ih := delf_go (now := now) c (a ++ [e]) (b ++ [e]) n (by simp) (by omega) (by simp at hl ⊢; omega)
      have e1 : a ++ [e] ++ (b ++ [e] ++ c) = a ++ e :: (b ++ e :: c) := by simp
      have e2 : (a ++ [e]).length + (b ++ [e]).length = a.length + (x :: b).length + 1 := by simp; omega
      have e3 : (a ++ [e]).length = a.length + 1 := by simp
      rw [e1, e2, e3] at ih
      rw [List.filter_cons_of_pos hc, Bool.not_true, if_neg Bool.false_ne_true, List.cons_append, nth_mid, bnd_some, set_mid, ih]
      simp
theorem post_Expire {p : TPost} {now : Int} (hr : Rdy p) : m_post_Expire p now = some (expP p now) := by
  unfold m_post_Expire expP
  rw [post_Copy hr.cap, bnd_some]
  have hm := hr.ml
  have : m_slices_DeleteFunc_api_Mail_api_Mail p.Mails now = some (p.Mails.filter (keptB now)) := by
    unfold m_slices_DeleteFunc_api_Mail_api_Mail
    obtain ⟨r, g1, g2⟩ := index_fn (now := now) hm
    rw [g1, bnd_some]
    rcases g2 with ⟨rfl, g3⟩ | ⟨a, m, b, g2, rfl, g4, g5⟩
    · simp [g3]
    · have h1 : ¬ ((a.length : Int) = -1) := by omega
      have hl := congrArg List.length g2
      simp only [List.length_append, List.length_cons] at hl
      rw [decide_eq_false h1, if_neg Bool.false_ne_true, wrap_succ (by omega), g2]
      have := delf_go (now := now) b a [m] 1000000 (by simp) (by omega) (by simp; omega)
      rw [List.filter_append, g4, List.filter_cons_of_neg (by rw [g5]; decide)]
      exact this
  rw [this, bnd_some]
theorem ref_Expire {p : TPost} {now : Int} (hr : Rdy p) : m_ref22_Expire p now = some (expP p now) := by
  unfold m_ref22_Expire expP
  have hm := hr.ml
  suffices h : ∀ out : List TMail, out.length + (p.Mails.length - 0) ≤ 10000 → m_ref22_Expire_l1 p now ((((p.Mails.length : Int)) - ((0 : Int))).toNat + 1) (0 : Int) out = some ⟨p.Next, out ++ (p.Mails.drop 0).filter (keptB now), p.Subs⟩ by
    simpa using h [] (by simp; omega)
  refine loop0 (β := List TMail → Option TPost) (R := fun k o => ∀ out : List TMail, out.length + (p.Mails.length - k) ≤ 10000 → (match o with | some g => g out | none => none) = some ⟨p.Next, out ++ (p.Mails.drop k).filter (keptB now), p.Subs⟩) (f := fun n k => some fun out => m_ref22_Expire_l1 p now n k out) (by omega) (fun n out ho => ?_) (fun n k hk hw ih out ho => ?_)
  · simp only [m_ref22_Expire_l1, m_ref22_Expire_l1_B, decide_eq_false nlt_k]
    rw [List.drop_eq_nil_of_le (Nat.le_refl _)]
    simp
  · simp only [m_ref22_Expire_l1, m_ref22_Expire_l1_B, decide_eq_true (lt_k hk), if_true, nthI_lt hk, bnd_some, m_ref22_Expire_k1, hw, capB_small (show out.length + 1 ≤ 549755813888 by omega)]
    rw [List.drop_eq_getElem_cons hk]
    by_cases hc : now < p.Mails[k].Until
    · have hc' : keptB now p.Mails[k] = true := by simpa [keptB] using hc
      rw [decide_eq_true hc, if_pos rfl, List.filter_cons_of_pos hc']
      have := ih (out ++ [p.Mails[k]]) (by simp; omega)
      rw [List.append_assoc] at this
      exact this
    · have hc' : ¬ keptB now p.Mails[k] = true := by simpa [keptB] using hc
      rw [decide_eq_false hc, if_neg Bool.false_ne_true, List.filter_cons_of_neg hc']
      exact ih out (by omega)
theorem ref_Hits {a : List THit} (hl : a.length ≤ 10000) (hv : ∀ h ∈ a, OkV h.Vars) : m_ref22_Hits a a = some true := by
  unfold m_ref22_Hits
  rw [decide_eq_false (by simp), if_neg Bool.false_ne_true]
  refine loop0 (R := fun k o => o = some true) (f := m_ref22_Hits_l1 a a) (by omega) (fun n => ?_) (fun n k hk hw ih => ?_)
  · rw [m_ref22_Hits_l1, m_ref22_Hits_l1_B, decide_eq_false nlt_k]
    rfl
  · rw [m_ref22_Hits_l1, m_ref22_Hits_l1_B, decide_eq_true (lt_k hk), if_pos rfl, nthI_lt hk, bnd_some, bnd_some, ref09_Same (hv _ (List.getElem_mem hk)), bnd_some, (sameV_iff _ _).2 rfl]
    unfold m_ref22_Hits_k1
    simp only [ne_eq, not_true_eq_false, decide_false, Bool.false_eq_true, if_false, Bool.not_true, hw, ih]
/-! ### What comes out is in range -/
theorem andM_ok {m : TMail} {s : TSub} (hm : OkM m) (hs : OkS s) (h : m.Took.length ≤ 20000) : OkM (andM m s) :=
  ⟨hm.id, hm.key, hm.til, hm.name, hm.vars, by simp [andM]; unfold big63; omega, fun w hw => by
    simp only [andM, List.mem_append, List.mem_singleton] at hw
    rcases hw with hw | rfl
    · exact hm.tk w hw
    · exact ⟨hs.part, hs.inst⟩⟩
theorem withM_ok {s : TSub} {n : Int} (hs : OkS s) (h : inR n) : OkS (withM s n) := ⟨hs.part, hs.id, hs.inst, hs.key, h, hs.name⟩
theorem pubL_ok : ∀ (l : List TSub) (m : TMail), OkM m → (∀ s ∈ l, OkS s) → m.Took.length + l.length ≤ 20000 → OkM (pubL m l).1 ∧ (∀ s ∈ (pubL m l).2.1, OkS s) ∧ (∀ h ∈ (pubL m l).2.2, OkV h.Vars) ∧ (pubL m l).2.1.length = l.length ∧ (pubL m l).2.2.length ≤ l.length
  | [], m, hm, hs, hl => ⟨hm, by simp [pubL], by simp [pubL], rfl, Nat.le_refl _⟩
  | s :: r, m, hm, hs, hl => by
    simp only [List.length_cons] at hl
    have h1 := hs s (by simp)
    rw [pubL]
    split
    · obtain ⟨g1, g2, g3, g4, g5⟩ := pubL_ok r (andM m s) (andM_ok hm h1 (by omega)) (fun x hx => hs x (by simp [hx])) (by simp [andM]; omega)
      refine ⟨g1, fun x hx => ?_, fun x hx => ?_, by simp [g4], by simp; omega⟩
      · rcases List.mem_cons.1 hx with rfl | hx
        · exact withM_ok h1 hm.id
        · exact g2 x hx
      · rcases List.mem_cons.1 hx with rfl | hx
        · exact hm.vars
        · exact g3 x hx
    · obtain ⟨g1, g2, g3, g4, g5⟩ := pubL_ok r m hm (fun x hx => hs x (by simp [hx])) (by omega)
      refine ⟨g1, fun x hx => ?_, g3, by simp [g4], by simp; omega⟩
      rcases List.mem_cons.1 hx with rfl | hx
      · exact h1
      · exact g2 x hx
theorem zero_ok : OkP zeroP := ⟨by unfold inR; decide, by unfold big63; decide, by unfold big63; decide, by simp, by simp⟩
section
variable {p : TPost} {name : ByteArray} {k : Int} {v : TVars} {now keep : Int}
theorem pubP_ok (hp : OkP p) (hr : Rdy p) (hv : OkV v) (hk : inR k) (hn : name.size ≤ big63) (hnx : 0 ≤ p.Next) : OkP (pubP p name k v now keep).1 ∧ (pubP p name k v now keep).2.2.1.length ≤ 10000 ∧ ∀ h ∈ (pubP p name k v now keep).2.2.1, OkV h.Vars := by
  have hz : OkP zeroP ∧ ([] : List THit).length ≤ 10000 ∧ ∀ h ∈ ([] : List THit), OkV h.Vars := ⟨zero_ok, by simp, by simp⟩
  unfold pubP
  split
  · split
    · split
      · exact hz
      · split
        · exact hz
        · rename_i h1 h2 h3 h4
          simp only [mayK, Bool.and_eq_true, inZ_iff, most] at h2
          unfold most at h4
          have hsl := hr.sl
          have hml := hr.ml
          have hi : inR p.Next := hp.next
          obtain ⟨g1, g2, g3, g4, g5⟩ := pubL_ok p.Subs ⟨p.Next, name, k, v, now + keep, []⟩ ⟨hi, hk, (by show inR (now + keep); unfold inR; omega), hn, hv, by unfold big63; simp, by simp⟩ hp.subs (by simp; omega)
          refine ⟨⟨(by show inR (p.Next + 1); unfold inR; omega), ?_, by rw [g4]; exact hp.sl, fun m hm => ?_, g2⟩, Nat.le_trans g5 (by omega), g3⟩
          · simp only
            split
            · rw [List.length_append, List.length_singleton]; unfold big63; omega
            · exact hp.ml
          · simp only at hm
            split at hm
            · rcases List.mem_append.1 hm with hm | hm
              · exact hp.mails m hm
              · rw [List.mem_singleton] at hm
                subst hm
                exact g1
            · exact hp.mails m hm
    · exact hz
  · exact hz
end
theorem openL_ok {s : TSub} (hs : OkS s) : ∀ l : List TMail, (∀ m ∈ l, OkM m ∧ m.Took.length ≤ 10000) → (∀ m ∈ (openL s l).1, OkM m) ∧ inR (openL s l).2.1 ∧ (∀ h ∈ (openL s l).2.2, OkV h.Vars) ∧ (openL s l).1.length = l.length ∧ (openL s l).2.2.length ≤ 1
  | [], _ => ⟨by simp [openL], hs.mail, by simp [openL], rfl, by simp [openL]⟩
  | m :: r, hm => by
    obtain ⟨h1, h2⟩ := hm m (by simp)
    rw [openL]
    split
    · refine ⟨fun x hx => ?_, h1.id, fun h hh => ?_, by simp, by simp⟩
      · rcases List.mem_cons.1 hx with rfl | hx
        · exact andM_ok h1 hs (by omega)
        · exact (hm x (by simp [hx])).1
      · simp only [List.mem_singleton] at hh
        subst hh
        exact h1.vars
    · obtain ⟨g1, g2, g3, g4, g5⟩ := openL_ok hs r (fun x hx => hm x (by simp [hx]))
      refine ⟨fun x hx => ?_, g2, g3, by simp [g4], g5⟩
      rcases List.mem_cons.1 hx with rfl | hx
      · exact h1
      · exact g1 x hx
theorem insS_mem {x s : TSub} : ∀ {l : List TSub}, s ∈ insS x l → s = x ∨ s ∈ l
  | [], h => by simpa [insS] using h
  | y :: r, h => by
    unfold insS at h
    split at h
    · simpa using h
    · rcases List.mem_cons.1 h with rfl | h
      · simp
      · rcases insS_mem h with h | h
        · exact .inl h
        · exact .inr (by simp [h])
theorem insS_len {x : TSub} : ∀ l : List TSub, (insS x l).length = l.length + 1
  | [] => rfl
  | y :: r => by
    unfold insS
    split
    · simp
    · simp [insS_len r]
theorem openP_ok {p : TPost} {s : TSub} (hp : OkP p) (hr : Rdy p) (hs : OkS s) : OkP (openP p s).1 ∧ (openP p s).2.1.length ≤ 10000 ∧ ∀ h ∈ (openP p s).2.1, OkV h.Vars := by
  have hz : OkP zeroP ∧ ([] : List THit).length ≤ 10000 ∧ ∀ h ∈ ([] : List THit), OkV h.Vars := ⟨zero_ok, by simp, by simp⟩
  unfold openP
  split
  · split
    · exact hz
    · split
      · exact hz
      · have hsl := hr.sl
        obtain ⟨g1, g2, g3, g4, g5⟩ := openL_ok hs p.Mails (fun m hm => ⟨hp.mails m hm, hr.took m hm⟩)
        refine ⟨⟨hp.next, by rw [g4]; exact hp.ml, by rw [insS_len]; unfold big63; omega, g1, fun x hx => ?_⟩, Nat.le_trans g5 (by omega), g3⟩
        rcases insS_mem hx with rfl | hx
        · exact withM_ok hs g2
        · exact hp.subs x hx
  · exact hz
theorem closeP_ok {p : TPost} {a b : Int} (hp : OkP p) (hr : Rdy p) : OkP (closeP p a b).1 := by
  unfold closeP
  split
  · have hsl := hr.sl
    refine ⟨hp.next, hp.ml, by simp; unfold big63; omega, hp.mails, fun x hx => ?_⟩
    rcases List.mem_append.1 hx with hx | hx
    · exact hp.subs x (List.mem_of_mem_take hx)
    · exact hp.subs x (List.mem_of_mem_drop hx)
  · exact zero_ok
theorem expP_ok {p : TPost} {now : Int} (hp : OkP p) : OkP (expP p now) :=
  ⟨hp.next, Nat.le_trans (List.length_filter_le _ _) hp.ml, hp.sl, fun m hm => hp.mails m ((List.mem_filter.1 hm).1), hp.subs⟩
theorem may_ok {p : TPost} (hp : OkP p) : ∃ b, m_law22_may p = some b ∧ (b = true → SmallP p ∧ pchk p = 0) := by
  obtain ⟨b, h1, h2⟩ := light_ok hp
  unfold m_law22_may
  rw [h1, bnd_some]
  cases b with
  | false => exact ⟨false, rfl, by simp⟩
  | true =>
    rw [if_pos rfl, ref22_Check hp, bnd_some]
    exact ⟨_, rfl, fun h => ⟨h2 rfl, by simpa using h⟩⟩
theorem SmallP.rdy {p : TPost} (h : SmallP p) : Rdy p := ⟨by have := h.ml; omega, by have := h.sl; omega, fun m hm => by have := (h.mails m hm).took; omega, fun m hm => by have := (h.mails m hm).names; omega, fun m hm => by have := (h.mails m hm).vals; omega⟩
structure OkO (o : TOp) : Prop where
  kind : inR o.Kind
  name : o.Name.size ≤ big63
  key : inR o.Key
  vars : OkV o.Vars
  now : inR o.Now
  keep : inR o.Keep
  part : inR o.Part
  id : inR o.Id
  inst : inR o.Inst
theorem same_self {p : TPost} (hp : OkP p) : m_ref22_Same p p = some true := by rw [ref22_Same hp, (sameP_iff p p).2 rfl]
end Go.Proofs.Ytefjblgmnoheiaa.R

/- Plain law of PostDoes. -/
set_option maxRecDepth 100000
set_option linter.unusedVariables false
set_option linter.unusedSimpArgs false
noncomputable section
namespace Go.Proofs.Ytefjblgmnoheiaa.R
open Go
theorem sub_ok {o : TOp} (h : OkO o) : OkS ⟨o.Part, o.Id, o.Inst, o.Name, o.Key, 0⟩ := ⟨h.part, h.id, h.inst, h.key, (by show inR 0; unfold inR; decide), h.name⟩
theorem does_rest {p : TPost} {o : TOp} (hp : OkP p) (ho : OkO o) (hr : Rdy p) (hc : pchk p = 0) (h1 : o.Vars.Names.length ≤ 100) (h2 : o.Vars.Vals.length ≤ 100) : m_law22_PostDoes_k1 p o false = some true := by
  obtain ⟨c1, c2, c3, c4, c5⟩ := pchk_subs hc
  have hR : Rises p.Subs := (subsB_rises c1).1
  have hnx : 0 ≤ p.Next := by rw [inZ_iff] at c5; omega
  have hi : ∀ m ∈ p.Mails, 1 ≤ m.Id := fun m hm => (mchk_id (mailsE_all' c2 m hm)).1
  have hs := sub_ok ho
  obtain ⟨a1, a2, a3⟩ := pubP_ok (name := o.Name) (k := o.Key) (v := o.Vars) (now := o.Now) (keep := o.Keep) hp hr ho.vars ho.key ho.name hnx
  obtain ⟨b1, b2, b3⟩ := openP_ok hp hr hs
  have d1 := closeP_ok (a := o.Part) (b := o.Id) hp hr
  have e1 := expP_ok (now := o.Now) hp
  have hwk : m_law22_works = some true := rfl
  have k3 : m_law22_PostDoes_k3 p o false = some true := by
    unfold m_law22_PostDoes_k3
    rw [if_neg Bool.false_ne_true, post_Close hr hR, bnd_some, ref_Close hr hR, bnd_some, decide_eq_true rfl, if_pos rfl, same_self d1, bnd_some, if_pos rfl, post_Expire hr, bnd_some, ref_Expire hr, bnd_some, same_self e1, bnd_some, if_pos rfl, hwk, bnd_some]
  have k2 : m_law22_PostDoes_k2 p o false = some true := by
    unfold m_law22_PostDoes_k2 m_law22_Op_Sub
    rw [if_neg Bool.false_ne_true, bnd_some, post_Open hr hs hR, bnd_some, ref_Open hr hs hR hi, bnd_some, decide_eq_false (by simp), if_neg Bool.false_ne_true, ref_Hits b2 b3, bnd_some, if_pos rfl, same_self b1, bnd_some]
    exact k3
  unfold m_law22_PostDoes_k1
  rw [if_neg Bool.false_ne_true, post_Publish hp hr ho.vars (by omega) (by omega) ho.name hnx, bnd_some, ref_Publish hp hr ho.vars ho.name hnx, bnd_some, decide_eq_false (by simp), if_neg Bool.false_ne_true, decide_eq_false (by simp), if_neg Bool.false_ne_true, ref_Hits a2 a3, bnd_some, if_pos rfl, same_self a1, bnd_some]
  exact k2
theorem ans_PostDoes {p : TPost} {o : TOp} (hp : OkP p) (ho : OkO o) : m_law22_PostDoes p o = some true := by
  have hwk : m_law22_works = some true := rfl
  have ht : m_law22_PostDoes_k1 p o true = some true := by
    unfold m_law22_PostDoes_k1
    rw [if_pos rfl, hwk, bnd_some]
  obtain ⟨b, h1, h2⟩ := may_ok hp
  unfold m_law22_PostDoes
  rw [h1, bnd_some]
  cases b with
  | false => exact ht
  | true =>
    obtain ⟨hs, hc⟩ := h2 rfl
    rw [if_pos rfl]
    by_cases g1 : (100 : Int) < (o.Vars.Names.length : Int)
    · rw [decide_eq_true g1, if_pos rfl, ht]
    · rw [decide_eq_false g1, if_neg Bool.false_ne_true]
      by_cases g2 : (100 : Int) < (o.Vars.Vals.length : Int)
      · rw [decide_eq_true g2, if_pos rfl, ht]
      · rw [decide_eq_false g2, if_neg Bool.false_ne_true]
        by_cases g3 : (100 : Int) < (o.Name.size : Int)
        · rw [decide_eq_true g3, ht]
        · rw [decide_eq_false g3]
          exact does_rest hp ho hs.rdy hc (by omega) (by omega)
end Go.Proofs.Ytefjblgmnoheiaa.R

