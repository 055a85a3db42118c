/- Plain laws: names, variables checked. -/
import Derived.Test.YtjhnlgelcfplaaaVA
set_option maxRecDepth 100000
set_option linter.unusedVariables false
set_option linter.unusedSimpArgs false
noncomputable section
namespace Go.Proofs.Ytjhnlgelcfplaaa.R
open Go
def big63 : Nat := 9223372036854775807
/-! ### Names -/
def letB (c : Int) : Bool := decide (97 ≤ c) && decide (c ≤ 122)
def digB (c : Int) : Bool := decide (48 ≤ c) && decide (c ≤ 57)
def nameL (l : List Int) : Bool := l.all (fun c => letB c || digB c) && ((match l with | [] => false | c :: _ => letB c) && decide (l.length ≤ 32))
def nameB (s : ByteArray) : Bool := nameL (bytesI s)
def firstB : List Int → Bool
  | [] => true
  | c :: _ => letB c
theorem firstB_get : ∀ (l : List Int) (h : 0 < l.length), firstB l = letB l[0]
  | [], h => by simp at h
  | c :: r, _ => rfl
theorem ref02_loop (s : ByteArray) (hs : s.size ≤ big63) : ∀ (m k n : Nat), (bytesI s).length - k = m → k ≤ (bytesI s).length → m < n → m_ref02_Name_l1 s n (k : Int) = some (((bytesI s).drop k).all (fun c => letB c || digB c)) := by
  intro m
  induction m with
  | zero =>
    intro k n hm hk hn
    obtain ⟨n, rfl⟩ : ∃ n', n = n' + 1 := ⟨n - 1, by omega⟩
    have hk' : ¬ ((k : Int) < (s.size : Int)) := by rw [← bytesI_len]; omega
    rw [m_ref02_Name_l1, m_ref02_Name_l1_B]
    simp only [hk', decide_false, Bool.false_eq_true, if_false]
    rw [List.drop_eq_nil_of_le (by omega)]
    rfl
  | succ m ih =>
    intro k n hm hk hn
    obtain ⟨n, rfl⟩ : ∃ n', n = n' + 1 := ⟨n - 1, by omega⟩
    have hlt : k < (bytesI s).length := by omega
    have hk' : ((k : Int) < (s.size : Int)) := by rw [← bytesI_len]; omega
    have hc : nthS s (k : Int) = some (bytesI s)[k] := by rw [nthS_eq]; exact nthI_lt hlt
    have hw : IntKind.i64.wrap ((k : Int) + 1) = ((k + 1 : Nat) : Int) := wrap_succ (by have := bytesI_len s; unfold big63 at hs; omega)
    have hih : m_ref02_Name_l1 s n ((k : Int) + 1) = _ := ih (k + 1) n (by omega) (by omega) (by omega)
    rw [m_ref02_Name_l1, m_ref02_Name_l1_B, List.drop_eq_getElem_cons hlt, List.all_cons]
    simp only [hk', decide_true, if_true, hc, bnd_some]
    generalize (bytesI s)[k] = c at *
    have k3 : ∀ d e : Bool, m_ref02_Name_k3 (m_ref02_Name_l1 s n) (k : Int) d e = some ((d || e) && ((bytesI s).drop (k + 1)).all (fun c => letB c || digB c)) := by
      intro d e
      cases d <;> cases e <;> simp [m_ref02_Name_k3, m_ref02_Name_k4, hw, hih]
    have k2 : ∀ d : Bool, m_ref02_Name_k2 (m_ref02_Name_l1 s n) s (k : Int) d = some ((d || letB c) && ((bytesI s).drop (k + 1)).all (fun c => letB c || digB c)) := by
      intro d
      unfold m_ref02_Name_k2
      rw [hc, bnd_some]
      by_cases h : 97 ≤ c
      · simp only [h, decide_true, if_true, bnd_some, k3, letB, Bool.true_and]
      · simp only [h, decide_false, Bool.false_eq_true, if_false, k3, letB, Bool.false_and]
    by_cases h : 48 ≤ c
    · simp only [h, decide_true, if_true, k2, digB, Bool.true_and]
      cases decide (c ≤ 57) <;> cases letB c <;> rfl
    · simp only [h, decide_false, Bool.false_eq_true, if_false, k2, digB, Bool.false_and]
      cases letB c <;> rfl
theorem ref02_name {s : ByteArray} (hs : s.size ≤ big63) : m_ref02_Name s = some (nameB s) := by
  have hlen := bytesI_len s
  unfold m_ref02_Name nameB nameL
  by_cases h0 : s.size = 0
  · have : bytesI s = [] := List.eq_nil_of_length_eq_zero (by omega)
    simp [h0, m_ref02_Name_k1, this]
  · have h0' : ¬ ((s.size : Int) = 0) := by omega
    by_cases h1 : 32 < s.size
    · have h1' : (32 : Int) < (s.size : Int) := by omega
      have : ¬ (bytesI s).length ≤ 32 := by omega
      simp [h0', h1', m_ref02_Name_k1, this]
    · have h1' : ¬ ((32 : Int) < (s.size : Int)) := by omega
      have h32 : (bytesI s).length ≤ 32 := by omega
      have hl := ref02_loop s hs _ 0 ((((s.size : Int)) - 0).toNat + 1) rfl (Nat.zero_le _) (by omega)
      have hl : m_ref02_Name_l1 s ((((s.size : Int)) - 0).toNat + 1) 0 = _ := hl
      cases hb : bytesI s with
      | nil => rw [hb] at hlen; simp at hlen; omega
      | cons c r =>
        have hc : nthS s 0 = some c := by rw [nthS_eq, nthI_zero, hb]; rfl
        simp only [h0', h1', decide_false, Bool.false_eq_true, if_false, hc, bnd_some]
        rw [hb] at hl h32
        simp only [List.drop_zero] at hl
        unfold m_ref02_Name_k1
        by_cases h97 : c < 97
        · have : letB c = false := by unfold letB; simp; omega
          simp [h97, this]
        · simp only [h97, decide_false, Bool.false_eq_true, if_false, hl]
          have hd : letB c = (letB c || digB c) := by
            unfold letB digB
            by_cases h5 : c ≤ 57
            · omega
            · simp [h5]
          simp only [h32, decide_true, Bool.and_true, List.all_cons]
          cases hx : letB c with
          | true => simp
          | false =>
            rw [hx] at hd
            simp [← hd]
theorem pack_loop (s : ByteArray) (hs : s.size ≤ big63) : ∀ (m k n : Nat), (bytesI s).length - k = m → k ≤ (bytesI s).length → m < n →
    m_pack_Name_l1 s n (k : Int) = some (((bytesI s).drop k).all (fun c => letB c || digB c) && ((decide (k ≠ 0) || firstB (bytesI s)) && (decide (1 ≤ s.size) && decide (s.size ≤ 32)))) := by
  intro m
  induction m with
  | zero =>
    intro k n hm hk hn
    obtain ⟨n, rfl⟩ : ∃ n', n = n' + 1 := ⟨n - 1, by omega⟩
    have hk' : ¬ ((k : Int) < (((bytesI s).length : Nat) : Int)) := by omega
    rw [m_pack_Name_l1, m_pack_Name_l1_B]
    simp only [hk', decide_false, Bool.false_eq_true, if_false, m_pack_Name_k3]
    rw [List.drop_eq_nil_of_le (by omega)]
    have e1 : decide ((1 : Int) ≤ (s.size : Int)) = decide (1 ≤ s.size) := by congr 1; apply propext; omega
    have e2 : decide ((s.size : Int) ≤ 32) = decide (s.size ≤ 32) := by congr 1; apply propext; omega
    rw [e1, e2]
    by_cases h0 : k = 0
    · subst h0
      have hz : bytesI s = [] := List.eq_nil_of_length_eq_zero (by omega)
      have hz' : s.size = 0 := by rw [← bytesI_len, hz]; rfl
      simp [hz, hz', firstB]
    · simp [h0]
      by_cases h1 : 1 ≤ s.size <;> simp [h1]
  | succ m ih =>
    intro k n hm hk hn
    obtain ⟨n, rfl⟩ : ∃ n', n = n' + 1 := ⟨n - 1, by omega⟩
    have hlt : k < (bytesI s).length := by omega
    have hk' : ((k : Int) < (((bytesI s).length : Nat) : Int)) := by omega
    have hw : IntKind.i64.wrap ((k : Int) + 1) = ((k + 1 : Nat) : Int) := wrap_succ (by have := bytesI_len s; unfold big63 at hs; omega)
    have hih : m_pack_Name_l1 s n ((k : Int) + 1) = _ := ih (k + 1) n (by omega) (by omega) (by omega)
    simp only [ne_eq, Nat.add_eq_zero_iff, Nat.one_ne_zero, and_false, not_false_eq_true, decide_true, Bool.true_or, Bool.true_and] at hih
    have hnth : nthI (bytesI s) (k : Int) = some (bytesI s)[k] := nthI_lt hlt
    rw [m_pack_Name_l1, m_pack_Name_l1_B, List.drop_eq_getElem_cons hlt, List.all_cons]
    simp only [hk', decide_true, if_true, hnth, bnd_some]
    have hfirst : (decide (k ≠ 0) || firstB (bytesI s)) = (decide (k ≠ 0) || letB (bytesI s)[k]) := by
      by_cases h0 : k = 0
      · subst h0
        rw [firstB_get _ hlt]
      · simp [h0]
    rw [hfirst]
    generalize (bytesI s)[k] = c at *
    have k2 : ∀ b : Bool, m_pack_Name_k2 (m_pack_Name_l1 s n) (k : Int) b = some (!b && (((bytesI s).drop (k + 1)).all (fun c => letB c || digB c) && (decide (1 ≤ s.size) && decide (s.size ≤ 32)))) := by
      intro b
      cases b <;> simp [m_pack_Name_k2, hw, hih]
    have hk0 : decide ((k : Int) = 0) = !decide (k ≠ 0) := by
      by_cases h0 : k = 0 <;> simp [h0]
    have k1 : ∀ b : Bool, m_pack_Name_k1 (m_pack_Name_l1 s n) (k : Int) c b = some ((b || (decide (k ≠ 0) && digB c)) && (((bytesI s).drop (k + 1)).all (fun c => letB c || digB c) && (decide (1 ≤ s.size) && decide (s.size ≤ 32)))) := by
      intro b
      unfold m_pack_Name_k1
      rw [hk0]
      simp only [k2]
      cases b
      · by_cases h0 : k = 0
        · simp [h0]
        · by_cases h1 : c < 48
          · have : digB c = false := by unfold digB; simp; omega
            simp [h0, h1, this]
          · have : digB c = !decide (57 < c) := by
              unfold digB
              by_cases h2 : c ≤ 57
              · have : ¬ 57 < c := by omega
                simp [h2, this]; omega
              · have : 57 < c := by omega
                simp [h2, this]
            simp [h0, h1, this]
      · simp
    by_cases h : 97 ≤ c
    · simp only [h, decide_true, if_true, k1]
      have : letB c = decide (c ≤ 122) := by simp [letB, h]
      rw [this]
      cases decide (c ≤ 122) <;> cases digB c <;> cases decide (k ≠ 0) <;> simp
    · simp only [h, decide_false, Bool.false_eq_true, if_false, k1]
      have : letB c = false := by simp [letB, h]
      rw [this]
      cases digB c <;> cases decide (k ≠ 0) <;> simp
theorem pack_name {s : ByteArray} (hs : s.size ≤ big63) : m_pack_Name s = some (nameB s) := by
  have hlen := bytesI_len s
  unfold m_pack_Name nameB nameL
  have hl := pack_loop s hs _ 0 ((((((bytesI s).length : Nat) : Int)) - 0).toNat + 1) rfl (Nat.zero_le _) (by omega)
  have hl : m_pack_Name_l1 s ((((((bytesI s).length : Nat) : Int)) - 0).toNat + 1) 0 = _ := hl
  rw [hl]
  cases hb : bytesI s with
  | nil =>
    have : s.size = 0 := by rw [← hlen, hb]; rfl
    simp [this]
  | cons c r =>
    have h1 : 1 ≤ s.size := by rw [← hlen, hb]; simp
    have h2 : s.size = (c :: r).length := by rw [← hlen, hb]
    have h3 : 1 ≤ (c :: r).length := by simp
    simp only [h1, h3, decide_true, Bool.true_and, h2, List.drop_zero, ne_eq, not_true_eq_false, decide_false, Bool.false_or, firstB]
def yesS : ByteArray := ⟨#[121, 101, 115]⟩
def noS : ByteArray := ⟨#[110, 111]⟩
def varB (s : ByteArray) : Bool := nameB s && (!eqS s yesS && !eqS s noS)
/-! ### The order of texts -/
theorem bl_irr : ∀ x : List UInt8, Op.bytesLess x x = false
  | [] => rfl
  | a :: x => by simp [Op.bytesLess, bl_irr x]
theorem bl_trans : ∀ {x y z : List UInt8}, Op.bytesLess x y = true → Op.bytesLess y z = true → Op.bytesLess x z = true
  | [], [], z, h, h' => by simp [Op.bytesLess] at h
  | [], b :: y, [], h, h' => by simp [Op.bytesLess] at h'
  | [], b :: y, c :: z, h, h' => by simp [Op.bytesLess]
  | a :: x, [], z, h, h' => by simp [Op.bytesLess] at h
  | a :: x, b :: y, [], h, h' => by simp [Op.bytesLess] at h'
  | a :: x, b :: y, c :: z, h, h' => by
    simp only [Op.bytesLess, Bool.or_eq_true, decide_eq_true_eq, Bool.and_eq_true, beq_iff_eq] at h h' ⊢
    rcases h with h | ⟨rfl, h⟩
    · rcases h' with h' | ⟨rfl, h'⟩
      · exact .inl (UInt8.lt_trans h h')
      · exact .inl h
    · rcases h' with h' | ⟨rfl, h'⟩
      · exact .inl h'
      · exact .inr ⟨rfl, bl_trans h h'⟩
theorem bl_tri : ∀ (x y : List UInt8), Op.bytesLess x y = true ∨ x = y ∨ Op.bytesLess y x = true
  | [], [] => .inr (.inl rfl)
  | [], b :: y => .inl rfl
  | a :: x, [] => .inr (.inr rfl)
  | a :: x, b :: y => by
    simp only [Op.bytesLess, Bool.or_eq_true, decide_eq_true_eq, Bool.and_eq_true, beq_iff_eq]
    rcases Nat.lt_trichotomy a.toNat b.toNat with h | h | h
    · exact .inl (.inl (UInt8.lt_iff_toNat_lt.2 h))
    · have : a = b := UInt8.toNat_inj.1 h
      subst this
      rcases bl_tri x y with h | h | h
      · exact .inl (.inr ⟨rfl, h⟩)
      · subst h; exact .inr (.inl rfl)
      · exact .inr (.inr (.inr ⟨rfl, h⟩))
    · exact .inr (.inr (.inl (UInt8.lt_iff_toNat_lt.2 h)))
theorem ltS_irr (a : ByteArray) : ltS a a = false := bl_irr _
theorem ltS_trans {a b c : ByteArray} (h : ltS a b = true) (h' : ltS b c = true) : ltS a c = true := bl_trans h h'
theorem ltS_tri (a b : ByteArray) : ltS a b = true ∨ a = b ∨ ltS b a = true := by
  rcases bl_tri a.toList b.toList with h | h | h
  · exact .inl h
  · exact .inr (.inl (toList_inj h))
  · exact .inr (.inr h)
theorem ltS_asymm {a b : ByteArray} (h : ltS a b = true) : ltS b a = false := by
  cases hb : ltS b a with
  | false => rfl
  | true => have := ltS_trans h hb; rw [ltS_irr] at this; cases this
theorem eqS_self (a : ByteArray) : eqS a a = true := eqS_iff.2 rfl
/-! ### 9.1 -/
structure OkV (v : TVars) : Prop where
  len : v.Names.length ≤ big63
  lenV : v.Vals.length ≤ big63
  names : ∀ s ∈ v.Names, s.size ≤ big63
  vals : ∀ n ∈ v.Vals, inR n
def afterB : Option ByteArray → ByteArray → Bool
  | none, _ => true
  | some q, x => ltS q x
/-- Names that may be, rising, behind one. -/
def namesB : Option ByteArray → List ByteArray → Bool
  | _, [] => true
  | p, x :: r => varB x && (afterB p x && namesB (some x) r)
def vchk (v : TVars) : Int := if v.Names.length ≠ v.Vals.length then 1 else if 64 < v.Names.length then 6 else if namesB none v.Names = true then 0 else 1
def prevO (l : List ByteArray) (k : Nat) : Option ByteArray := if k = 0 then none else l[k - 1]?
theorem prevO_succ {l : List ByteArray} {k : Nat} (h : k < l.length) : prevO l (k + 1) = some l[k] := by
  unfold prevO
  rw [if_neg (by omega), Nat.add_sub_cancel, List.getElem?_eq_getElem h]
theorem ref09_chk_loop {v : TVars} (hv : OkV v) : ∀ (m k n : Nat), v.Names.length - k = m → k ≤ v.Names.length → m < n →
    m_ref09_Check_l1 v n (k : Int) = some (if namesB (prevO v.Names k) (v.Names.drop k) = true then 0 else 1) := by
  intro m
  induction m with
  | zero =>
    intro k n hm hk hn
    obtain ⟨n, rfl⟩ : ∃ n', n = n' + 1 := ⟨n - 1, by omega⟩
    have hk' : ¬ ((k : Int) < (v.Names.length : Int)) := by omega
    rw [m_ref09_Check_l1, m_ref09_Check_l1_B, List.drop_eq_nil_of_le (by omega)]
    simp [hk', namesB]
  | succ m ih =>
    intro k n hm hk hn
    obtain ⟨n, rfl⟩ : ∃ n', n = n' + 1 := ⟨n - 1, by omega⟩
    have hlt : k < v.Names.length := by omega
    have hk' : ((k : Int) < (v.Names.length : Int)) := by omega
    have hw : IntKind.i64.wrap ((k : Int) + 1) = (k : Int) + 1 := wrap_succ' (by omega) (by have := hv.len; unfold big63 at this; omega)
    have hih : m_ref09_Check_l1 v n ((k : Int) + 1) = _ := ih (k + 1) n (by omega) (by omega) (by omega)
    rw [prevO_succ hlt] at hih
    rw [m_ref09_Check_l1, m_ref09_Check_l1_B, List.drop_eq_getElem_cons hlt]
    simp only [hk', decide_true, if_true, nthI_lt hlt, bnd_some, ref02_name (hv.names _ (List.getElem_mem hlt)), namesB]
    have k1 : ∀ b : Bool, m_ref09_Check_k1 (m_ref09_Check_l1 v n) (k : Int) b = some (if (!b && namesB (some v.Names[k]) (v.Names.drop (k + 1))) = true then 0 else 1) := by
      intro b
      unfold m_ref09_Check_k1
      rw [hw, hih]
      cases b <;> simp
    have hp : (if decide ((0 : Int) < (k : Int)) = true then bnd (nthI v.Names (IntKind.i64.wrap ((k : Int) - 1))) fun e_1 => m_ref09_Check_k1 (m_ref09_Check_l1 v n) (k : Int) (!(ltS e_1 v.Names[k])) else m_ref09_Check_k1 (m_ref09_Check_l1 v n) (k : Int) false) = some (if (afterB (prevO v.Names k) v.Names[k] && namesB (some v.Names[k]) (v.Names.drop (k + 1))) = true then 0 else 1) := by
      by_cases h0 : k = 0
      · subst h0
        have hk1 := k1 false
        rw [show (((0 : Nat) : Int)) = 0 from rfl] at hk1 ⊢
        rw [show decide ((0 : Int) < 0) = false from rfl, if_neg (by decide), hk1]
        rfl
      · have e1 : (0 : Int) < (k : Int) := by omega
        have e2 : IntKind.i64.wrap ((k : Int) - 1) = ((k - 1 : Nat) : Int) := by
          rw [wrap_in (by have := hv.len; unfold inR; unfold big63 at this; omega)]
          omega
        have e3 : nthI v.Names ((k - 1 : Nat) : Int) = some v.Names[k - 1] := nthI_lt (by omega)
        have e4 : prevO v.Names k = some v.Names[k - 1] := by
          unfold prevO
          rw [if_neg h0, List.getElem?_eq_getElem (by omega)]
        simp only [e1, decide_true, if_true, e2, e3, bnd_some, k1, e4, Bool.not_not, afterB]
    generalize v.Names[k] = x at *
    unfold varB
    rcases Bool.eq_false_or_eq_true (nameB x) with hb | hb
    · simp only [hb, if_true, Bool.true_and]
      change (if eqS x yesS = true then _ else if eqS x noS = true then _ else _) = _
      rcases Bool.eq_false_or_eq_true (eqS x yesS) with hy | hy
      · simp [hy, k1]
      · simp only [hy, Bool.false_eq_true, if_false, Bool.not_false, Bool.true_and]
        rcases Bool.eq_false_or_eq_true (eqS x noS) with ho | ho
        · simp [ho, k1]
        · simp only [ho, Bool.false_eq_true, if_false, Bool.not_false, Bool.true_and, hp]
    · simp [hb, k1]
theorem vars_chk_loop {v : TVars} (hv : OkV v) : ∀ (m k n : Nat), v.Names.length - k = m → k ≤ v.Names.length → m < n →
    m_vars_Check_l1 v n (k : Int) = some (if namesB (prevO v.Names k) (v.Names.drop k) = true then 0 else 1) := by
  intro m
  induction m with
  | zero =>
    intro k n hm hk hn
    obtain ⟨n, rfl⟩ : ∃ n', n = n' + 1 := ⟨n - 1, by omega⟩
    have hk' : ¬ ((k : Int) < (v.Names.length : Int)) := by omega
    rw [m_vars_Check_l1, m_vars_Check_l1_B, List.drop_eq_nil_of_le (by omega)]
    simp [hk', namesB]
  | succ m ih =>
    intro k n hm hk hn
    obtain ⟨n, rfl⟩ : ∃ n', n = n' + 1 := ⟨n - 1, by omega⟩
    have hlt : k < v.Names.length := by omega
    have hk' : ((k : Int) < (v.Names.length : Int)) := by omega
    have hw : IntKind.i64.wrap ((k : Int) + 1) = (k : Int) + 1 := wrap_succ' (by omega) (by have := hv.len; unfold big63 at this; omega)
    have hih : m_vars_Check_l1 v n ((k : Int) + 1) = _ := ih (k + 1) n (by omega) (by omega) (by omega)
    rw [prevO_succ hlt] at hih
    rw [m_vars_Check_l1, m_vars_Check_l1_B, List.drop_eq_getElem_cons hlt]
    simp only [hk', decide_true, if_true, nthI_lt hlt, bnd_some, pack_name (hv.names _ (List.getElem_mem hlt)), namesB]
    have k2 : ∀ b : Bool, m_vars_Check_k2 (m_vars_Check_l1 v n) (k : Int) b = some (if (!b && namesB (some v.Names[k]) (v.Names.drop (k + 1))) = true then 0 else 1) := by
      intro b
      unfold m_vars_Check_k2
      rw [hw, hih]
      cases b <;> simp
    have k1 : ∀ b : Bool, m_vars_Check_k1 (m_vars_Check_l1 v n) v (k : Int) v.Names[k] b = some (if (!b && (afterB (prevO v.Names k) v.Names[k] && namesB (some v.Names[k]) (v.Names.drop (k + 1)))) = true then 0 else 1) := by
      intro b
      unfold m_vars_Check_k1
      cases b
      · by_cases h0 : k = 0
        · subst h0
          have hk2 := k2 false
          rw [show (((0 : Nat) : Int)) = 0 from rfl] at hk2 ⊢
          rw [show decide ((0 : Int) < 0) = false from rfl, if_neg (by decide), if_neg (by decide), hk2]
          rfl
        · have e1 : (0 : Int) < (k : Int) := by omega
          have e2 : IntKind.i64.wrap ((k : Int) - 1) = ((k - 1 : Nat) : Int) := by
            rw [wrap_in (by have := hv.len; unfold inR; unfold big63 at this; omega)]
            omega
          have e3 : nthI v.Names ((k - 1 : Nat) : Int) = some v.Names[k - 1] := nthI_lt (by omega)
          have e4 : prevO v.Names k = some v.Names[k - 1] := by
            unfold prevO
            rw [if_neg h0, List.getElem?_eq_getElem (by omega)]
          simp only [e1, decide_true, if_true, e2, e3, bnd_some, k2, e4, Bool.not_not, afterB, Bool.false_eq_true, if_false, Bool.not_false, Bool.true_and]
      · rfl
    generalize v.Names[k] = x at *
    unfold varB
    rcases Bool.eq_false_or_eq_true (nameB x) with hb | hb
    · simp only [hb, if_true, Bool.true_and]
      change (if eqS x yesS = true then _ else m_vars_Check_k1 _ v (k : Int) x (eqS x noS)) = _
      rcases Bool.eq_false_or_eq_true (eqS x yesS) with hy | hy
      · simp [hy, k1]
      · simp only [hy, Bool.false_eq_true, if_false, Bool.not_false, Bool.true_and, k1]
    · simp [hb, k1]
theorem ref09_Check {v : TVars} (hv : OkV v) : m_ref09_Check v = some (vchk v) := by
  unfold m_ref09_Check vchk
  have hlp := ref09_chk_loop hv _ 0 ((((v.Names.length : Int)) - 0).toNat + 1) rfl (Nat.zero_le _) (by omega)
  have hlp : m_ref09_Check_l1 v ((((v.Names.length : Int)) - 0).toNat + 1) 0 = some (if namesB none v.Names = true then 0 else 1) := hlp
  by_cases h1 : v.Names.length = v.Vals.length
  · have h1' : decide ((v.Names.length : Int) ≠ (v.Vals.length : Int)) = false := by simp; omega
    rw [h1', hlp]
    simp only [Bool.false_eq_true, if_false, h1, ne_eq, not_true_eq_false]
    rw [← h1]
    by_cases h2 : 64 < v.Names.length
    · have h2' : decide ((64 : Int) < (v.Names.length : Int)) = true := by simp; omega
      rw [h2']
      simp [h2]
    · have h2' : decide ((64 : Int) < (v.Names.length : Int)) = false := by simp; omega
      rw [h2']
      simp [h2]
  · have h1' : decide ((v.Names.length : Int) ≠ (v.Vals.length : Int)) = true := by simp; omega
    rw [h1']
    simp [h1]
theorem vars_Check {v : TVars} (hv : OkV v) : m_vars_Check v = some (vchk v) := by
  unfold m_vars_Check vchk
  have hlp := vars_chk_loop hv _ 0 ((((v.Names.length : Int)) - 0).toNat + 1) rfl (Nat.zero_le _) (by omega)
  have hlp : m_vars_Check_l1 v ((((v.Names.length : Int)) - 0).toNat + 1) 0 = some (if namesB none v.Names = true then 0 else 1) := hlp
  by_cases h1 : v.Names.length = v.Vals.length
  · have h1' : decide ((v.Names.length : Int) ≠ (v.Vals.length : Int)) = false := by simp; omega
    rw [h1', hlp]
    simp only [Bool.false_eq_true, if_false, h1, ne_eq, not_true_eq_false]
    rw [← h1]
    by_cases h2 : 64 < v.Names.length
    · have h2' : decide ((64 : Int) < (v.Names.length : Int)) = true := by simp; omega
      rw [h2']
      simp [h2]
    · have h2' : decide ((64 : Int) < (v.Names.length : Int)) = false := by simp; omega
      rw [h2']
      simp [h2]
  · have h1' : decide ((v.Names.length : Int) ≠ (v.Vals.length : Int)) = true := by simp; omega
    rw [h1']
    simp [h1]
end Go.Proofs.Ytjhnlgelcfplaaa.R
