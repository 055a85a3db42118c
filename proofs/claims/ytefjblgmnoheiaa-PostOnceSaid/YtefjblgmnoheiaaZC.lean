/- Plain laws: numbers, elements, lists compared. -/
import Derived.Test.YtefjblgmnoheiaaMF
import Derived.IntWalk
set_option maxRecDepth 100000
set_option linter.unusedVariables false
set_option linter.unusedSimpArgs false
noncomputable section
namespace Go.Proofs.Ytefjblgmnoheiaa.R
open Go
/-! ### Ranges -/
def inR (n : Int) : Prop := -9223372036854775808 ≤ n ∧ n ≤ 9223372036854775807
instance (n : Int) : Decidable (inR n) := inferInstanceAs (Decidable (_ ∧ _))
theorem wrap_in {n : Int} (h : inR n) : IntKind.i64.wrap n = n := IntWalk.i64_in n h
theorem u64_in {n : Int} (h0 : 0 ≤ n) (h1 : n < 18446744073709551616) : IntKind.u64.wrap n = n := by
  simp only [IntKind.wrap, IntKind.signed, IntKind.bits]
  simp
  omega
theorem wrap_succ {k : Nat} (h : k < 9223372036854775807) : IntKind.i64.wrap ((k : Int) + 1) = ((k + 1 : Nat) : Int) := by
  rw [wrap_in (by unfold inR; omega)]
  rfl
theorem wrap_succ' {i : Int} (h0 : 0 ≤ i) (h : i < 9223372036854775807) : IntKind.i64.wrap (i + 1) = i + 1 := wrap_in (by unfold inR; omega)
/-! ### Elements -/
theorem nthI_nat {α : Type} (l : List α) (k : Nat) : nthI l (k : Int) = l[k]? := by simp [nthI]
theorem nthI_lt {α : Type} {l : List α} {k : Nat} (h : k < l.length) : nthI l (k : Int) = some l[k] := by rw [nthI_nat, List.getElem?_eq_getElem h]
theorem bytesI_len (s : ByteArray) : (bytesI s).length = s.size := by simp [bytesI]
theorem capB_small {n : Nat} (h : n ≤ 549755813888) : capB n = true := by
  unfold capB limN
  simpa using h
/-! ### Two lists compared -/
end Go.Proofs.Ytefjblgmnoheiaa.R

/- Plain laws: names, variables checked. -/
set_option maxRecDepth 100000
set_option linter.unusedVariables false
set_option linter.unusedSimpArgs false
noncomputable section
namespace Go.Proofs.Ytefjblgmnoheiaa.R
open Go
def big63 : Nat := 140737488351232
/-! ### Names -/
def letB (c : Int) : Bool := decide (97 ≤ c) && decide (c ≤ 122)
def digB (c : Int) : Bool := decide (48 ≤ c) && decide (c ≤ 57)
def nameL (l : List Int) : Bool := l.all (fun c => letB c || digB c) && ((match l with | [] => false | c :: _ => letB c) && decide (l.length ≤ 32))
def nameB (s : ByteArray) : Bool := nameL (bytesI s)
def firstB : List Int → Bool
  | [] => true
  | c :: _ => letB c
theorem firstB_get : ∀ (l : List Int) (h : 0 < l.length), firstB l = letB l[0]
  | [], h => by simp at h
  | c :: r, _ => rfl
theorem pack_loop (s : ByteArray) (hs : s.size ≤ big63) : ∀ (m k n : Nat), (bytesI s).length - k = m → k ≤ (bytesI s).length → m < n →
    m_pack_Name_l1 s n (k : Int) = some (((bytesI s).drop k).all (fun c => letB c || digB c) && ((decide (k ≠ 0) || firstB (bytesI s)) && (decide (1 ≤ s.size) && decide (s.size ≤ 32)))) := by
  intro m
  induction m with
  | zero =>
    intro k n hm hk hn
    obtain ⟨n, rfl⟩ : ∃ n', n = n' + 1 := ⟨n - 1, by omega⟩
    have hk' : ¬ ((k : Int) < (((bytesI s).length : Nat) : Int)) := by omega
    rw [m_pack_Name_l1, m_pack_Name_l1_B]
    simp only [hk', decide_false, Bool.false_eq_true, if_false, m_pack_Name_k3]
    rw [List.drop_eq_nil_of_le (by omega)]
    have e1 : decide ((1 : Int) ≤ (s.size : Int)) = decide (1 ≤ s.size) := by congr 1; apply propext; omega
    have e2 : decide ((s.size : Int) ≤ 32) = decide (s.size ≤ 32) := by congr 1; apply propext; omega
    rw [e1, e2]
    by_cases h0 : k = 0
    · subst h0
      have hz : bytesI s = [] := List.eq_nil_of_length_eq_zero (by omega)
      have hz' : s.size = 0 := by rw [← bytesI_len, hz]; rfl
      simp [hz, hz', firstB]
    · simp [h0]
      by_cases h1 : 1 ≤ s.size <;> simp [h1]
  | succ m ih =>
    intro k n hm hk hn
    obtain ⟨n, rfl⟩ : ∃ n', n = n' + 1 := ⟨n - 1, by omega⟩
    have hlt : k < (bytesI s).length := by omega
    have hk' : ((k : Int) < (((bytesI s).length : Nat) : Int)) := by omega
    have hw : IntKind.i64.wrap ((k : Int) + 1) = ((k + 1 : Nat) : Int) := wrap_succ (by have := bytesI_len s; unfold big63 at hs; omega)
    have hih : m_pack_Name_l1 s n ((k : Int) + 1) = _ := ih (k + 1) n (by omega) (by omega) (by omega)
    simp only [ne_eq, Nat.add_eq_zero_iff, Nat.one_ne_zero, and_false, not_false_eq_true, decide_true, Bool.true_or, Bool.true_and] at hih
    have hnth : nthI (bytesI s) (k : Int) = some (bytesI s)[k] := nthI_lt hlt
    rw [m_pack_Name_l1, m_pack_Name_l1_B, List.drop_eq_getElem_cons hlt, List.all_cons]
    simp only [hk', decide_true, if_true, hnth, bnd_some]
    have hfirst : (decide (k ≠ 0) || firstB (bytesI s)) = (decide (k ≠ 0) || letB (bytesI s)[k]) := by
      by_cases h0 : k = 0
      · subst h0
        rw [firstB_get _ hlt]
      · simp [h0]
    rw [hfirst]
    generalize (bytesI s)[k] = c at *
    have k2 : ∀ b : Bool, m_pack_Name_k2 (m_pack_Name_l1 s n) (k : Int) b = some (!b && (((bytesI s).drop (k + 1)).all (fun c => letB c || digB c) && (decide (1 ≤ s.size) && decide (s.size ≤ 32)))) := by
      intro b
      cases b <;> simp [m_pack_Name_k2, hw, hih]
    have hk0 : decide ((k : Int) = 0) = !decide (k ≠ 0) := by
      by_cases h0 : k = 0 <;> simp [h0]
    have k1 : ∀ b : Bool, m_pack_Name_k1 (m_pack_Name_l1 s n) (k : Int) c b = some ((b || (decide (k ≠ 0) && digB c)) && (((bytesI s).drop (k + 1)).all (fun c => letB c || digB c) && (decide (1 ≤ s.size) && decide (s.size ≤ 32)))) := by
      intro b
      unfold m_pack_Name_k1
      rw [hk0]
      simp only [k2]
      cases b
      · by_cases h0 : k = 0
        · simp [h0]
        · by_cases h1 : c < 48
          · have : digB c = false := by unfold digB; simp; omega
            simp [h0, h1, this]
          · have : digB c = !decide (57 < c) := by
              unfold digB
              by_cases h2 : c ≤ 57
              · have : ¬ 57 < c := by omega
                simp [h2, this]; omega
              · have : 57 < c := by omega
                simp [h2, this]
            simp [h0, h1, this]
      · simp
    by_cases h : 97 ≤ c
    · simp only [h, decide_true, if_true, k1]
      have : letB c = decide (c ≤ 122) := by simp [letB, h]
      rw [this]
      cases decide (c ≤ 122) <;> cases digB c <;> cases decide (k ≠ 0) <;> simp
    · simp only [h, decide_false, Bool.false_eq_true, if_false, k1]
      have : letB c = false := by simp [letB, h]
      rw [this]
      cases digB c <;> cases decide (k ≠ 0) <;> simp
theorem pack_name {s : ByteArray} (hs : s.size ≤ big63) : m_pack_Name s = some (nameB s) := by
  have hlen := bytesI_len s
  unfold m_pack_Name nameB nameL
  have hl := pack_loop s hs _ 0 ((((((bytesI s).length : Nat) : Int)) - 0).toNat + 1) rfl (Nat.zero_le _) (by omega)
  have hl : m_pack_Name_l1 s ((((((bytesI s).length : Nat) : Int)) - 0).toNat + 1) 0 = _ := hl
  rw [hl]
  cases hb : bytesI s with
  | nil =>
    have : s.size = 0 := by rw [← hlen, hb]; rfl
    simp [this]
  | cons c r =>
    have h1 : 1 ≤ s.size := by rw [← hlen, hb]; simp
    have h2 : s.size = (c :: r).length := by rw [← hlen, hb]
    have h3 : 1 ≤ (c :: r).length := by simp
    simp only [h1, h3, decide_true, Bool.true_and, h2, List.drop_zero, ne_eq, not_true_eq_false, decide_false, Bool.false_or, firstB]
def yesS : ByteArray := ⟨#[121, 101, 115]⟩
def noS : ByteArray := ⟨#[110, 111]⟩
def varB (s : ByteArray) : Bool := nameB s && (!eqS s yesS && !eqS s noS)
/-! ### The order of texts -/
/-! ### 9.1 -/
structure OkV (v : TVars) : Prop where
  len : v.Names.length ≤ big63
  lenV : v.Vals.length ≤ big63
  names : ∀ s ∈ v.Names, s.size ≤ big63
  vals : ∀ n ∈ v.Vals, inR n
def afterB : Option ByteArray → ByteArray → Bool
  | none, _ => true
  | some q, x => ltS q x
/-- Names that may be, rising, behind one. -/
def namesB : Option ByteArray → List ByteArray → Bool
  | _, [] => true
  | p, x :: r => varB x && (afterB p x && namesB (some x) r)
def vchk (v : TVars) : Int := if v.Names.length ≠ v.Vals.length then 1 else if 64 < v.Names.length then 6 else if namesB none v.Names = true then 0 else 1
def prevO (l : List ByteArray) (k : Nat) : Option ByteArray := if k = 0 then none else l[k - 1]?
theorem prevO_succ {l : List ByteArray} {k : Nat} (h : k < l.length) : prevO l (k + 1) = some l[k] := by
  unfold prevO
  rw [if_neg (by omega), Nat.add_sub_cancel, List.getElem?_eq_getElem h]
theorem vars_chk_loop {v : TVars} (hv : OkV v) : ∀ (m k n : Nat), v.Names.length - k = m → k ≤ v.Names.length → m < n →
    m_vars_Check_l1 v n (k : Int) = some (if namesB (prevO v.Names k) (v.Names.drop k) = true then 0 else 1) := by
  intro m
  induction m with
  | zero =>
    intro k n hm hk hn
    obtain ⟨n, rfl⟩ : ∃ n', n = n' + 1 := ⟨n - 1, by omega⟩
    have hk' : ¬ ((k : Int) < (v.Names.length : Int)) := by omega
    rw [m_vars_Check_l1, m_vars_Check_l1_B, List.drop_eq_nil_of_le (by omega)]
    simp [hk', namesB]
  | succ m ih =>
    intro k n hm hk hn
    obtain ⟨n, rfl⟩ : ∃ n', n = n' + 1 := ⟨n - 1, by omega⟩
    have hlt : k < v.Names.length := by omega
    have hk' : ((k : Int) < (v.Names.length : Int)) := by omega
    have hw : IntKind.i64.wrap ((k : Int) + 1) = (k : Int) + 1 := wrap_succ' (by omega) (by have := hv.len; unfold big63 at this; omega)
    have hih : m_vars_Check_l1 v n ((k : Int) + 1) = _ := ih (k + 1) n (by omega) (by omega) (by omega)
    rw [prevO_succ hlt] at hih
    rw [m_vars_Check_l1, m_vars_Check_l1_B, List.drop_eq_getElem_cons hlt]
    simp only [hk', decide_true, if_true, nthI_lt hlt, bnd_some, pack_name (hv.names _ (List.getElem_mem hlt)), namesB]
    have k2 : ∀ b : Bool, m_vars_Check_k2 (m_vars_Check_l1 v n) (k : Int) b = some (if (!b && namesB (some v.Names[k]) (v.Names.drop (k + 1))) = true then 0 else 1) := by
      intro b
      unfold m_vars_Check_k2
      rw [hw, hih]
      cases b <;> simp
    have k1 : ∀ b : Bool, m_vars_Check_k1 (m_vars_Check_l1 v n) v (k : Int) v.Names[k] b = some (if (!b && (afterB (prevO v.Names k) v.Names[k] && namesB (some v.Names[k]) (v.Names.drop (k + 1)))) = true then 0 else 1) := by
      intro b
      unfold m_vars_Check_k1
      cases b
      · by_cases h0 : k = 0
        · subst h0
          have hk2 := k2 false
          rw [show (((0 : Nat) : Int)) = 0 from rfl] at hk2 ⊢
          rw [show decide ((0 : Int) < 0) = false from rfl, if_neg (by decide), if_neg (by decide), hk2]
          rfl
        · have e1 : (0 : Int) < (k : Int) := by omega
          have e2 : IntKind.i64.wrap ((k : Int) - 1) = ((k - 1 : Nat) : Int) := by
            rw [wrap_in (by have := hv.len; unfold inR; unfold big63 at this; omega)]
            omega
          have e3 : nthI v.Names ((k - 1 : Nat) : Int) = some v.Names[k - 1] := nthI_lt (by omega)
          have e4 : prevO v.Names k = some v.Names[k - 1] := by
            unfold prevO
            rw [if_neg h0, List.getElem?_eq_getElem (by omega)]
          simp only [e1, decide_true, if_true, e2, e3, bnd_some, k2, e4, Bool.not_not, afterB, Bool.false_eq_true, if_false, Bool.not_false, Bool.true_and]
      · rfl
    generalize v.Names[k] = x at *
    unfold varB
    rcases Bool.eq_false_or_eq_true (nameB x) with hb | hb
    · simp only [hb, if_true, Bool.true_and]
      change (if eqS x yesS = true then _ else m_vars_Check_k1 _ v (k : Int) x (eqS x noS)) = _
      rcases Bool.eq_false_or_eq_true (eqS x yesS) with hy | hy
      · simp [hy, k1]
      · simp only [hy, Bool.false_eq_true, if_false, Bool.not_false, Bool.true_and, k1]
    · simp [hb, k1]
theorem vars_Check {v : TVars} (hv : OkV v) : m_vars_Check v = some (vchk v) := by
  unfold m_vars_Check vchk
  have hlp := vars_chk_loop hv _ 0 ((((v.Names.length : Int)) - 0).toNat + 1) rfl (Nat.zero_le _) (by omega)
  have hlp : m_vars_Check_l1 v ((((v.Names.length : Int)) - 0).toNat + 1) 0 = some (if namesB none v.Names = true then 0 else 1) := hlp
  by_cases h1 : v.Names.length = v.Vals.length
  · have h1' : decide ((v.Names.length : Int) ≠ (v.Vals.length : Int)) = false := by simp; omega
    rw [h1', hlp]
    simp only [Bool.false_eq_true, if_false, h1, ne_eq, not_true_eq_false]
    rw [← h1]
    by_cases h2 : 64 < v.Names.length
    · have h2' : decide ((64 : Int) < (v.Names.length : Int)) = true := by simp; omega
      rw [h2']
      simp [h2]
    · have h2' : decide ((64 : Int) < (v.Names.length : Int)) = false := by simp; omega
      rw [h2']
      simp [h2]
  · have h1' : decide ((v.Names.length : Int) ≠ (v.Vals.length : Int)) = true := by simp; omega
    rw [h1']
    simp [h1]
end Go.Proofs.Ytefjblgmnoheiaa.R

/- Plain laws: variables compared, copied; loops. -/
set_option maxRecDepth 100000
set_option linter.unusedVariables false
set_option linter.unusedSimpArgs false
noncomputable section
namespace Go.Proofs.Ytefjblgmnoheiaa.R
open Go
/-! ### Loops over a list -/
theorem loop_ind {β : Type} {len : Nat} {f : Nat → Int → Option β} {R : Nat → Option β → Prop} (hlen : len < 9223372036854775807) (hz : ∀ n, R len (f (n + 1) (len : Int)))
    (hs : ∀ n k, k < len → IntKind.i64.wrap ((k : Int) + 1) = ((k + 1 : Nat) : Int) → R (k + 1) (f n ((k + 1 : Nat) : Int)) → R k (f (n + 1) (k : Int))) : ∀ m k n, len - k = m → k ≤ len → m < n → R k (f n (k : Int)) := by
  intro m
  induction m with
  | zero =>
    intro k n hm hk hn
    obtain ⟨n, rfl⟩ : ∃ n', n = n' + 1 := ⟨n - 1, by omega⟩
    have : k = len := by omega
    subst this
    exact hz n
  | succ m ih =>
    intro k n hm hk hn
    obtain ⟨n, rfl⟩ : ∃ n', n = n' + 1 := ⟨n - 1, by omega⟩
    exact hs n k (by omega) (wrap_succ (by omega)) (ih (k + 1) n (by omega) (by omega) (by omega))
theorem loop0 {β : Type} {len : Nat} {f : Nat → Int → Option β} {R : Nat → Option β → Prop} (hlen : len < 9223372036854775807) (hz : ∀ n, R len (f (n + 1) (len : Int)))
    (hs : ∀ n k, k < len → IntKind.i64.wrap ((k : Int) + 1) = ((k + 1 : Nat) : Int) → R (k + 1) (f n ((k + 1 : Nat) : Int)) → R k (f (n + 1) (k : Int))) : R 0 (f ((((len : Int)) - ((0 : Int))).toNat + 1) (0 : Int)) :=
  loop_ind hlen hz hs _ 0 _ rfl (Nat.zero_le _) (by omega)
theorem lt_k {k len : Nat} (h : k < len) : ((k : Int) < (len : Int)) := by omega
theorem nlt_k {len : Nat} : ¬ ((len : Int) < (len : Int)) := by omega
end Go.Proofs.Ytefjblgmnoheiaa.R

/- Plain laws: who took a message; messages and subscriptions that may be. -/
set_option maxRecDepth 100000
set_option linter.unusedVariables false
set_option linter.unusedSimpArgs false
noncomputable section
namespace Go.Proofs.Ytefjblgmnoheiaa.R
open Go
abbrev most : Int := 1099511627776
def inZ (n a b : Int) : Bool := decide (a ≤ n) && decide (n ≤ b)
theorem inZ_iff {n a b : Int} : inZ n a b = true ↔ a ≤ n ∧ n ≤ b := by simp [inZ]
def tookB (l : List TWho) (p i : Int) : Bool := l.any fun w => decide (w.Part = p) && decide (w.Inst = i)
structure OkM (m : TMail) : Prop where
  id : inR m.Id
  key : inR m.Key
  til : inR m.Until
  name : m.Name.size ≤ big63
  vars : OkV m.Vars
  took : m.Took.length ≤ big63
  tk : ∀ w ∈ m.Took, inR w.Part ∧ inR w.Inst
structure OkS (s : TSub) : Prop where
  part : inR s.Part
  id : inR s.Id
  inst : inR s.Inst
  key : inR s.Key
  mail : inR s.Mail
  name : s.Name.size ≤ big63
structure OkP (p : TPost) : Prop where
  next : inR p.Next
  ml : p.Mails.length ≤ big63
  sl : p.Subs.length ≤ big63
  mails : ∀ m ∈ p.Mails, OkM m
  subs : ∀ s ∈ p.Subs, OkS s
theorem big_lt {n : Nat} (h : n ≤ big63) : n < 9223372036854775807 := by unfold big63 at h; omega
theorem contains_who {l : List TWho} (hl : l.length ≤ big63) (v : TWho) : m_slices_Contains_api_Who_api_Who l v = some (tookB l v.Part v.Inst) := by
  unfold m_slices_Contains_api_Who_api_Who m_slices_Index_api_Who_api_Who tookB
  suffices h : ∃ r, m_slices_Index_api_Who_api_Who_l1 l v ((((l.length : Int)) - ((0 : Int))).toNat + 1) (0 : Int) = some r ∧ decide (0 ≤ r) = ((l.drop 0).any fun w => decide (w.Part = v.Part) && decide (w.Inst = v.Inst)) by
    obtain ⟨r, h1, h2⟩ := h
    rw [h1, bnd_some, h2, List.drop_zero]
  refine loop0 (R := fun k o => ∃ r, o = some r ∧ decide (0 ≤ r) = ((l.drop k).any fun w => decide (w.Part = v.Part) && decide (w.Inst = v.Inst))) (f := m_slices_Index_api_Who_api_Who_l1 l v) (big_lt hl) (fun n => ?_) (fun n k hk hw ih => ?_)
  · rw [m_slices_Index_api_Who_api_Who_l1, m_slices_Index_api_Who_api_Who_l1_B, decide_eq_false nlt_k, List.drop_eq_nil_of_le (Nat.le_refl _)]
    exact ⟨-1, rfl, rfl⟩
  · rw [m_slices_Index_api_Who_api_Who_l1, m_slices_Index_api_Who_api_Who_l1_B, decide_eq_true (lt_k hk), if_pos rfl, nthI_lt hk, bnd_some, List.drop_eq_getElem_cons hk, List.any_cons]
    have e1 : (v.Part = l[k].Part) = (l[k].Part = v.Part) := propext eq_comm
    have e2 : (v.Inst = l[k].Inst) = (l[k].Inst = v.Inst) := propext eq_comm
    simp only [e1, e2, hw]
    obtain ⟨r, h1, h2⟩ := ih
    by_cases h : (decide (l[k].Part = v.Part) && decide (l[k].Inst = v.Inst)) = true
    · rw [if_pos h, h]
      exact ⟨k, rfl, by simp⟩
    · rw [if_neg h, h1, Bool.eq_false_iff.2 h]
      exact ⟨r, rfl, h2⟩
/-! ### 22.1 -/
def whoB (w : TWho) : Bool := inZ w.Part 0 63 && inZ w.Inst 1 most
def whosB : List TWho → List TWho → Bool
  | _, [] => true
  | pre, w :: r => whoB w && (!tookB pre w.Part w.Inst && whosB (pre ++ [w]) r)
def mchk (m : TMail) : Int :=
  if (inZ m.Id 1 most && (nameB m.Name && inZ m.Until 0 most)) = true then
    if vchk m.Vars ≠ 0 then vchk m.Vars else if whosB [] m.Took = true then 0 else 1
  else 1
theorem wide_eq (n : Int) : m_post_wide n = some (inZ n 1 1099511627776) := by
  unfold m_post_wide inZ
  by_cases h : 1 ≤ n <;> simp [h]
theorem part_eq (n : Int) : m_post_part n = some (inZ n 0 63) := by
  unfold m_post_part inZ
  have : decide (n < 64) = decide (n ≤ 63) := by congr 1; apply propext; omega
  by_cases h : 0 ≤ n <;> simp [h, this]
theorem sliceL_take {α : Type} {l : List α} {k : Nat} (h : k ≤ l.length) : sliceL l 0 (k : Int) = some (l.take k) := by
  unfold sliceL
  simp [h]
theorem take_succ_get {α : Type} {l : List α} {k : Nat} (h : k < l.length) : l.take (k + 1) = l.take k ++ [l[k]] := by rw [List.take_add_one, List.getElem?_eq_getElem h]; rfl
theorem take_big {α : Type} {l : List α} {k : Nat} (h : l.length ≤ big63) : (l.take k).length ≤ big63 := by rw [List.length_take]; omega
/-! ### 22.2 -/
def subB (s : TSub) : Bool := inZ s.Part 0 63 && (inZ s.Id 1 most && (inZ s.Inst 1 most && (nameB s.Name && inZ s.Mail 0 most)))
theorem post_sub {s : TSub} (hs : OkS s) : m_post_sub s = some (subB s) := by
  unfold m_post_sub subB
  simp only [part_eq, wide_eq, bnd_some, pack_name hs.name]
  cases inZ s.Part 0 63 <;> cases inZ s.Id 1 1099511627776 <;> cases inZ s.Inst 1 1099511627776 <;> cases nameB s.Name <;> simp [inZ]
  by_cases h : 0 ≤ s.Mail <;> simp [h]
/-! ### 22.3 -/
def aheadB (a b : TSub) : Bool := decide (a.Part < b.Part) || (decide (a.Part = b.Part) && decide (a.Id < b.Id))
theorem order_eq (a b : Tkey) : m_post_key_order a b = some (if a.f_part = b.f_part ∧ a.f_id = b.f_id then 0 else if a.f_part < b.f_part ∨ (a.f_part = b.f_part ∧ a.f_id < b.f_id) then -1 else 1) := by
  unfold m_post_key_order m_post_key_order_k1
  by_cases h1 : a.f_part = b.f_part <;> by_cases h2 : a.f_id = b.f_id <;> by_cases h3 : a.f_part < b.f_part <;> by_cases h4 : a.f_id < b.f_id <;> simp [h1, h2, h3, h4] <;> omega
theorem order_of (a b : TSub) : ∃ r, m_post_key_order ⟨a.Part, a.Id⟩ ⟨b.Part, b.Id⟩ = some r ∧ decide (0 ≤ r) = !aheadB a b := by
  refine ⟨_, order_eq _ _, ?_⟩
  unfold aheadB
  by_cases h1 : a.Part = b.Part <;> by_cases h2 : a.Id = b.Id <;> by_cases h3 : a.Part < b.Part <;> by_cases h4 : a.Id < b.Id <;> simp [h1, h2, h3, h4] <;> omega
def mailsE (next : Int) : Int → List TMail → Int
  | _, [] => 0
  | last, m :: r => if mchk m ≠ 0 then mchk m else if m.Id ≤ last ∨ next ≤ m.Id then 1 else mailsE next m.Id r
def behindB : Option TSub → TSub → Bool
  | none, _ => true
  | some a, b => aheadB a b
def subsB (next : Int) : Option TSub → List TSub → Bool
  | _, [] => true
  | q, s :: r => subB s && (decide (s.Mail < next) && (behindB q s && subsB next (some s) r))
def pchk (p : TPost) : Int :=
  if inZ p.Next 1 most = true then
    if 4096 < p.Mails.length ∨ 4096 < p.Subs.length then 6
    else if mailsE p.Next 0 p.Mails ≠ 0 then mailsE p.Next 0 p.Mails else if subsB p.Next none p.Subs = true then 0 else 1
  else 1
def prevS (l : List TSub) (k : Nat) : Option TSub := if k = 0 then none else l[k - 1]?
theorem prevS_succ {l : List TSub} {k : Nat} (h : k < l.length) : prevS l (k + 1) = some l[k] := by
  unfold prevS
  rw [if_neg (by omega), Nat.add_sub_cancel, List.getElem?_eq_getElem h]
theorem prevS_pos {l : List TSub} {k : Nat} (h : k < l.length) (h0 : k ≠ 0) : prevS l k = some l[k - 1] := by
  unfold prevS
  rw [if_neg h0, List.getElem?_eq_getElem (by omega)]
theorem wrap_pred {k : Nat} (h : k < 9223372036854775807) (h0 : k ≠ 0) : IntKind.i64.wrap ((k : Int) - 1) = ((k - 1 : Nat) : Int) := by
  rw [wrap_in (by unfold inR; omega)]
  omega
def prevI (l : List TMail) (k : Nat) : Int := if k = 0 then 0 else match l[k - 1]? with | some m => m.Id | none => 0
theorem prevI_succ {l : List TMail} {k : Nat} (h : k < l.length) : prevI l (k + 1) = l[k].Id := by
  unfold prevI
  rw [if_neg (by omega), Nat.add_sub_cancel, List.getElem?_eq_getElem h]
theorem mchk_id {m : TMail} (h : mchk m = 0) : 1 ≤ m.Id ∧ m.Id ≤ most ∧ nameB m.Name = true ∧ 0 ≤ m.Until ∧ m.Until ≤ most ∧ vchk m.Vars = 0 ∧ whosB [] m.Took = true := by
  unfold mchk at h
  split at h
  · rename_i h1
    simp only [Bool.and_eq_true, inZ_iff] at h1
    split at h
    · rename_i h2; exact absurd h h2
    · rename_i h2
      split at h
      · rename_i h3
        exact ⟨h1.1.1, h1.1.2, h1.2.1, h1.2.2.1, h1.2.2.2, by simpa using h2, h3⟩
      · cases h
  · cases h
end Go.Proofs.Ytefjblgmnoheiaa.R

/- Plain laws: posts compared, weighed. -/
set_option maxRecDepth 100000
set_option linter.unusedVariables false
set_option linter.unusedSimpArgs false
noncomputable section
namespace Go.Proofs.Ytefjblgmnoheiaa.R
open Go
/-! ### 22.11 -/
structure CapM (m : TMail) : Prop where
  took : m.Took.length ≤ 549755813888
  names : m.Vars.Names.length ≤ 549755813888
  vals : m.Vars.Vals.length ≤ 549755813888
structure CapP (p : TPost) : Prop where
  ml : p.Mails.length ≤ 549755813888
  sl : p.Subs.length ≤ 549755813888
  mails : ∀ m ∈ p.Mails, CapM m
/-! ### Weights -/
structure SmallM (m : TMail) : Prop where
  took : m.Took.length ≤ 200
  names : m.Vars.Names.length ≤ 200
  vals : m.Vars.Vals.length ≤ 200
  name : m.Name.size < 8040
  nm : ∀ s ∈ m.Vars.Names, s.size < 8040
structure SmallP (p : TPost) : Prop where
  ml : p.Mails.length ≤ 200
  sl : p.Subs.length ≤ 200
  mails : ∀ m ∈ p.Mails, SmallM m
  subs : ∀ s ∈ p.Subs, s.Name.size < 8040
theorem SmallP.cap {p : TPost} (h : SmallP p) : CapP p := ⟨by have := h.ml; omega, by have := h.sl; omega, fun m hm => ⟨by have := (h.mails m hm).took; omega, by have := (h.mails m hm).names; omega, by have := (h.mails m hm).vals; omega⟩⟩
end Go.Proofs.Ytefjblgmnoheiaa.R

/- Plain laws: a copy. -/
set_option maxRecDepth 100000
set_option linter.unusedVariables false
set_option linter.unusedSimpArgs false
noncomputable section
namespace Go.Proofs.Ytefjblgmnoheiaa.R
open Go
theorem copy_eq {v : TVars} (h1 : v.Names.length ≤ 549755813888) (h2 : v.Vals.length ≤ 549755813888) : m_vars_Copy v = some v := by
  simp [m_vars_Copy, capB_small h1, capB_small h2]
/-! ### A copy -/
theorem setI_same {α : Type} {l : List α} {k : Nat} (h : k < l.length) : setI l (k : Int) l[k] = l := by simp [setI]
theorem post_Copy {p : TPost} (hc : CapP p) : m_post_Copy p = some p := by
  unfold m_post_Copy
  rw [capB_small hc.ml, capB_small hc.sl]
  simp only [if_true]
  refine loop0 (R := fun k o => o = some p) (f := fun n i => m_post_Copy_l1 p n i p.Mails) (by have := hc.ml; omega) (fun n => ?_) (fun n k hk hw ih => ?_)
  · rw [m_post_Copy_l1, m_post_Copy_l1_B, decide_eq_false nlt_k]
    rfl
  · have hm := hc.mails _ (List.getElem_mem hk)
    rw [m_post_Copy_l1, m_post_Copy_l1_B, decide_eq_true (lt_k hk), if_pos rfl, nthI_lt hk, bnd_some, copy_eq hm.names hm.vals, bnd_some, capB_small hm.took, if_pos rfl, hw]
    have e : TMail.mk p.Mails[k].Id p.Mails[k].Name p.Mails[k].Key p.Mails[k].Vars p.Mails[k].Until p.Mails[k].Took = p.Mails[k] := rfl
    rw [e, setI_same hk, setI_same hk]
    exact ih
end Go.Proofs.Ytefjblgmnoheiaa.R

/- Plain laws: a message that is published. -/
set_option maxRecDepth 100000
set_option linter.unusedVariables false
set_option linter.unusedSimpArgs false
noncomputable section
namespace Go.Proofs.Ytefjblgmnoheiaa.R
open Go
/-- Of a post that may be, with few that took each. -/
structure Rdy (p : TPost) : Prop where
  ml : p.Mails.length ≤ 4096
  sl : p.Subs.length ≤ 4096
  took : ∀ m ∈ p.Mails, m.Took.length ≤ 10000
  names : ∀ m ∈ p.Mails, m.Vars.Names.length ≤ 1000
  vals : ∀ m ∈ p.Mails, m.Vars.Vals.length ≤ 1000
theorem Rdy.cap {p : TPost} (h : Rdy p) : CapP p := ⟨by have := h.ml; omega, by have := h.sl; omega, fun m hm => ⟨by have := h.took m hm; omega, by have := h.names m hm; omega, by have := h.vals m hm; omega⟩⟩
def suitB (m : TMail) (s : TSub) : Bool := decide (s.Mail = 0) && (eqS s.Name m.Name && (decide (s.Key = m.Key) && !tookB m.Took s.Part s.Inst))
def andM (m : TMail) (s : TSub) : TMail := ⟨m.Id, m.Name, m.Key, m.Vars, m.Until, m.Took ++ [⟨s.Part, s.Inst⟩]⟩
def withM (s : TSub) (n : Int) : TSub := ⟨s.Part, s.Id, s.Inst, s.Name, s.Key, n⟩
def hitOf (m : TMail) (s : TSub) : THit := ⟨s.Part, s.Id, m.Id, m.Vars⟩
theorem post_suits {m : TMail} {s : TSub} (h : m.Took.length ≤ big63) : m_post_suits m s = some (suitB m s) := by
  unfold m_post_suits suitB
  rw [contains_who h]
  by_cases h1 : s.Mail = 0 <;> rcases Bool.eq_false_or_eq_true (eqS s.Name m.Name) with h2 | h2 <;> by_cases h3 : s.Key = m.Key <;> simp [h1, h2, h3, bnd_some]
/-- A message given to all that wait for it. -/
def pubL : TMail → List TSub → TMail × List TSub × List THit
  | m, [] => (m, [], [])
  | m, s :: r => if suitB m s = true then ((pubL (andM m s) r).1, withM s m.Id :: (pubL (andM m s) r).2.1, hitOf m s :: (pubL (andM m s) r).2.2)
    else ((pubL m r).1, s :: (pubL m r).2.1, (pubL m r).2.2)
theorem pubL_id : ∀ (l : List TSub) (m : TMail), (pubL m l).1.Id = m.Id ∧ (pubL m l).1.Name = m.Name ∧ (pubL m l).1.Key = m.Key ∧ (pubL m l).1.Vars = m.Vars ∧ (pubL m l).1.Until = m.Until
  | [], m => ⟨rfl, rfl, rfl, rfl, rfl⟩
  | s :: r, m => by
    unfold pubL
    split
    · exact pubL_id r (andM m s)
    · exact pubL_id r m
theorem nth_mid {α : Type} (a b : List α) (x : α) : nthI (a ++ x :: b) (a.length : Int) = some x := by rw [nthI_nat]; simp
theorem set_mid {α : Type} (a b : List α) (x y : α) : setI (a ++ x :: b) (a.length : Int) y = a ++ y :: b := by simp [setI]
theorem give_v1 {m : TMail} {s : TSub} {a b : List TSub} (h1 : m.Took.length < 549755813888) (h2 : m.Vars.Names.length ≤ 549755813888) (h3 : m.Vars.Vals.length ≤ 549755813888) :
    m_post_give_v1 (a.length : Int) m (a ++ s :: b) = some (hitOf m s, andM m s, a ++ withM s m.Id :: b) := by
  unfold m_post_give_v1
  rw [nth_mid, bnd_some, capB_small (by omega), if_pos rfl, copy_eq h2 h3, bnd_some, set_mid]
  rfl
theorem pub_loop {keep : Int} {q : TPost} : ∀ (r pre : List TSub) (n : Nat) (m : TMail) (hits : List THit), r.length < n → q.Subs.length = pre.length + r.length → q.Subs.length ≤ 4096 → m.Took.length + r.length ≤ 10000 → m.Vars.Names.length ≤ 1000 → m.Vars.Vals.length ≤ 1000 → hits.length + r.length ≤ 4096 →
    m_post_Publish_l1 keep q n (pre.length : Int) (pre ++ r) m.Id m.Name m.Key m.Vars.Names m.Vars.Vals m.Until m.Took hits =
    m_post_Publish_k3 keep q (pre ++ (pubL m r).2.1) (pubL m r).1.Id (pubL m r).1.Name (pubL m r).1.Key (pubL m r).1.Vars.Names (pubL m r).1.Vars.Vals (pubL m r).1.Until (pubL m r).1.Took (hits ++ (pubL m r).2.2)
  | [], pre, n, m, hits, hn, hq, _, _, _, _, _ => by
    obtain ⟨n, rfl⟩ : ∃ n', n = n' + 1 := ⟨n - 1, by simp at hn; omega⟩
    have : ¬ ((pre.length : Int) < ((q.Subs.length : Nat) : Int)) := by simp at hq; omega
    rw [m_post_Publish_l1, m_post_Publish_l1_B, decide_eq_false this]
    simp [pubL]
  | s :: r, pre, n, m, hits, hn, hq, hb, ht, hv, hw, hh => by
    simp only [List.length_cons] at hn hq ht hh
    obtain ⟨n, rfl⟩ : ∃ n', n = n' + 1 := ⟨n - 1, by omega⟩
    have h1 : ((pre.length : Int) < ((q.Subs.length : Nat) : Int)) := by omega
    have e : TMail.mk m.Id m.Name m.Key (TVars.mk m.Vars.Names m.Vars.Vals) m.Until m.Took = m := rfl
    rw [m_post_Publish_l1, m_post_Publish_l1_B, decide_eq_true h1, if_pos rfl, nth_mid, bnd_some, e, post_suits (by unfold big63; omega), bnd_some, give_v1 (by omega) (by omega) (by omega), bnd_some, wrap_succ (by omega)]
    cases hs : suitB m s with
    | true =>
      have el : (a : Nat) → (b : Nat) → a = b → decide (a = b) = true := fun a b h => decide_eq_true h
      rw [if_pos rfl, el _ _ (by simp), if_pos rfl, capB_small (by omega), if_pos rfl]
      have := pub_loop (keep := keep) (q := q) r (pre ++ [withM s m.Id]) n (andM m s) (hits ++ [hitOf m s]) (by omega) (by simp; omega) hb (by simp [andM]; omega) hv hw (by simp; omega)
      simp only [List.length_append, List.length_cons, List.length_nil, List.append_assoc, List.cons_append, List.nil_append] at this
      rw [pubL, if_pos hs]
      exact this
    | false =>
      rw [if_neg (by decide)]
      have := pub_loop (keep := keep) (q := q) r (pre ++ [s]) n m hits (by omega) (by simp; omega) hb (by omega) hv hw (by omega)
      simp only [List.length_append, List.length_cons, List.length_nil, List.append_assoc, List.cons_append, List.nil_append] at this
      rw [pubL, hs, if_neg (by decide)]
      exact this
abbrev zeroP : TPost := ⟨0, [], []⟩
def mayK (now keep : Int) : Bool := inZ now 0 most && inZ keep 0 (most - now)
def pubP (p : TPost) (name : ByteArray) (k : Int) (v : TVars) (now keep : Int) : TPost × Int × List THit × Int :=
  if nameB name = true then
    if mayK now keep = true then
      if vchk v ≠ 0 then (zeroP, 0, [], vchk v)
      else if most ≤ p.Next ∨ (0 < keep ∧ 4096 ≤ p.Mails.length) then (zeroP, 0, [], 14)
      else (⟨p.Next + 1, if 0 < keep then p.Mails ++ [(pubL ⟨p.Next, name, k, v, now + keep, []⟩ p.Subs).1] else p.Mails, (pubL ⟨p.Next, name, k, v, now + keep, []⟩ p.Subs).2.1⟩, p.Next, (pubL ⟨p.Next, name, k, v, now + keep, []⟩ p.Subs).2.2, 0)
    else (zeroP, 0, [], 2)
  else (zeroP, 0, [], 1)
theorem wrap_most {now : Int} (h0 : 0 ≤ now) (h1 : now ≤ 1099511627776) : IntKind.i64.wrap ((1099511627776 : Int) - now) = 1099511627776 - now := wrap_in (by unfold inR; omega)
section
variable {p : TPost} {name : ByteArray} {k : Int} {v : TVars} {now keep : Int}
theorem post_pub_k1 (hp : OkP p) (hr : Rdy p) (hv : OkV v) (hl : v.Names.length ≤ 1000) (hl' : v.Vals.length ≤ 1000) (h1 : 0 ≤ now) (h2 : now ≤ most) (h3 : 0 ≤ keep) (h4 : keep ≤ most - now) (hnx : 0 ≤ p.Next) :
    m_post_Publish_k1 p name k v now keep false = some (if vchk v ≠ 0 then (zeroP, 0, [], vchk v)
      else if most ≤ p.Next ∨ (0 < keep ∧ 4096 ≤ p.Mails.length) then (zeroP, 0, [], 14)
      else (⟨p.Next + 1, if 0 < keep then p.Mails ++ [(pubL ⟨p.Next, name, k, v, now + keep, []⟩ p.Subs).1] else p.Mails, (pubL ⟨p.Next, name, k, v, now + keep, []⟩ p.Subs).2.1⟩, p.Next, (pubL ⟨p.Next, name, k, v, now + keep, []⟩ p.Subs).2.2, 0)) := by
  unfold most at *
  unfold m_post_Publish_k1
  rw [if_neg (by decide), vars_Check hv, bnd_some]
  by_cases hc : vchk v = 0
  · have hc' : ¬ (vchk v ≠ 0) := by simpa using hc
    rw [decide_eq_false hc', if_neg (by decide), if_neg hc']
    have hm := hr.ml
    have hk2 : ¬ (1099511627776 ≤ p.Next ∨ (0 < keep ∧ 4096 ≤ p.Mails.length)) → m_post_Publish_k2 p name k v now keep false = some (⟨p.Next + 1, if 0 < keep then p.Mails ++ [(pubL ⟨p.Next, name, k, v, now + keep, []⟩ p.Subs).1] else p.Mails, (pubL ⟨p.Next, name, k, v, now + keep, []⟩ p.Subs).2.1⟩, p.Next, (pubL ⟨p.Next, name, k, v, now + keep, []⟩ p.Subs).2.2, 0) := by
      intro hf
      unfold m_post_Publish_k2
      rw [if_neg (by decide), post_Copy hr.cap, bnd_some, copy_eq (by omega) (by omega), bnd_some, wrap_in (n := now + keep) (by unfold inR; omega)]
      have := pub_loop (keep := keep) (q := p) p.Subs [] (((((p.Subs.length : Nat) : Int)) - ((0 : Int))).toNat + 1) ⟨p.Next, name, k, v, now + keep, []⟩ [] (by omega) (by simp) hr.sl (by have := hr.sl; simp; omega) hl hl' (by have := hr.sl; simpa using this)
      simp only [List.length_nil, List.nil_append] at this
      rw [show (((0 : Nat) : Int)) = 0 from rfl] at this
      rw [this]
      obtain ⟨i1, i2, i3, i4, i5⟩ := pubL_id p.Subs ⟨p.Next, name, k, v, now + keep, []⟩
      unfold m_post_Publish_k3 m_post_Publish_k4
      rw [wrap_in (n := p.Next + 1) (by unfold inR; omega)]
      by_cases hk : 0 < keep
      · rw [decide_eq_true hk, if_pos rfl, capB_small (by omega), if_pos rfl, if_pos hk, i1]
        congr 3
        generalize (pubL ⟨p.Next, name, k, v, now + keep, []⟩ p.Subs).1 = x at *
        cases x
        simp only at i1
        subst i1
        rfl
      · rw [decide_eq_false hk, if_neg (by decide), if_neg hk, i1]
    by_cases g1 : 1099511627776 ≤ p.Next
    · rw [decide_eq_true g1, if_pos rfl, if_pos (.inl g1)]
      rfl
    · rw [decide_eq_false g1, if_neg (by decide)]
      by_cases g2 : 0 < keep
      · rw [decide_eq_true g2, if_pos rfl]
        by_cases g3 : 4096 ≤ p.Mails.length
        · have : (4096 : Int) ≤ (p.Mails.length : Int) := by omega
          rw [decide_eq_true this, if_pos (.inr ⟨g2, g3⟩)]
          rfl
        · have : ¬ (4096 : Int) ≤ (p.Mails.length : Int) := by omega
          have hf : ¬ (1099511627776 ≤ p.Next ∨ (0 < keep ∧ 4096 ≤ p.Mails.length)) := by omega
          rw [decide_eq_false this, hk2 hf, if_neg hf]
      · have hf : ¬ (1099511627776 ≤ p.Next ∨ (0 < keep ∧ 4096 ≤ p.Mails.length)) := by omega
        rw [decide_eq_false g2, if_neg (by decide), hk2 hf, if_neg hf]
  · rw [decide_eq_true hc, if_pos rfl, if_pos hc]
    rfl
theorem post_Publish (hp : OkP p) (hr : Rdy p) (hv : OkV v) (hl : v.Names.length ≤ 1000) (hl' : v.Vals.length ≤ 1000) (hn : name.size ≤ big63) (hnx : 0 ≤ p.Next) :
    m_post_Publish p name k v now keep = some (pubP p name k v now keep) := by
  unfold m_post_Publish pubP
  rw [pack_name hn, bnd_some]
  cases nameB name with
  | false => rfl
  | true =>
    rw [if_pos rfl, if_pos rfl]
    have ht : m_post_Publish_k1 p name k v now keep true = some (zeroP, 0, [], 2) := rfl
    by_cases h1 : now < 0
    · have : mayK now keep = false := by rw [Bool.eq_false_iff]; intro h; simp only [mayK, Bool.and_eq_true, inZ_iff] at h; omega
      rw [decide_eq_true h1, if_pos rfl, ht, this, if_neg (by decide)]
    · rw [decide_eq_false h1, if_neg (by decide)]
      by_cases h2 : 1099511627776 < now
      · have : mayK now keep = false := by rw [Bool.eq_false_iff]; intro h; simp only [mayK, Bool.and_eq_true, inZ_iff] at h; unfold most at h; omega
        rw [decide_eq_true h2, if_pos rfl, ht, this, if_neg (by decide)]
      · rw [decide_eq_false h2, if_neg (by decide)]
        by_cases h3 : keep < 0
        · have : mayK now keep = false := by rw [Bool.eq_false_iff]; intro h; simp only [mayK, Bool.and_eq_true, inZ_iff] at h; omega
          rw [decide_eq_true h3, if_pos rfl, ht, this, if_neg (by decide)]
        · rw [decide_eq_false h3, if_neg (by decide), wrap_most (by omega) (by omega)]
          by_cases h4 : 1099511627776 - now < keep
          · have : mayK now keep = false := by rw [Bool.eq_false_iff]; intro h; simp only [mayK, Bool.and_eq_true, inZ_iff] at h; unfold most at h; omega
            rw [decide_eq_true h4, ht, this, if_neg (by decide)]
          · have : mayK now keep = true := by simp only [mayK, Bool.and_eq_true, inZ_iff]; unfold most; omega
            rw [decide_eq_false h4, this, if_pos rfl, post_pub_k1 hp hr hv hl hl' (by omega) (by unfold most; omega) (by omega) (by unfold most; omega) hnx]
end
end Go.Proofs.Ytefjblgmnoheiaa.R

/- Plain laws: where a subscription stands. -/
set_option maxRecDepth 100000
set_option linter.unusedVariables false
set_option linter.unusedSimpArgs false
noncomputable section
namespace Go.Proofs.Ytefjblgmnoheiaa.R
open Go
/-- Ahead of a key. -/
def aheadK (a b : Int) (s : TSub) : Bool := decide (s.Part < a) || (decide (s.Part = a) && decide (s.Id < b))
def atB (a b : Int) (s : TSub) : Bool := decide (s.Part = a) && decide (s.Id = b)
theorem atB_iff {a b : Int} {s : TSub} : atB a b s = true ↔ s.Part = a ∧ s.Id = b := by simp [atB]
theorem aheadK_iff {a b : Int} {s : TSub} : aheadK a b s = true ↔ s.Part < a ∨ (s.Part = a ∧ s.Id < b) := by simp [aheadK]
theorem aheadB_iff {s t : TSub} : aheadB s t = true ↔ s.Part < t.Part ∨ (s.Part = t.Part ∧ s.Id < t.Id) := by simp [aheadB]
/-- Rising. -/
def Rises (l : List TSub) : Prop := l.Pairwise fun s t => aheadB s t = true
theorem ahead_trans {s t u : TSub} (h : aheadB s t = true) (h' : aheadB t u = true) : aheadB s u = true := by
  rw [aheadB_iff] at *
  omega
/-! ### Binary search -/
theorem find_order (s : TSub) (k : Tkey) : ∃ r, m_post_find_1 s k = some r ∧ decide (r < 0) = aheadK k.f_part k.f_id s ∧ decide (r = 0) = atB k.f_part k.f_id s := by
  unfold m_post_find_1 m_post_of
  refine ⟨_, by rw [bnd_some, order_eq, bnd_some], ?_, ?_⟩
  · unfold aheadK
    by_cases h1 : s.Part = k.f_part <;> by_cases h2 : s.Id = k.f_id <;> by_cases h3 : s.Part < k.f_part <;> by_cases h4 : s.Id < k.f_id <;> simp [h1, h2, h3, h4] <;> omega
  · unfold atB
    by_cases h1 : s.Part = k.f_part <;> by_cases h2 : s.Id = k.f_id <;> by_cases h3 : s.Part < k.f_part <;> by_cases h4 : s.Id < k.f_id <;> simp [h1, h2, h3, h4] <;> omega
theorem half_eq {i j : Nat} (h : i + j ≤ 10000) : IntKind.i64.wrap (shrI .u64 (IntKind.u64.wrap (IntKind.i64.wrap ((i : Int) + (j : Int)))) (1 : Int)) = (((i + j) / 2 : Nat) : Int) := by
  rw [wrap_in (n := (i : Int) + j) (by unfold inR; omega), u64_in (by omega) (by omega)]
  have : shrI .u64 ((i : Int) + (j : Int)) 1 = (((i + j) / 2 : Nat) : Int) := by
    have e : min (1 : Int).toNat IntKind.u64.bits = 1 := by decide
    unfold shrI
    rw [e, Int.fdiv_eq_ediv_of_nonneg _ (by decide)]
    omega
  rw [this, wrap_in (by unfold inR; omega)]
/-- How many stand ahead of a key. -/
def lowK (a b : Int) : List TSub → Nat
  | [] => 0
  | s :: r => if aheadK a b s = true then lowK a b r + 1 else 0
theorem lowK_le (a b : Int) : ∀ l : List TSub, lowK a b l ≤ l.length
  | [] => Nat.le_refl _
  | s :: r => by
    have := lowK_le a b r
    unfold lowK
    split <;> simp <;> omega
theorem ahead_K {s t : TSub} {a b : Int} (h : aheadB s t = true) (h' : aheadK a b t = true) : aheadK a b s = true := by
  rw [aheadB_iff] at h
  rw [aheadK_iff] at *
  omega
theorem lowK_get {a b : Int} : ∀ {l : List TSub}, Rises l → ∀ (i : Nat) (h : i < l.length), aheadK a b l[i] = decide (i < lowK a b l)
  | s :: r, hr, i, h => by
    have hr' := List.pairwise_cons.1 hr
    unfold lowK
    cases i with
    | zero =>
      by_cases hs : aheadK a b s = true
      · simp [hs]
      · simp [hs]
    | succ i =>
      have hi : i < r.length := by simpa using h
      have ih := lowK_get (a := a) (b := b) hr'.2 i hi
      by_cases hs : aheadK a b s = true
      · simp [hs, ih]
      · have h1 := hr'.1 r[i] (List.getElem_mem hi)
        have h2 : aheadK a b r[i] = false := by
          cases h3 : aheadK a b r[i] with
          | false => rfl
          | true => exact absurd (ahead_K h1 h3) hs
        simp [hs, h2]
theorem search_loop {l : List TSub} {k : Tkey} (hl : l.length ≤ 4096) (hr : Rises l) : ∀ (d i j n : Nat), j - i ≤ d → d < n → i ≤ lowK k.f_part k.f_id l → lowK k.f_part k.f_id l ≤ j → j ≤ l.length →
    m_slices_BinarySearchFunc_api_Sub_api_Sub_post_key_l1 l k n (i : Int) (j : Int) = m_slices_BinarySearchFunc_api_Sub_api_Sub_post_key_k1 l k ((lowK k.f_part k.f_id l : Nat) : Int) := by
  intro d
  induction d with
  | zero =>
    intro i j n h1 h2 h3 h4 h5
    obtain ⟨n, rfl⟩ : ∃ n', n = n' + 1 := ⟨n - 1, by omega⟩
    have h6 : ¬ ((i : Int) < (j : Int)) := by omega
    have h7 : i = lowK k.f_part k.f_id l := by omega
    rw [m_slices_BinarySearchFunc_api_Sub_api_Sub_post_key_l1, m_slices_BinarySearchFunc_api_Sub_api_Sub_post_key_l1_B, decide_eq_false h6, if_neg (by decide), ← h7]
  | succ d ih =>
    intro i j n h1 h2 h3 h4 h5
    obtain ⟨n, rfl⟩ : ∃ n', n = n' + 1 := ⟨n - 1, by omega⟩
    rw [m_slices_BinarySearchFunc_api_Sub_api_Sub_post_key_l1, m_slices_BinarySearchFunc_api_Sub_api_Sub_post_key_l1_B]
    by_cases h6 : i < j
    · have h6' : ((i : Int) < (j : Int)) := by omega
      have hm : (i + j) / 2 < l.length := by omega
      obtain ⟨r, g1, g2, g3⟩ := find_order l[(i + j) / 2] k
      rw [lowK_get hr _ hm] at g2
      rw [decide_eq_true h6', if_pos rfl, half_eq (by omega), nthI_lt hm, bnd_some, g1, bnd_some, g2, wrap_succ (by omega)]
      by_cases hc : (i + j) / 2 < lowK k.f_part k.f_id l
      · rw [decide_eq_true hc, if_pos rfl]
        exact ih _ _ _ (by omega) (by omega) (by omega) h4 h5
      · rw [decide_eq_false hc, if_neg (by decide)]
        exact ih _ _ _ (by omega) (by omega) h3 (by omega) (by omega)
    · have h6' : ¬ ((i : Int) < (j : Int)) := by omega
      have h7 : i = lowK k.f_part k.f_id l := by omega
      rw [decide_eq_false h6', if_neg (by decide), ← h7]
/-- There is such a one. -/
def hasK (a b : Int) (l : List TSub) : Bool := l.any (atB a b)
theorem low_at {a b : Int} : ∀ {l : List TSub}, Rises l → (hasK a b l = true ↔ ∃ h : lowK a b l < l.length, atB a b l[lowK a b l] = true)
  | [], _ => by simp [hasK]
  | s :: r, hr => by
    have hr' := List.pairwise_cons.1 hr
    have ih := low_at (a := a) (b := b) hr'.2
    unfold hasK at ih ⊢
    rw [List.any_cons, Bool.or_eq_true]
    by_cases hs : aheadK a b s = true
    · have e : lowK a b (s :: r) = lowK a b r + 1 := by rw [lowK, if_pos hs]
      have e0 : ¬ atB a b s = true := by rw [atB_iff]; rw [aheadK_iff] at hs; omega
      simp only [e, List.length_cons, List.getElem_cons_succ]
      constructor
      · rintro (h | h)
        · exact absurd h e0
        · obtain ⟨h1, h2⟩ := ih.1 h
          exact ⟨by omega, h2⟩
      · rintro ⟨h1, h2⟩
        exact .inr (ih.2 ⟨by omega, h2⟩)
    · have e : lowK a b (s :: r) = 0 := by rw [lowK, if_neg hs]
      simp only [e, List.length_cons, List.getElem_cons_zero]
      constructor
      · rintro (h | h)
        · exact ⟨by omega, h⟩
        · obtain ⟨x, hx, h⟩ := List.any_eq_true.1 h
          have h1 := hr'.1 x hx
          rw [atB_iff] at h
          rw [aheadB_iff] at h1
          rw [aheadK_iff] at hs
          omega
      · rintro ⟨_, h⟩
        exact .inl h
theorem post_find {p : TPost} {a b : Int} (hl : p.Subs.length ≤ 4096) (hr : Rises p.Subs) : m_post_find p ⟨a, b⟩ = some (((lowK a b p.Subs : Nat) : Int), hasK a b p.Subs) := by
  unfold m_post_find m_slices_BinarySearchFunc_api_Sub_api_Sub_post_key
  have h := search_loop (k := ⟨a, b⟩) hl hr p.Subs.length 0 p.Subs.length 1000000 (by omega) (by omega) (Nat.zero_le _) (lowK_le _ _ _) (Nat.le_refl _)
  simp only at h
  rw [show (((0 : Nat) : Int)) = 0 from rfl] at h
  rw [h]
  unfold m_slices_BinarySearchFunc_api_Sub_api_Sub_post_key_k1
  have hq := low_at (a := a) (b := b) hr
  by_cases hc : lowK a b p.Subs < p.Subs.length
  · obtain ⟨r, g1, g2, g3⟩ := find_order p.Subs[lowK a b p.Subs] ⟨a, b⟩
    rw [decide_eq_true (lt_k hc), if_pos rfl, nthI_lt hc, bnd_some, g1, bnd_some, g3, bnd_some]
    congr 2
    rw [Bool.eq_iff_iff, hq]
    simp only
    exact ⟨fun h => ⟨hc, h⟩, fun h => h.2⟩
  · have : ¬ ((lowK a b p.Subs : Nat) : Int) < (p.Subs.length : Int) := by omega
    rw [decide_eq_false this, if_neg (by decide), bnd_some]
    congr 2
    symm
    rw [Bool.eq_false_iff, ne_eq, hq]
    exact fun h => hc h.1
theorem ref_Find {p : TPost} {a b : Int} (hl : p.Subs.length ≤ 4096) (hr : Rises p.Subs) : m_ref22_Find p a b = some (if hasK a b p.Subs = true then ((lowK a b p.Subs : Nat) : Int) else -1) := by
  unfold m_ref22_Find
  have hq := low_at (a := a) (b := b) hr
  have hle := lowK_le a b p.Subs
  have step : ∀ n (k : Nat) (hk : k < p.Subs.length), m_ref22_Find_l1 p a b (n + 1) (k : Int) = if atB a b p.Subs[k] = true then some (k : Int) else m_ref22_Find_l1 p a b n (IntKind.i64.wrap ((k : Int) + 1)) := by
    intro n k hk
    rw [m_ref22_Find_l1, m_ref22_Find_l1_B, decide_eq_true (lt_k hk), if_pos rfl, nthI_lt hk, bnd_some]
    unfold atB m_ref22_Find_k1
    by_cases h1 : p.Subs[k].Part = a <;> by_cases h2 : p.Subs[k].Id = b <;> simp [h1, h2]
  have nat_ : ∀ (k : Nat) (hk : k < p.Subs.length), k ≠ lowK a b p.Subs → ¬ atB a b p.Subs[k] = true := by
    intro k hk hne h
    rw [atB_iff] at h
    have h1 : hasK a b p.Subs = true := List.any_eq_true.2 ⟨_, List.getElem_mem hk, by rw [atB_iff]; exact h⟩
    obtain ⟨h2, h3⟩ := hq.1 h1
    rw [atB_iff] at h3
    rcases Nat.lt_or_gt_of_ne hne with h4 | h4
    · have := List.pairwise_iff_getElem.1 hr k _ hk h2 h4
      rw [aheadB_iff] at this
      omega
    · have := List.pairwise_iff_getElem.1 hr _ k h2 hk h4
      rw [aheadB_iff] at this
      omega
  have h0 : (fun (k : Nat) (o : Option Int) => (∀ (j : Nat) (hj : j < p.Subs.length), j < k → ¬ atB a b p.Subs[j] = true) → o = some (if hasK a b p.Subs = true then ((lowK a b p.Subs : Nat) : Int) else -1)) 0 (m_ref22_Find_l1 p a b ((((p.Subs.length : Int)) - ((0 : Int))).toNat + 1) (0 : Int)) := by
    refine loop0 (len := p.Subs.length) (R := fun (k : Nat) (o : Option Int) => (∀ (j : Nat) (hj : j < p.Subs.length), j < k → ¬ atB a b p.Subs[j] = true) → o = some (if hasK a b p.Subs = true then ((lowK a b p.Subs : Nat) : Int) else -1)) (f := m_ref22_Find_l1 p a b) (by omega) (fun n h => ?_) (fun n k hk hw ih h => ?_)
    · have : ¬ hasK a b p.Subs = true := by rw [hq]; rintro ⟨h1, h2⟩; exact h _ h1 h1 h2
      rw [m_ref22_Find_l1, m_ref22_Find_l1_B, decide_eq_false nlt_k, if_neg (by decide), if_neg this]
    · rw [step n k hk]
      by_cases ha : atB a b p.Subs[k] = true
      · have : hasK a b p.Subs = true := List.any_eq_true.2 ⟨_, List.getElem_mem hk, ha⟩
        have he : k = lowK a b p.Subs := by
          rcases Nat.decEq k (lowK a b p.Subs) with hne | he
          · exact absurd ha (nat_ k hk hne)
          · exact he
        rw [if_pos ha, if_pos this, he]
      · rw [if_neg ha, hw]
        refine ih fun j hj h1 => ?_
        by_cases hjk : j = k
        · subst hjk; exact ha
        · exact h j hj (by omega)
  exact h0 fun j _ h => absurd h (Nat.not_lt_zero _)
end Go.Proofs.Ytefjblgmnoheiaa.R

/- Plain laws: a subscription opened, closed. -/
set_option maxRecDepth 100000
set_option linter.unusedVariables false
set_option linter.unusedSimpArgs false
noncomputable section
namespace Go.Proofs.Ytefjblgmnoheiaa.R
open Go
/-- A subscription is given the eldest message that it waits for. -/
def openL (s : TSub) : List TMail → List TMail × Int × List THit
  | [] => ([], s.Mail, [])
  | m :: r => if suitB m s = true then (andM m s :: r, m.Id, [hitOf m s]) else (m :: (openL s r).1, (openL s r).2.1, (openL s r).2.2)
def insS (x : TSub) : List TSub → List TSub
  | [] => [x]
  | y :: r => if aheadB x y = true then x :: y :: r else y :: insS x r
def openP (p : TPost) (s : TSub) : TPost × List THit × Int :=
  if (subB s && decide (s.Mail = 0)) = true then
    if hasK s.Part s.Id p.Subs = true then (zeroP, [], 10)
    else if 4096 ≤ p.Subs.length then (zeroP, [], 14)
    else (⟨p.Next, (openL s p.Mails).1, insS (withM s (openL s p.Mails).2.1) p.Subs⟩, (openL s p.Mails).2.2, 0)
  else (zeroP, [], 1)
theorem ins_low {x : TSub} : ∀ {l : List TSub}, hasK x.Part x.Id l = false → insI l ((lowK x.Part x.Id l : Nat) : Int) x = insS x l
  | [], _ => rfl
  | y :: r, h => by
    unfold hasK at h
    rw [List.any_cons, Bool.or_eq_false_iff] at h
    have ih := ins_low (x := x) (l := r) h.2
    have h1 : ¬ (y.Part = x.Part ∧ y.Id = x.Id) := by rw [← atB_iff, h.1]; decide
    unfold insI at *
    rw [Int.toNat_natCast] at *
    unfold insS
    by_cases hs : aheadK x.Part x.Id y = true
    · have h2 : ¬ aheadB x y = true := by rw [aheadB_iff]; rw [aheadK_iff] at hs; omega
      rw [lowK, if_pos hs, if_neg h2, ← ih]
      rfl
    · have h2 : aheadB x y = true := by rw [aheadB_iff]; rw [aheadK_iff] at hs; omega
      rw [lowK, if_neg hs, if_pos h2]
      rfl
theorem give_v2 {s : TSub} {m : TMail} {a b : List TMail} (h1 : m.Took.length < 549755813888) (h2 : m.Vars.Names.length ≤ 549755813888) (h3 : m.Vars.Vals.length ≤ 549755813888) :
    m_post_give_v2 (a.length : Int) s (a ++ m :: b) = some (hitOf m s, withM s m.Id, a ++ andM m s :: b) := by
  unfold m_post_give_v2
  rw [nth_mid, bnd_some, capB_small (by omega), if_pos rfl, copy_eq h2 h3, bnd_some, set_mid]
  rfl
theorem open_go {s : TSub} {q : Int × Bool} {p : TPost} : ∀ (r pre : List TMail) (n : Nat), p.Mails = pre ++ r → r.length < n → p.Mails.length ≤ 4096 → (∀ m ∈ r, m.Took.length ≤ 10000 ∧ m.Vars.Names.length ≤ 1000 ∧ m.Vars.Vals.length ≤ 1000) →
    m_post_Open_l1 s q p n (pre.length : Int) = m_post_Open_k2 q p s.Part s.Id s.Inst s.Name s.Key (openL s r).2.1 (pre ++ (openL s r).1) (openL s r).2.2
  | [], pre, n, hq, hn, hb, _ => by
    obtain ⟨n, rfl⟩ : ∃ n', n = n' + 1 := ⟨n - 1, by simp at hn; omega⟩
    have : ¬ ((pre.length : Int) < ((p.Mails.length : Nat) : Int)) := by rw [hq]; simp
    rw [m_post_Open_l1, m_post_Open_l1_B, decide_eq_false this, if_neg Bool.false_ne_true, hq]
    simp [openL]
  | m :: r, pre, n, hq, hn, hb, hm => by
    have hq' := congrArg List.length hq
    simp only [List.length_cons, List.length_append] at hn hq'
    obtain ⟨n, rfl⟩ : ∃ n', n = n' + 1 := ⟨n - 1, by omega⟩
    have h1 : ((pre.length : Int) < ((p.Mails.length : Nat) : Int)) := by omega
    obtain ⟨t1, t2, t3⟩ := hm m (by simp)
    have hn' : nthI p.Mails (pre.length : Int) = some m := by rw [hq, nth_mid]
    have hg : m_post_give_v2 (pre.length : Int) s p.Mails = some (hitOf m s, withM s m.Id, pre ++ andM m s :: r) := by rw [hq]; exact give_v2 (by omega) (by omega) (by omega)
    rw [m_post_Open_l1, m_post_Open_l1_B, decide_eq_true h1, if_pos rfl, hn', bnd_some, post_suits (by unfold big63; omega), bnd_some, hg, bnd_some, wrap_succ (by omega)]
    rw [openL]
    cases hs : suitB m s with
    | true =>
      have el : (a : Nat) → (b : Nat) → a = b → decide (a = b) = true := fun a b h => decide_eq_true h
      rw [if_pos rfl, if_pos rfl, el _ _ (by rw [hq]; simp), if_pos rfl]
      rfl
    | false =>
      rw [if_neg Bool.false_ne_true, if_neg Bool.false_ne_true]
      have := open_go (s := s) (q := q) (p := p) r (pre ++ [m]) n (by rw [hq]; simp) (by omega) hb (fun m' h => hm m' (by simp [h]))
      simp only [List.length_append, List.length_cons, List.length_nil, List.append_assoc, List.cons_append, List.nil_append] at this
      exact this
theorem post_Open {p : TPost} {s : TSub} (hr : Rdy p) (hs : OkS s) (hR : Rises p.Subs) : m_post_Open p s = some (openP p s) := by
  unfold m_post_Open openP
  rw [post_sub hs, bnd_some]
  cases subB s with
  | false => rfl
  | true =>
    rw [if_pos rfl, Bool.true_and]
    unfold m_post_Open_k1
    by_cases h0 : s.Mail = 0
    · have h0' : ¬ (s.Mail ≠ 0) := by simpa using h0
      have hl := hr.sl
      rw [decide_eq_false h0', if_neg Bool.false_ne_true, decide_eq_true h0, if_pos rfl]
      unfold m_post_of
      rw [bnd_some, post_find hr.sl hR, bnd_some]
      cases hh : hasK s.Part s.Id p.Subs with
      | true => rfl
      | false =>
        simp only [Bool.false_ne_true, if_false]
        by_cases hf : 4096 ≤ p.Subs.length
        · have : (4096 : Int) ≤ (p.Subs.length : Int) := by omega
          rw [decide_eq_true this, if_pos rfl, if_pos hf]
          rfl
        · have : ¬ (4096 : Int) ≤ (p.Subs.length : Int) := by omega
          rw [decide_eq_false this, if_neg Bool.false_ne_true, if_neg hf, post_Copy hr.cap, bnd_some]
          have := open_go (s := s) (q := (((lowK s.Part s.Id p.Subs : Nat) : Int), false)) (p := p) p.Mails [] (((((p.Mails.length : Nat) : Int)) - ((0 : Int))).toNat + 1) rfl (by omega) hr.ml (fun m h => ⟨hr.took m h, hr.names m h, hr.vals m h⟩)
          simp only [List.length_nil, List.nil_append] at this
          rw [show (((0 : Nat) : Int)) = 0 from rfl] at this
          rw [this]
          unfold m_post_Open_k2
          have g1 : (0 : Int) ≤ ((lowK s.Part s.Id p.Subs : Nat) : Int) := by omega
          have g2 : ((lowK s.Part s.Id p.Subs : Nat) : Int) ≤ (p.Subs.length : Int) := by have := lowK_le s.Part s.Id p.Subs; omega
          simp only [decide_eq_true g1, decide_eq_true g2, capB_small (show p.Subs.length + 1 ≤ 549755813888 by omega), if_true]
          have := ins_low (x := withM s (openL s p.Mails).2.1) (l := p.Subs) hh
          rw [← this]
          rfl
    · rw [decide_eq_true h0, if_pos rfl, decide_eq_false h0, if_neg Bool.false_ne_true]
/-! ### Close -/
def closeP (p : TPost) (a b : Int) : TPost × Int :=
  if hasK a b p.Subs = true then (⟨p.Next, p.Mails, p.Subs.take (lowK a b p.Subs) ++ p.Subs.drop (lowK a b p.Subs + 1)⟩, 0) else (zeroP, 9)
theorem post_Close {p : TPost} {a b : Int} (hr : Rdy p) (hR : Rises p.Subs) : m_post_Close p a b = some (closeP p a b) := by
  unfold m_post_Close closeP
  rw [post_find hr.sl hR, bnd_some]
  cases hh : hasK a b p.Subs with
  | false => rfl
  | true =>
    obtain ⟨h1, _⟩ := (low_at hR).1 hh
    have hl := hr.sl
    rw [if_pos rfl, if_pos rfl, post_Copy hr.cap, bnd_some]
    simp only
    have g1 : (0 : Int) ≤ ((lowK a b p.Subs : Nat) : Int) := by omega
    have g2 : ((lowK a b p.Subs : Nat) : Int) < ((lowK a b p.Subs + 1 : Nat) : Int) := by omega
    have g3 : ((lowK a b p.Subs + 1 : Nat) : Int) ≤ (p.Subs.length : Int) := by omega
    rw [wrap_succ (by omega), decide_eq_true g1, if_pos rfl, decide_eq_true g2, if_pos rfl, decide_eq_true g3, if_pos rfl, capB_small (by omega), if_pos rfl]
    rfl
end Go.Proofs.Ytefjblgmnoheiaa.R

/- Plain law of PostDoes: what is over; results compared. -/
set_option maxRecDepth 100000
set_option linter.unusedVariables false
set_option linter.unusedSimpArgs false
noncomputable section
namespace Go.Proofs.Ytefjblgmnoheiaa.R
open Go
def keptB (now : Int) (m : TMail) : Bool := decide (now < m.Until)
def expP (p : TPost) (now : Int) : TPost := ⟨p.Next, p.Mails.filter (keptB now), p.Subs⟩
theorem exp_1 (m : TMail) (now : Int) : m_post_Expire_1 m now = some (!keptB now m) := by
  unfold m_post_Expire_1 keptB
  congr 1
  by_cases h : m.Until ≤ now
  · have : ¬ now < m.Until := by omega
    simp [h, this]
  · have : now < m.Until := by omega
    simp [h, this]
theorem index_fn {s : List TMail} {now : Int} (hl : s.length ≤ 4096) : ∃ r, m_slices_IndexFunc_api_Mail_api_Mail s now = some r ∧ ((r = -1 ∧ s.filter (keptB now) = s) ∨ ∃ (a : List TMail) (m : TMail) (b : List TMail), s = a ++ m :: b ∧ r = (a.length : Int) ∧ a.filter (keptB now) = a ∧ keptB now m = false) := by
  unfold m_slices_IndexFunc_api_Mail_api_Mail
  suffices h : ∃ r, m_slices_IndexFunc_api_Mail_api_Mail_l1 s now (((((s.length : Nat) : Int)) - ((0 : Int))).toNat + 1) (0 : Int) = some r ∧ ((r = -1 ∧ (s.drop 0).filter (keptB now) = s.drop 0) ∨ ∃ (a : List TMail) (m : TMail) (b : List TMail), s.drop 0 = a ++ m :: b ∧ r = ((0 + a.length : Nat) : Int) ∧ a.filter (keptB now) = a ∧ keptB now m = false) by
    simpa using h
  refine loop0 (R := fun k o => ∃ r, o = some r ∧ ((r = -1 ∧ (s.drop k).filter (keptB now) = s.drop k) ∨ ∃ (a : List TMail) (m : TMail) (b : List TMail), s.drop k = a ++ m :: b ∧ r = ((k + a.length : Nat) : Int) ∧ a.filter (keptB now) = a ∧ keptB now m = false)) (f := m_slices_IndexFunc_api_Mail_api_Mail_l1 s now) (by omega) (fun n => ?_) (fun n k hk hw ih => ?_)
  · rw [m_slices_IndexFunc_api_Mail_api_Mail_l1, m_slices_IndexFunc_api_Mail_api_Mail_l1_B, decide_eq_false nlt_k, List.drop_eq_nil_of_le (Nat.le_refl _)]
    exact ⟨-1, rfl, .inl ⟨rfl, rfl⟩⟩
  · rw [m_slices_IndexFunc_api_Mail_api_Mail_l1, m_slices_IndexFunc_api_Mail_api_Mail_l1_B, decide_eq_true (lt_k hk), if_pos rfl, nthI_lt hk, bnd_some, exp_1, bnd_some, List.drop_eq_getElem_cons hk, hw]
    cases hc : keptB now s[k] with
    | false => exact ⟨k, rfl, .inr ⟨[], s[k], s.drop (k + 1), rfl, by simp, rfl, hc⟩⟩
    | true =>
      obtain ⟨r, g1, g2⟩ := ih
      refine ⟨r, g1, ?_⟩
      rcases g2 with ⟨g2, g3⟩ | ⟨a, m, b, g2, g3, g4, g5⟩
      · exact .inl ⟨g2, by rw [List.filter_cons_of_pos hc, g3]⟩
      · exact .inr ⟨s[k] :: a, m, b, by rw [g2]; rfl, by rw [g3, List.length_cons]; omega, by rw [List.filter_cons_of_pos hc, g4], g5⟩
theorem delf_go {now : Int} : ∀ (c a b : List TMail) (n : Nat), b ≠ [] → c.length < n → a.length + b.length + c.length ≤ 4096 →
    m_slices_DeleteFunc_api_Mail_api_Mail_l1 now n (a.length : Int) ((a.length + b.length : Nat) : Int) (a ++ (b ++ c)) = some (a ++ c.filter (keptB now))
  | [], a, b, n, hb, hn, hl => by
    simp only [List.length_nil] at hn hl
    obtain ⟨n, rfl⟩ : ∃ n', n = n' + 1 := ⟨n - 1, by omega⟩
    have h1 : ¬ (((a.length + b.length : Nat) : Int) < (((a ++ (b ++ [])).length : Nat) : Int)) := by simp
    rw [m_slices_DeleteFunc_api_Mail_api_Mail_l1, m_slices_DeleteFunc_api_Mail_api_Mail_l1_B, decide_eq_false h1, if_neg Bool.false_ne_true]
    unfold m_slices_DeleteFunc_api_Mail_api_Mail_k2
    have h2 : ∃ l, sliceL (a ++ (b ++ [])) (a.length : Int) (((a ++ (b ++ [])).length : Nat) : Int) = some l := ⟨_, by
      unfold sliceL
      rw [if_pos]
      simp
      omega⟩
    obtain ⟨l, h2⟩ := h2
    rw [h2, bnd_some]
    have h3 : ∀ z : TMail, sliceL (clrI (a ++ (b ++ [])) (a.length : Int).toNat z) 0 (a.length : Int) = some a := fun z => by
      rw [sliceL_take]
      · simp [clrI]
      · simp [clrI]
    rw [h3]
    simp [bnd_some]
  | e :: c, a, b, n, hb, hn, hl => by
    simp only [List.length_cons] at hn hl
    obtain ⟨n, rfl⟩ : ∃ n', n = n' + 1 := ⟨n - 1, by omega⟩
    have h1 : (((a.length + b.length : Nat) : Int) < (((a ++ (b ++ e :: c)).length : Nat) : Int)) := by simp; omega
    have h2 : nthI (a ++ (b ++ e :: c)) ((a.length + b.length : Nat) : Int) = some e := by
      have := nth_mid (a ++ b) c e
      rwa [List.append_assoc, List.length_append] at this
    rw [m_slices_DeleteFunc_api_Mail_api_Mail_l1, m_slices_DeleteFunc_api_Mail_api_Mail_l1_B, decide_eq_true h1, if_pos rfl, h2, bnd_some, exp_1, bnd_some]
    unfold m_slices_DeleteFunc_api_Mail_api_Mail_k1
    rw [wrap_succ (by omega), wrap_succ (by omega)]
    cases hc : keptB now e with
    | false =>
      have ih := delf_go (now := now) c a (b ++ [e]) n (by simp) (by omega) (by simp; omega)
      have e1 : a ++ (b ++ [e] ++ c) = a ++ (b ++ e :: c) := by simp
      have e2 : a.length + (b ++ [e]).length = a.length + b.length + 1 := by simp; omega
      rw [e1, e2] at ih
      rw [List.filter_cons_of_neg (by rw [hc]; decide), Bool.not_false, if_pos rfl]
      exact ih
    | true =>
      obtain ⟨x, b, rfl⟩ : ∃ x b', b = x :: b' := by
        cases b with
        | nil => exact absurd rfl hb
        | cons x b => exact ⟨x, b, rfl⟩
      have ih := delf_go (now := now) c (a ++ [e]) (b ++ [e]) n (by simp) (by omega) (by simp at hl ⊢; omega)
      have e1 : a ++ [e] ++ (b ++ [e] ++ c) = a ++ e :: (b ++ e :: c) := by simp
      have e2 : (a ++ [e]).length + (b ++ [e]).length = a.length + (x :: b).length + 1 := by simp; omega
      have e3 : (a ++ [e]).length = a.length + 1 := by simp
      rw [e1, e2, e3] at ih
      rw [List.filter_cons_of_pos hc, Bool.not_true, if_neg Bool.false_ne_true, List.cons_append, nth_mid, bnd_some, set_mid, ih]
      simp
theorem post_Expire {p : TPost} {now : Int} (hr : Rdy p) : m_post_Expire p now = some (expP p now) := by
  unfold m_post_Expire expP
  rw [post_Copy hr.cap, bnd_some]
  have hm := hr.ml
  have : m_slices_DeleteFunc_api_Mail_api_Mail p.Mails now = some (p.Mails.filter (keptB now)) := by
    unfold m_slices_DeleteFunc_api_Mail_api_Mail
    obtain ⟨r, g1, g2⟩ := index_fn (now := now) hm
    rw [g1, bnd_some]
    rcases g2 with ⟨rfl, g3⟩ | ⟨a, m, b, g2, rfl, g4, g5⟩
    · simp [g3]
    · have h1 : ¬ ((a.length : Int) = -1) := by omega
      have hl := congrArg List.length g2
      simp only [List.length_append, List.length_cons] at hl
      rw [decide_eq_false h1, if_neg Bool.false_ne_true, wrap_succ (by omega), g2]
      have := delf_go (now := now) b a [m] 1000000 (by simp) (by omega) (by simp; omega)
      rw [List.filter_append, g4, List.filter_cons_of_neg (by rw [g5]; decide)]
      exact this
  rw [this, bnd_some]
/-! ### What comes out is in range -/
theorem andM_ok {m : TMail} {s : TSub} (hm : OkM m) (hs : OkS s) (h : m.Took.length ≤ 20000) : OkM (andM m s) :=
  ⟨hm.id, hm.key, hm.til, hm.name, hm.vars, by simp [andM]; unfold big63; omega, fun w hw => by
    simp only [andM, List.mem_append, List.mem_singleton] at hw
    rcases hw with hw | rfl
    · exact hm.tk w hw
    · exact ⟨hs.part, hs.inst⟩⟩
theorem withM_ok {s : TSub} {n : Int} (hs : OkS s) (h : inR n) : OkS (withM s n) := ⟨hs.part, hs.id, hs.inst, hs.key, h, hs.name⟩
theorem pubL_ok : ∀ (l : List TSub) (m : TMail), OkM m → (∀ s ∈ l, OkS s) → m.Took.length + l.length ≤ 20000 → OkM (pubL m l).1 ∧ (∀ s ∈ (pubL m l).2.1, OkS s) ∧ (∀ h ∈ (pubL m l).2.2, OkV h.Vars) ∧ (pubL m l).2.1.length = l.length ∧ (pubL m l).2.2.length ≤ l.length
  | [], m, hm, hs, hl => ⟨hm, by simp [pubL], by simp [pubL], rfl, Nat.le_refl _⟩
  | s :: r, m, hm, hs, hl => by
    simp only [List.length_cons] at hl
    have h1 := hs s (by simp)
    rw [pubL]
    split
    · obtain ⟨g1, g2, g3, g4, g5⟩ := pubL_ok r (andM m s) (andM_ok hm h1 (by omega)) (fun x hx => hs x (by simp [hx])) (by simp [andM]; omega)
      refine ⟨g1, fun x hx => ?_, fun x hx => ?_, by simp [g4], by simp; omega⟩
      · rcases List.mem_cons.1 hx with rfl | hx
        · exact withM_ok h1 hm.id
        · exact g2 x hx
      · rcases List.mem_cons.1 hx with rfl | hx
        · exact hm.vars
        · exact g3 x hx
    · obtain ⟨g1, g2, g3, g4, g5⟩ := pubL_ok r m hm (fun x hx => hs x (by simp [hx])) (by omega)
      refine ⟨g1, fun x hx => ?_, g3, by simp [g4], by simp; omega⟩
      rcases List.mem_cons.1 hx with rfl | hx
      · exact h1
      · exact g2 x hx
theorem zero_ok : OkP zeroP := ⟨by unfold inR; decide, by unfold big63; decide, by unfold big63; decide, by simp, by simp⟩
section
variable {p : TPost} {name : ByteArray} {k : Int} {v : TVars} {now keep : Int}
theorem pubP_ok (hp : OkP p) (hr : Rdy p) (hv : OkV v) (hk : inR k) (hn : name.size ≤ big63) (hnx : 0 ≤ p.Next) : OkP (pubP p name k v now keep).1 ∧ (pubP p name k v now keep).2.2.1.length ≤ 10000 ∧ ∀ h ∈ (pubP p name k v now keep).2.2.1, OkV h.Vars := by
  have hz : OkP zeroP ∧ ([] : List THit).length ≤ 10000 ∧ ∀ h ∈ ([] : List THit), OkV h.Vars := ⟨zero_ok, by simp, by simp⟩
  unfold pubP
  split
  · split
    · split
      · exact hz
      · split
        · exact hz
        · rename_i h1 h2 h3 h4
          simp only [mayK, Bool.and_eq_true, inZ_iff, most] at h2
          unfold most at h4
          have hsl := hr.sl
          have hml := hr.ml
          have hi : inR p.Next := hp.next
          obtain ⟨g1, g2, g3, g4, g5⟩ := pubL_ok p.Subs ⟨p.Next, name, k, v, now + keep, []⟩ ⟨hi, hk, (by show inR (now + keep); unfold inR; omega), hn, hv, by unfold big63; simp, by simp⟩ hp.subs (by simp; omega)
          refine ⟨⟨(by show inR (p.Next + 1); unfold inR; omega), ?_, by rw [g4]; exact hp.sl, fun m hm => ?_, g2⟩, Nat.le_trans g5 (by omega), g3⟩
          · simp only
            split
            · rw [List.length_append, List.length_singleton]; unfold big63; omega
            · exact hp.ml
          · simp only at hm
            split at hm
            · rcases List.mem_append.1 hm with hm | hm
              · exact hp.mails m hm
              · rw [List.mem_singleton] at hm
                subst hm
                exact g1
            · exact hp.mails m hm
    · exact hz
  · exact hz
end
theorem openL_ok {s : TSub} (hs : OkS s) : ∀ l : List TMail, (∀ m ∈ l, OkM m ∧ m.Took.length ≤ 10000) → (∀ m ∈ (openL s l).1, OkM m) ∧ inR (openL s l).2.1 ∧ (∀ h ∈ (openL s l).2.2, OkV h.Vars) ∧ (openL s l).1.length = l.length ∧ (openL s l).2.2.length ≤ 1
  | [], _ => ⟨by simp [openL], hs.mail, by simp [openL], rfl, by simp [openL]⟩
  | m :: r, hm => by
    obtain ⟨h1, h2⟩ := hm m (by simp)
    rw [openL]
    split
    · refine ⟨fun x hx => ?_, h1.id, fun h hh => ?_, by simp, by simp⟩
      · rcases List.mem_cons.1 hx with rfl | hx
        · exact andM_ok h1 hs (by omega)
        · exact (hm x (by simp [hx])).1
      · simp only [List.mem_singleton] at hh
        subst hh
        exact h1.vars
    · obtain ⟨g1, g2, g3, g4, g5⟩ := openL_ok hs r (fun x hx => hm x (by simp [hx]))
      refine ⟨fun x hx => ?_, g2, g3, by simp [g4], g5⟩
      rcases List.mem_cons.1 hx with rfl | hx
      · exact h1
      · exact g1 x hx
theorem insS_mem {x s : TSub} : ∀ {l : List TSub}, s ∈ insS x l → s = x ∨ s ∈ l
  | [], h => by simpa [insS] using h
  | y :: r, h => by
    unfold insS at h
    split at h
    · simpa using h
    · rcases List.mem_cons.1 h with rfl | h
      · simp
      · rcases insS_mem h with h | h
        · exact .inl h
        · exact .inr (by simp [h])
theorem insS_len {x : TSub} : ∀ l : List TSub, (insS x l).length = l.length + 1
  | [] => rfl
  | y :: r => by
    unfold insS
    split
    · simp
    · simp [insS_len r]
theorem openP_ok {p : TPost} {s : TSub} (hp : OkP p) (hr : Rdy p) (hs : OkS s) : OkP (openP p s).1 ∧ (openP p s).2.1.length ≤ 10000 ∧ ∀ h ∈ (openP p s).2.1, OkV h.Vars := by
  have hz : OkP zeroP ∧ ([] : List THit).length ≤ 10000 ∧ ∀ h ∈ ([] : List THit), OkV h.Vars := ⟨zero_ok, by simp, by simp⟩
  unfold openP
  split
  · split
    · exact hz
    · split
      · exact hz
      · have hsl := hr.sl
        obtain ⟨g1, g2, g3, g4, g5⟩ := openL_ok hs p.Mails (fun m hm => ⟨hp.mails m hm, hr.took m hm⟩)
        refine ⟨⟨hp.next, by rw [g4]; exact hp.ml, by rw [insS_len]; unfold big63; omega, g1, fun x hx => ?_⟩, Nat.le_trans g5 (by omega), g3⟩
        rcases insS_mem hx with rfl | hx
        · exact withM_ok hs g2
        · exact hp.subs x hx
  · exact hz
theorem closeP_ok {p : TPost} {a b : Int} (hp : OkP p) (hr : Rdy p) : OkP (closeP p a b).1 := by
  unfold closeP
  split
  · have hsl := hr.sl
    refine ⟨hp.next, hp.ml, by simp; unfold big63; omega, hp.mails, fun x hx => ?_⟩
    rcases List.mem_append.1 hx with hx | hx
    · exact hp.subs x (List.mem_of_mem_take hx)
    · exact hp.subs x (List.mem_of_mem_drop hx)
  · exact zero_ok
theorem expP_ok {p : TPost} {now : Int} (hp : OkP p) : OkP (expP p now) :=
  ⟨hp.next, Nat.le_trans (List.length_filter_le _ _) hp.ml, hp.sl, fun m hm => hp.mails m ((List.mem_filter.1 hm).1), hp.subs⟩
theorem SmallP.rdy {p : TPost} (h : SmallP p) : Rdy p := ⟨by have := h.ml; omega, by have := h.sl; omega, fun m hm => by have := (h.mails m hm).took; omega, fun m hm => by have := (h.mails m hm).names; omega, fun m hm => by have := (h.mails m hm).vals; omega⟩
structure OkO (o : TOp) : Prop where
  kind : inR o.Kind
  name : o.Name.size ≤ big63
  key : inR o.Key
  vars : OkV o.Vars
  now : inR o.Now
  keep : inR o.Keep
  part : inR o.Part
  id : inR o.Id
  inst : inR o.Inst
end Go.Proofs.Ytefjblgmnoheiaa.R

/- Plain law of PostDoes. -/
set_option maxRecDepth 100000
set_option linter.unusedVariables false
set_option linter.unusedSimpArgs false
noncomputable section
namespace Go.Proofs.Ytefjblgmnoheiaa.R
open Go
theorem sub_ok {o : TOp} (h : OkO o) : OkS ⟨o.Part, o.Id, o.Inst, o.Name, o.Key, 0⟩ := ⟨h.part, h.id, h.inst, h.key, (by show inR 0; unfold inR; decide), h.name⟩
end Go.Proofs.Ytefjblgmnoheiaa.R

/- Plain laws: posts that may be, by the program. -/
set_option maxRecDepth 100000
set_option linter.unusedVariables false
set_option linter.unusedSimpArgs false
noncomputable section
namespace Go.Proofs.Ytefjblgmnoheiaa.R
open Go
theorem post_mail {m : TMail} (hm : OkM m) : m_post_mail m = some (mchk m) := by
  have hlp : m_post_mail_l1 m ((((m.Took.length : Int)) - ((0 : Int))).toNat + 1) (0 : Int) = some (if whosB [] m.Took = true then 0 else 1) := by
    refine loop0 (R := fun k o => o = some (if whosB (m.Took.take k) (m.Took.drop k) = true then 0 else 1)) (f := m_post_mail_l1 m) (big_lt hm.took) (fun n => ?_) (fun n k hk hw ih => ?_)
    · rw [m_post_mail_l1, m_post_mail_l1_B, decide_eq_false nlt_k, List.drop_eq_nil_of_le (Nat.le_refl _)]
      rfl
    · rw [take_succ_get hk] at ih
      rw [m_post_mail_l1, m_post_mail_l1_B, decide_eq_true (lt_k hk), if_pos rfl, nthI_lt hk, bnd_some, List.drop_eq_getElem_cons hk]
      simp only [part_eq, wide_eq, bnd_some, sliceL_take (Nat.le_of_lt hk), contains_who (take_big hm.took), m_post_mail_k2, hw, ih, whosB, whoB, if_true, Bool.false_eq_true, if_false]
      rcases Bool.eq_false_or_eq_true (inZ m.Took[k].Part 0 63) with g0 | g0 <;> rcases Bool.eq_false_or_eq_true (inZ m.Took[k].Inst 1 1099511627776) with g1 | g1 <;> rcases Bool.eq_false_or_eq_true (tookB (m.Took.take k) m.Took[k].Part m.Took[k].Inst) with g2 | g2 <;> simp [g0, g1, g2]
  unfold m_post_mail
  simp only [wide_eq, bnd_some, pack_name hm.name, m_post_mail_k1, vars_Check hm.vars, hlp, mchk]
  have e3 : inZ m.Until 0 1099511627776 = (!decide (m.Until < 0) && !decide (1099511627776 < m.Until)) := by
    unfold inZ
    by_cases h1 : m.Until < 0 <;> by_cases h2 : 1099511627776 < m.Until <;> simp [h1, h2] <;> omega
  rw [e3]
  cases h1 : inZ m.Id 1 1099511627776 <;> cases h2 : nameB m.Name <;> by_cases h3 : m.Until < 0 <;> by_cases h5 : 1099511627776 < m.Until <;> by_cases h4 : vchk m.Vars = 0 <;> simp [h3, h4, h5]
theorem post_subs {p : TPost} (hp : OkP p) : m_post_Check_k3 p = some (if subsB p.Next none p.Subs = true then 0 else 1) := by
  unfold m_post_Check_k3
  refine loop0 (R := fun k o => o = some (if subsB p.Next (prevS p.Subs k) (p.Subs.drop k) = true then 0 else 1)) (f := m_post_Check_l2 p) (big_lt hp.sl) (fun n => ?_) (fun n k hk hw ih => ?_)
  · rw [m_post_Check_l2, m_post_Check_l2_B, decide_eq_false nlt_k, List.drop_eq_nil_of_le (Nat.le_refl _)]
    rfl
  · rw [prevS_succ hk] at ih
    rw [m_post_Check_l2, m_post_Check_l2_B, decide_eq_true (lt_k hk), if_pos rfl, nthI_lt hk, bnd_some, List.drop_eq_getElem_cons hk, post_sub (hp.subs _ (List.getElem_mem hk)), bnd_some]
    simp only [m_post_Check_k4, hw, ih, subsB, if_true, Bool.false_eq_true, if_false]
    have e1 : decide (p.Next ≤ p.Subs[k].Mail) = !decide (p.Subs[k].Mail < p.Next) := by
      by_cases h : p.Next ≤ p.Subs[k].Mail
      · have : ¬ p.Subs[k].Mail < p.Next := by omega
        simp [h, this]
      · have : p.Subs[k].Mail < p.Next := by omega
        simp [h, this]
    rw [e1]
    by_cases h0 : k = 0
    · subst h0
      rcases Bool.eq_false_or_eq_true (subB p.Subs[0]) with g0 | g0 <;> rcases Bool.eq_false_or_eq_true (decide (p.Subs[0].Mail < p.Next)) with g1 | g1 <;> simp [g0, g1, prevS, behindB]
    · have h1 : (0 : Int) < (k : Int) := by omega
      rw [wrap_pred (big_lt (by have := hp.sl; omega)) h0, nthI_lt (by omega), prevS_pos hk h0]
      obtain ⟨r, g1, g2⟩ := order_of p.Subs[k - 1] p.Subs[k]
      simp only [bnd_some, m_post_of, g1, g2, behindB, decide_eq_true h1, if_true]
      rcases Bool.eq_false_or_eq_true (subB p.Subs[k]) with g0 | g0 <;> rcases Bool.eq_false_or_eq_true (decide (p.Subs[k].Mail < p.Next)) with g1 | g1 <;> rcases Bool.eq_false_or_eq_true (aheadB p.Subs[k - 1] p.Subs[k]) with g2 | g2 <;> simp [g0, g1, g2]
theorem post_mails {p : TPost} (hp : OkP p) : m_post_Check_l1 p ((((p.Mails.length : Int)) - ((0 : Int))).toNat + 1) (0 : Int) (0 : Int) = some (if mailsE p.Next 0 p.Mails ≠ 0 then mailsE p.Next 0 p.Mails else if subsB p.Next none p.Subs = true then 0 else 1) := by
  refine loop0 (R := fun k o => o = some (if mailsE p.Next (prevI p.Mails k) (p.Mails.drop k) ≠ 0 then mailsE p.Next (prevI p.Mails k) (p.Mails.drop k) else if subsB p.Next none p.Subs = true then 0 else 1)) (f := fun n i => m_post_Check_l1 p n (prevI p.Mails i.toNat) i) (big_lt hp.ml) (fun n => ?_) (fun n k hk hw ih => ?_)
  · rw [m_post_Check_l1, m_post_Check_l1_B, decide_eq_false nlt_k, List.drop_eq_nil_of_le (Nat.le_refl _), post_subs hp]
    rfl
  · rw [Int.toNat_natCast, prevI_succ hk] at ih
    rw [Int.toNat_natCast, m_post_Check_l1, m_post_Check_l1_B, decide_eq_true (lt_k hk), if_pos rfl, nthI_lt hk, bnd_some, List.drop_eq_getElem_cons hk, post_mail (hp.mails _ (List.getElem_mem hk)), bnd_some]
    simp only [m_post_Check_k2, hw, ih, mailsE]
    by_cases hc : mchk p.Mails[k] = 0
    · simp only [hc, ne_eq, not_true_eq_false, decide_false, Bool.false_eq_true, if_false]
      by_cases h2 : p.Mails[k].Id ≤ prevI p.Mails k <;> by_cases h3 : p.Next ≤ p.Mails[k].Id <;> simp [h2, h3]
    · simp [hc]
theorem post_Check {p : TPost} (hp : OkP p) : m_post_Check p = some (pchk p) := by
  unfold m_post_Check pchk m_post_Check_k1
  rw [wide_eq, bnd_some, post_mails hp]
  cases inZ p.Next 1 most
  · rfl
  · by_cases h1 : 4096 < p.Mails.length
    · have : (4096 : Int) < (p.Mails.length : Int) := by omega
      simp [h1, this]
    · have h1' : ¬ (4096 : Int) < (p.Mails.length : Int) := by omega
      by_cases h2 : 4096 < p.Subs.length
      · have h2' : (4096 : Int) < (p.Subs.length : Int) := by omega
        simp [h1, h1', h2, h2']
      · have h2' : ¬ (4096 : Int) < (p.Subs.length : Int) := by omega
        simp only [h1, h1', h2, h2', decide_false, Bool.false_eq_true, if_false, if_true, or_self]
end Go.Proofs.Ytefjblgmnoheiaa.R

/- Plain laws: what may be stays so. -/
set_option maxRecDepth 100000
set_option linter.unusedVariables false
set_option linter.unusedSimpArgs false
noncomputable section
namespace Go.Proofs.Ytefjblgmnoheiaa.R
open Go
theorem mailsE_iff {next : Int} : ∀ {l : List TMail} {q : Int}, mailsE next q l = 0 ↔ (∀ m ∈ l, mchk m = 0 ∧ q < m.Id ∧ m.Id < next) ∧ l.Pairwise (fun a b => a.Id < b.Id)
  | [], q => by simp [mailsE]
  | x :: l, q => by
    have ih := mailsE_iff (next := next) (l := l) (q := x.Id)
    unfold mailsE
    constructor
    · intro h
      split at h
      · rename_i h0; exact absurd h h0
      · rename_i h0
        split at h
        · cases h
        · rename_i h1
          obtain ⟨g1, g2⟩ := ih.1 h
          refine ⟨fun m hm => ?_, List.Pairwise.cons (fun y hy => (g1 y hy).2.1) g2⟩
          rcases List.mem_cons.1 hm with rfl | hm
          · exact ⟨by simpa using h0, by omega, by omega⟩
          · have := g1 m hm
            exact ⟨this.1, by omega, this.2.2⟩
    · rintro ⟨h1, h2⟩
      obtain ⟨a, b, c⟩ := h1 x (by simp)
      obtain ⟨d, e⟩ := List.pairwise_cons.1 h2
      rw [if_neg (by simp [a]), if_neg (by omega)]
      exact ih.2 ⟨fun m hm => ⟨(h1 m (by simp [hm])).1, d m hm, (h1 m (by simp [hm])).2.2⟩, e⟩
theorem subsB_iff {next : Int} : ∀ {l : List TSub} {q : Option TSub}, subsB next q l = true ↔ (∀ s ∈ l, subB s = true ∧ s.Mail < next ∧ behindB q s = true) ∧ Rises l
  | [], q => by simp [subsB, Rises]
  | x :: l, q => by
    have ih := subsB_iff (next := next) (l := l) (q := some x)
    unfold subsB
    simp only [Bool.and_eq_true, decide_eq_true_eq]
    rw [ih]
    constructor
    · rintro ⟨a, b, c, d, e⟩
      refine ⟨fun s hs => ?_, List.Pairwise.cons (fun y hy => (d y hy).2.2) e⟩
      rcases List.mem_cons.1 hs with rfl | hs
      · exact ⟨a, b, c⟩
      · obtain ⟨f, g, h⟩ := d s hs
        refine ⟨f, g, ?_⟩
        cases q with
        | none => rfl
        | some q => exact ahead_trans c h
    · rintro ⟨h1, h2⟩
      obtain ⟨a, b, c⟩ := h1 x (by simp)
      obtain ⟨d, e⟩ := List.pairwise_cons.1 h2
      exact ⟨a, b, c, fun s hs => ⟨(h1 s (by simp [hs])).1, (h1 s (by simp [hs])).2.1, d s hs⟩, e⟩
/-- A post that may be; few took each message. -/
structure Fine (n : Nat) (p : TPost) : Prop where
  ok : OkP p
  nx : 1 ≤ p.Next ∧ p.Next ≤ most
  ml : p.Mails.length ≤ 4096
  sl : p.Subs.length ≤ 4096
  mails : ∀ m ∈ p.Mails, mchk m = 0 ∧ m.Id < p.Next
  rise : p.Mails.Pairwise fun a b => a.Id < b.Id
  subs : ∀ s ∈ p.Subs, subB s = true ∧ s.Mail < p.Next
  rises : Rises p.Subs
  took : ∀ m ∈ p.Mails, m.Took.length ≤ 4096 + n
theorem Fine.chk {n : Nat} {p : TPost} (h : Fine n p) : pchk p = 0 := by
  unfold pchk
  have h1 : inZ p.Next 1 most = true := inZ_iff.2 h.nx
  have h2 : ¬ (4096 < p.Mails.length ∨ 4096 < p.Subs.length) := by have := h.ml; have := h.sl; omega
  have h3 : mailsE p.Next 0 p.Mails = 0 := mailsE_iff.2 ⟨fun m hm => ⟨(h.mails m hm).1, by have := mchk_id (h.mails m hm).1; omega, (h.mails m hm).2⟩, h.rise⟩
  have h4 : subsB p.Next none p.Subs = true := subsB_iff.2 ⟨fun s hs => ⟨(h.subs s hs).1, (h.subs s hs).2, rfl⟩, h.rises⟩
  rw [if_pos h1, if_neg h2, if_neg (by simp [h3]), if_pos h4]
theorem Fine.rdy {n : Nat} {p : TPost} (h : Fine n p) (hn : n ≤ 5000) : Rdy p := by
  have hv : ∀ m ∈ p.Mails, m.Vars.Names.length = m.Vars.Vals.length ∧ m.Vars.Names.length ≤ 64 := fun m hm => by
    have := (mchk_id (h.mails m hm).1).2.2.2.2.2.1
    unfold vchk at this
    split at this
    · cases this
    · split at this
      · cases this
      · omega
  exact ⟨h.ml, h.sl, fun m hm => by have := h.took m hm; omega, fun m hm => by have := hv m hm; omega, fun m hm => by have := hv m hm; omega⟩
theorem Fine.up {n k : Nat} {p : TPost} (h : Fine n p) (hk : n ≤ k) : Fine k p := ⟨h.ok, h.nx, h.ml, h.sl, h.mails, h.rise, h.subs, h.rises, fun m hm => by have := h.took m hm; omega⟩
theorem whosB_app {w : TWho} : ∀ {l pre : List TWho}, whosB pre (l ++ [w]) = (whosB pre l && (whoB w && !tookB (pre ++ l) w.Part w.Inst))
  | [], pre => by simp [whosB]
  | x :: l, pre => by
    have ih := whosB_app (w := w) (l := l) (pre := pre ++ [x])
    rw [List.cons_append, whosB, whosB, ih, List.append_assoc]
    simp [Bool.and_assoc]
theorem mchk_of {m : TMail} (h : 1 ≤ m.Id ∧ m.Id ≤ most ∧ nameB m.Name = true ∧ 0 ≤ m.Until ∧ m.Until ≤ most ∧ vchk m.Vars = 0 ∧ whosB [] m.Took = true) : mchk m = 0 := by
  obtain ⟨a, b, c, d, e, f, g⟩ := h
  unfold mchk
  have h1 : (inZ m.Id 1 most && (nameB m.Name && inZ m.Until 0 most)) = true := by simp only [Bool.and_eq_true, inZ_iff]; exact ⟨⟨a, b⟩, c, d, e⟩
  rw [if_pos h1, if_neg (by simp [f]), if_pos g]
theorem suit_parts {m : TMail} {s : TSub} (h : suitB m s = true) : s.Mail = 0 ∧ s.Name = m.Name ∧ s.Key = m.Key ∧ tookB m.Took s.Part s.Inst = false := by
  unfold suitB at h
  simp only [Bool.and_eq_true, decide_eq_true_eq, eqS_iff, Bool.not_eq_true'] at h
  exact h
theorem sub_who {s : TSub} (h : subB s = true) : whoB ⟨s.Part, s.Inst⟩ = true := by
  unfold subB at h
  unfold whoB
  simp only [Bool.and_eq_true] at h ⊢
  exact ⟨h.1, h.2.2.1⟩
theorem mchk_and {m : TMail} {s : TSub} (hm : mchk m = 0) (hs : subB s = true) (h : suitB m s = true) : mchk (andM m s) = 0 := by
  obtain ⟨a, b, c, d, e, f, g⟩ := mchk_id hm
  have h4 := (suit_parts h).2.2.2
  refine mchk_of ⟨a, b, c, d, e, f, ?_⟩
  show whosB [] (m.Took ++ [⟨s.Part, s.Inst⟩]) = true
  rw [whosB_app, g, sub_who hs, List.nil_append, h4]
  rfl
theorem sub_with {s : TSub} {n : Int} (hs : subB s = true) (h0 : 0 ≤ n) (h1 : n ≤ most) : subB (withM s n) = true := by
  unfold subB at hs ⊢
  simp only [Bool.and_eq_true, inZ_iff] at hs ⊢
  exact ⟨hs.1, hs.2.1, hs.2.2.1, hs.2.2.2.1, h0, h1⟩
def keyS (s : TSub) : Int × Int := (s.Part, s.Id)
def keyB (a b : Int × Int) : Prop := a.1 < b.1 ∨ (a.1 = b.1 ∧ a.2 < b.2)
theorem rises_key (l : List TSub) : Rises l ↔ (l.map keyS).Pairwise keyB := by
  unfold Rises
  rw [List.pairwise_map]
  have : (fun s t => aheadB s t = true) = fun s t => keyB (keyS s) (keyS t) := by
    funext s t
    exact propext aheadB_iff
  rw [this]
theorem pubL_keys : ∀ (l : List TSub) (m : TMail), (pubL m l).2.1.map keyS = l.map keyS
  | [], m => rfl
  | s :: r, m => by
    rw [pubL]
    split
    · simp [pubL_keys r (andM m s), keyS, withM]
    · simp [pubL_keys r m]
theorem pubL_fine : ∀ (l : List TSub) (m : TMail), mchk m = 0 → (∀ s ∈ l, subB s = true) → mchk (pubL m l).1 = 0 ∧ (∀ s ∈ (pubL m l).2.1, subB s = true ∧ (s.Mail = m.Id ∨ s ∈ l)) ∧ (pubL m l).1.Took.length ≤ m.Took.length + l.length
  | [], m, hm, _ => ⟨hm, by simp [pubL], by simp [pubL]⟩
  | s :: r, m, hm, hs => by
    have h1 := hs s (by simp)
    obtain ⟨a, b, _⟩ := mchk_id hm
    rw [pubL]
    split
    · rename_i hc
      obtain ⟨g1, g2, g3⟩ := pubL_fine r (andM m s) (mchk_and hm h1 hc) (fun x hx => hs x (by simp [hx]))
      refine ⟨g1, fun x hx => ?_, by simp [andM] at g3 ⊢; omega⟩
      rcases List.mem_cons.1 hx with rfl | hx
      · exact ⟨sub_with h1 (by omega) b, .inl rfl⟩
      · refine ⟨(g2 x hx).1, ?_⟩
        rcases (g2 x hx).2 with h | h
        · exact .inl h
        · exact .inr (by simp [h])
    · obtain ⟨g1, g2, g3⟩ := pubL_fine r m hm (fun x hx => hs x (by simp [hx]))
      refine ⟨g1, fun x hx => ?_, by simp at g3 ⊢; omega⟩
      rcases List.mem_cons.1 hx with rfl | hx
      · exact ⟨h1, .inr (by simp)⟩
      · refine ⟨(g2 x hx).1, ?_⟩
        rcases (g2 x hx).2 with h | h
        · exact .inl h
        · exact .inr (by simp [h])
section
variable {p : TPost} {name : ByteArray} {k : Int} {v : TVars} {now keep : Int}
/-- What a message is that was published. -/
theorem pubP_parts (h0 : (pubP p name k v now keep).2.2.2 = 0) : nameB name = true ∧ mayK now keep = true ∧ vchk v = 0 ∧ ¬ (most ≤ p.Next ∨ (0 < keep ∧ 4096 ≤ p.Mails.length)) ∧
    pubP p name k v now keep = (⟨p.Next + 1, if 0 < keep then p.Mails ++ [(pubL ⟨p.Next, name, k, v, now + keep, []⟩ p.Subs).1] else p.Mails, (pubL ⟨p.Next, name, k, v, now + keep, []⟩ p.Subs).2.1⟩, p.Next, (pubL ⟨p.Next, name, k, v, now + keep, []⟩ p.Subs).2.2, 0) := by
  unfold pubP at h0 ⊢
  split at h0
  · rename_i h1
    split at h0
    · rename_i h2
      split at h0
      · rename_i h3; exact absurd h0 h3
      · rename_i h3
        split at h0
        · cases h0
        · rename_i h4
          exact ⟨h1, h2, by simpa using h3, h4, by rw [if_pos h1, if_pos h2, if_neg h3, if_neg h4]⟩
    · cases h0
  · cases h0
theorem new_chk (hx : 1 ≤ p.Next) (h1 : nameB name = true) (h2 : mayK now keep = true) (h3 : vchk v = 0) (h4 : ¬ (most ≤ p.Next ∨ (0 < keep ∧ 4096 ≤ p.Mails.length))) : mchk ⟨p.Next, name, k, v, now + keep, []⟩ = 0 := by
  simp only [mayK, Bool.and_eq_true, inZ_iff] at h2
  refine mchk_of ⟨hx, ?_, h1, ?_, ?_, h3, rfl⟩
  · show p.Next ≤ most
    omega
  · show 0 ≤ now + keep
    omega
  · show now + keep ≤ most
    omega
theorem fine_pub {n : Nat} (hp : Fine n p) (hn : n ≤ 5000) (hv : OkV v) (hk : inR k) (hnm : name.size ≤ big63) (h0 : (pubP p name k v now keep).2.2.2 = 0) : Fine n (pubP p name k v now keep).1 := by
  obtain ⟨h1, h2, h3, h4, h5⟩ := pubP_parts h0
  have hx := hp.nx
  have hok := (pubP_ok (now := now) (keep := keep) hp.ok (hp.rdy hn) hv hk hnm (by omega)).1
  rw [h5] at hok ⊢
  obtain ⟨g1, g2, g3⟩ := pubL_fine p.Subs ⟨p.Next, name, k, v, now + keep, []⟩ (new_chk (k := k) hx.1 h1 h2 h3 h4) (fun s hs => (hp.subs s hs).1)
  have hid := (pubL_id p.Subs ⟨p.Next, name, k, v, now + keep, []⟩).1
  have hkey := pubL_keys p.Subs ⟨p.Next, name, k, v, now + keep, []⟩
  generalize pubL ⟨p.Next, name, k, v, now + keep, []⟩ p.Subs = x at *
  simp only [List.length_nil] at g3
  have hml := hp.ml
  have hsl := hp.sl
  have hlen : x.2.1.length = p.Subs.length := by have := congrArg List.length hkey; simpa using this
  refine ⟨hok, ⟨?_, ?_⟩, ?_, ?_, fun m hm => ?_, ?_, fun s hs => ?_, ?_, fun m hm => ?_⟩
  · show 1 ≤ p.Next + 1
    omega
  · show p.Next + 1 ≤ most
    omega
  · simp only
    split
    · rw [List.length_append, List.length_singleton]; omega
    · omega
  · simp only
    omega
  · simp only at hm ⊢
    have : m ∈ p.Mails ∨ m = x.1 := by
      split at hm
      · simpa using hm
      · exact .inl hm
    rcases this with h | rfl
    · exact ⟨(hp.mails m h).1, by have := (hp.mails m h).2; omega⟩
    · exact ⟨g1, by rw [hid]; show p.Next < p.Next + 1; omega⟩
  · simp only
    split
    · rw [List.pairwise_append]
      refine ⟨hp.rise, List.pairwise_singleton _ _, fun a ha b hb => ?_⟩
      rw [List.mem_singleton] at hb
      subst hb
      rw [hid]
      exact (hp.mails a ha).2
    · exact hp.rise
  · refine ⟨(g2 s hs).1, ?_⟩
    show s.Mail < p.Next + 1
    rcases (g2 s hs).2 with h | h
    · rw [h]; show p.Next < p.Next + 1; omega
    · have := (hp.subs s h).2; omega
  · rw [rises_key]
    simp only
    rw [hkey]
    exact (rises_key _).1 hp.rises
  · simp only at hm
    have : m ∈ p.Mails ∨ m = x.1 := by
      split at hm
      · simpa using hm
      · exact .inl hm
    rcases this with h | rfl
    · exact hp.took m h
    · omega
end
/-! ### A subscription opened -/
theorem openL_cases (s : TSub) : ∀ l : List TMail, ((∀ m ∈ l, suitB m s = false) ∧ openL s l = (l, s.Mail, [])) ∨ ∃ (a : List TMail) (m : TMail) (b : List TMail), l = a ++ m :: b ∧ suitB m s = true ∧ openL s l = (a ++ andM m s :: b, m.Id, [hitOf m s])
  | [] => .inl ⟨by simp, rfl⟩
  | x :: r => by
    rw [openL]
    cases hc : suitB x s with
    | true => exact .inr ⟨[], x, r, rfl, hc, by simp⟩
    | false =>
      rcases openL_cases s r with ⟨h1, h2⟩ | ⟨a, m, b, h1, h2, h3⟩
      · refine .inl ⟨fun m hm => ?_, by simp [h2]⟩
        rcases List.mem_cons.1 hm with rfl | hm
        · exact hc
        · exact h1 m hm
      · exact .inr ⟨x :: a, m, b, by rw [h1]; rfl, h2, by simp [h3]⟩
theorem openP_parts {p : TPost} {s : TSub} (h0 : (openP p s).2.2 = 0) : subB s = true ∧ s.Mail = 0 ∧ hasK s.Part s.Id p.Subs = false ∧ p.Subs.length < 4096 ∧
    openP p s = (⟨p.Next, (openL s p.Mails).1, insS (withM s (openL s p.Mails).2.1) p.Subs⟩, (openL s p.Mails).2.2, 0) := by
  unfold openP at h0 ⊢
  split at h0
  · rename_i h1
    split at h0
    · cases h0
    · rename_i h2
      split at h0
      · cases h0
      · rename_i h3
        have h1' := h1
        simp only [Bool.and_eq_true, decide_eq_true_eq] at h1'
        exact ⟨h1'.1, h1'.2, by simpa using h2, by omega, by rw [if_pos h1, if_neg h2, if_neg h3]⟩
  · cases h0
theorem ins_rises {x : TSub} : ∀ {l : List TSub}, hasK x.Part x.Id l = false → Rises l → Rises (insS x l)
  | [], _, _ => List.pairwise_singleton _ _
  | y :: r, h, hr => by
    unfold hasK at h
    rw [List.any_cons, Bool.or_eq_false_iff] at h
    have h1 : ¬ (y.Part = x.Part ∧ y.Id = x.Id) := by rw [← atB_iff, h.1]; decide
    obtain ⟨a, b⟩ := List.pairwise_cons.1 hr
    unfold insS
    split
    · rename_i hc
      refine List.Pairwise.cons (fun z hz => ?_) hr
      rcases List.mem_cons.1 hz with rfl | hz
      · exact hc
      · exact ahead_trans hc (a z hz)
    · rename_i hc
      refine List.Pairwise.cons (fun z hz => ?_) (ins_rises h.2 b)
      rcases insS_mem hz with rfl | hz
      · rw [aheadB_iff] at hc ⊢
        omega
      · exact a z hz
theorem rise_mid {a b : List TMail} {m m' : TMail} (he : m'.Id = m.Id) (h : (a ++ m :: b).Pairwise fun a b => a.Id < b.Id) : (a ++ m' :: b).Pairwise fun a b => a.Id < b.Id := by
  have e1 : (a ++ m' :: b).map TMail.Id = (a ++ m :: b).map TMail.Id := by simp [he]
  have h1 : ((a ++ m :: b).map TMail.Id).Pairwise (· < ·) := List.pairwise_map.2 h
  rw [← e1] at h1
  exact List.pairwise_map.1 h1
theorem fine_open {n : Nat} {p : TPost} {s : TSub} (hp : Fine n p) (hn : n ≤ 5000) (hs : OkS s) (h0 : (openP p s).2.2 = 0) : Fine (n + 1) (openP p s).1 := by
  obtain ⟨h1, h2, h3, h4, h5⟩ := openP_parts h0
  have hok := (openP_ok hp.ok (hp.rdy hn) hs).1
  have hx := hp.nx
  rw [h5] at hok ⊢
  rcases openL_cases s p.Mails with ⟨g1, g2⟩ | ⟨a, m, b, g1, g2, g3⟩
  · rw [g2] at hok ⊢
    refine ⟨hok, hx, hp.ml, by rw [insS_len]; omega, hp.mails, hp.rise, fun t ht => ?_, ins_rises h3 hp.rises, fun t ht => by have := hp.took t ht; omega⟩
    rcases insS_mem ht with rfl | ht
    · refine ⟨sub_with h1 (by show 0 ≤ s.Mail; omega) (by show s.Mail ≤ most; rw [h2]; decide), ?_⟩
      show s.Mail < p.Next
      omega
    · exact hp.subs t ht
  · have hm := hp.mails m (by rw [g1]; simp)
    obtain ⟨i1, i2, _⟩ := mchk_id hm.1
    rw [g3] at hok ⊢
    have hmem : ∀ t ∈ a ++ andM m s :: b, t ∈ p.Mails ∨ t = andM m s := by
      intro t ht
      rw [g1]
      simp only [List.mem_append, List.mem_cons] at ht ⊢
      rcases ht with h | h | h
      · exact .inl (.inl h)
      · exact .inr h
      · exact .inl (.inr (.inr h))
    have hl := congrArg List.length g1
    simp only [List.length_append, List.length_cons] at hl
    have hml := hp.ml
    refine ⟨hok, hx, by simp; omega, by rw [insS_len]; omega, fun t ht => ?_, ?_, fun t ht => ?_, ins_rises h3 hp.rises, fun t ht => ?_⟩
    · rcases hmem t ht with h | rfl
      · exact hp.mails t h
      · exact ⟨mchk_and hm.1 h1 g2, hm.2⟩
    · have := hp.rise
      rw [g1] at this
      exact rise_mid (m := m) (m' := andM m s) rfl this
    · rcases insS_mem ht with rfl | ht
      · exact ⟨sub_with h1 (by show 0 ≤ m.Id; omega) i2, hm.2⟩
      · exact hp.subs t ht
    · rcases hmem t ht with h | rfl
      · have := hp.took t h; omega
      · have := hp.took m (by rw [g1]; simp)
        show (m.Took ++ [_]).length ≤ _
        rw [List.length_append, List.length_singleton]
        omega
theorem fine_close {n : Nat} {p : TPost} {a b : Int} (hp : Fine n p) (hn : n ≤ 5000) (h0 : (closeP p a b).2 = 0) : (closeP p a b).1 = ⟨p.Next, p.Mails, p.Subs.take (lowK a b p.Subs) ++ p.Subs.drop (lowK a b p.Subs + 1)⟩ ∧ Fine n (closeP p a b).1 := by
  have hok := closeP_ok (a := a) (b := b) hp.ok (hp.rdy hn)
  unfold closeP at h0 hok ⊢
  split at h0
  · rename_i h1
    rw [if_pos h1] at hok ⊢
    have hsub : (p.Subs.take (lowK a b p.Subs) ++ p.Subs.drop (lowK a b p.Subs + 1)).Sublist p.Subs := by
      have h2 : (p.Subs.drop (lowK a b p.Subs + 1)).Sublist (p.Subs.drop (lowK a b p.Subs)) := by
        rw [← List.drop_drop]
        exact List.drop_sublist _ _
      have h3 := List.Sublist.append (List.Sublist.refl (p.Subs.take (lowK a b p.Subs))) h2
      rwa [List.take_append_drop] at h3
    exact ⟨rfl, hok, hp.nx, hp.ml, Nat.le_trans hsub.length_le hp.sl, hp.mails, hp.rise, fun s hs => hp.subs s (hsub.subset hs), List.Pairwise.sublist hsub hp.rises, hp.took⟩
  · cases h0
theorem fine_exp {n : Nat} {p : TPost} {now : Int} (hp : Fine n p) : Fine n (expP p now) := by
  have hsub : (p.Mails.filter (keptB now)).Sublist p.Mails := List.filter_sublist
  exact ⟨expP_ok hp.ok, hp.nx, Nat.le_trans hsub.length_le hp.ml, hp.sl, fun m hm => hp.mails m (hsub.subset hm), List.Pairwise.sublist hsub hp.rise, hp.subs, hp.rises, fun m hm => hp.took m (hsub.subset hm)⟩
end Go.Proofs.Ytefjblgmnoheiaa.R

/- Plain law of PostMeets. -/
set_option maxRecDepth 100000
set_option linter.unusedVariables false
set_option linter.unusedSimpArgs false
noncomputable section
namespace Go.Proofs.Ytefjblgmnoheiaa.R
open Go
/-! ### Acts -/
def subO (o : TOp) : TSub := ⟨o.Part, o.Id, o.Inst, o.Name, o.Key, 0⟩
def stepP (p : TPost) (o : TOp) : TPost × List THit :=
  if o.Kind = 0 then if (pubP p o.Name o.Key o.Vars o.Now o.Keep).2.2.2 = 0 then ((pubP p o.Name o.Key o.Vars o.Now o.Keep).1, (pubP p o.Name o.Key o.Vars o.Now o.Keep).2.2.1) else (p, [])
  else if o.Kind = 1 then if (openP p (subO o)).2.2 = 0 then ((openP p (subO o)).1, (openP p (subO o)).2.1) else (p, [])
  else if o.Kind = 2 then if (closeP p o.Part o.Id).2 = 0 then ((closeP p o.Part o.Id).1, []) else (p, [])
  else if o.Kind = 3 then (expP p o.Now, [])
  else (p, [])
structure LightO (o : TOp) : Prop where
  ok : OkO o
  names : o.Vars.Names.length ≤ 20
  vals : o.Vars.Vals.length ≤ 20
theorem step_eq {n : Nat} {p : TPost} {o : TOp} (hp : Fine n p) (hn : n ≤ 5000) (ho : LightO o) : m_law22_step p o = some (stepP p o) := by
  have hr := hp.rdy hn
  have hx := hp.nx
  have h1 := ho.names
  have h2 := ho.vals
  have hs : OkS (subO o) := sub_ok ho.ok
  have hsub : m_law22_Op_Sub o = some (subO o) := rfl
  unfold m_law22_step stepP m_law22_step_k1
  rw [post_Publish hp.ok hr ho.ok.vars (by omega) (by omega) ho.ok.name (by omega), hsub]
  simp only [bnd_some, decide_eq_true_eq]
  rw [post_Open hr hs hp.rises, post_Close hr hp.rises, post_Expire hr]
  simp only [bnd_some, decide_eq_true_eq]
  by_cases c0 : o.Kind = 0
  · rw [if_pos c0, if_pos c0]
    by_cases h : (pubP p o.Name o.Key o.Vars o.Now o.Keep).2.2.2 = 0
    · rw [if_pos h, if_pos h]
    · rw [if_neg h, if_neg h]
  · rw [if_neg c0, if_neg c0]
    by_cases c1 : o.Kind = 1
    · rw [if_pos c1, if_pos c1]
      by_cases h : (openP p (subO o)).2.2 = 0
      · rw [if_pos h, if_pos h]
      · rw [if_neg h, if_neg h]
    · rw [if_neg c1, if_neg c1]
      by_cases c2 : o.Kind = 2
      · rw [if_pos c2, if_pos c2]
        by_cases h : (closeP p o.Part o.Id).2 = 0
        · rw [if_pos h, if_pos h]
        · rw [if_neg h, if_neg h]
      · rw [if_neg c2, if_neg c2]
        by_cases c3 : o.Kind = 3
        · rw [if_pos c3, if_pos c3]
        · rw [if_neg c3, if_neg c3]
theorem fine_step {n : Nat} {p : TPost} {o : TOp} (hp : Fine n p) (hn : n ≤ 5000) (ho : LightO o) : Fine (n + 1) (stepP p o).1 := by
  have hs : OkS (subO o) := sub_ok ho.ok
  have hu : Fine (n + 1) p := hp.up (by omega)
  unfold stepP
  split
  · split
    · rename_i h; exact (fine_pub hp hn ho.ok.vars ho.ok.key ho.ok.name h).up (by omega)
    · exact hu
  · split
    · split
      · rename_i h; exact fine_open hp hn hs h
      · exact hu
    · split
      · split
        · rename_i h; exact (fine_close hp hn h).2.up (by omega)
        · exact hu
      · split
        · exact (fine_exp hp).up (by omega)
        · exact hu
theorem light_ops {l : List TOp} (hl : l.length ≤ big63) (ho : ∀ o ∈ l, OkO o) : ∃ b, m_law22_lightOps l = some b ∧ (b = true → l.length ≤ 60 ∧ ∀ o ∈ l, LightO o) := by
  unfold m_law22_lightOps
  by_cases h : (60 : Int) < (l.length : Int)
  · rw [decide_eq_true h, if_pos rfl]
    exact ⟨false, rfl, by simp⟩
  · rw [decide_eq_false h, if_neg Bool.false_ne_true]
    have hb : l.length ≤ 60 := by omega
    suffices g : ∃ b, m_law22_lightOps_l1 l ((((l.length : Int)) - ((0 : Int))).toNat + 1) (0 : Int) = some b ∧ (b = true → ∀ o ∈ l.drop 0, LightO o) by
      obtain ⟨b, g1, g2⟩ := g
      exact ⟨b, g1, fun h => ⟨hb, by simpa using g2 h⟩⟩
    refine loop0 (R := fun k o => ∃ b, o = some b ∧ (b = true → ∀ o ∈ l.drop k, LightO o)) (f := m_law22_lightOps_l1 l) (by omega) (fun n => ?_) (fun n k hk hw ih => ?_)
    · rw [m_law22_lightOps_l1, m_law22_lightOps_l1_B, decide_eq_false nlt_k, List.drop_eq_nil_of_le (Nat.le_refl _)]
      exact ⟨true, rfl, fun _ => by simp⟩
    · rw [m_law22_lightOps_l1, m_law22_lightOps_l1_B, decide_eq_true (lt_k hk), if_pos rfl, nthI_lt hk, bnd_some, List.drop_eq_getElem_cons hk]
      unfold m_law22_lightOps_k1
      rw [hw]
      have hf : ∃ b, (some false : Option Bool) = some b ∧ (b = true → ∀ o ∈ l[k] :: l.drop (k + 1), LightO o) := ⟨false, rfl, by simp⟩
      by_cases h1 : (20 : Int) < (l[k].Vars.Names.length : Int)
      · rw [decide_eq_true h1, if_pos rfl, if_pos rfl]; exact hf
      · rw [decide_eq_false h1, if_neg Bool.false_ne_true]
        by_cases h2 : (20 : Int) < (l[k].Vars.Vals.length : Int)
        · rw [decide_eq_true h2, if_pos rfl, if_pos rfl]; exact hf
        · rw [decide_eq_false h2, if_neg Bool.false_ne_true]
          by_cases h3 : (100 : Int) < (l[k].Name.size : Int)
          · rw [decide_eq_true h3, if_pos rfl]; exact hf
          · rw [decide_eq_false h3, if_neg Bool.false_ne_true]
            obtain ⟨b, g1, g2⟩ := ih
            refine ⟨b, g1, fun hb o hm => ?_⟩
            rcases List.mem_cons.1 hm with rfl | hm
            · exact ⟨ho _ (List.getElem_mem hk), by omega, by omega⟩
            · exact g2 hb o hm
theorem fine_new : Fine 0 ⟨1, [], []⟩ := ⟨⟨by unfold inR; decide, by unfold big63; decide, by unfold big63; decide, by simp, by simp⟩, by unfold most; decide, by simp, by simp, by simp, List.Pairwise.nil, by simp, List.Pairwise.nil, by simp⟩
/-! ### Who waits for what is kept gets it -/
theorem took_app {l l' : List TWho} {a b : Int} (h : tookB l a b = true) : tookB (l ++ l') a b = true := by
  unfold tookB at *
  rw [List.any_append, h]
  rfl
/-! ### The law's loops -/
end Go.Proofs.Ytefjblgmnoheiaa.R

/- Plain law of PostOnce. -/
set_option maxRecDepth 100000
set_option linter.unusedVariables false
set_option linter.unusedSimpArgs false
noncomputable section
namespace Go.Proofs.Ytefjblgmnoheiaa.R
open Go
/-- What the law asks of hits, one behind the other; what is remembered then. -/
def Chain (p q : TPost) : List THit → List (Int × TWho) → List (Int × TWho) → Prop
  | [], h, h' => h' = h
  | x :: r, h, h' => ∃ s ∈ q.Subs, s.Part = x.Part ∧ s.Id = x.Sub ∧ s.Mail = x.Mail ∧ (∀ t ∈ p.Subs, t.Part = x.Part → t.Id = x.Sub → t.Mail = 0) ∧
      (∀ e ∈ h, ¬ (e.1 = x.Mail ∧ e.2 = ⟨x.Part, s.Inst⟩)) ∧ Chain p q r (h ++ [(x.Mail, ⟨x.Part, s.Inst⟩)]) h'
/-- What is remembered, and what is kept. -/
def Known (p : TPost) (h : List (Int × TWho)) : Prop := ∀ e ∈ h, e.1 < p.Next ∧ ∀ m ∈ p.Mails, m.Id = e.1 → tookB m.Took e.2.Part e.2.Inst = true
theorem took_new (l : List TWho) (a b : Int) : tookB (l ++ [⟨a, b⟩]) a b = true := by simp [tookB]
theorem pub_chain {p q : TPost} (hu : ∀ s ∈ p.Subs, ∀ t ∈ p.Subs, t.Part = s.Part → t.Id = s.Id → t = s) : ∀ (l : List TSub) (m : TMail) (h : List (Int × TWho)), (∀ s ∈ l, s ∈ p.Subs) → (∀ s ∈ (pubL m l).2.1, s ∈ q.Subs) → (∀ e ∈ h, e.1 = m.Id → tookB m.Took e.2.Part e.2.Inst = true) →
    ∃ h', Chain p q (pubL m l).2.2 h h' ∧ (∀ e ∈ h', e ∈ h ∨ e.1 = m.Id) ∧ (∀ e ∈ h', e.1 = m.Id → tookB (pubL m l).1.Took e.2.Part e.2.Inst = true) ∧ h'.length ≤ h.length + l.length
  | [], m, h, _, _, h3 => ⟨h, rfl, fun e he => .inl he, h3, by simp⟩
  | s :: r, m, h, h1, h2, h3 => by
    rw [pubL] at h2 ⊢
    have hs := h1 s (by simp)
    cases hc : suitB m s with
    | true =>
      simp only [hc, if_true] at h2 ⊢
      obtain ⟨a, b, c, d⟩ := suit_parts hc
      obtain ⟨h', g1, g2, g3, g4⟩ := pub_chain hu r (andM m s) (h ++ [(m.Id, ⟨s.Part, s.Inst⟩)]) (fun x hx => h1 x (by simp [hx])) (fun x hx => h2 x (by simp [hx])) (fun e he hi => by
        rcases List.mem_append.1 he with he | he
        · exact took_app (h3 e he hi)
        · rw [List.mem_singleton] at he
          subst he
          exact took_new _ _ _)
      refine ⟨h', ⟨withM s m.Id, h2 _ (by simp), rfl, rfl, rfl, fun t ht e1 e2 => ?_, fun e he hh => ?_, g1⟩, fun e he => ?_, g3, by simp at g4 ⊢; omega⟩
      · rw [hu s hs t ht e1 e2]; exact a
      · obtain ⟨i1, i2⟩ := hh
        have := h3 e he i1
        rw [i2] at this
        change tookB m.Took s.Part s.Inst = true at this
        rw [d] at this
        cases this
      · rcases g2 e he with h | h
        · rcases List.mem_append.1 h with h | h
          · exact .inl h
          · rw [List.mem_singleton] at h
            subst h
            exact .inr rfl
        · exact .inr h
    | false =>
      simp only [hc, Bool.false_ne_true, if_false] at h2 ⊢
      obtain ⟨h', g1, g2, g3, g4⟩ := pub_chain hu r m h (fun x hx => h1 x (by simp [hx])) (fun x hx => h2 x (by simp [hx])) h3
      exact ⟨h', g1, g2, g3, by simp at g4 ⊢; omega⟩
theorem uniq_of {l : List TSub} (h : Rises l) : ∀ s ∈ l, ∀ t ∈ l, t.Part = s.Part → t.Id = s.Id → t = s := by
  intro s hs t ht e1 e2
  obtain ⟨i, hi, rfl⟩ := List.getElem_of_mem hs
  obtain ⟨j, hj, rfl⟩ := List.getElem_of_mem ht
  rcases Nat.lt_trichotomy i j with h1 | h1 | h1
  · have := List.pairwise_iff_getElem.1 h i j hi hj h1
    rw [aheadB_iff] at this
    omega
  · subst h1; rfl
  · have := List.pairwise_iff_getElem.1 h j i hj hi h1
    rw [aheadB_iff] at this
    omega
theorem known_same {p q : TPost} {h : List (Int × TWho)} (hn : p.Next ≤ q.Next) (hm : ∀ m ∈ q.Mails, m ∈ p.Mails) (hk : Known p h) : Known q h := fun e he => ⟨by have := (hk e he).1; omega, fun m h1 h2 => (hk e he).2 m (hm m h1) h2⟩
theorem pubL_hits : ∀ (l : List TSub) (m : TMail), (pubL m l).2.2.length ≤ l.length
  | [], m => Nat.le_refl _
  | s :: r, m => by
    rw [pubL]
    split
    · have := pubL_hits r (andM m s); simp; omega
    · have := pubL_hits r m; simp; omega
theorem ins_self {x : TSub} : ∀ {l : List TSub}, x ∈ insS x l
  | [] => by simp [insS]
  | y :: r => by
    unfold insS
    split
    · simp
    · exact List.mem_cons_of_mem _ ins_self
theorem once_step {n : Nat} {p : TPost} {o : TOp} {h : List (Int × TWho)} (hp : Fine n p) (hn : n ≤ 5000) (hk : Known p h) :
    ∃ h', Chain p (stepP p o).1 (stepP p o).2 h h' ∧ Known (stepP p o).1 h' ∧ h'.length ≤ h.length + 4096 ∧ (stepP p o).2.length ≤ 4096 := by
  have hx := hp.nx
  have hsl := hp.sl
  have hz : ∃ h', Chain p p [] h h' ∧ Known p h' ∧ h'.length ≤ h.length + 4096 ∧ ([] : List THit).length ≤ 4096 := ⟨h, rfl, hk, by omega, by simp⟩
  unfold stepP
  split
  · split
    · rename_i h0
      obtain ⟨h1, h2, h3, h4, h5⟩ := pubP_parts h0
      rw [h5]
      obtain ⟨h', g1, g2, g3, g4⟩ := pub_chain (p := p) (q := ⟨p.Next + 1, if 0 < o.Keep then p.Mails ++ [(pubL ⟨p.Next, o.Name, o.Key, o.Vars, o.Now + o.Keep, []⟩ p.Subs).1] else p.Mails, (pubL ⟨p.Next, o.Name, o.Key, o.Vars, o.Now + o.Keep, []⟩ p.Subs).2.1⟩) (uniq_of hp.rises) p.Subs ⟨p.Next, o.Name, o.Key, o.Vars, o.Now + o.Keep, []⟩ h (fun s hs => hs) (fun s hs => hs) (fun e he hi => by
        have := (hk e he).1
        rw [hi] at this
        exact absurd this (Int.lt_irrefl _))
      have hlen : (pubL ⟨p.Next, o.Name, o.Key, o.Vars, o.Now + o.Keep, []⟩ p.Subs).2.2.length ≤ p.Subs.length := pubL_hits _ _
      refine ⟨h', g1, fun e he => ⟨?_, fun m hm hi => ?_⟩, by omega, by simp only; omega⟩
      · show e.1 < p.Next + 1
        rcases g2 e he with h | h
        · have := (hk e h).1; omega
        · rw [h]; show p.Next < p.Next + 1; omega
      · simp only at hm
        have hid := (pubL_id p.Subs ⟨p.Next, o.Name, o.Key, o.Vars, o.Now + o.Keep, []⟩).1
        have : m ∈ p.Mails ∨ m = (pubL ⟨p.Next, o.Name, o.Key, o.Vars, o.Now + o.Keep, []⟩ p.Subs).1 := by
          split at hm
          · simpa using hm
          · exact .inl hm
        rcases this with h6 | rfl
        · rcases g2 e he with h7 | h7
          · exact (hk e h7).2 m h6 hi
          · have := (hp.mails m h6).2
            rw [hi, h7] at this
            exact absurd this (Int.lt_irrefl _)
        · exact g3 e he (by rw [← hi, hid])
    · exact hz
  · split
    · split
      · rename_i h0
        obtain ⟨h1, h2, h3, h4, h5⟩ := openP_parts h0
        rw [h5]
        rcases openL_cases (subO o) p.Mails with ⟨g1, g2⟩ | ⟨a, x, b, g1, g2, g3⟩
        · rw [g2]
          exact ⟨h, rfl, known_same (Int.le_refl _) (fun m hm => hm) hk, by omega, by simp⟩
        · rw [g3]
          have hxm : x ∈ p.Mails := by rw [g1]; simp
          obtain ⟨s1, s2, s3, s4⟩ := suit_parts g2
          refine ⟨h ++ [(x.Id, TWho.mk o.Part o.Inst)], ⟨withM (subO o) x.Id, ins_self, rfl, rfl, rfl, fun t ht e1 e2 => ?_, fun e he hh => ?_, rfl⟩, fun e he => ?_, by simp, by simp⟩
          · have : hasK (subO o).Part (subO o).Id p.Subs = true := List.any_eq_true.2 ⟨t, ht, atB_iff.2 ⟨e1, e2⟩⟩
            rw [h3] at this
            cases this
          · obtain ⟨i1, i2⟩ := hh
            have := (hk e he).2 x hxm i1.symm
            rw [i2] at this
            change tookB x.Took (subO o).Part (subO o).Inst = true at this
            rw [s4] at this
            cases this
          · have hmem : ∀ t ∈ a ++ andM x (subO o) :: b, (t ∈ p.Mails ∧ (t.Id = x.Id → t = x)) ∨ t = andM x (subO o) := by
              intro t ht
              have hr := hp.rise
              rw [g1] at hr ⊢
              rw [List.pairwise_append] at hr
              obtain ⟨r1, r2, r3⟩ := hr
              obtain ⟨r4, r5⟩ := List.pairwise_cons.1 r2
              simp only [List.mem_append, List.mem_cons] at ht ⊢
              rcases ht with h | h | h
              · refine .inl ⟨.inl h, fun hi => ?_⟩
                have := r3 t h x (by simp)
                omega
              · exact .inr h
              · refine .inl ⟨.inr (.inr h), fun hi => ?_⟩
                have := r4 t h
                omega
            rcases List.mem_append.1 he with he | he
            · refine ⟨(hk e he).1, fun m hm hi => ?_⟩
              rcases hmem m hm with ⟨h6, _⟩ | rfl
              · exact (hk e he).2 m h6 hi
              · exact took_app ((hk e he).2 x hxm hi)
            · rw [List.mem_singleton] at he
              subst he
              refine ⟨(hp.mails x hxm).2, fun m hm hi => ?_⟩
              rcases hmem m hm with ⟨h6, h7⟩ | rfl
              · exfalso
                have h8 := h7 hi
                subst h8
                have hr := hp.rise
                rw [g1] at hr
                rw [List.pairwise_append] at hr
                obtain ⟨r1, r2, r3⟩ := hr
                obtain ⟨r4, r5⟩ := List.pairwise_cons.1 r2
                simp only [List.mem_append, List.mem_cons] at hm
                rcases hm with h | h | h
                · have := r3 m h m (by simp); omega
                · have := congrArg (fun z : TMail => z.Took.length) h
                  simp [andM] at this
                · have := r4 m h; omega
              · exact took_new _ _ _
      · exact hz
    · split
      · split
        · rename_i h0
          obtain ⟨h1, _⟩ := fine_close hp hn h0
          rw [h1]
          exact ⟨h, rfl, known_same (Int.le_refl _) (fun m hm => hm) hk, by omega, by simp⟩
        · exact hz
      · split
        · exact ⟨h, rfl, known_same (p := p) (q := expP p o.Now) (Int.le_refl _) (fun m hm => (List.mem_filter.1 hm).1) hk, by omega, by simp⟩
        · exact hz
/-! ### The law's loops -/
theorem once_l3 {rec2 : Int → List Int → List TWho → Option Bool} {r : TPost × List THit} {k : Nat} {h : List (Int × TWho)} {e4 : THit} {e5 : TSub} {x : THit} (hx : nthI r.2 (k : Int) = some x) (hl : h.length ≤ 1000000) (hno : ∀ e ∈ h, ¬ (e.1 = x.Mail ∧ e.2 = ⟨e4.Part, e5.Inst⟩)) :
    m_law22_PostOnce_l3 rec2 r (k : Int) (h.map (·.1)) (h.map (·.2)) e4 e5 ((((((h.map (·.1)).length : Nat) : Int)) - ((0 : Int))).toNat + 1) (0 : Int) = m_law22_PostOnce_k3 rec2 r (k : Int) (h.map (·.1)) (h.map (·.2)) e4 e5 := by
  refine loop0 (len := (h.map (·.1)).length) (R := fun _ o => o = m_law22_PostOnce_k3 rec2 r (k : Int) (h.map (·.1)) (h.map (·.2)) e4 e5) (f := m_law22_PostOnce_l3 rec2 r (k : Int) (h.map (·.1)) (h.map (·.2)) e4 e5) (by rw [List.length_map]; omega) (fun n => ?_) (fun n j hj hw ih => ?_)
  · rw [m_law22_PostOnce_l3, m_law22_PostOnce_l3_B, decide_eq_false nlt_k]
    rfl
  · have hj' : j < h.length := by rwa [List.length_map] at hj
    have hj2 : j < (h.map (·.2)).length := by rwa [List.length_map]
    rw [m_law22_PostOnce_l3, m_law22_PostOnce_l3_B, decide_eq_true (lt_k hj), if_pos rfl, nthI_lt hj, bnd_some, hx, bnd_some, nthI_lt hj2, bnd_some]
    unfold m_law22_PostOnce_k2
    rw [hw, ih]
    simp only [List.getElem_map]
    have hn := hno _ (List.getElem_mem hj')
    by_cases c1 : h[j].1 = x.Mail
    · rw [decide_eq_true c1, if_pos rfl]
      have c2 : ¬ (h[j].2.Part = e4.Part ∧ h[j].2.Inst = e5.Inst) := fun hh => hn ⟨c1, by
        have : h[j].2 = ⟨h[j].2.Part, h[j].2.Inst⟩ := rfl
        rw [this, hh.1, hh.2]⟩
      have c3 : (decide (h[j].2.Part = e4.Part) && decide (h[j].2.Inst = e5.Inst)) = false := by
        rw [Bool.eq_false_iff]
        intro hh
        simp only [Bool.and_eq_true, decide_eq_true_eq] at hh
        exact c2 hh
      rw [c3, if_neg Bool.false_ne_true]
    · rw [decide_eq_false c1, if_neg Bool.false_ne_true, if_neg Bool.false_ne_true]
theorem find_at {p : TPost} {a b : Int} {s : TSub} (hR : Rises p.Subs) (hs : s ∈ p.Subs) (h1 : s.Part = a) (h2 : s.Id = b) : hasK a b p.Subs = true ∧ ∃ h : lowK a b p.Subs < p.Subs.length, p.Subs[lowK a b p.Subs] = s := by
  have h3 : hasK a b p.Subs = true := List.any_eq_true.2 ⟨s, hs, atB_iff.2 ⟨h1, h2⟩⟩
  obtain ⟨h4, h5⟩ := (low_at hR).1 h3
  refine ⟨h3, h4, ?_⟩
  obtain ⟨e1, e2⟩ := atB_iff.1 h5
  exact uniq_of hR s hs _ (List.getElem_mem h4) (by rw [e1, h1]) (by rw [e2, h2])
theorem once_l2 {rec1 : Int → Int → List TMail → List TSub → List Int → List TWho → Option Bool} {i : Int} {p : TPost} {r : TPost × List THit} (hp : Rises p.Subs) (hpl : p.Subs.length ≤ 4096) (hq : Rises r.1.Subs) (hql : r.1.Subs.length ≤ 4096) (hl : r.2.length ≤ 4096) :
    ∀ (d k n : Nat) (h h' : List (Int × TWho)), r.2.length - k = d → k ≤ r.2.length → d < n → Chain p r.1 (r.2.drop k) h h' → h.length + d ≤ 1000000 →
    m_law22_PostOnce_l2 rec1 i p.Next p.Mails p.Subs r n (k : Int) (h.map (·.1)) (h.map (·.2)) = m_law22_PostOnce_k4 rec1 i r (h'.map (·.1)) (h'.map (·.2)) := by
  intro d
  induction d with
  | zero =>
    intro k n h h' hd hk hn hc _
    obtain ⟨n, rfl⟩ : ∃ n', n = n' + 1 := ⟨n - 1, by omega⟩
    have h1 : ¬ ((k : Int) < (r.2.length : Int)) := by omega
    rw [List.drop_eq_nil_of_le (by omega)] at hc
    have hc : h' = h := hc
    rw [m_law22_PostOnce_l2, m_law22_PostOnce_l2_B, decide_eq_false h1, if_neg Bool.false_ne_true, hc]
  | succ d ih =>
    intro k n h h' hd hk hn hc hb
    obtain ⟨n, rfl⟩ : ∃ n', n = n' + 1 := ⟨n - 1, by omega⟩
    have hk' : k < r.2.length := by omega
    rw [List.drop_eq_getElem_cons hk'] at hc
    obtain ⟨s, c1, c2, c3, c4, c5, c6, c7⟩ := hc
    obtain ⟨f1, f2, f3⟩ := find_at hq c1 c2 c3
    have e : TPost.mk p.Next p.Mails p.Subs = p := rfl
    have g1 : ¬ (((lowK r.2[k].Part r.2[k].Sub r.1.Subs : Nat) : Int) < 0) := by omega
    have hk1 : m_law22_PostOnce_k1 (m_law22_PostOnce_l2 rec1 i p.Next p.Mails p.Subs r n) r (k : Int) (h.map (·.1)) (h.map (·.2)) ((lowK r.2[k].Part r.2[k].Sub r.1.Subs : Nat) : Int) false = m_law22_PostOnce_k4 rec1 i r (h'.map (·.1)) (h'.map (·.2)) := by
      unfold m_law22_PostOnce_k1
      rw [if_neg Bool.false_ne_true, nthI_lt hk', bnd_some, nthI_lt f2, bnd_some, f3, once_l3 (nthI_lt hk') (by omega) c6]
      unfold m_law22_PostOnce_k3
      rw [nthI_lt hk', bnd_some, capB_small (by rw [List.length_map]; omega), if_pos rfl, capB_small (by rw [List.length_map]; omega), if_pos rfl, wrap_succ (by omega)]
      have := ih (k + 1) n (h ++ [(r.2[k].Mail, ⟨r.2[k].Part, s.Inst⟩)]) h' (by omega) (by omega) (by omega) c7 (by rw [List.length_append, List.length_singleton]; omega)
      rw [List.map_append, List.map_append] at this
      exact this
    rw [m_law22_PostOnce_l2, m_law22_PostOnce_l2_B, decide_eq_true (lt_k hk'), if_pos rfl, nthI_lt hk', bnd_some, ref_Find hql hq, bnd_some, e, ref_Find hpl hp, bnd_some, if_pos f1, decide_eq_false g1, if_neg Bool.false_ne_true, nthI_lt f2, bnd_some, f3]
    have c4' : ¬ (s.Mail ≠ r.2[k].Mail) := by simpa using c4
    rw [decide_eq_false c4', if_neg Bool.false_ne_true]
    cases hh : hasK r.2[k].Part r.2[k].Sub p.Subs with
    | false =>
      have g2 : ¬ ((0 : Int) ≤ -1) := by decide
      rw [if_neg Bool.false_ne_true, decide_eq_false g2, if_neg Bool.false_ne_true]
      exact hk1
    | true =>
      obtain ⟨q1, q2⟩ := (low_at hp).1 hh
      obtain ⟨q3, q4⟩ := atB_iff.1 q2
      have g2 : ((0 : Int) ≤ ((lowK r.2[k].Part r.2[k].Sub p.Subs : Nat) : Int)) := by omega
      have q5 : ¬ (p.Subs[lowK r.2[k].Part r.2[k].Sub p.Subs].Mail ≠ 0) := by simpa using c5 _ (List.getElem_mem q1) q3 q4
      rw [if_pos rfl, decide_eq_true g2, if_pos rfl, nthI_lt q1, bnd_some, decide_eq_false q5]
      exact hk1
theorem once_l1 {l : List TOp} (hl : l.length ≤ 60) (ho : ∀ o ∈ l, LightO o) : ∀ (d k n : Nat) (p : TPost) (h : List (Int × TWho)), l.length - k = d → k ≤ l.length → d < n → Fine k p → Known p h → h.length ≤ 5000 * k →
    m_law22_PostOnce_l1 l n (k : Int) p.Next p.Mails p.Subs (h.map (·.1)) (h.map (·.2)) = some true := by
  intro d
  induction d with
  | zero =>
    intro k n p h hd hk hn hp hm hb
    obtain ⟨n, rfl⟩ : ∃ n', n = n' + 1 := ⟨n - 1, by omega⟩
    have h1 : ¬ ((k : Int) < (l.length : Int)) := by omega
    rw [m_law22_PostOnce_l1, m_law22_PostOnce_l1_B, decide_eq_false h1]
    rfl
  | succ d ih =>
    intro k n p h hd hk hn hp hm hb
    obtain ⟨n, rfl⟩ : ∃ n', n = n' + 1 := ⟨n - 1, by omega⟩
    have hk' : k < l.length := by omega
    have e : TPost.mk p.Next p.Mails p.Subs = p := rfl
    have ho' := ho _ (List.getElem_mem hk')
    have hf := fine_step hp (by omega) ho'
    obtain ⟨h', g1, g2, g3, g4⟩ := once_step (o := l[k]) hp (by omega) hm
    have hc : ¬ (pchk (stepP p l[k]).1 ≠ 0) := by simpa using hf.chk
    rw [m_law22_PostOnce_l1, m_law22_PostOnce_l1_B, decide_eq_true (lt_k hk'), if_pos rfl, nthI_lt hk', bnd_some, e, step_eq hp (by omega) ho', bnd_some, post_Check hf.ok, bnd_some, decide_eq_false hc, if_neg Bool.false_ne_true]
    have h2 := once_l2 (rec1 := m_law22_PostOnce_l1 l n) (i := (k : Int)) (r := stepP p l[k]) hp.rises hp.sl hf.rises hf.sl g4 (stepP p l[k]).2.length 0 (((((stepP p l[k]).2.length : Int)) - ((0 : Int))).toNat + 1) h h' (by omega) (Nat.zero_le _) (by omega) g1 (by omega)
    rw [show (((0 : Nat) : Int)) = 0 from rfl] at h2
    rw [h2]
    unfold m_law22_PostOnce_k4
    rw [wrap_succ (by omega)]
    exact ih (k + 1) n _ h' (by omega) (by omega) (by omega) hf g2 (by omega)
theorem ans_PostOnce {l : List TOp} (hl : l.length ≤ big63) (ho : ∀ o ∈ l, OkO o) : m_law22_PostOnce l = some true := by
  have hwk : m_law22_works = some true := rfl
  obtain ⟨b, h1, h2⟩ := light_ops hl ho
  unfold m_law22_PostOnce
  rw [h1, bnd_some]
  cases b with
  | false => rw [if_neg Bool.false_ne_true, hwk, bnd_some]
  | true =>
    obtain ⟨h3, h4⟩ := h2 rfl
    have hn : m_post_New = some ⟨1, [], []⟩ := rfl
    rw [if_pos rfl, hn, bnd_some]
    exact once_l1 h3 h4 l.length 0 ((((l.length : Int)) - ((0 : Int))).toNat + 1) ⟨1, [], []⟩ [] (by omega) (Nat.zero_le _) (by omega) fine_new (fun e he => by simp at he) (by simp)
end Go.Proofs.Ytefjblgmnoheiaa.R

