/- What the members' functions compute, plainly: logs. -/
import Derived.Test.YtgoachcogmlhcaaMF
import Derived.IntWalk
set_option maxRecDepth 100000
set_option linter.unusedVariables false
set_option linter.unusedSimpArgs false
noncomputable section
namespace Go.Proofs.Ytgoachcogmlhcaa.R
open Go
def inR (n : Int) : Prop := -9223372036854775808 ≤ n ∧ n ≤ 9223372036854775807
theorem wrap_in {n : Int} (h : inR n) : IntKind.i64.wrap n = n := IntWalk.i64_in n h
theorem wrap_sm {n : Int} (h : -9000000000000 ≤ n ∧ n ≤ 9000000000000) : IntKind.i64.wrap n = n := wrap_in (by unfold inR; omega)
theorem wrap_nat {k : Nat} (h : k < 1000000000) : IntKind.i64.wrap ((k : Int) + 1) = ((k + 1 : Nat) : Int) := by
  rw [wrap_sm (by omega)]; rfl
theorem nthI_nat {α : Type} (l : List α) (k : Nat) : nthI l (k : Int) = l[k]? := by simp [nthI]
theorem nthI_lt {α : Type} {l : List α} {k : Nat} (h : k < l.length) : nthI l (k : Int) = some l[k] := by rw [nthI_nat, List.getElem?_eq_getElem h]
theorem nthI_int {α : Type} {l : List α} {i : Int} (h0 : 0 ≤ i) : nthI l i = l[i.toNat]? := by simp [nthI, h0]
theorem capB_small {n : Nat} (h : n ≤ 549755813888) : capB n = true := by
  unfold capB limN
  simpa using h
theorem u64_in {n : Int} (h0 : 0 ≤ n) (h1 : n < 18446744073709551616) : IntKind.u64.wrap n = n := by
  simp only [IntKind.wrap, IntKind.signed, IntKind.bits]
  simp
  omega
theorem sliceL_to {α : Type} {l : List α} {i : Int} (h0 : 0 ≤ i) (h1 : i ≤ (l.length : Int)) : sliceL l i l.length = some (l.drop i.toNat) := by
  unfold sliceL
  rw [if_pos ⟨h0, h1, Int.le_refl _⟩]
  simp
theorem sliceL_upto {α : Type} {l : List α} {i : Int} (h0 : 0 ≤ i) (h1 : i ≤ (l.length : Int)) : sliceL l 0 i = some (l.take i.toNat) := by
  unfold sliceL
  rw [if_pos ⟨Int.le_refl _, h0, h1⟩]
  simp
structure OkE (B : Int) (e : TEntry) : Prop where
  t : 0 ≤ e.Term ∧ e.Term ≤ B
  d : e.Data.length ≤ 1000
structure OkG (B : Int) (l : TLog) : Prop where
  b : 0 ≤ l.Base
  bt : 0 ≤ l.BaseTerm ∧ l.BaseTerm ≤ B
  last : l.Base + (l.Entries.length : Int) ≤ B
  e : ∀ x ∈ l.Entries, OkE B x
def lastL (l : TLog) : Int := l.Base + (l.Entries.length : Int)
def termL (l : TLog) (i : Int) : Option Int :=
  if i = l.Base then some l.BaseTerm else if i < l.Base ∨ lastL l < i then none else (l.Entries[(i - l.Base - 1).toNat]?).map TEntry.Term
def lastTermL (l : TLog) : Int := (termL l (lastL l)).getD 0
def newerL (l : TLog) (term at0 : Int) : Bool := decide (lastTermL l < term) || (decide (term = lastTermL l) && decide (lastL l ≤ at0))
def fromL (l : TLog) (at0 : Int) : List TEntry := if at0 ≤ l.Base ∨ lastL l < at0 then [] else (l.Entries.drop (at0 - l.Base - 1).toNat).take 8
theorem copied_loop {l : List TEntry} (hl : l.length ≤ 100000000) (hd : ∀ x ∈ l, x.Data.length ≤ 1000) : ∀ (m k n : Nat) (out : List TEntry), l.length - k = m → k ≤ l.length → m < n → out.length ≤ k → m_logs_copied_l1 l n (k : Int) out = some (out ++ l.drop k) := by
  intro m
  induction m with
  | zero =>
    intro k n out hm hk hn ho
    obtain ⟨n, rfl⟩ : ∃ n', n = n' + 1 := ⟨n - 1, by omega⟩
    have hk' : ¬ ((k : Int) < (l.length : Int)) := by omega
    rw [m_logs_copied_l1, m_logs_copied_l1_B, decide_eq_false hk', if_neg (by simp), List.drop_eq_nil_of_le (by omega), List.append_nil]
  | succ m ih =>
    intro k n out hm hk hn ho
    obtain ⟨n, rfl⟩ : ∃ n', n = n' + 1 := ⟨n - 1, by omega⟩
    have hlt : k < l.length := by omega
    have hk' : ((k : Int) < (l.length : Int)) := by omega
    have := hd _ (List.getElem_mem hlt)
    rw [m_logs_copied_l1, m_logs_copied_l1_B, decide_eq_true hk', if_pos rfl, nthI_lt hlt, bnd_some, if_pos (capB_small (by omega)), if_pos (capB_small (by omega)), wrap_nat (by omega), ih (k + 1) n _ (by omega) (by omega) (by omega) (by simp; omega), List.drop_eq_getElem_cons hlt]
    simp
theorem copied_eq {l : List TEntry} (hl : l.length ≤ 100000000) (hd : ∀ x ∈ l, x.Data.length ≤ 1000) : m_logs_copied l = some l := by
  have := copied_loop hl hd _ 0 ((((l.length : Int)) - ((0 : Int))).toNat + 1) [] rfl (Nat.zero_le _) (by omega) (by simp)
  unfold m_logs_copied
  simpa using this
section
variable {B : Int} {l : TLog}
theorem OkG.len (h : OkG B l) (hB : B ≤ 1000000) : l.Entries.length ≤ 1000000 := by have := h.last; have := h.b; omega
theorem logs_Copy (h : OkG B l) (hB : B ≤ 1000000) : m_logs_Copy l = some l := by
  have := h.len hB
  unfold m_logs_Copy
  rw [copied_eq (by omega) fun x hx => (h.e x hx).d, bnd_some]
theorem logs_Last (h : OkG B l) (hB : B ≤ 1000000) : m_logs_Last l = some (lastL l) := by
  have := h.last; have := h.b
  unfold m_logs_Last lastL
  rw [wrap_sm (by omega)]
theorem termL_out {i : Int} (h0 : i ≠ l.Base) (h : i < l.Base ∨ lastL l < i) : termL l i = none := by
  unfold termL
  rw [if_neg h0, if_pos h]
theorem logs_Term (h : OkG B l) (hB : B ≤ 1000000) {i : Int} (hi : -9000000 ≤ i ∧ i ≤ 9000000) : m_logs_Term l i = some ((termL l i).getD 0, (termL l i).isSome) := by
  have h1 := h.last; have h2 := h.b
  unfold m_logs_Term termL
  by_cases hb : i = l.Base
  · rw [decide_eq_true hb, if_pos rfl, if_pos hb]; rfl
  · rw [decide_eq_false hb, if_neg (by simp), if_neg hb]
    by_cases hlt : i < l.Base
    · rw [decide_eq_true hlt, if_pos rfl, if_pos (.inl hlt)]; rfl
    · rw [decide_eq_false hlt, if_neg (by simp), logs_Last h hB, bnd_some]
      by_cases hgt : lastL l < i
      · rw [decide_eq_true hgt, if_pos (.inr hgt)]; rfl
      · rw [decide_eq_false hgt, if_neg (by omega)]
        unfold lastL at hgt
        unfold m_logs_Term_k1
        have hlt2 : (i - l.Base - 1).toNat < l.Entries.length := by omega
        rw [if_neg (by simp), wrap_sm (n := i - l.Base) (by omega), wrap_sm (by omega), nthI_int (by omega), List.getElem?_eq_getElem hlt2, bnd_some]
        rfl
theorem lastL_r (h : OkG B l) (hB : B ≤ 1000000) : 0 ≤ lastL l ∧ lastL l ≤ B := by
  have := h.last; have := h.b
  unfold lastL
  omega
theorem logs_LastTerm (h : OkG B l) (hB : B ≤ 1000000) : m_logs_LastTerm l = some (lastTermL l) := by
  have := lastL_r h hB
  unfold m_logs_LastTerm
  rw [logs_Last h hB, bnd_some, logs_Term h hB (by omega), bnd_some]
  rfl
theorem logs_Newer (h : OkG B l) (hB : B ≤ 1000000) (term at0 : Int) : m_logs_Newer l term at0 = some (newerL l term at0) := by
  unfold m_logs_Newer newerL
  rw [logs_LastTerm h hB, bnd_some]
  by_cases h1 : lastTermL l < term
  · simp [h1]
  · by_cases h2 : term = lastTermL l
    · rw [decide_eq_false h1, if_neg (by simp), decide_eq_true h2, if_pos rfl, logs_Last h hB, bnd_some]
      simp
    · simp [h1, h2]
theorem termL_r (h : OkG B l) (hB : 0 ≤ B) (i : Int) : 0 ≤ (termL l i).getD 0 ∧ (termL l i).getD 0 ≤ B := by
  unfold termL
  split
  · exact h.bt
  · split
    · simp; omega
    · cases hx : l.Entries[(i - l.Base - 1).toNat]? with
      | none => simp; omega
      | some e => exact (h.e e (List.mem_of_getElem? hx)).t
theorem logs_From (h : OkG B l) (hB : B ≤ 1000000) {i : Int} (hi : -9000000 ≤ i ∧ i ≤ 9000000) : m_logs_From l i 8 = some (fromL l i) := by
  have h1 := h.last; have h2 := h.b; have h3 := h.len hB
  unfold m_logs_From fromL
  by_cases hb : i ≤ l.Base
  · rw [decide_eq_true hb, if_pos rfl, if_pos (.inl hb)]; rfl
  · rw [decide_eq_false hb, if_neg (by simp), logs_Last h hB, bnd_some]
    by_cases hgt : lastL l < i
    · rw [decide_eq_true hgt, if_pos rfl, if_pos (.inr hgt)]; rfl
    · rw [decide_eq_false hgt, if_neg (by simp), if_neg (by omega)]
      unfold lastL at hgt
      unfold m_logs_From_k1
      have hd : ∀ x ∈ (l.Entries.drop (i - l.Base - 1).toNat).take 8, x.Data.length ≤ 1000 := fun x hx => (h.e x (List.mem_of_mem_drop (List.mem_of_mem_take hx))).d
      rw [if_neg (by simp), wrap_sm (n := i - l.Base) (by omega), wrap_sm (by omega), sliceL_to (by omega) (by omega), bnd_some]
      have hcut : sliceL (l.Entries.drop (i - l.Base - 1).toNat) 0 (if ((l.Entries.drop (i - l.Base - 1).toNat).length : Int) < 8 then ((l.Entries.drop (i - l.Base - 1).toNat).length : Int) else 8) = some ((l.Entries.drop (i - l.Base - 1).toNat).take 8) := by
        split
        · rename_i hs
          rw [sliceL_upto (by omega) (by omega)]
          congr 1
          rw [List.take_of_length_le (by omega), List.take_of_length_le (by omega)]
        · rw [sliceL_upto (by omega) (by omega)]; rfl
      rw [hcut, bnd_some, copied_eq (by simp; omega) hd, bnd_some]
theorem logs_Behind (h : OkG B l) (hB : B ≤ 1000000) {e : TEntry} (he : e.Data.length ≤ 1000) : m_logs_Behind l e = some ⟨l.Base, l.BaseTerm, l.Entries ++ [e]⟩ := by
  have h3 := h.len hB
  unfold m_logs_Behind
  rw [logs_Copy h hB, bnd_some, if_pos (capB_small (by omega)), if_pos (capB_small (by omega))]
def compactL (l : TLog) (i : Int) : TLog := ⟨i, (termL l i).getD 0, l.Entries.drop (i - l.Base).toNat⟩
theorem logs_Compact (h : OkG B l) (hB : B ≤ 1000000) {i : Int} (hi : -9000000 ≤ i ∧ i ≤ 9000000) : m_logs_Compact l i = some (if (termL l i).isSome then (compactL l i, 0) else (⟨0, 0, []⟩, 2)) := by
  have h1 := h.last; have h2 := h.b; have h3 := h.len hB
  unfold m_logs_Compact
  rw [logs_Term h hB hi, bnd_some]
  cases ht : termL l i with
  | none => simp
  | some t =>
    have hin : l.Base ≤ i ∧ i ≤ lastL l := by
      unfold termL at ht
      split at ht
      · unfold lastL; omega
      · split at ht
        · cases ht
        · omega
    unfold lastL at hin
    have hd : ∀ x ∈ l.Entries.drop (i - l.Base).toNat, x.Data.length ≤ 1000 := fun x hx => (h.e x (List.mem_of_mem_drop hx)).d
    simp only [Option.isSome_some, if_true]
    rw [wrap_sm (by omega), sliceL_to (by omega) (by omega), bnd_some, copied_eq (by simp; omega) hd, bnd_some]
    simp [compactL, ht]
def resetL (l : TLog) (i term : Int) : TLog := if termL l i = some term then compactL l i else ⟨i, term, []⟩
theorem logs_Reset (h : OkG B l) (hB : B ≤ 1000000) {i term : Int} (hi : -9000000 ≤ i ∧ i ≤ 9000000) : m_logs_Reset l i term = some (resetL l i term) := by
  unfold m_logs_Reset resetL m_logs_Reset_k1
  rw [logs_Term h hB hi, bnd_some]
  cases ht : termL l i with
  | none => simp
  | some t =>
    by_cases he : t = term
    · simp [he, logs_Compact h hB hi, ht, bnd_some]
    · simp [he]
end
end Go.Proofs.Ytgoachcogmlhcaa.R
/- What the members' functions compute, plainly: entries put into a log. -/
set_option maxRecDepth 100000
set_option linter.unusedVariables false
set_option linter.unusedSimpArgs false
noncomputable section
namespace Go.Proofs.Ytgoachcogmlhcaa.R
open Go
def mergeL (ents : List TEntry) : Nat → List TEntry → List TEntry
  | _, [] => ents
  | k, e :: r => match ents[k]? with
    | some x => if x.Term = e.Term then mergeL ents (k + 1) r else ents.take k ++ (e :: r)
    | none => ents ++ (e :: r)
def hintN (l : TLog) (mine : Int) : Nat → Int
  | 0 => l.Base
  | k + 1 => if termL l (l.Base + (k + 1 : Nat)) = some mine then hintN l mine k else l.Base + (k + 1 : Nat)
def hintL (l : TLog) (at0 mine : Int) : Int := hintN l mine (at0 - 1 - l.Base).toNat
def putC (l : TLog) (at0 term : Int) (es : List TEntry) : TLog × Int × Bool :=
  match termL l at0 with
  | none => (l, lastL l, false)
  | some mine => if mine ≠ term then (l, hintL l at0 mine, false) else (⟨l.Base, l.BaseTerm, mergeL l.Entries (at0 - l.Base).toNat es⟩, at0 + (es.length : Int), true)
def putL (l : TLog) (at0 term : Int) (es : List TEntry) : TLog × Int × Bool :=
  if at0 < l.Base then (if (es.length : Int) < l.Base - at0 then (l, l.Base, true) else putC l l.Base l.BaseTerm (es.drop (l.Base - at0).toNat)) else putC l at0 term es
theorem hintN_r (l : TLog) (mine : Int) : ∀ k, l.Base ≤ hintN l mine k ∧ hintN l mine k ≤ l.Base + (k : Nat)
  | 0 => by simp [hintN]
  | k + 1 => by
    have := hintN_r l mine k
    unfold hintN
    split
    · omega
    · omega
section
variable {B : Int} {l : TLog}
theorem termL_some {i t : Int} (h : termL l i = some t) : l.Base ≤ i ∧ i ≤ lastL l := by
  unfold termL at h
  split at h
  · unfold lastL; omega
  · split at h
    · cases h
    · omega
theorem put_k3 (h : OkG B l) (hB : B ≤ 1000000) (x : Int) : m_logs_Put_k3 l x = some (l, (if x < l.Base then l.Base else x), false) := by
  unfold m_logs_Put_k3
  rw [logs_Copy h hB, bnd_some]
theorem hint_loop (h : OkG B l) (hB : B ≤ 1000000) (mine : Int) : ∀ (k n : Nat), (k : Int) ≤ 2000000 → k < n → m_logs_Put_l1 l (mine, true) n (l.Base + (k : Nat)) ((termL l (l.Base + (k : Nat))).getD 0) (termL l (l.Base + (k : Nat))).isSome = some (l, hintN l mine k, false) := by
  have hb1 := h.last; have hb2 := h.b
  intro k
  induction k with
  | zero =>
    intro n hk hn
    obtain ⟨n, rfl⟩ : ∃ n', n = n' + 1 := ⟨n - 1, by omega⟩
    have e0 : l.Base + ((0 : Nat) : Int) = l.Base := by omega
    rw [m_logs_Put_l1, m_logs_Put_l1_B, e0]
    have h1 : ∀ v, m_logs_Put_k2 (m_logs_Put_l1 l (mine, true) n) l l.Base v = some (l, l.Base, false) ∨ v = true := by
      intro v
      cases v with
      | true => exact .inr rfl
      | false =>
        left
        unfold m_logs_Put_k2
        rw [if_neg (by simp), put_k3 h hB, if_neg (by omega)]
    have h2 : m_logs_Put_k2 (m_logs_Put_l1 l (mine, true) n) l l.Base false = some (l, l.Base, false) := by
      rcases h1 false with h | h
      · exact h
      · cases h
    have hd : decide (l.Base < l.Base) = false := decide_eq_false (by omega)
    rw [hd, h2]
    simp [hintN]
  | succ k ih =>
    intro n hk hn
    obtain ⟨n, rfl⟩ : ∃ n', n = n' + 1 := ⟨n - 1, by omega⟩
    have hbase : l.Base < l.Base + ((k + 1 : Nat) : Int) := by omega
    have hprev : IntKind.i64.wrap (l.Base + ((k + 1 : Nat) : Int) - 1) = l.Base + (k : Nat) := by rw [wrap_sm (by omega)]; omega
    rw [m_logs_Put_l1, m_logs_Put_l1_B]
    have hno : m_logs_Put_k2 (m_logs_Put_l1 l (mine, true) n) l (l.Base + ((k + 1 : Nat) : Int)) false = some (l, l.Base + ((k + 1 : Nat) : Int), false) := by
      unfold m_logs_Put_k2
      rw [if_neg (by simp), put_k3 h hB, if_neg (by omega)]
    cases ht : termL l (l.Base + ((k + 1 : Nat) : Int)) with
    | none =>
      simp only [Option.isSome_none, Bool.false_eq_true, if_false]
      rw [hno]
      unfold hintN
      rw [ht, if_neg (by simp)]
    | some t =>
      simp only [Option.isSome_some, if_true]
      change (if decide (t = mine) = true then m_logs_Put_k2 (m_logs_Put_l1 l (mine, true) n) l (l.Base + ((k + 1 : Nat) : Int)) (decide (l.Base < l.Base + ((k + 1 : Nat) : Int))) else m_logs_Put_k2 (m_logs_Put_l1 l (mine, true) n) l (l.Base + ((k + 1 : Nat) : Int)) false) = _
      by_cases hm : t = mine
      · rw [decide_eq_true hm, if_pos rfl, decide_eq_true hbase]
        unfold m_logs_Put_k2
        rw [if_pos rfl, hprev, logs_Term h hB (by omega), bnd_some]
        simp only
        rw [ih n (by omega) (by omega)]
        conv => rhs; unfold hintN
        rw [ht, hm, if_pos rfl]
      · rw [decide_eq_false hm, if_neg (by simp), hno]
        unfold hintN
        rw [ht, if_neg (by simp [hm])]
theorem merge_loop (h : OkG B l) (hB : B ≤ 1000000) {k0 : Nat} {es : List TEntry} (hk0 : (k0 : Int) ≤ 1000000) (hes : es.length ≤ 1000) (hd : ∀ x ∈ es, x.Data.length ≤ 1000) :
    ∀ (m j n : Nat), es.length - j = m → j ≤ es.length → m < n → m_logs_Put_l2 l (l.Base + (k0 : Nat)) es l n (j : Int) = some (⟨l.Base, l.BaseTerm, mergeL l.Entries (k0 + j) (es.drop j)⟩, l.Base + (k0 : Nat) + (es.length : Int), true) := by
  have hb1 := h.last; have hb2 := h.b; have hlen := h.len hB
  have hk5 : ∀ out, m_logs_Put_k5 (l.Base + (k0 : Nat)) es l out = some (⟨l.Base, l.BaseTerm, out⟩, l.Base + (k0 : Nat) + (es.length : Int), true) := by
    intro out
    unfold m_logs_Put_k5
    rw [wrap_sm (by omega)]
  have hk4 : ∀ (j : Nat) out, j ≤ es.length → out.length ≤ 1000000 → m_logs_Put_k4 (l.Base + (k0 : Nat)) es l (j : Int) out = some (⟨l.Base, l.BaseTerm, out ++ es.drop j⟩, l.Base + (k0 : Nat) + (es.length : Int), true) := by
    intro j out hj ho
    unfold m_logs_Put_k4
    have e1 : ((j : Int)).toNat = j := by omega
    rw [sliceL_to (by omega) (by omega), bnd_some, e1, copied_eq (by simp; omega) fun x hx => hd x (List.mem_of_mem_drop hx), bnd_some, if_pos (capB_small (by simp; omega)), hk5]
  intro m
  induction m with
  | zero =>
    intro j n hm hj hn
    obtain ⟨n, rfl⟩ : ∃ n', n = n' + 1 := ⟨n - 1, by omega⟩
    have hj' : ¬ ((j : Int) < (es.length : Int)) := by omega
    rw [m_logs_Put_l2, m_logs_Put_l2_B, decide_eq_false hj', if_neg (by simp), List.drop_eq_nil_of_le (by omega), hk5]
    simp [mergeL]
  | succ m ih =>
    intro j n hm hj hn
    obtain ⟨n, rfl⟩ : ∃ n', n = n' + 1 := ⟨n - 1, by omega⟩
    have hlt : j < es.length := by omega
    have hj' : ((j : Int) < (es.length : Int)) := by omega
    have hpos : IntKind.i64.wrap (IntKind.i64.wrap (l.Base + (k0 : Nat) + (j : Int)) - l.Base) = ((k0 + j : Nat) : Int) := by
      rw [wrap_sm (n := l.Base + (k0 : Nat) + (j : Int)) (by omega), wrap_sm (by omega)]
      omega
    rw [m_logs_Put_l2, m_logs_Put_l2_B, decide_eq_true hj', if_pos rfl, nthI_lt hlt, bnd_some, hpos, List.drop_eq_getElem_cons hlt]
    by_cases hin : k0 + j < l.Entries.length
    · have h1 : (((k0 + j : Nat) : Int) < ((l.Entries.length : Nat) : Int)) := by omega
      have h2 : l.Entries[k0 + j]? = some l.Entries[k0 + j] := List.getElem?_eq_getElem hin
      rw [decide_eq_true h1, if_pos rfl, nthI_lt hin, bnd_some]
      simp only [mergeL, h2]
      by_cases ht : l.Entries[k0 + j].Term = es[j].Term
      · rw [decide_eq_true ht, if_pos rfl, if_pos ht, wrap_nat (by omega), ih (j + 1) n (by omega) (by omega) (by omega)]
        rfl
      · have e1 : (((k0 + j : Nat) : Int)).toNat = k0 + j := by omega
        rw [decide_eq_false ht, if_neg (by simp), if_neg ht, sliceL_upto (by omega) (by omega), bnd_some, e1, hk4 j _ (by omega) (by simp; omega), List.drop_eq_getElem_cons hlt]
    · have h1 : ¬ (((k0 + j : Nat) : Int) < ((l.Entries.length : Nat) : Int)) := by omega
      have h2 : l.Entries[k0 + j]? = none := List.getElem?_eq_none (by omega)
      rw [decide_eq_false h1, if_neg (by simp), hk4 j _ (by omega) (by omega), List.drop_eq_getElem_cons hlt]
      simp only [mergeL, h2]
theorem put_k1 (h : OkG B l) (hB : B ≤ 1000000) {at0 term : Int} (ha : l.Base ≤ at0 ∧ at0 ≤ 1000000) {es : List TEntry} (hes : es.length ≤ 1000) (hd : ∀ x ∈ es, x.Data.length ≤ 1000) : m_logs_Put_k1 l at0 term es = some (putC l at0 term es) := by
  have hb1 := h.last; have hb2 := h.b
  unfold m_logs_Put_k1 putC
  rw [logs_Term h hB (by omega), bnd_some]
  cases ht : termL l at0 with
  | none =>
    simp only [Option.isSome_none, Bool.false_eq_true, if_false]
    rw [logs_Copy h hB, bnd_some, logs_Last h hB, bnd_some]
  | some mine =>
    simp only [Option.isSome_some, if_true, Option.getD_some]
    by_cases hm : mine = term
    · have e0 : at0 = l.Base + ((at0 - l.Base).toNat : Nat) := by omega
      have hz := merge_loop h hB (k0 := (at0 - l.Base).toNat) (es := es) (by omega) hes hd _ 0 ((((es.length : Int)) - ((0 : Int))).toNat + 1) rfl (Nat.zero_le _) (by omega)
      simp only [hm, ne_eq, not_true_eq_false, decide_false, Bool.false_eq_true, if_false]
      rw [logs_Copy h hB, bnd_some]
      rw [← e0] at hz
      simpa using hz
    · simp only [ne_eq, hm, not_false_eq_true, decide_true, if_true]
      by_cases hlow : at0 - 1 < l.Base
      · have e1 : at0 = l.Base := by omega
        have ht1 : termL l (at0 - 1) = none := termL_out (by omega) (.inl (by omega))
        rw [wrap_sm (by omega), logs_Term h hB (by omega), bnd_some, ht1]
        simp only [Option.isSome_none, Option.getD_none]
        have : m_logs_Put_l1 l (mine, true) 1000000 (at0 - 1) 0 false = some (l, l.Base, false) := by
          show m_logs_Put_l1 l (mine, true) (999999 + 1) (at0 - 1) 0 false = _
          rw [m_logs_Put_l1, m_logs_Put_l1_B, if_neg (by simp)]
          unfold m_logs_Put_k2
          rw [if_neg (by simp), put_k3 h hB, if_pos (by omega)]
        rw [this]
        have e2 : (at0 - 1 - l.Base).toNat = 0 := by omega
        unfold hintL
        rw [e2]
        rfl
      · have e2 : at0 - 1 = l.Base + ((at0 - 1 - l.Base).toNat : Nat) := by omega
        have htm := termL_some ht
        have hz := hint_loop h hB mine (at0 - 1 - l.Base).toNat 1000000 (by omega) (by unfold lastL at htm; omega)
        rw [wrap_sm (by omega), logs_Term h hB (by omega), bnd_some]
        rw [← e2] at hz
        exact hz
theorem logs_Put (h : OkG B l) (hB : B ≤ 1000000) {at0 term : Int} (ha : 0 ≤ at0 ∧ at0 ≤ 1000000) {es : List TEntry} (hes : es.length ≤ 1000) (hd : ∀ x ∈ es, x.Data.length ≤ 1000) : m_logs_Put l at0 term es = some (putL l at0 term es) := by
  have hb1 := h.last; have hb2 := h.b
  unfold m_logs_Put putL
  by_cases hlt : at0 < l.Base
  · rw [decide_eq_true hlt, if_pos rfl, if_pos hlt, wrap_sm (by omega)]
    by_cases hs : (es.length : Int) < l.Base - at0
    · rw [decide_eq_true hs, if_pos rfl, if_pos hs, logs_Copy h hB, bnd_some]
    · rw [decide_eq_false hs, if_neg (by simp), if_neg hs, sliceL_to (by omega) (by omega), bnd_some, put_k1 h hB (by omega) (by simp; omega) fun x hx => hd x (List.mem_of_mem_drop hx)]
  · rw [decide_eq_false hlt, if_neg (by simp), if_neg hlt, put_k1 h hB (by omega) hes hd]
end
end Go.Proofs.Ytgoachcogmlhcaa.R
/- What the members' functions compute, plainly: majorities. -/
set_option maxRecDepth 100000
set_option linter.unusedVariables false
set_option linter.unusedSimpArgs false
noncomputable section
namespace Go.Proofs.Ytgoachcogmlhcaa.R
open Go
def cntB (l : List Bool) : Nat := l.countP (fun b => b)
def wonL (l : List Bool) : Bool := decide (l.length < 2 * cntB l)
theorem cntB_le (l : List Bool) : cntB l ≤ l.length := List.countP_le_length
theorem quorum_Enough {n : Nat} (h : n ≤ 1000) : m_quorum_Enough (n : Int) = some (if n = 0 then 0 else ((n / 2 + 1 : Nat) : Int)) := by
  unfold m_quorum_Enough
  by_cases h0 : n = 0
  · subst h0; simp
  · have h1 : ¬ ((n : Int) < 1) := by omega
    have h2 : (n : Int).tdiv 2 = ((n / 2 : Nat) : Int) := rfl
    rw [decide_eq_false h1, if_neg (by simp), if_neg h0, h2, wrap_sm (n := ((n / 2 : Nat) : Int)) (by omega), wrap_sm (by omega)]
    rfl
theorem won_loop {l : List Bool} (hl : l.length ≤ 1000) : ∀ (m k n : Nat), l.length - k = m → k ≤ l.length → m < n → m_quorum_Won_l1 l n ((cntB (l.take k) : Nat) : Int) (k : Int) = some (wonL l) := by
  intro m
  induction m with
  | zero =>
    intro k n hm hk hn
    obtain ⟨n, rfl⟩ : ∃ n', n = n' + 1 := ⟨n - 1, by omega⟩
    have hk' : ¬ ((k : Int) < (l.length : Int)) := by omega
    rw [m_quorum_Won_l1, m_quorum_Won_l1_B, decide_eq_false hk', if_neg (by simp), List.take_of_length_le (by omega)]
    unfold m_quorum_Won_k1 wonL
    have hc := cntB_le l
    by_cases h0 : l.length = 0
    · have h1 : ¬ (0 : Int) < (l.length : Int) := by omega
      rw [decide_eq_false h1, if_neg (by simp)]
      have : ¬ l.length < 2 * cntB l := by omega
      rw [decide_eq_false this]
    · have h1 : (0 : Int) < (l.length : Int) := by omega
      rw [decide_eq_true h1, if_pos rfl, quorum_Enough hl, bnd_some, if_neg h0]
      congr 1
      rw [decide_eq_decide]
      omega
  | succ m ih =>
    intro k n hm hk hn
    obtain ⟨n, rfl⟩ : ∃ n', n = n' + 1 := ⟨n - 1, by omega⟩
    have hlt : k < l.length := by omega
    have hk' : ((k : Int) < (l.length : Int)) := by omega
    have htake : l.take (k + 1) = l.take k ++ [l[k]] := by rw [List.take_succ_eq_append_getElem hlt]
    have hcl : cntB (l.take k) ≤ k := by have := cntB_le (l.take k); simp at this; omega
    rw [m_quorum_Won_l1, m_quorum_Won_l1_B, decide_eq_true hk', if_pos rfl, nthI_lt hlt, bnd_some]
    have hi := ih (k + 1) n (by omega) (by omega) (by omega)
    rw [htake] at hi
    cases hb : l[k] with
    | true =>
      rw [if_pos rfl, wrap_nat (by omega), wrap_nat (by omega)]
      rw [hb] at hi
      have : cntB (l.take k ++ [true]) = cntB (l.take k) + 1 := by simp [cntB]
      rw [this] at hi
      exact hi
    | false =>
      rw [if_neg (by simp), wrap_nat (by omega)]
      rw [hb] at hi
      have : cntB (l.take k ++ [false]) = cntB (l.take k) := by simp [cntB]
      rw [this] at hi
      exact hi
theorem quorum_Won {l : List Bool} (hl : l.length ≤ 1000) : m_quorum_Won l = some (wonL l) := by
  have := won_loop hl _ 0 ((((l.length : Int)) - ((0 : Int))).toNat + 1) rfl (Nat.zero_le _) (by omega)
  unfold m_quorum_Won
  simpa [cntB] using this
theorem less_eq (x y : Int) : m_cmp_Less_int x y = some (decide (x < y)) := by
  unfold m_cmp_Less_int m_cmp_isNaN_int
  simp [bnd_some]
theorem get_mid {α : Type} (A : List α) (x : α) (C : List α) : (A ++ x :: C)[A.length]? = some x := by simp
theorem set_mid {α : Type} (A : List α) (x y : α) (C : List α) : (A ++ x :: C).set A.length y = A ++ y :: C := by simp
theorem sort_inner {rec1 : Int → List Int → Option (List Int)} {i : Int} : ∀ (k : Nat) (A : List Int) (x : Int) (C D : List Int) (n : Nat), A.length = k → k < n → (A ++ x :: C ++ D).length ≤ 1000 → (A ++ C).Pairwise (· ≤ ·) → (∀ y ∈ C, x ≤ y) →
    ∃ S, S.Pairwise (· ≤ ·) ∧ S.Perm (A ++ x :: C) ∧ m_slices_insertionSortOrdered_int_l2 rec1 0 i n (k : Int) (A ++ x :: C ++ D) = rec1 (IntKind.i64.wrap (i + 1)) (S ++ D) := by
  intro k
  induction k with
  | zero =>
    intro A x C D n hA hn hlen hs hx
    obtain ⟨n, rfl⟩ : ∃ n', n = n' + 1 := ⟨n - 1, by omega⟩
    obtain rfl := List.eq_nil_of_length_eq_zero hA
    refine ⟨x :: C, List.pairwise_cons.2 ⟨hx, by simpa using hs⟩, List.Perm.refl _, ?_⟩
    rw [m_slices_insertionSortOrdered_int_l2, m_slices_insertionSortOrdered_int_l2_B]
    have : ¬ ((0 : Int) < ((0 : Nat) : Int)) := by omega
    rw [decide_eq_false this, if_neg (by simp)]
    unfold m_slices_insertionSortOrdered_int_k1 m_slices_insertionSortOrdered_int_k2
    rw [if_neg (by simp)]
    simp
  | succ k ih =>
    intro A x C D n hA hn hlen hs hx
    obtain ⟨n, rfl⟩ : ∃ n', n = n' + 1 := ⟨n - 1, by omega⟩
    obtain ⟨A', y, rfl⟩ : ∃ A' y, A = A' ++ [y] := by
      have hne : A ≠ [] := by intro h; subst h; simp at hA
      exact ⟨A.dropLast, A.getLast hne, (List.dropLast_concat_getLast hne).symm⟩
    have hA' : A'.length = k := by simpa using hA
    have hk : ((0 : Int) < ((k + 1 : Nat) : Int)) := by omega
    have hkl : k < 1000 := by simp at hlen; omega
    have hw : IntKind.i64.wrap (((k + 1 : Nat) : Int) - 1) = (k : Int) := by rw [wrap_sm (by omega)]; omega
    have e1 : A' ++ [y] ++ x :: C ++ D = A' ++ y :: (x :: (C ++ D)) := by simp
    have e2 : A' ++ [y] ++ x :: C ++ D = (A' ++ [y]) ++ x :: (C ++ D) := by simp
    have g1 : nthI (A' ++ [y] ++ x :: C ++ D) ((k + 1 : Nat) : Int) = some x := by
      rw [nthI_nat, e2, ← hA]; exact get_mid _ _ _
    have g2 : nthI (A' ++ [y] ++ x :: C ++ D) (k : Int) = some y := by
      rw [nthI_nat, e1, ← hA']; exact get_mid _ _ _
    have hs1 : setI (A' ++ [y] ++ x :: C ++ D) ((k + 1 : Nat) : Int) y = A' ++ y :: (y :: (C ++ D)) := by
      unfold setI
      have : (((k + 1 : Nat) : Int)).toNat = (A' ++ [y]).length := by rw [hA]; omega
      rw [e2, this, set_mid]
      simp
    have g3 : nthI (A' ++ y :: (y :: (C ++ D))) (k : Int) = some y := by rw [nthI_nat, ← hA']; exact get_mid _ _ _
    have hs2 : setI (A' ++ y :: (y :: (C ++ D))) (k : Int) x = A' ++ x :: (y :: C) ++ D := by
      unfold setI
      have : ((k : Int)).toNat = A'.length := by omega
      rw [this, set_mid]
      simp
    have hsA : (A' ++ y :: C).Pairwise (· ≤ ·) := by simpa using hs
    rw [m_slices_insertionSortOrdered_int_l2, m_slices_insertionSortOrdered_int_l2_B, decide_eq_true hk, if_pos rfl, g1, bnd_some, hw, g2, bnd_some, less_eq, bnd_some]
    unfold m_slices_insertionSortOrdered_int_k1 m_slices_insertionSortOrdered_int_k2
    by_cases hlt : x < y
    · rw [decide_eq_true hlt, if_pos rfl, hw, g2, bnd_some, g1, bnd_some, hs1, g3, bnd_some, hs2]
      obtain ⟨S, h1, h2, h3⟩ := ih A' x (y :: C) D n hA' (by omega) (by simp at hlen ⊢; omega) hsA (by
        intro z hz
        rcases List.mem_cons.1 hz with rfl | hz
        · omega
        · exact hx z hz)
      refine ⟨S, h1, h2.trans ?_, h3⟩
      have : (A' ++ x :: y :: C).Perm (A' ++ y :: x :: C) := List.Perm.append_left _ (List.Perm.swap _ _ _)
      simpa using this
    · rw [decide_eq_false hlt, if_neg (by simp)]
      refine ⟨A' ++ [y] ++ x :: C, ?_, List.Perm.refl _, by simp⟩
      have hp := List.pairwise_append.1 hs
      have hA2 := List.pairwise_append.1 hsA
      refine List.pairwise_append.2 ⟨hp.1, List.pairwise_cons.2 ⟨hx, hp.2.1⟩, ?_⟩
      intro a ha b hb
      rcases List.mem_cons.1 hb with rfl | hb
      · rcases List.mem_append.1 ha with ha | ha
        · have := hA2.2.2 a ha y List.mem_cons_self
          omega
        · simp at ha; omega
      · exact hp.2.2 a ha b hb
theorem sort_outer {len : Nat} (hlen : len ≤ 1000) : ∀ (m i n : Nat) (S D : List Int), len - i = m → S.length = i → S.length + D.length = len → m < n → S.Pairwise (· ≤ ·) →
    ∃ R, R.Pairwise (· ≤ ·) ∧ R.Perm (S ++ D) ∧ m_slices_insertionSortOrdered_int_l1 0 (len : Int) n (i : Int) (S ++ D) = some R := by
  intro m
  induction m with
  | zero =>
    intro i n S D hm hS hSD hn hs
    obtain ⟨n, rfl⟩ : ∃ n', n = n' + 1 := ⟨n - 1, by omega⟩
    have hD : D = [] := List.eq_nil_of_length_eq_zero (by omega)
    subst hD
    have : ¬ ((i : Int) < (len : Int)) := by omega
    refine ⟨S, hs, by simp, ?_⟩
    rw [m_slices_insertionSortOrdered_int_l1, m_slices_insertionSortOrdered_int_l1_B, decide_eq_false this, if_neg (by simp)]
    simp
  | succ m ih =>
    intro i n S D hm hS hSD hn hs
    obtain ⟨n, rfl⟩ : ∃ n', n = n' + 1 := ⟨n - 1, by omega⟩
    match D, hSD with
    | [], hSD => simp at hSD; omega
    | x :: D, hSD =>
      have hlt : ((i : Int) < (len : Int)) := by omega
      obtain ⟨S2, h1, h2, h3⟩ := sort_inner (rec1 := m_slices_insertionSortOrdered_int_l1 0 (len : Int) n) (i := (i : Int)) i S x [] D 1000000 hS (by omega) (by simp at hSD ⊢; omega) (by simpa using hs) (by simp)
      have hl2 : S2.length = i + 1 := by have := h2.length_eq; simp at this; omega
      obtain ⟨R, q1, q2, q3⟩ := ih (i + 1) n S2 D (by omega) hl2 (by simp at hSD; omega) (by omega) h1
      refine ⟨R, q1, q2.trans ?_, ?_⟩
      · have := h2.append_right D
        simpa using this
      · have e1 : S ++ x :: D = S ++ x :: [] ++ D := by simp
        rw [m_slices_insertionSortOrdered_int_l1, m_slices_insertionSortOrdered_int_l1_B, decide_eq_true hlt, if_pos rfl, e1, h3, wrap_nat (by omega)]
        exact q3
theorem sort_ok {l : List Int} (hl : l.length ≤ 12) (h0 : 0 < l.length) : ∃ R, R.Pairwise (· ≤ ·) ∧ R.Perm l ∧ m_slices_Sort_int_int l = some R := by
  obtain ⟨x, D, rfl⟩ : ∃ x D, l = x :: D := by
    cases l with
    | nil => simp at h0
    | cons x D => exact ⟨x, D, rfl⟩
  obtain ⟨R, h1, h2, h3⟩ := sort_outer (len := (x :: D).length) (by omega) _ 1 ((((x :: D).length : Int) - 1).toNat + 1) [x] D rfl rfl (by simp; omega) (by omega) (by simp)
  refine ⟨R, h1, h2, ?_⟩
  have hins : m_slices_insertionSortOrdered_int (x :: D) 0 ((x :: D).length : Int) = some R := by
    unfold m_slices_insertionSortOrdered_int
    have : IntKind.i64.wrap ((0 : Int) + 1) = ((1 : Nat) : Int) := by rw [wrap_sm (by omega)]; rfl
    rw [this]
    exact h3
  have hlen : R.length = (x :: D).length := h2.length_eq
  have hbits : ∃ r, m_math_bits_Len (IntKind.u64.wrap (((x :: D).length : Nat) : Int)) = some r := by
    rw [u64_in (by omega) (by omega)]
    unfold m_math_bits_Len m_math_bits_Len64
    have a1 : ¬ (4294967296 : Int) ≤ (((x :: D).length : Nat) : Int) := by omega
    have a2 : ¬ (65536 : Int) ≤ (((x :: D).length : Nat) : Int) := by omega
    have a3 : ¬ (256 : Int) ≤ (((x :: D).length : Nat) : Int) := by omega
    have a4 : IntKind.u8.wrap (((x :: D).length : Nat) : Int) = (((x :: D).length : Nat) : Int) := by
      simp only [IntKind.wrap, IntKind.signed, IntKind.bits]
      simp
      simp at hl
      omega
    rw [decide_eq_false a1, if_neg (by simp)]
    unfold m_math_bits_Len64_k1
    rw [decide_eq_false a2, if_neg (by simp)]
    unfold m_math_bits_Len64_k2
    rw [decide_eq_false a3, if_neg (by simp)]
    unfold m_math_bits_Len64_k3
    rw [a4]
    unfold nthS
    rw [if_pos (by omega)]
    have e1 : (((x :: D).length : Nat) : Int).toNat = (x :: D).length := by omega
    rw [e1, List.getElem?_eq_getElem (by show (x :: D).length < 256; omega)]
    exact ⟨_, rfl⟩
  obtain ⟨b, hb⟩ := hbits
  unfold m_slices_Sort_int_int
  rw [hb, bnd_some]
  have hp : m_slices_pdqsortOrdered_int (x :: D) 0 (((x :: D).length : Nat) : Int) b = some R := by
    show m_slices_pdqsortOrdered_int_l1 (x :: D) 0 (((x :: D).length : Nat) : Int) b (999999 + 1) = some R
    rw [m_slices_pdqsortOrdered_int_l1, m_slices_pdqsortOrdered_int_l1_B]
    have : IntKind.i64.wrap ((((x :: D).length : Nat) : Int) - 0) ≤ 12 := by rw [wrap_sm (by omega)]; omega
    rw [decide_eq_true this, if_pos rfl, hins, bnd_some, decide_eq_true hlen, if_pos rfl]
  rw [hp, bnd_some, decide_eq_true hlen, if_pos rfl]
def cntGE (l : List Int) (c : Int) : Nat := l.countP (fun x => decide (c ≤ x))
structure Reach (l : List Int) (c : Int) : Prop where
  mem : c ∈ l
  maj : l.length < 2 * cntGE l c
  top : ∀ y ∈ l, l.length < 2 * cntGE l y → y ≤ c
theorem Reach.uniq {l : List Int} {c d : Int} (h : Reach l c) (h' : Reach l d) : c = d := by
  have := h.top d h'.mem h'.maj
  have := h'.top c h.mem h.maj
  omega
open Classical in
def reachedL (l : List Int) : Int := if h : ∃ c, Reach l c then Classical.choose h else 0
theorem reachedL_eq {l : List Int} {c : Int} (h : Reach l c) : reachedL l = c := by
  unfold reachedL
  have hx : ∃ c, Reach l c := ⟨c, h⟩
  rw [dif_pos hx]
  exact (Classical.choose_spec hx).uniq h
theorem countP_all {p : Int → Bool} : ∀ {l : List Int}, (∀ x ∈ l, p x = true) → l.countP p = l.length
  | [], _ => rfl
  | x :: l, h => by
    have h1 := h x List.mem_cons_self
    have h2 := countP_all (l := l) fun y hy => h y (List.mem_cons_of_mem _ hy)
    simp [List.countP_cons, h1, h2]
theorem countP_none {p : Int → Bool} : ∀ {l : List Int}, (∀ x ∈ l, p x = false) → l.countP p = 0
  | [], _ => rfl
  | x :: l, h => by
    have h1 := h x List.mem_cons_self
    have h2 := countP_none (l := l) fun y hy => h y (List.mem_cons_of_mem _ hy)
    simp [List.countP_cons, h1, h2]
theorem reach_sorted {l R : List Int} (hs : R.Pairwise (· ≤ ·)) (hp : R.Perm l) (h0 : 0 < l.length) : ∃ c, R[l.length - (l.length / 2 + 1)]? = some c ∧ Reach l c := by
  have hlen := hp.length_eq
  have hk : l.length - (l.length / 2 + 1) < R.length := by omega
  refine ⟨R[l.length - (l.length / 2 + 1)], List.getElem?_eq_getElem hk, ?_⟩
  generalize hkk : l.length - (l.length / 2 + 1) = k at hk
  have hcnt : ∀ c, cntGE l c = cntGE R c := fun c => (hp.countP_eq _).symm
  have hsplit : R = R.take k ++ R[k] :: R.drop (k + 1) := by rw [← List.drop_eq_getElem_cons hk, List.take_append_drop]
  have hmem : R[k] ∈ R := List.getElem_mem hk
  generalize R[k] = a at hsplit hmem ⊢
  have hpw := hs
  rw [hsplit] at hpw
  have hpa := List.pairwise_append.1 hpw
  have hpc := List.pairwise_cons.1 hpa.2.1
  refine ⟨hp.mem_iff.1 hmem, ?_, ?_⟩
  · rw [hcnt]
    have : cntGE R a ≥ l.length / 2 + 1 := by
      unfold cntGE
      conv => lhs; rw [hsplit]
      rw [List.countP_append]
      have h1 : (a :: R.drop (k + 1)).countP (fun x => decide (a ≤ x)) = (a :: R.drop (k + 1)).length := countP_all fun x hx => by
        rcases List.mem_cons.1 hx with rfl | hx
        · simp
        · simpa using hpc.1 x hx
      have h2 : (a :: R.drop (k + 1)).length = l.length / 2 + 1 := by simp; omega
      omega
    omega
  · intro y hy hmaj
    rw [hcnt] at hmaj
    rcases Int.lt_or_le a y with hlt | hle
    · exfalso
      have : cntGE R y ≤ l.length / 2 := by
        unfold cntGE
        conv => lhs; rw [hsplit]
        rw [List.countP_append, List.countP_cons]
        have h1 : (R.take k).countP (fun x => decide (y ≤ x)) = 0 := countP_none fun x hx => by
          have := hpa.2.2 x hx a List.mem_cons_self
          simp; omega
        have h2 : ¬ y ≤ a := by omega
        have h3 : (R.drop (k + 1)).countP (fun x => decide (y ≤ x)) ≤ (R.drop (k + 1)).length := List.countP_le_length
        have h4 : (R.drop (k + 1)).length = l.length / 2 := by simp; omega
        simp [h1, h2]
        omega
      omega
    · exact hle
theorem quorum_Reached {l : List Int} (hl : l.length ≤ 12) (h0 : 0 < l.length) : m_quorum_Reached l = some (reachedL l) ∧ Reach l (reachedL l) := by
  obtain ⟨R, h1, h2, h3⟩ := sort_ok hl h0
  obtain ⟨c, h4, h5⟩ := reach_sorted h1 h2 h0
  have hc := reachedL_eq h5
  refine ⟨?_, by rw [hc]; exact h5⟩
  have hlen := h2.length_eq
  unfold m_quorum_Reached
  rw [quorum_Enough (by omega), bnd_some, if_neg (by omega)]
  unfold m_quorum_nth_int
  have a1 : ¬ (((l.length / 2 + 1 : Nat) : Int) < 1) := by omega
  have a2 : ¬ ((l.length : Int) < ((l.length / 2 + 1 : Nat) : Int)) := by omega
  rw [decide_eq_false a1, if_neg (by simp), decide_eq_false a2]
  unfold m_quorum_nth_int_k1
  have e1 : IntKind.i64.wrap (((l.length : Nat) : Int) - ((l.length / 2 + 1 : Nat) : Int)) = ((l.length - (l.length / 2 + 1) : Nat) : Int) := by rw [wrap_sm (by omega)]; omega
  rw [if_neg (by simp), if_pos (capB_small (by omega)), h3, bnd_some, decide_eq_true hlen, if_pos rfl, e1, nthI_nat, h4, bnd_some, bnd_some, hc]
end Go.Proofs.Ytgoachcogmlhcaa.R
/- What the members' functions compute, plainly: who sends what, who asks, stands, leads. -/
set_option maxRecDepth 100000
set_option linter.unusedVariables false
set_option linter.unusedSimpArgs false
noncomputable section
namespace Go.Proofs.Ytgoachcogmlhcaa.R
open Go
structure OkR (B : Int) (r : TRaft) : Prop where
  id : 1 ≤ r.Id ∧ r.Id ≤ r.N
  n : r.N ≤ 7
  term : 0 ≤ r.Term ∧ r.Term ≤ B
  vote : 0 ≤ r.Vote ∧ r.Vote ≤ 7
  commit : 0 ≤ r.Commit ∧ r.Commit ≤ B
  clock : 0 ≤ r.Clock ∧ r.Clock ≤ B
  wait : 0 ≤ r.Wait ∧ r.Wait ≤ 20
  log : OkG B r.Log
  snap : r.Snap.length ≤ 1000
  gl : r.Granted.length ≤ 7
  nl : r.Next.length ≤ 7
  ml : r.Match.length ≤ 7
  ga : r.Role = 1 ∨ r.Role = 2 → (r.Granted.length : Int) = r.N
  na : r.Role = 3 → (r.Next.length : Int) = r.N
  ma : r.Role = 3 → (r.Match.length : Int) = r.N
  nb : ∀ x ∈ r.Next, 1 ≤ x ∧ x ≤ B + 1
  mb : ∀ x ∈ r.Match, 0 ≤ x ∧ x ≤ B
def othersF (id : Int) : Nat → Int → List Int
  | 0, _ => []
  | k + 1, to => if to ≠ id then to :: othersF id k (to + 1) else othersF id k (to + 1)
def othersR (r : TRaft) : List Int := othersF r.Id r.N.toNat 1
def nextR (r : TRaft) (to : Int) : Int := (r.Next[(to - 1).toNat]?).getD 0
def tellR (r : TRaft) (to : Int) : TMsg :=
  if nextR r to ≤ r.Log.Base then ⟨7, 0, r.Id, to, r.Term, r.Log.Base, r.Log.BaseTerm, r.Commit, false, [], r.Snap⟩
  else ⟨5, 0, r.Id, to, r.Term, nextR r to - 1, (termL r.Log (nextR r to - 1)).getD 0, r.Commit, false, fromL r.Log (nextR r to), []⟩
def followR (r : TRaft) (term lead : Int) : TRaft :=
  ⟨r.Id, r.N, if r.Term < term then term else r.Term, if r.Term < term then 0 else r.Vote, 0, lead, r.Log, r.Commit, r.Snap, [], [], [], r.Clock, r.Wait⟩
def commitR (r : TRaft) : TRaft :=
  if termL r.Log (reachedL r.Match) = some r.Term ∧ r.Commit < reachedL r.Match then { r with Commit := reachedL r.Match } else r
def behindR (r : TRaft) (data : List Int) : TRaft :=
  { r with Log := ⟨r.Log.Base, r.Log.BaseTerm, r.Log.Entries ++ [⟨r.Term, data⟩]⟩, Match := setI r.Match (r.Id - 1) (lastL r.Log + 1) }
def appendR (r : TRaft) (data : List Int) : TRaft × List TMsg := (commitR (behindR r data), (othersR r).map (tellR (commitR (behindR r data))))
def leadQ (r : TRaft) : TRaft :=
  { followR r r.Term r.Id with Role := 3, Clock := 0, Next := List.replicate r.N.toNat (lastL r.Log + 1), Match := List.replicate r.N.toNat 0 }
def leadR (r : TRaft) : TRaft × List TMsg := appendR (leadQ r) []
def oneG (r : TRaft) : List Bool := setI (List.replicate r.N.toNat false) (r.Id - 1) true
def standQ (r : TRaft) : TRaft := { followR r (r.Term + 1) 0 with Vote := r.Id, Role := 2, Clock := 0, Granted := oneG r }
def voteM (r : TRaft) (to : Int) : TMsg := ⟨3, 0, r.Id, to, r.Term, lastL r.Log, lastTermL r.Log, 0, false, [], []⟩
def standR (r : TRaft) : TRaft × List TMsg := if wonL (oneG r) = true then leadR (standQ r) else (standQ r, (othersR r).map (voteM (standQ r)))
def waitR (draw : Int) : Int := 10 + (IntKind.u64.wrap draw) % 10
def askQ (r : TRaft) (draw : Int) : TRaft := { followR r r.Term 0 with Role := 1, Clock := 0, Wait := waitR draw, Granted := oneG r }
def askM (r : TRaft) (to : Int) : TMsg := ⟨1, 0, r.Id, to, r.Term + 1, lastL r.Log, lastTermL r.Log, 0, false, [], []⟩
def askR (r : TRaft) (draw : Int) : TRaft × List TMsg := if wonL (oneG r) = true then standR (askQ r draw) else (askQ r draw, (othersR r).map (askM (askQ r draw)))
theorem all_loop {F : Nat → Int → Tmember → Option Tmember} {step : Int → Tmember → Option Tmember} {g : Int → TMsg} {r : TRaft}
    (hF : ∀ n to m, F (n + 1) to m = if decide (to ≤ m.Raft.N) = true then (if decide (to ≠ m.Raft.Id) = true then bnd (step to m) (fun q => F n (IntKind.i64.wrap (to + 1)) q) else F n (IntKind.i64.wrap (to + 1)) m) else some m)
    (hN : r.N ≤ 7) (hs : ∀ to out, 1 ≤ to → to ≤ r.N → to ≠ r.Id → out.length ≤ 100 → step to ⟨r, out⟩ = some ⟨r, out ++ [g to]⟩) :
    ∀ (k n : Nat) (to : Int) (out : List TMsg), 1 ≤ to → to ≤ 9 → (r.N - to + 1).toNat = k → k < n → out.length ≤ 50 - k → F n to ⟨r, out⟩ = some ⟨r, out ++ (othersF r.Id k to).map g⟩ := by
  intro k
  induction k with
  | zero =>
    intro n to out h1 h9 hk hn ho
    obtain ⟨n, rfl⟩ : ∃ n', n = n' + 1 := ⟨n - 1, by omega⟩
    have : ¬ to ≤ r.N := by omega
    rw [hF, decide_eq_false this, if_neg (by simp)]
    simp [othersF]
  | succ k ih =>
    intro n to out h1 h9 hk hn ho
    obtain ⟨n, rfl⟩ : ∃ n', n = n' + 1 := ⟨n - 1, by omega⟩
    have hle : to ≤ r.N := by omega
    rw [hF, decide_eq_true hle, if_pos rfl, wrap_sm (by omega)]
    by_cases hid : to = r.Id
    · have : ¬ (to ≠ r.Id) := fun h => h hid
      simp only [this, decide_false, Bool.false_eq_true, if_false]
      rw [ih n (to + 1) out (by omega) (by omega) (by omega) (by omega) (by omega)]
      simp [othersF, hid]
    · simp only [ne_eq, hid, not_false_eq_true, decide_true, if_true]
      rw [hs to out h1 hle hid (by omega), bnd_some, ih n (to + 1) _ (by omega) (by omega) (by omega) (by omega) (by simp; omega)]
      simp [othersF, hid]
theorem all_loop0 {F : Nat → Int → Tmember → Option Tmember} {step : Int → Tmember → Option Tmember} {g : Int → TMsg} {r : TRaft}
    (hF : ∀ n to m, F (n + 1) to m = if decide (to ≤ m.Raft.N) = true then (if decide (to ≠ m.Raft.Id) = true then bnd (step to m) (fun q => F n (IntKind.i64.wrap (to + 1)) q) else F n (IntKind.i64.wrap (to + 1)) m) else some m)
    (hN0 : 0 ≤ r.N) (hN : r.N ≤ 7) (hs : ∀ to out, 1 ≤ to → to ≤ r.N → to ≠ r.Id → out.length ≤ 100 → step to ⟨r, out⟩ = some ⟨r, out ++ [g to]⟩) (out : List TMsg) (ho : out.length ≤ 40) :
    F 1000000 1 ⟨r, out⟩ = some ⟨r, out ++ (othersR r).map g⟩ := by
  have := all_loop hF hN hs (r.N - 1 + 1).toNat 1000000 1 out (by omega) (by omega) rfl (by omega) (by omega)
  rw [this]
  have e : (r.N - 1 + 1).toNat = r.N.toNat := by omega
  rw [e]
  rfl
theorem send_eq {to : Int} {x : TMsg} {m : Tmember} (h : m.f_out.length ≤ 100000) : m_raft_member_send to x m = some ⟨m.Raft, m.f_out ++ [⟨x.Kind, x.Group, m.Raft.Id, to, x.Term, x.At, x.AtTerm, x.Commit, x.Ok, x.Entries, x.Data⟩]⟩ := by
  unfold m_raft_member_send
  rw [if_pos (capB_small (by omega))]
theorem send2_eq {to : Int} {x : TMsg} {m : Tmember} (h : m.f_out.length ≤ 100000) : m_raft_member_send_v2 to x m = some ⟨m.Raft, m.f_out ++ [⟨x.Kind, x.Group, m.Raft.Id, to, x.Term, x.At, x.AtTerm, x.Commit, x.Ok, [], []⟩]⟩ := by
  unfold m_raft_member_send_v2
  rw [if_pos (capB_small (by omega))]
theorem send3_eq {to : Int} {x : TMsg} {m : Tmember} (h : m.f_out.length ≤ 100000) : m_raft_member_send_v3 to x m = some ⟨m.Raft, m.f_out ++ [⟨x.Kind, x.Group, m.Raft.Id, to, x.Term, x.At, x.AtTerm, x.Commit, x.Ok, [], []⟩]⟩ := by
  unfold m_raft_member_send_v3
  rw [if_pos (capB_small (by omega))]
theorem send4_eq {to : Int} {x : TMsg} {m : Tmember} (h : m.f_out.length ≤ 100000) : m_raft_member_send_v4 to x m = some ⟨m.Raft, m.f_out ++ [⟨x.Kind, x.Group, m.Raft.Id, to, x.Term, x.At, x.AtTerm, x.Commit, x.Ok, [], []⟩]⟩ := by
  unfold m_raft_member_send_v4
  rw [if_pos (capB_small (by omega))]
structure OkT (B : Int) (r : TRaft) : Prop where
  n : r.N ≤ 7
  n0 : 0 ≤ r.N
  log : OkG B r.Log
  snap : r.Snap.length ≤ 1000
  na : (r.Next.length : Int) = r.N
  nb : ∀ x ∈ r.Next, 1 ≤ x ∧ x ≤ B + 1
section
variable {B : Int} {r : TRaft}
theorem next_ok (h : OkT B r) {to : Int} (h1 : 1 ≤ to) (h2 : to ≤ r.N) : nthI r.Next (to - 1) = some (nextR r to) ∧ 1 ≤ nextR r to ∧ nextR r to ≤ B + 1 := by
  have hlt : (to - 1).toNat < r.Next.length := by have := h.na; omega
  unfold nextR
  rw [nthI_int (by omega), List.getElem?_eq_getElem hlt]
  exact ⟨rfl, h.nb _ (List.getElem_mem hlt)⟩
theorem tell_gen {S : Int → TMsg → Tmember → Option Tmember} {T : Int → Tmember → Option Tmember}
    (hT : ∀ to m, T to m = bnd (nthI m.Raft.Next (IntKind.i64.wrap (to - (1 : Int)))) fun e =>
      if (decide (e ≤ m.Raft.Log.Base)) = true then
        if (capB (m.Raft.Snap).length) = true then bnd (S to (TMsg.mk (7 : Int) (0 : Int) (0 : Int) (0 : Int) m.Raft.Term m.Raft.Log.Base m.Raft.Log.BaseTerm m.Raft.Commit false [] m.Raft.Snap) m) fun r0_2 => some r0_2 else none
      else
        bnd (m_logs_Term m.Raft.Log (IntKind.i64.wrap (e - (1 : Int)))) fun r0 => bnd (m_logs_From m.Raft.Log e (8 : Int)) fun r0_1 =>
        bnd (S to (TMsg.mk (5 : Int) (0 : Int) (0 : Int) (0 : Int) m.Raft.Term (IntKind.i64.wrap (e - (1 : Int))) r0.1 m.Raft.Commit false r0_1 []) m) fun r0_2 => some r0_2)
    (hS : ∀ to x (m : Tmember), m.f_out.length ≤ 100000 → S to x m = some ⟨m.Raft, m.f_out ++ [⟨x.Kind, x.Group, m.Raft.Id, to, x.Term, x.At, x.AtTerm, x.Commit, x.Ok, x.Entries, x.Data⟩]⟩)
    (h : OkT B r) (hB : B ≤ 1000000) {to : Int} (h1 : 1 ≤ to) (h2 : to ≤ r.N) {out : List TMsg} (ho : out.length ≤ 100) : T to ⟨r, out⟩ = some ⟨r, out ++ [tellR r to]⟩ := by
  obtain ⟨e1, e2, e3⟩ := next_ok h h1 h2
  have hn := h.n
  rw [hT]
  simp only
  rw [wrap_sm (by omega), e1, bnd_some]
  unfold tellR
  by_cases hb : nextR r to ≤ r.Log.Base
  · rw [decide_eq_true hb, if_pos rfl, if_pos hb, if_pos (capB_small (by have := h.snap; omega)), hS _ _ _ (by simp only; omega), bnd_some]
  · rw [decide_eq_false hb, if_neg (by simp), if_neg hb, wrap_sm (by omega), logs_Term h.log hB (by omega), bnd_some, logs_From h.log hB (by omega), bnd_some, hS _ _ _ (by simp only; omega), bnd_some]
theorem tell1_eq (h : OkT B r) (hB : B ≤ 1000000) {to : Int} (h1 : 1 ≤ to) (h2 : to ≤ r.N) {out : List TMsg} (ho : out.length ≤ 100) : m_raft_member_tell_v1 to ⟨r, out⟩ = some ⟨r, out ++ [tellR r to]⟩ :=
  tell_gen (S := m_raft_member_send) (fun _ _ => rfl) (fun _ _ _ h => send_eq h) h hB h1 h2 ho
theorem tell_eq (h : OkT B r) (hB : B ≤ 1000000) {to : Int} (h1 : 1 ≤ to) (h2 : to ≤ r.N) {out : List TMsg} (ho : out.length ≤ 100) : m_raft_member_tell to ⟨r, out⟩ = some ⟨r, out ++ [tellR r to]⟩ :=
  tell_gen (S := m_raft_member_send) (fun _ _ => rfl) (fun _ _ _ h => send_eq h) h hB h1 h2 ho
theorem all_eq (h : OkT B r) (hB : B ≤ 1000000) {out : List TMsg} (ho : out.length ≤ 40) : m_raft_member_all ⟨r, out⟩ = some ⟨r, out ++ (othersR r).map (tellR r)⟩ :=
  all_loop0 (F := fun n to m => m_raft_member_all_l1 n to m.Raft.Id m.Raft.N m.Raft.Term m.Raft.Vote m.Raft.Role m.Raft.Lead m.Raft.Log.Base m.Raft.Log.BaseTerm m.Raft.Log.Entries m.Raft.Commit m.Raft.Clock m.Raft.Wait m.Raft.Snap m.Raft.Granted m.Raft.Next m.Raft.Match m.f_out) (step := m_raft_member_tell_v1) (fun _ _ _ => rfl) h.n0 h.n (fun _ _ h1 h2 _ ho => tell1_eq h hB h1 h2 ho) out ho
theorem all1_eq (h : OkT B r) (hB : B ≤ 1000000) {out : List TMsg} (ho : out.length ≤ 40) : m_raft_member_all_v1 ⟨r, out⟩ = some ⟨r, out ++ (othersR r).map (tellR r)⟩ :=
  all_loop0 (F := fun n to m => m_raft_member_all_v1_l1 n to m.Raft.Id m.Raft.N m.Raft.Term m.Raft.Vote m.Raft.Role m.Raft.Lead m.Raft.Log.Base m.Raft.Log.BaseTerm m.Raft.Log.Entries m.Raft.Commit m.Raft.Clock m.Raft.Wait m.Raft.Snap m.Raft.Granted m.Raft.Next m.Raft.Match m.f_out) (step := m_raft_member_tell_v1) (fun _ _ _ => rfl) h.n0 h.n (fun _ _ h1 h2 _ ho => tell1_eq h hB h1 h2 ho) out ho
theorem all4_eq (h : OkT B r) (hB : B ≤ 1000000) {out : List TMsg} (ho : out.length ≤ 40) : m_raft_member_all_v4 ⟨r, out⟩ = some ⟨r, out ++ (othersR r).map (tellR r)⟩ :=
  all_loop0 (F := fun n to m => m_raft_member_all_v4_l1 n to m.Raft.Id m.Raft.N m.Raft.Term m.Raft.Vote m.Raft.Role m.Raft.Lead m.Raft.Log.Base m.Raft.Log.BaseTerm m.Raft.Log.Entries m.Raft.Commit m.Raft.Clock m.Raft.Wait m.Raft.Snap m.Raft.Granted m.Raft.Next m.Raft.Match m.f_out) (step := m_raft_member_tell_v1) (fun _ _ _ => rfl) h.n0 h.n (fun _ _ h1 h2 _ ho => tell1_eq h hB h1 h2 ho) out ho
theorem stand1_eq (hl : OkG B r.Log) (hB : B ≤ 1000000) {to : Int} {out : List TMsg} (ho : out.length ≤ 100) : m_raft_member_stand_1 to ⟨r, out⟩ = some ⟨r, out ++ [voteM r to]⟩ := by
  unfold m_raft_member_stand_1
  simp only
  rw [logs_Last hl hB, bnd_some, logs_LastTerm hl hB, bnd_some, send2_eq (by simp only; omega), bnd_some]
  rfl
theorem ask1_eq (hl : OkG B r.Log) (hB : B ≤ 1000000) (ht : 0 ≤ r.Term ∧ r.Term ≤ 1000000) {to : Int} {out : List TMsg} (ho : out.length ≤ 100) : m_raft_member_ask_1 to ⟨r, out⟩ = some ⟨r, out ++ [askM r to]⟩ := by
  unfold m_raft_member_ask_1
  simp only
  rw [logs_Last hl hB, bnd_some, logs_LastTerm hl hB, bnd_some, wrap_sm (by omega), send2_eq (by simp only; omega), bnd_some]
  rfl
theorem all2_eq (hn0 : 0 ≤ r.N) (hn : r.N ≤ 7) (hl : OkG B r.Log) (hB : B ≤ 1000000) {out : List TMsg} (ho : out.length ≤ 40) : m_raft_member_all_v2 ⟨r, out⟩ = some ⟨r, out ++ (othersR r).map (voteM r)⟩ :=
  all_loop0 (F := fun n to m => m_raft_member_all_v2_l1 n to m.Raft.Id m.Raft.N m.Raft.Term m.Raft.Vote m.Raft.Role m.Raft.Lead m.Raft.Log.Base m.Raft.Log.BaseTerm m.Raft.Commit m.Raft.Clock m.Raft.Wait m.Raft.Log.Entries m.Raft.Snap m.Raft.Granted m.Raft.Next m.Raft.Match m.f_out) (step := m_raft_member_stand_1) (fun _ _ _ => rfl) hn0 hn (fun _ _ _ _ _ ho => stand1_eq hl hB ho) out ho
theorem all3_eq (hn0 : 0 ≤ r.N) (hn : r.N ≤ 7) (hl : OkG B r.Log) (hB : B ≤ 1000000) (ht : 0 ≤ r.Term ∧ r.Term ≤ 1000000) {out : List TMsg} (ho : out.length ≤ 40) : m_raft_member_all_v3 ⟨r, out⟩ = some ⟨r, out ++ (othersR r).map (askM r)⟩ :=
  all_loop0 (F := fun n to m => m_raft_member_all_v3_l1 n to m.Raft.Id m.Raft.N m.Raft.Term m.Raft.Vote m.Raft.Role m.Raft.Lead m.Raft.Log.Base m.Raft.Log.BaseTerm m.Raft.Commit m.Raft.Clock m.Raft.Wait m.Raft.Log.Entries m.Raft.Snap m.Raft.Granted m.Raft.Next m.Raft.Match m.f_out) (step := m_raft_member_ask_1) (fun _ _ _ => rfl) hn0 hn (fun _ _ _ _ _ ho => ask1_eq hl hB ht ho) out ho
end
end Go.Proofs.Ytgoachcogmlhcaa.R
/- What the members' functions compute, plainly: who follows, commits, appends, leads, stands, asks. -/
set_option maxRecDepth 100000
set_option linter.unusedVariables false
set_option linter.unusedSimpArgs false
noncomputable section
namespace Go.Proofs.Ytgoachcogmlhcaa.R
open Go
section
variable {B : Int} {r : TRaft} {out : List TMsg}
theorem OkE.mono {e : TEntry} {B' : Int} (h : OkE B e) (hb : B ≤ B') : OkE B' e := ⟨⟨h.t.1, by have := h.t.2; omega⟩, h.d⟩
theorem OkG.mono {l : TLog} {B' : Int} (h : OkG B l) (hb : B ≤ B') : OkG B' l :=
  ⟨h.b, ⟨h.bt.1, by have := h.bt.2; omega⟩, by have := h.last; omega, fun x hx => (h.e x hx).mono hb⟩
theorem OkR.mono {B' : Int} (h : OkR B r) (hb : B ≤ B') : OkR B' r :=
  ⟨h.id, h.n, ⟨h.term.1, by have := h.term.2; omega⟩, h.vote, ⟨h.commit.1, by have := h.commit.2; omega⟩, ⟨h.clock.1, by have := h.clock.2; omega⟩, h.wait, h.log.mono hb, h.snap, h.gl, h.nl, h.ml, h.ga, h.na, h.ma,
    fun x hx => by have := h.nb x hx; omega, fun x hx => by have := h.mb x hx; omega⟩
theorem OkR.tell (h : OkR B r) (h3 : r.Role = 3) : OkT B r := ⟨h.n, by have := h.id; omega, h.log, h.snap, h.na h3, h.nb⟩
theorem follow_eq (t l : Int) : m_raft_member_follow t l ⟨r, out⟩ = some ⟨followR r t l, out⟩ := by
  unfold m_raft_member_follow m_raft_member_follow_k1 followR
  by_cases h : r.Term < t
  · simp [h]
  · simp [h]
theorem follow1_eq (t l : Int) : m_raft_member_follow_v1 t l ⟨r, out⟩ = some ⟨followR r t l, out⟩ := follow_eq t l
theorem setI_length {α : Type} (l : List α) (i : Int) (x : α) : (setI l i x).length = l.length := by simp [setI]
theorem grant_eq {who : Int} (h1 : 1 ≤ who) (h2 : who ≤ (r.Granted.length : Int)) (h3 : r.Granted.length ≤ 7) : m_raft_member_grant who ⟨r, out⟩ = some (wonL (setI r.Granted (who - 1) true), ⟨{ r with Granted := setI r.Granted (who - 1) true }, out⟩) := by
  unfold m_raft_member_grant
  have hlt : (who - 1).toNat < r.Granted.length := by omega
  simp only
  rw [wrap_sm (by omega), nthI_int (by omega), List.getElem?_eq_getElem hlt, bnd_some, quorum_Won (by rw [setI_length]; omega), bnd_some]
theorem grant1_eq {who : Int} (h1 : 1 ≤ who) (h2 : who ≤ (r.Granted.length : Int)) (h3 : r.Granted.length ≤ 7) : m_raft_member_grant_v1 who ⟨r, out⟩ = some (wonL (setI r.Granted (who - 1) true), ⟨{ r with Granted := setI r.Granted (who - 1) true }, out⟩) := grant_eq h1 h2 h3
theorem reached_in (h : OkR B r) (h3 : r.Role = 3) : m_quorum_Reached r.Match = some (reachedL r.Match) ∧ Reach r.Match (reachedL r.Match) ∧ 0 ≤ reachedL r.Match ∧ reachedL r.Match ≤ B := by
  have hm := h.ma h3; have hid := h.id; have hml := h.ml
  obtain ⟨h1, h2⟩ := quorum_Reached (l := r.Match) (by omega) (by omega)
  exact ⟨h1, h2, h.mb _ h2.mem⟩
theorem commit_eq (h : OkR B r) (hB : B ≤ 1000000) (h3 : r.Role = 3) : m_raft_member_commit ⟨r, out⟩ = some ⟨commitR r, out⟩ := by
  obtain ⟨h1, h2, h4⟩ := reached_in h h3
  unfold m_raft_member_commit commitR m_raft_member_commit_k1
  simp only
  rw [h1, bnd_some, logs_Term h.log hB (by omega), bnd_some]
  cases ht : termL r.Log (reachedL r.Match) with
  | none => simp
  | some t =>
    by_cases hc : r.Commit < reachedL r.Match
    · by_cases he : t = r.Term
      · simp [hc, he]
      · simp [hc, he]
    · simp [hc]
theorem commit1_eq (h : OkR B r) (hB : B ≤ 1000000) (h3 : r.Role = 3) : m_raft_member_commit_v1 ⟨r, out⟩ = some ⟨commitR r, out⟩ := commit_eq h hB h3
theorem commit2_eq (h : OkR B r) (hB : B ≤ 1000000) (h3 : r.Role = 3) : m_raft_member_commit_v2 ⟨r, out⟩ = some ⟨commitR r, out⟩ := commit_eq h hB h3
theorem setI_mem {α : Type} {l : List α} {i : Int} {x y : α} (h : y ∈ setI l i x) : y = x ∨ y ∈ l := by
  unfold setI at h
  rcases List.mem_or_eq_of_mem_set h with h | h
  · exact .inr h
  · exact .inl h
theorem behind_ok (h : OkR B r) (h3 : r.Role = 3) {data : List Int} (hd : data.length ≤ 1000) : OkR (B + 1) (behindR r data) := by
  have hl := h.log.last; have hb := h.log.b; have ht := h.term
  have hm := h.mono (B' := B + 1) (by omega)
  refine { hm with log := ⟨h.log.b, ⟨h.log.bt.1, by have := h.log.bt.2; show r.Log.BaseTerm ≤ _; omega⟩, ?_, ?_⟩, ml := ?_, ma := ?_, mb := ?_ }
  · show r.Log.Base + ((r.Log.Entries ++ [_]).length : Int) ≤ _
    simp
    omega
  · intro x hx
    have hx : x ∈ r.Log.Entries ++ [⟨r.Term, data⟩] := hx
    rcases List.mem_append.1 hx with hx | hx
    · exact (h.log.e x hx).mono (by omega)
    · simp at hx
      subst hx
      exact ⟨⟨ht.1, by show r.Term ≤ _; omega⟩, hd⟩
  · show (setI r.Match _ _).length ≤ 7
    rw [setI_length]; exact h.ml
  · intro h4
    show ((setI r.Match _ _).length : Int) = r.N
    rw [setI_length]; exact h.ma h3
  · intro x hx
    rcases setI_mem hx with rfl | hx
    · unfold lastL; omega
    · have := h.mb x hx; omega
theorem commit_ok (h : OkR B r) (h3 : r.Role = 3) : OkR B (commitR r) := by
  obtain ⟨_, _, h1, h2⟩ := reached_in h h3
  unfold commitR
  split
  · exact { h with commit := ⟨h1, h2⟩ }
  · exact h
theorem commitR_role : (commitR r).Role = r.Role := by unfold commitR; split <;> rfl
theorem commitR_id : (commitR r).Id = r.Id := by unfold commitR; split <;> rfl
theorem commitR_n : (commitR r).N = r.N := by unfold commitR; split <;> rfl
theorem commitR_others (data : List Int) : othersR (commitR (behindR r data)) = othersR r := by
  unfold othersR
  rw [commitR_id, commitR_n]
  rfl
theorem append_gen {A : Tmember → Option Tmember} {C L : Tmember → Option Tmember} {data : List Int}
    (hA : ∀ m, A m = bnd (m_logs_Behind m.Raft.Log (TEntry.mk m.Raft.Term data)) fun r0 => bnd (m_logs_Last r0) fun r0_1 => bnd (nthI m.Raft.Match (IntKind.i64.wrap (m.Raft.Id - (1 : Int)))) fun e =>
      bnd (C (Tmember.mk (TRaft.mk m.Raft.Id m.Raft.N m.Raft.Term m.Raft.Vote m.Raft.Role m.Raft.Lead r0 m.Raft.Commit m.Raft.Snap m.Raft.Granted m.Raft.Next (setI m.Raft.Match (IntKind.i64.wrap (m.Raft.Id - (1 : Int))) r0_1) m.Raft.Clock m.Raft.Wait) m.f_out)) fun r0_2 => bnd (L r0_2) fun r0_3 => some r0_3)
    (hC : ∀ {r : TRaft} {out : List TMsg}, OkR (B + 1) r → r.Role = 3 → C ⟨r, out⟩ = some ⟨commitR r, out⟩)
    (hL : ∀ {r : TRaft} {out : List TMsg}, OkT (B + 1) r → out.length ≤ 40 → L ⟨r, out⟩ = some ⟨r, out ++ (othersR r).map (tellR r)⟩)
    (h : OkR B r) (hB : B + 1 ≤ 1000000) (h3 : r.Role = 3) (hd : data.length ≤ 1000) (ho : out.length ≤ 40) : A ⟨r, out⟩ = some ⟨(appendR r data).1, out ++ (appendR r data).2⟩ := by
  have hb := behind_ok h h3 hd
  have hid := h.id; have hm := h.ma h3; have hn := h.n
  have hlt : (r.Id - 1).toNat < r.Match.length := by omega
  have hlast : lastL ⟨r.Log.Base, r.Log.BaseTerm, r.Log.Entries ++ [⟨r.Term, data⟩]⟩ = lastL r.Log + 1 := by
    unfold lastL
    simp
    omega
  rw [hA]
  simp only
  have hlog : OkG (B + 1) ⟨r.Log.Base, r.Log.BaseTerm, r.Log.Entries ++ [⟨r.Term, data⟩]⟩ := hb.log
  rw [logs_Behind h.log (by omega) hd, bnd_some, logs_Last hlog hB, bnd_some, wrap_sm (by omega), nthI_int (by omega), List.getElem?_eq_getElem hlt, bnd_some, hlast]
  have hc := hC (r := behindR r data) (out := out) hb h3
  have hc' : C ⟨⟨r.Id, r.N, r.Term, r.Vote, r.Role, r.Lead, ⟨r.Log.Base, r.Log.BaseTerm, r.Log.Entries ++ [⟨r.Term, data⟩]⟩, r.Commit, r.Snap, r.Granted, r.Next, setI r.Match (r.Id - 1) (lastL r.Log + 1), r.Clock, r.Wait⟩, out⟩ = some ⟨commitR (behindR r data), out⟩ := hc
  rw [hc', bnd_some, hL ((commit_ok hb h3).tell (by rw [commitR_role]; exact h3)) ho, bnd_some, commitR_others]
  rfl
theorem append_eq (h : OkR B r) (hB : B + 1 ≤ 1000000) (h3 : r.Role = 3) (ho : out.length ≤ 40) : m_raft_member_append ⟨r, out⟩ = some ⟨(appendR r []).1, out ++ (appendR r []).2⟩ :=
  append_gen (C := m_raft_member_commit) (L := m_raft_member_all_v1) (fun _ => rfl) (fun h => commit_eq h hB) (fun h ho => all1_eq h hB ho) h hB h3 (by simp) ho
theorem append1_eq (h : OkR B r) (hB : B + 1 ≤ 1000000) (h3 : r.Role = 3) {data : List Int} (hd : data.length ≤ 1000) (ho : out.length ≤ 40) : m_raft_member_append_v1 data ⟨r, out⟩ = some ⟨(appendR r data).1, out ++ (appendR r data).2⟩ :=
  append_gen (C := m_raft_member_commit_v1) (L := m_raft_member_all_v4) (fun _ => rfl) (fun h => commit1_eq h hB) (fun h ho => all4_eq h hB ho) h hB h3 hd ho
theorem follow_ok (h : OkR B r) {t l : Int} (ht : t ≤ B) : OkR B (followR r t l) := by
  have h1 := h.term
  refine { h with term := ?_, vote := ?_, gl := by simp [followR], nl := by simp [followR], ml := by simp [followR], ga := ?_, na := ?_, ma := ?_, nb := by simp [followR], mb := by simp [followR] }
  · show 0 ≤ (if r.Term < t then t else r.Term) ∧ (if r.Term < t then t else r.Term) ≤ B
    split <;> omega
  · show 0 ≤ (if r.Term < t then 0 else r.Vote) ∧ (if r.Term < t then 0 else r.Vote) ≤ 7
    have := h.vote
    split <;> omega
  · intro h; simp [followR] at h
  · intro h; simp [followR] at h
  · intro h; simp [followR] at h
theorem leadQ_ok (h : OkR B r) (hB0 : 0 ≤ B) : OkR B (leadQ r) := by
  have hid := h.id; have hn := h.n
  have hl := h.log.last; have hb := h.log.b
  have hf := follow_ok h (t := r.Term) (l := r.Id) h.term.2
  refine { hf with clock := ⟨Int.le_refl _, hB0⟩, nl := ?_, ml := ?_, ga := ?_, na := ?_, ma := ?_, nb := ?_, mb := ?_ }
  · show (List.replicate _ _).length ≤ 7; simp; omega
  · show (List.replicate _ _).length ≤ 7; simp; omega
  · intro h; simp [leadQ] at h
  · intro _; show ((List.replicate _ _).length : Int) = r.N; simp; omega
  · intro _; show ((List.replicate _ _).length : Int) = r.N; simp; omega
  · intro x hx
    have hx : x ∈ List.replicate r.N.toNat (lastL r.Log + 1) := hx
    have := (List.mem_replicate.1 hx).2
    subst this
    unfold lastL
    omega
  · intro x hx
    have hx : x ∈ List.replicate r.N.toNat (0 : Int) := hx
    have := (List.mem_replicate.1 hx).2
    subst this
    omega
theorem rep_set {α : Type} (a b : α) (k m : Nat) : (List.replicate k a ++ List.replicate (m + 1) b).set k a = List.replicate (k + 1) a ++ List.replicate m b := by
  have h1 : List.replicate k a ++ List.replicate (m + 1) b = List.replicate k a ++ b :: List.replicate m b := rfl
  have h2 : (List.replicate k a ++ b :: List.replicate m b).set (List.replicate k a).length a = List.replicate k a ++ a :: List.replicate m b := by simp
  rw [h1]
  rw [List.length_replicate] at h2
  rw [h2, List.replicate_succ']
  simp
theorem lead_loop {q : TRaft} (hq : OkG B q.Log) (hB : B + 1 ≤ 1000000) (hn : 0 ≤ q.N ∧ q.N ≤ 7) : ∀ (m k n : Nat), q.N.toNat - k = m → k ≤ q.N.toNat → m < n →
    m_raft_member_lead_l1 ⟨q, out⟩ n (k : Int) (List.replicate k (lastL q.Log + 1) ++ List.replicate (q.N.toNat - k) 0) = m_raft_member_lead_k1 ⟨q, out⟩ (List.replicate q.N.toNat (lastL q.Log + 1)) := by
  intro m
  induction m with
  | zero =>
    intro k n hm hk hn2
    obtain ⟨n, rfl⟩ : ∃ n', n = n' + 1 := ⟨n - 1, by omega⟩
    have hk' : ¬ ((k : Int) < ((q.N.toNat : Nat) : Int)) := by omega
    have e : k = q.N.toNat := by omega
    rw [m_raft_member_lead_l1, m_raft_member_lead_l1_B]
    simp only
    rw [decide_eq_false hk', if_neg (by simp), e]
    simp
  | succ m ih =>
    intro k n hm hk hn2
    obtain ⟨n, rfl⟩ : ∃ n', n = n' + 1 := ⟨n - 1, by omega⟩
    have hk' : ((k : Int) < ((q.N.toNat : Nat) : Int)) := by omega
    have hr := lastL_r hq (by omega)
    obtain ⟨d, hd⟩ : ∃ d, q.N.toNat - k = d + 1 := ⟨q.N.toNat - k - 1, by omega⟩
    have hlt : k < (List.replicate k (lastL q.Log + 1) ++ List.replicate (d + 1) (0 : Int)).length := by simp
    rw [m_raft_member_lead_l1, m_raft_member_lead_l1_B]
    simp only
    rw [decide_eq_true hk', if_pos rfl, logs_Last hq (by omega), bnd_some, hd, nthI_lt hlt, bnd_some, wrap_nat (by omega), wrap_sm (n := lastL q.Log + 1) (by omega)]
    have hs : setI (List.replicate k (lastL q.Log + 1) ++ List.replicate (d + 1) (0 : Int)) (k : Int) (lastL q.Log + 1) = List.replicate (k + 1) (lastL q.Log + 1) ++ List.replicate (q.N.toNat - (k + 1)) 0 := by
      unfold setI
      have e1 : ((k : Int)).toNat = k := by omega
      have e2 : q.N.toNat - (k + 1) = d := by omega
      rw [e1, e2, rep_set]
    rw [hs]
    exact ih (k + 1) n (by omega) (by omega) (by omega)
theorem mkB_ok {n : Int} (h : 0 ≤ n ∧ n ≤ 7) : mkB n = true := by
  unfold mkB
  have h1 : n ≤ ((limN : Nat) : Int) := by unfold limN; omega
  rw [decide_eq_true h.1, decide_eq_true h1]
  rfl
theorem lead_core (h : OkR B r) (hB0 : 0 ≤ B) (hB : B + 1 ≤ 1000000) (ho : out.length ≤ 40) : (if (mkB (followR r r.Term r.Id).N) = true then m_raft_member_lead_l1 ⟨followR r r.Term r.Id, out⟩ ((((((followR r r.Term r.Id).N.toNat : Nat) : Int)) - ((0 : Int))).toNat + 1) (0 : Int) (List.replicate (followR r r.Term r.Id).N.toNat (0 : Int)) else none) = some ⟨(leadR r).1, out ++ (leadR r).2⟩ := by
  have hid := h.id; have hn := h.n
  have hN : (followR r r.Term r.Id).N = r.N := rfl
  rw [hN, if_pos (mkB_ok (by omega))]
  have hlp := lead_loop (q := followR r r.Term r.Id) (out := out) h.log hB (by rw [hN]; omega) _ 0 ((((r.N.toNat : Nat) : Int) - 0).toNat + 1) rfl (Nat.zero_le _) (by rw [hN]; omega)
  simp only [List.replicate_zero, List.nil_append, Nat.sub_zero, hN] at hlp
  have hlp' : m_raft_member_lead_l1 ⟨followR r r.Term r.Id, out⟩ ((((r.N.toNat : Nat) : Int) - 0).toNat + 1) 0 (List.replicate r.N.toNat 0) = m_raft_member_lead_k1 ⟨followR r r.Term r.Id, out⟩ (List.replicate r.N.toNat (lastL (followR r r.Term r.Id).Log + 1)) := hlp
  rw [hlp']
  unfold m_raft_member_lead_k1
  have ha := append_eq (out := out) (leadQ_ok h hB0) hB rfl ho
  have ha' : m_raft_member_append ⟨⟨(followR r r.Term r.Id).Id, (followR r r.Term r.Id).N, (followR r r.Term r.Id).Term, (followR r r.Term r.Id).Vote, 3, (followR r r.Term r.Id).Lead, (followR r r.Term r.Id).Log, (followR r r.Term r.Id).Commit, (followR r r.Term r.Id).Snap, (followR r r.Term r.Id).Granted, List.replicate r.N.toNat (lastL (followR r r.Term r.Id).Log + 1), List.replicate (followR r r.Term r.Id).N.toNat 0, 0, (followR r r.Term r.Id).Wait⟩, out⟩ = some ⟨(appendR (leadQ r) []).1, out ++ (appendR (leadQ r) []).2⟩ := ha
  simp only
  rw [ha', bnd_some]
  rfl
theorem lead_eq (h : OkR B r) (hB0 : 0 ≤ B) (hB : B + 1 ≤ 1000000) (ho : out.length ≤ 40) : m_raft_member_lead ⟨r, out⟩ = some ⟨(leadR r).1, out ++ (leadR r).2⟩ := by
  unfold m_raft_member_lead
  rw [follow1_eq, bnd_some]
  exact lead_core h hB0 hB ho
theorem lead1_fun : m_raft_member_lead_v1 = m_raft_member_lead := by
  have hl : ∀ (q : Tmember) n v m, m_raft_member_lead_v1_l1 q n v m = m_raft_member_lead_l1 q n v m := by
    intro q n
    induction n with
    | zero => intro v m; rfl
    | succ n ih =>
      intro v m
      rw [m_raft_member_lead_v1_l1, m_raft_member_lead_l1, m_raft_member_lead_v1_l1_B, m_raft_member_lead_l1_B]
      have : m_raft_member_lead_v1_l1 q n = m_raft_member_lead_l1 q n := by funext v m; exact ih v m
      rw [this]
      rfl
  funext m
  unfold m_raft_member_lead_v1 m_raft_member_lead
  have : m_raft_member_follow = m_raft_member_follow_v1 := rfl
  rw [this]
  congr 1
  funext q
  rw [hl]
theorem standQ_ok (h : OkR B r) (hB0 : 0 ≤ B) : OkR (B + 1) (standQ r) := by
  have hid := h.id; have hn := h.n; have ht := h.term
  have hf := follow_ok (h.mono (B' := B + 1) (by omega)) (t := r.Term + 1) (l := 0) (by omega)
  refine { hf with clock := ⟨Int.le_refl _, by show (0 : Int) ≤ _; omega⟩, vote := ?_, gl := ?_, ga := ?_, na := ?_, ma := ?_ }
  · show 0 ≤ r.Id ∧ r.Id ≤ 7; omega
  · show (oneG r).length ≤ 7; unfold oneG; rw [setI_length]; simp; omega
  · intro _; show ((oneG r).length : Int) = r.N; unfold oneG; rw [setI_length]; simp; omega
  · intro h; simp [standQ] at h
  · intro h; simp [standQ] at h
theorem stand_eq (h : OkR B r) (hB0 : 0 ≤ B) (hB : B + 2 ≤ 1000000) (ho : out.length ≤ 40) : m_raft_member_stand ⟨r, out⟩ = some ⟨(standR r).1, out ++ (standR r).2⟩ := by
  have hid := h.id; have hn := h.n; have ht := h.term
  have hq := standQ_ok h hB0
  unfold m_raft_member_stand
  have hw : IntKind.i64.wrap (r.Term + 1) = r.Term + 1 := wrap_sm (by omega)
  simp only
  rw [hw, follow1_eq, bnd_some]
  have hN : (followR r (r.Term + 1) 0).N = r.N := rfl
  simp only
  rw [hN, if_pos (mkB_ok (by omega))]
  have hg := grant_eq (r := { followR r (r.Term + 1) 0 with Vote := r.Id, Role := 2, Clock := 0, Granted := List.replicate r.N.toNat false }) (who := r.Id) (out := out) (by omega) (by simp; omega) (by simp; omega)
  have hg' : m_raft_member_grant (followR r (r.Term + 1) 0).Id ⟨⟨(followR r (r.Term + 1) 0).Id, (followR r (r.Term + 1) 0).N, (followR r (r.Term + 1) 0).Term, (followR r (r.Term + 1) 0).Id, 2, (followR r (r.Term + 1) 0).Lead, (followR r (r.Term + 1) 0).Log, (followR r (r.Term + 1) 0).Commit, (followR r (r.Term + 1) 0).Snap, List.replicate r.N.toNat false, (followR r (r.Term + 1) 0).Next, (followR r (r.Term + 1) 0).Match, 0, (followR r (r.Term + 1) 0).Wait⟩, out⟩ = some (wonL (oneG r), ⟨standQ r, out⟩) := hg
  rw [← hN] at hg' ⊢
  rw [hg', bnd_some]
  unfold standR
  cases hw : wonL (oneG r) with
  | true =>
    simp only [if_true]
    rw [lead_eq hq (by omega) (by omega) ho, bnd_some]
  | false =>
    simp only [Bool.false_eq_true, if_false]
    have hsl : OkG (B + 1) (standQ r).Log := hq.log
    rw [all2_eq (r := standQ r) (by show 0 ≤ r.N; omega) (by show r.N ≤ 7; omega) hsl (by omega) ho, bnd_some]
    rfl
theorem stand1_fun : m_raft_member_stand_v1 = m_raft_member_stand := rfl
theorem wait_eq (draw : Int) : m_raft_wait draw = some (waitR draw) := by
  unfold m_raft_wait waitR
  have h0 : 0 ≤ IntKind.u64.wrap draw := by
    simp only [IntKind.wrap, IntKind.signed, IntKind.bits]
    simp
    omega
  rw [Int.tmod_eq_emod_of_nonneg h0, wrap_sm (n := IntKind.u64.wrap draw % 10) (by omega), wrap_sm (by omega)]
theorem waitR_r (draw : Int) : 0 ≤ waitR draw ∧ waitR draw ≤ 20 := by unfold waitR; omega
theorem askQ_ok (h : OkR B r) (hB0 : 0 ≤ B) (draw : Int) : OkR B (askQ r draw) := by
  have hid := h.id; have hn := h.n; have ht := h.term
  have hf := follow_ok h (t := r.Term) (l := 0) (by omega)
  refine { hf with clock := ⟨Int.le_refl _, hB0⟩, wait := waitR_r draw, gl := ?_, ga := ?_, na := ?_, ma := ?_ }
  · show (oneG r).length ≤ 7; unfold oneG; rw [setI_length]; simp; omega
  · intro _; show ((oneG r).length : Int) = r.N; unfold oneG; rw [setI_length]; simp; omega
  · intro h; simp [askQ] at h
  · intro h; simp [askQ] at h
theorem ask_eq (h : OkR B r) (hB0 : 0 ≤ B) (hB : B + 2 ≤ 1000000) (draw : Int) (ho : out.length ≤ 40) : m_raft_member_ask draw ⟨r, out⟩ = some ⟨(askR r draw).1, out ++ (askR r draw).2⟩ := by
  have hid := h.id; have hn := h.n; have ht := h.term
  have hq := askQ_ok h hB0 draw
  unfold m_raft_member_ask
  simp only
  rw [follow_eq, bnd_some, wait_eq, bnd_some]
  have hN : (followR r r.Term 0).N = r.N := rfl
  simp only
  rw [hN, if_pos (mkB_ok (by omega))]
  have hg := grant_eq (r := { followR r r.Term 0 with Role := 1, Clock := 0, Wait := waitR draw, Granted := List.replicate r.N.toNat false }) (who := r.Id) (out := out) (by omega) (by simp; omega) (by simp; omega)
  have hg' : m_raft_member_grant (followR r r.Term 0).Id ⟨⟨(followR r r.Term 0).Id, (followR r r.Term 0).N, (followR r r.Term 0).Term, (followR r r.Term 0).Vote, 1, (followR r r.Term 0).Lead, (followR r r.Term 0).Log, (followR r r.Term 0).Commit, (followR r r.Term 0).Snap, List.replicate r.N.toNat false, (followR r r.Term 0).Next, (followR r r.Term 0).Match, 0, waitR draw⟩, out⟩ = some (wonL (oneG r), ⟨askQ r draw, out⟩) := hg
  rw [← hN] at hg' ⊢
  rw [hg', bnd_some]
  unfold askR
  cases hw : wonL (oneG r) with
  | true =>
    simp only [if_true]
    rw [stand_eq hq hB0 hB ho, bnd_some]
  | false =>
    simp only [Bool.false_eq_true, if_false]
    have hsl : OkG B (askQ r draw).Log := hq.log
    rw [all3_eq (r := askQ r draw) (by show 0 ≤ r.N; omega) (by show r.N ≤ 7; omega) hsl (by omega) (by have := hq.term; omega) ho, bnd_some]
    rfl
end
end Go.Proofs.Ytgoachcogmlhcaa.R
/- What the members' functions compute, plainly: a message taken on. -/
set_option maxRecDepth 100000
set_option linter.unusedVariables false
set_option linter.unusedSimpArgs false
noncomputable section
namespace Go.Proofs.Ytgoachcogmlhcaa.R
open Go
structure OkM (B : Int) (x : TMsg) : Prop where
  term : 0 ≤ x.Term ∧ x.Term ≤ B
  at0 : 0 ≤ x.At ∧ x.At ≤ B
  att : 0 ≤ x.AtTerm ∧ x.AtTerm ≤ B
  commit : 0 ≤ x.Commit ∧ x.Commit ≤ B
  el : x.Entries.length ≤ 8
  e : ∀ y ∈ x.Entries, OkE B y
  d : x.Data.length ≤ 1000
  ate : x.At + (x.Entries.length : Int) ≤ B
def backM (r : TRaft) (x : TMsg) (kind term at0 : Int) (ok : Bool) : TMsg := ⟨kind, 0, r.Id, x.From, term, at0, 0, 0, ok, [], []⟩
def freeR (r : TRaft) : Bool := decide (r.Role ≠ 3) && (decide (r.Lead = 0) || decide (10 ≤ r.Clock))
def askedB (r : TRaft) (x : TMsg) : Bool := decide (r.Term < x.Term) && (freeR r && newerL r.Log x.AtTerm x.At)
def askedR (r : TRaft) (x : TMsg) : TRaft × List TMsg := (r, [backM r x 2 (if askedB r x = true then x.Term else r.Term) 0 (askedB r x)])
def voteB (r : TRaft) (x : TMsg) : Bool := decide (x.Term = r.Term) && (decide (r.Role = 0) && ((decide (r.Vote = 0) || decide (r.Vote = x.From)) && newerL r.Log x.AtTerm x.At))
def voteR (r : TRaft) (x : TMsg) : TRaft × List TMsg := if voteB r x = true then ({ r with Vote := x.From, Clock := 0 }, [backM r x 4 r.Term 0 true]) else (r, [backM r x 4 r.Term 0 false])
def deafB (r : TRaft) (x : TMsg) : Bool := decide (x.Term < r.Term) || decide (r.Role = 3)
def hearQ (r : TRaft) (x : TMsg) : TRaft := { followR r x.Term x.From with Clock := 0 }
def maxI (a b : Int) : Int := if a < b then b else a
def minI (a b : Int) : Int := if b < a then b else a
def entriesR (r : TRaft) (x : TMsg) : TRaft × List TMsg :=
  if deafB r x = true then (r, [backM r x 6 r.Term 0 false]) else
  let q := hearQ r x
  let p := putL r.Log x.At x.AtTerm x.Entries
  if p.2.2 = true then ({ q with Log := p.1, Commit := maxI r.Commit (minI x.Commit p.2.1) }, [backM q x 6 q.Term p.2.1 true]) else (q, [backM q x 6 q.Term p.2.1 false])
def snapR (r : TRaft) (x : TMsg) : TRaft × List TMsg :=
  if deafB r x = true then (r, [backM r x 6 r.Term 0 false]) else
  let q := hearQ r x
  if r.Commit < x.At then ({ q with Log := resetL r.Log x.At x.AtTerm, Commit := x.At, Snap := x.Data }, [backM q x 6 q.Term x.At true]) else (q, [backM q x 6 q.Term r.Commit true])
def matchR (r : TRaft) (to : Int) : Int := (r.Match[(to - 1).toNat]?).getD 0
def toldM (r : TRaft) (x : TMsg) : Int := maxI (matchR r x.From) (minI x.At (lastL r.Log))
def toldN (r : TRaft) (x : TMsg) : Int := maxI (nextR r x.From) (toldM r x + 1)
def toldB (r : TRaft) (x : TMsg) : Int := maxI (matchR r x.From + 1) (minI (nextR r x.From - 2) x.At + 1)
def toldQ (r : TRaft) (x : TMsg) : TRaft := commitR { r with Next := setI r.Next (x.From - 1) (toldN r x), Match := setI r.Match (x.From - 1) (toldM r x) }
def toldP (r : TRaft) (x : TMsg) : TRaft := { r with Next := setI r.Next (x.From - 1) (toldB r x) }
def toldR (r : TRaft) (x : TMsg) : TRaft × List TMsg :=
  if x.Term < r.Term ∨ r.Role ≠ 3 then (r, []) else
  if x.Ok = true then (if lastL r.Log < toldN r x then (toldQ r x, []) else (toldQ r x, [tellR (toldQ r x) x.From])) else (toldP r x, [tellR (toldP r x) x.From])
def grantedR (r : TRaft) (x : TMsg) : TRaft := { r with Granted := setI r.Granted (x.From - 1) true }
def askOkR (r : TRaft) (x : TMsg) : TRaft × List TMsg :=
  if x.Ok = true ∧ r.Role = 1 ∧ x.Term = r.Term + 1 then (if wonL (grantedR r x).Granted = true then standR (grantedR r x) else (grantedR r x, [])) else (r, [])
def voteOkR (r : TRaft) (x : TMsg) : TRaft × List TMsg :=
  if x.Ok = true ∧ r.Role = 2 ∧ x.Term = r.Term then (if wonL (grantedR r x).Granted = true then leadR (grantedR r x) else (grantedR r x, [])) else (r, [])
def refuseB (r : TRaft) (x : TMsg) : Bool := decide (x.To ≠ r.Id) || (decide (x.From < 1) || (decide (r.N < x.From) || (decide (x.From = r.Id) || (decide (x.Term < 0) || (decide (1099511627776 < x.Term) || decide (x.At < 0))))))
def riseB (r : TRaft) (x : TMsg) : Bool := decide (r.Term < x.Term) && (decide (x.Kind ≠ 1) && (decide (x.Kind ≠ 2) || !x.Ok))
def takeR (r : TRaft) (x : TMsg) : TRaft × List TMsg :=
  if x.Kind = 1 then askedR r x else if x.Kind = 2 then askOkR r x else if x.Kind = 3 then voteR r x else if x.Kind = 4 then voteOkR r x
  else if x.Kind = 5 then entriesR r x else if x.Kind = 6 then toldR r x else if x.Kind = 7 then snapR r x else (r, [])
def receiveR (r : TRaft) (x : TMsg) : TRaft × List TMsg :=
  if refuseB r x = true then (r, []) else if riseB r x = true then takeR (followR r x.Term 0) x else takeR r x
def tickR (r : TRaft) (draw : Int) : TRaft × List TMsg :=
  let q := { r with Clock := r.Clock + 1 }
  if r.Role = 3 then (if 2 ≤ r.Clock + 1 then ({ r with Clock := 0 }, (othersR r).map (tellR { r with Clock := 0 })) else (q, [])) else if r.Wait ≤ r.Clock + 1 then askR q draw else (q, [])
section
variable {B : Int} {r : TRaft} {x : TMsg} {out : List TMsg}
theorem at_eq (h : OkR B r) (hB : B ≤ 1000000) : m_raft_at r = some ⟨r, []⟩ := by
  have h1 := h.snap; have h2 := h.gl; have h3 := h.nl; have h4 := h.ml
  unfold m_raft_at m_raft_Copy
  rw [logs_Copy h.log hB, bnd_some, if_pos (capB_small (by omega)), if_pos (capB_small (by omega)), if_pos (capB_small (by omega)), if_pos (capB_small (by omega)), bnd_some]
theorem asked_eq (h : OkR B r) (hB : B ≤ 1000000) (ho : out.length ≤ 40) : m_raft_member_asked x ⟨r, out⟩ = some ⟨(askedR r x).1, out ++ (askedR r x).2⟩ := by
  have k3 : ∀ ok t, m_raft_member_asked_k3 x ⟨r, out⟩ ok t = some ⟨r, out ++ [backM r x 2 t 0 ok]⟩ := by
    intro ok t
    unfold m_raft_member_asked_k3
    rw [send3_eq (by simp only; omega), bnd_some]
    rfl
  have k2 : ∀ ok, m_raft_member_asked_k2 x ⟨r, out⟩ ok = some ⟨r, out ++ [backM r x 2 (if ok = true then x.Term else r.Term) 0 ok]⟩ := by
    intro ok
    unfold m_raft_member_asked_k2
    cases ok with
    | true => simp only [if_true]; exact k3 _ _
    | false => simp only [Bool.false_eq_true, if_false]; exact k3 _ _
  have k1 : ∀ f, m_raft_member_asked_k1 x ⟨r, out⟩ f = some ⟨r, out ++ [backM r x 2 (if (decide (r.Term < x.Term) && (f && newerL r.Log x.AtTerm x.At)) = true then x.Term else r.Term) 0 (decide (r.Term < x.Term) && (f && newerL r.Log x.AtTerm x.At))]⟩ := by
    intro f
    unfold m_raft_member_asked_k1
    simp only
    by_cases ht : r.Term < x.Term
    · rw [decide_eq_true ht, if_pos rfl]
      cases f with
      | true =>
        rw [if_pos rfl, logs_Newer h.log hB, bnd_some, k2]
        simp
      | false => rw [if_neg (by simp), k2]; simp
    · rw [decide_eq_false ht, if_neg (by simp), k2]; simp
  unfold m_raft_member_asked askedR askedB freeR
  simp only
  by_cases h3 : r.Role = 3
  · simp only [h3, ne_eq, not_true_eq_false, decide_false, Bool.false_eq_true, if_false]
    rw [k1]
    simp
  · simp only [h3, ne_eq, not_false_eq_true, decide_true, if_true]
    by_cases hl : r.Lead = 0
    · rw [decide_eq_true hl, if_pos rfl, k1]; simp
    · rw [decide_eq_false hl, if_neg (by simp), k1]; simp
theorem vote_eq (h : OkR B r) (hB : B ≤ 1000000) (ho : out.length ≤ 40) : m_raft_member_vote x ⟨r, out⟩ = some ⟨(voteR r x).1, out ++ (voteR r x).2⟩ := by
  have k1 : ∀ ok, m_raft_member_vote_k1 x ⟨r, out⟩ ok = some (if ok = true then ⟨{ r with Vote := x.From, Clock := 0 }, out ++ [backM r x 4 r.Term 0 true]⟩ else ⟨r, out ++ [backM r x 4 r.Term 0 false]⟩) := by
    intro ok
    unfold m_raft_member_vote_k1 m_raft_member_vote_k2
    cases ok with
    | true => simp only [if_true]; rw [send3_eq (by simp only; omega), bnd_some]; rfl
    | false => simp only [Bool.false_eq_true, if_false]; rw [send3_eq (by simp only; omega), bnd_some]; rfl
  have fin : ∀ ok, ok = voteB r x → m_raft_member_vote_k1 x ⟨r, out⟩ ok = some ⟨(voteR r x).1, out ++ (voteR r x).2⟩ := by
    intro ok he
    rw [k1, he]
    unfold voteR
    cases voteB r x <;> simp
  unfold m_raft_member_vote
  simp only
  by_cases h1 : x.Term = r.Term
  · rw [decide_eq_true h1, if_pos rfl]
    by_cases h2 : r.Role = 0
    · rw [decide_eq_true h2, if_pos rfl]
      by_cases h3 : r.Vote = 0
      · rw [decide_eq_true h3, if_pos rfl, logs_Newer h.log hB, bnd_some]
        exact fin _ (by simp [voteB, h1, h2, h3])
      · rw [decide_eq_false h3, if_neg (by simp)]
        by_cases h4 : r.Vote = x.From
        · rw [decide_eq_true h4, if_pos rfl, logs_Newer h.log hB, bnd_some]
          exact fin _ (by simp [voteB, h1, h2, h4])
        · rw [decide_eq_false h4, if_neg (by simp)]
          exact fin _ (by simp [voteB, h3, h4])
    · rw [decide_eq_false h2, if_neg (by simp)]
      exact fin _ (by simp [voteB, h2])
  · rw [decide_eq_false h1, if_neg (by simp)]
    exact fin _ (by simp [voteB, h1])
theorem hear_eq (ho : out.length ≤ 40) : m_raft_member_hear x ⟨r, out⟩ = some (if deafB r x = true then (false, ⟨r, out ++ [backM r x 6 r.Term 0 false]⟩) else (true, ⟨hearQ r x, out⟩)) := by
  have k1 : ∀ v, m_raft_member_hear_k1 x ⟨r, out⟩ v = some (if v = true then (false, ⟨r, out ++ [backM r x 6 r.Term 0 false]⟩) else (true, ⟨hearQ r x, out⟩)) := by
    intro v
    unfold m_raft_member_hear_k1
    cases v with
    | true => simp only [if_true]; rw [send3_eq (by simp only; omega), bnd_some]; rfl
    | false => simp only [Bool.false_eq_true, if_false]; rw [follow_eq, bnd_some]; rfl
  unfold m_raft_member_hear deafB
  simp only
  by_cases h1 : x.Term < r.Term
  · rw [decide_eq_true h1, if_pos rfl, k1]; simp
  · rw [decide_eq_false h1, if_neg (by simp), k1]; simp
theorem entries_eq (h : OkR B r) (hB : B ≤ 1000000) (hx : OkM B x) (ho : out.length ≤ 40) : m_raft_member_entries x ⟨r, out⟩ = some ⟨(entriesR r x).1, out ++ (entriesR r x).2⟩ := by
  have hx1 := hx.at0; have hx2 := hx.el
  unfold m_raft_member_entries entriesR
  rw [hear_eq ho, bnd_some]
  cases hd : deafB r x with
  | true => simp
  | false =>
    simp only [Bool.false_eq_true, if_false, if_true]
    have hlog : (hearQ r x).Log = r.Log := rfl
    have hcm : (hearQ r x).Commit = r.Commit := rfl
    rw [hlog, logs_Put h.log hB (by omega) (by omega) fun y hy => (hx.e y hy).d, bnd_some]
    cases hp : (putL r.Log x.At x.AtTerm x.Entries).2.2 with
    | true =>
      simp only [if_true]
      unfold m_raft_member_entries_k1
      rw [send4_eq (by simp only; omega), bnd_some]
      simp only [hcm, maxI, minI, backM]
      rfl
    | false =>
      simp only [Bool.false_eq_true, if_false]
      unfold m_raft_member_entries_k1
      rw [send4_eq (by simp only; omega), bnd_some]
      rfl
theorem snap_eq (h : OkR B r) (hB : B ≤ 1000000) (hx : OkM B x) (ho : out.length ≤ 40) : m_raft_member_snap x ⟨r, out⟩ = some ⟨(snapR r x).1, out ++ (snapR r x).2⟩ := by
  have hx1 := hx.at0; have hx2 := hx.d
  unfold m_raft_member_snap snapR
  rw [hear_eq ho, bnd_some]
  cases hd : deafB r x with
  | true => simp
  | false =>
    simp only [Bool.false_eq_true, if_false, if_true]
    have hlog : (hearQ r x).Log = r.Log := rfl
    have hcm : (hearQ r x).Commit = r.Commit := rfl
    rw [hcm]
    by_cases hc : r.Commit < x.At
    · rw [decide_eq_true hc, if_pos rfl, if_pos hc, hlog, logs_Reset h.log hB (by omega), bnd_some, if_pos (capB_small (by omega))]
      unfold m_raft_member_snap_k1
      rw [send4_eq (by simp only; omega), bnd_some]
      rfl
    · rw [decide_eq_false hc, if_neg (by simp), if_neg hc]
      unfold m_raft_member_snap_k1
      rw [send4_eq (by simp only; omega), bnd_some]
      rfl
theorem match_ok (h : OkR B r) (h3 : r.Role = 3) {to : Int} (h1 : 1 ≤ to) (h2 : to ≤ r.N) : nthI r.Match (to - 1) = some (matchR r to) ∧ 0 ≤ matchR r to ∧ matchR r to ≤ B := by
  have hlt : (to - 1).toNat < r.Match.length := by have := h.ma h3; omega
  unfold matchR
  rw [nthI_int (by omega), List.getElem?_eq_getElem hlt]
  exact ⟨rfl, h.mb _ (List.getElem_mem hlt)⟩
theorem get_setI {l : List Int} {i : Int} {v : Int} (h0 : 0 ≤ i) (h1 : i.toNat < l.length) : nthI (setI l i v) i = some v := by
  rw [nthI_int h0, setI]
  simp [h1]
theorem toldM_r (h : OkR B r) (h3 : r.Role = 3) (hx : OkM B x) (h1 : 1 ≤ x.From) (h2 : x.From ≤ r.N) : 0 ≤ toldM r x ∧ toldM r x ≤ B := by
  obtain ⟨_, m1, m2⟩ := match_ok h h3 h1 h2
  have hx1 := hx.at0
  have hl := h.log.last; have hb := h.log.b
  unfold toldM maxI minI lastL
  split <;> split at * <;> omega
theorem toldN_r (h : OkR B r) (h3 : r.Role = 3) (hx : OkM B x) (h1 : 1 ≤ x.From) (h2 : x.From ≤ r.N) : 1 ≤ toldN r x ∧ toldN r x ≤ B + 1 := by
  obtain ⟨_, n1, n2⟩ := next_ok (h.tell h3) h1 h2
  have := toldM_r h h3 hx h1 h2
  unfold toldN maxI
  split <;> omega
theorem toldB_r (h : OkR B r) (h3 : r.Role = 3) (hx : OkM B x) (h1 : 1 ≤ x.From) (h2 : x.From ≤ r.N) : 1 ≤ toldB r x ∧ toldB r x ≤ B + 1 := by
  obtain ⟨_, n1, n2⟩ := next_ok (h.tell h3) h1 h2
  obtain ⟨_, m1, m2⟩ := match_ok h h3 h1 h2
  have hx1 := hx.at0
  unfold toldB maxI minI
  split <;> split at * <;> omega
theorem told0_ok (h : OkR B r) (h3 : r.Role = 3) (hx : OkM B x) (h1 : 1 ≤ x.From) (h2 : x.From ≤ r.N) : OkR B { r with Next := setI r.Next (x.From - 1) (toldN r x), Match := setI r.Match (x.From - 1) (toldM r x) } := by
  have a1 := toldM_r h h3 hx h1 h2; have a2 := toldN_r h h3 hx h1 h2
  refine { h with nl := ?_, ml := ?_, na := ?_, ma := ?_, nb := ?_, mb := ?_ }
  · show (setI r.Next _ _).length ≤ 7; rw [setI_length]; exact h.nl
  · show (setI r.Match _ _).length ≤ 7; rw [setI_length]; exact h.ml
  · intro h; show ((setI r.Next _ _).length : Int) = r.N; rw [setI_length]; exact OkR.na (B := B) (by assumption) h3
  · intro h; show ((setI r.Match _ _).length : Int) = r.N; rw [setI_length]; exact OkR.ma (B := B) (by assumption) h3
  · intro y hy; rcases setI_mem hy with rfl | hy
    · exact a2
    · exact h.nb y hy
  · intro y hy; rcases setI_mem hy with rfl | hy
    · exact a1
    · exact h.mb y hy
theorem toldQ_ok (h : OkR B r) (h3 : r.Role = 3) (hx : OkM B x) (h1 : 1 ≤ x.From) (h2 : x.From ≤ r.N) : OkR B (toldQ r x) := commit_ok (told0_ok h h3 hx h1 h2) h3
theorem toldP_ok (h : OkR B r) (h3 : r.Role = 3) (hx : OkM B x) (h1 : 1 ≤ x.From) (h2 : x.From ≤ r.N) : OkR B (toldP r x) := by
  have a2 := toldB_r h h3 hx h1 h2
  refine { h with nl := ?_, na := ?_, nb := ?_ }
  · show (setI r.Next _ _).length ≤ 7; rw [setI_length]; exact h.nl
  · intro h; show ((setI r.Next _ _).length : Int) = r.N; rw [setI_length]; exact OkR.na (B := B) (by assumption) h3
  · intro y hy; rcases setI_mem hy with rfl | hy
    · exact a2
    · exact h.nb y hy
theorem commitR_log : (commitR r).Log = r.Log := by unfold commitR; split <;> rfl
theorem commitR_next : (commitR r).Next = r.Next := by unfold commitR; split <;> rfl
theorem told_eq (h : OkR B r) (hB : B ≤ 1000000) (hx : OkM B x) (h1 : 1 ≤ x.From) (h2 : x.From ≤ r.N) (ho : out.length ≤ 40) : m_raft_member_told x ⟨r, out⟩ = some ⟨(toldR r x).1, out ++ (toldR r x).2⟩ := by
  have hx1 := hx.at0
  have hn := h.n
  have kf : ∀ v, v = false → r.Role = 3 → ¬ x.Term < r.Term → m_raft_member_told_k1 x ⟨r, out⟩ v = some ⟨(toldR r x).1, out ++ (toldR r x).2⟩ := by
    intro v hv h3 ht
    subst hv
    obtain ⟨a1, a2, a3⟩ := next_ok (h.tell h3) h1 h2
    obtain ⟨b1, b2, b3⟩ := match_ok h h3 h1 h2
    have c1 := toldM_r h h3 hx h1 h2
    have hltn : (x.From - 1).toNat < r.Next.length := by have := h.na h3; omega
    have hltm : (x.From - 1).toNat < r.Match.length := by have := h.ma h3; omega
    unfold m_raft_member_told_k1 toldR
    simp only
    have hnot : ¬ (x.Term < r.Term ∨ r.Role ≠ 3) := by
      rintro (h | h)
      · exact ht h
      · exact h h3
    rw [if_neg hnot, if_neg (show ¬ (false = true) by simp), wrap_sm (n := x.From - 1) (by omega)]
    cases hok : x.Ok with
    | true =>
      simp only [if_true]
      rw [b1, bnd_some, logs_Last h.log hB, bnd_some, a1, bnd_some]
      have em : (if matchR r x.From < (if lastL r.Log < x.At then lastL r.Log else x.At) then (if lastL r.Log < x.At then lastL r.Log else x.At) else matchR r x.From) = toldM r x := rfl
      rw [em, get_setI (by omega) hltm, bnd_some, wrap_sm (n := toldM r x + 1) (by omega)]
      have en : (if nextR r x.From < toldM r x + 1 then toldM r x + 1 else nextR r x.From) = toldN r x := rfl
      rw [en]
      have hc := commit2_eq (out := out) (told0_ok h h3 hx h1 h2) hB h3
      have hc' : m_raft_member_commit_v2 ⟨⟨r.Id, r.N, r.Term, r.Vote, r.Role, r.Lead, r.Log, r.Commit, r.Snap, r.Granted, setI r.Next (x.From - 1) (toldN r x), setI r.Match (x.From - 1) (toldM r x), r.Clock, r.Wait⟩, out⟩ = some ⟨toldQ r x, out⟩ := hc
      have hnx : (toldQ r x).Next = setI r.Next (x.From - 1) (toldN r x) := commitR_next
      have hlg : (toldQ r x).Log = r.Log := commitR_log
      rw [hc', bnd_some]
      simp only
      rw [hnx, get_setI (by omega) hltn, bnd_some, hlg, logs_Last h.log hB, bnd_some]
      by_cases hl : lastL r.Log < toldN r x
      · rw [decide_eq_true hl, if_pos rfl, if_pos hl]
        simp
      · rw [decide_eq_false hl, if_neg (by simp), if_neg hl]
        unfold m_raft_member_told_k2
        have hq := toldQ_ok h h3 hx h1 h2
        have hr3 : (toldQ r x).Role = 3 := by unfold toldQ; rw [commitR_role]; exact h3
        have hN : (toldQ r x).N = r.N := commitR_n
        have ht2 := tell_eq (out := out) (hq.tell hr3) hB h1 (by rw [hN]; exact h2) (by omega)
        have ht3 : m_raft_member_tell x.From ⟨⟨(toldQ r x).Id, (toldQ r x).N, (toldQ r x).Term, (toldQ r x).Vote, (toldQ r x).Role, (toldQ r x).Lead, ⟨(toldQ r x).Log.Base, (toldQ r x).Log.BaseTerm, (toldQ r x).Log.Entries⟩, (toldQ r x).Commit, (toldQ r x).Snap, (toldQ r x).Granted, (toldQ r x).Next, (toldQ r x).Match, (toldQ r x).Clock, (toldQ r x).Wait⟩, out⟩ = some ⟨toldQ r x, out ++ [tellR (toldQ r x) x.From]⟩ := ht2
        rw [hnx, hlg] at ht3
        rw [ht3, bnd_some]
    | false =>
      simp only [Bool.false_eq_true, if_false]
      rw [b1, bnd_some, a1, bnd_some, wrap_sm (n := nextR r x.From - 2) (by omega), wrap_sm (n := matchR r x.From + 1) (by omega)]
      have ew : IntKind.i64.wrap ((if x.At < nextR r x.From - 2 then x.At else nextR r x.From - 2) + 1) = minI (nextR r x.From - 2) x.At + 1 := by
        unfold minI
        rw [wrap_sm (by split <;> omega)]
      rw [ew]
      have en : (if matchR r x.From + 1 < minI (nextR r x.From - 2) x.At + 1 then minI (nextR r x.From - 2) x.At + 1 else matchR r x.From + 1) = toldB r x := rfl
      rw [en]
      unfold m_raft_member_told_k2
      have hq := toldP_ok h h3 hx h1 h2
      have ht2 := tell_eq (out := out) (hq.tell h3) hB h1 h2 (by omega)
      have ht3 : m_raft_member_tell x.From ⟨⟨r.Id, r.N, r.Term, r.Vote, r.Role, r.Lead, ⟨r.Log.Base, r.Log.BaseTerm, r.Log.Entries⟩, r.Commit, r.Snap, r.Granted, setI r.Next (x.From - 1) (toldB r x), r.Match, r.Clock, r.Wait⟩, out⟩ = some ⟨toldP r x, out ++ [tellR (toldP r x) x.From]⟩ := ht2
      rw [ht3, bnd_some]
  have kt : (x.Term < r.Term ∨ r.Role ≠ 3) → m_raft_member_told_k1 x ⟨r, out⟩ true = some ⟨(toldR r x).1, out ++ (toldR r x).2⟩ := by
    intro hh
    unfold m_raft_member_told_k1 toldR
    rw [if_pos rfl, if_pos hh]
    simp
  unfold m_raft_member_told
  simp only
  by_cases ht : x.Term < r.Term
  · rw [decide_eq_true ht, if_pos rfl]; exact kt (.inl ht)
  · rw [decide_eq_false ht, if_neg (by simp)]
    by_cases h3 : r.Role = 3
    · exact kf _ (by simp [h3]) h3 ht
    · have : decide (r.Role ≠ 3) = true := by simp [h3]
      rw [this]; exact kt (.inr h3)
end
end Go.Proofs.Ytgoachcogmlhcaa.R
/- What the members' functions compute, plainly: Receive, Tick, Propose, Compact, Restart. -/
set_option maxRecDepth 100000
set_option linter.unusedVariables false
set_option linter.unusedSimpArgs false
noncomputable section
namespace Go.Proofs.Ytgoachcogmlhcaa.R
open Go
section
variable {B : Int} {r : TRaft} {x : TMsg}
theorem granted_ok (h : OkR B r) (v : Bool) : OkR B (grantedR r x) := by
  refine { h with gl := ?_, ga := ?_ }
  · show (setI r.Granted _ _).length ≤ 7; rw [setI_length]; exact h.gl
  · intro hr; show ((setI r.Granted _ _).length : Int) = r.N; rw [setI_length]; exact h.ga hr
theorem take_eq (h : OkR B r) (hB0 : 0 ≤ B) (hB : B + 2 ≤ 1000000) (hx : OkM B x) (h1 : 1 ≤ x.From) (h2 : x.From ≤ r.N) :
    m_raft_Receive_k3 x r.Id r.N r.Term r.Vote r.Role r.Lead r.Log.Base r.Log.BaseTerm r.Commit r.Clock r.Wait r.Log.Entries r.Snap r.Granted r.Next r.Match [] = some (takeR r x) := by
  have ht := h.term
  unfold m_raft_Receive_k3 takeR
  by_cases k1 : x.Kind = 1
  · have ha : m_raft_member_asked x ⟨⟨r.Id, r.N, r.Term, r.Vote, r.Role, r.Lead, ⟨r.Log.Base, r.Log.BaseTerm, r.Log.Entries⟩, r.Commit, r.Snap, r.Granted, r.Next, r.Match, r.Clock, r.Wait⟩, []⟩ = some ⟨(askedR r x).1, [] ++ (askedR r x).2⟩ := asked_eq h (by omega) (by simp)
    rw [decide_eq_true k1, if_pos rfl, if_pos k1, ha, bnd_some]; rfl
  rw [decide_eq_false k1, if_neg (show ¬ (false = true) by simp), if_neg k1]
  by_cases k2 : x.Kind = 2
  · rw [decide_eq_true k2, if_pos (show true = true from rfl), if_pos k2]
    unfold askOkR
    have kf : m_raft_Receive_k4 false r.Id r.N r.Term r.Vote r.Role r.Lead r.Log.Base r.Log.BaseTerm r.Commit r.Clock r.Wait r.Log.Entries r.Snap r.Granted r.Next r.Match [] = some (r, []) := rfl
    by_cases a1 : x.Ok = true
    · rw [if_pos a1]
      by_cases a2 : r.Role = 1
      · rw [decide_eq_true a2, if_pos (show true = true from rfl), wrap_sm (by omega)]
        by_cases a3 : x.Term = r.Term + 1
        · have hgl : (r.Granted.length : Int) = r.N := h.ga (.inl a2)
          have hg : m_raft_member_grant_v1 x.From ⟨⟨r.Id, r.N, r.Term, r.Vote, r.Role, r.Lead, ⟨r.Log.Base, r.Log.BaseTerm, r.Log.Entries⟩, r.Commit, r.Snap, r.Granted, r.Next, r.Match, r.Clock, r.Wait⟩, []⟩ = some (wonL (grantedR r x).Granted, ⟨grantedR r x, []⟩) := grant1_eq (r := r) h1 (by omega) h.gl
          rw [decide_eq_true a3, if_pos (show true = true from rfl), if_pos ⟨a1, a2, a3⟩, hg, bnd_some]
          unfold m_raft_Receive_k4
          simp only
          cases hw : wonL (grantedR r x).Granted with
          | true =>
            have hs : m_raft_member_stand_v1 ⟨⟨(grantedR r x).Id, (grantedR r x).N, (grantedR r x).Term, (grantedR r x).Vote, (grantedR r x).Role, (grantedR r x).Lead, ⟨(grantedR r x).Log.Base, (grantedR r x).Log.BaseTerm, (grantedR r x).Log.Entries⟩, (grantedR r x).Commit, (grantedR r x).Snap, (grantedR r x).Granted, (grantedR r x).Next, (grantedR r x).Match, (grantedR r x).Clock, (grantedR r x).Wait⟩, []⟩ = some ⟨(standR (grantedR r x)).1, [] ++ (standR (grantedR r x)).2⟩ := by
              rw [stand1_fun]; exact stand_eq (granted_ok h true) hB0 hB (by simp)
            rw [if_pos rfl, if_pos rfl, hs, bnd_some]; rfl
          | false => rfl
        · have : ¬ (x.Ok = true ∧ r.Role = 1 ∧ x.Term = r.Term + 1) := fun hh => a3 hh.2.2
          rw [decide_eq_false a3, if_neg (show ¬ (false = true) by simp), if_neg this]; rfl
      · have : ¬ (x.Ok = true ∧ r.Role = 1 ∧ x.Term = r.Term + 1) := fun hh => a2 hh.2.1
        rw [decide_eq_false a2, if_neg (show ¬ (false = true) by simp), if_neg this]; rfl
    · have : ¬ (x.Ok = true ∧ r.Role = 1 ∧ x.Term = r.Term + 1) := fun hh => a1 hh.1
      rw [if_neg a1, if_neg this]; rfl
  rw [decide_eq_false k2, if_neg (show ¬ (false = true) by simp), if_neg k2]
  by_cases k3 : x.Kind = 3
  · have ha : m_raft_member_vote x ⟨⟨r.Id, r.N, r.Term, r.Vote, r.Role, r.Lead, ⟨r.Log.Base, r.Log.BaseTerm, r.Log.Entries⟩, r.Commit, r.Snap, r.Granted, r.Next, r.Match, r.Clock, r.Wait⟩, []⟩ = some ⟨(voteR r x).1, [] ++ (voteR r x).2⟩ := vote_eq h (by omega) (by simp)
    rw [decide_eq_true k3, if_pos (show true = true from rfl), if_pos k3, ha, bnd_some]; rfl
  rw [decide_eq_false k3, if_neg (show ¬ (false = true) by simp), if_neg k3]
  by_cases k4 : x.Kind = 4
  · rw [decide_eq_true k4, if_pos (show true = true from rfl), if_pos k4]
    unfold voteOkR
    by_cases a1 : x.Ok = true
    · rw [if_pos a1]
      by_cases a2 : r.Role = 2
      · rw [decide_eq_true a2, if_pos (show true = true from rfl)]
        by_cases a3 : x.Term = r.Term
        · have hgl : (r.Granted.length : Int) = r.N := h.ga (.inr a2)
          have hg : m_raft_member_grant_v1 x.From ⟨⟨r.Id, r.N, r.Term, r.Vote, r.Role, r.Lead, ⟨r.Log.Base, r.Log.BaseTerm, r.Log.Entries⟩, r.Commit, r.Snap, r.Granted, r.Next, r.Match, r.Clock, r.Wait⟩, []⟩ = some (wonL (grantedR r x).Granted, ⟨grantedR r x, []⟩) := grant1_eq (r := r) h1 (by omega) h.gl
          rw [decide_eq_true a3, if_pos (show true = true from rfl), if_pos ⟨a1, a2, a3⟩, hg, bnd_some]
          unfold m_raft_Receive_k5
          simp only
          cases hw : wonL (grantedR r x).Granted with
          | true =>
            have hs : m_raft_member_lead_v1 ⟨⟨(grantedR r x).Id, (grantedR r x).N, (grantedR r x).Term, (grantedR r x).Vote, (grantedR r x).Role, (grantedR r x).Lead, ⟨(grantedR r x).Log.Base, (grantedR r x).Log.BaseTerm, (grantedR r x).Log.Entries⟩, (grantedR r x).Commit, (grantedR r x).Snap, (grantedR r x).Granted, (grantedR r x).Next, (grantedR r x).Match, (grantedR r x).Clock, (grantedR r x).Wait⟩, []⟩ = some ⟨(leadR (grantedR r x)).1, [] ++ (leadR (grantedR r x)).2⟩ := by
              rw [lead1_fun]; exact lead_eq (granted_ok h true) hB0 (by omega) (by simp)
            rw [if_pos rfl, if_pos rfl, hs, bnd_some]; rfl
          | false => rfl
        · have : ¬ (x.Ok = true ∧ r.Role = 2 ∧ x.Term = r.Term) := fun hh => a3 hh.2.2
          rw [decide_eq_false a3, if_neg (show ¬ (false = true) by simp), if_neg this]; rfl
      · have : ¬ (x.Ok = true ∧ r.Role = 2 ∧ x.Term = r.Term) := fun hh => a2 hh.2.1
        rw [decide_eq_false a2, if_neg (show ¬ (false = true) by simp), if_neg this]; rfl
    · have : ¬ (x.Ok = true ∧ r.Role = 2 ∧ x.Term = r.Term) := fun hh => a1 hh.1
      rw [if_neg a1, if_neg this]; rfl
  rw [decide_eq_false k4, if_neg (show ¬ (false = true) by simp), if_neg k4]
  by_cases k5 : x.Kind = 5
  · have ha : m_raft_member_entries x ⟨⟨r.Id, r.N, r.Term, r.Vote, r.Role, r.Lead, ⟨r.Log.Base, r.Log.BaseTerm, r.Log.Entries⟩, r.Commit, r.Snap, r.Granted, r.Next, r.Match, r.Clock, r.Wait⟩, []⟩ = some ⟨(entriesR r x).1, [] ++ (entriesR r x).2⟩ := entries_eq h (by omega) hx (by simp)
    rw [decide_eq_true k5, if_pos (show true = true from rfl), if_pos k5, ha, bnd_some]; rfl
  rw [decide_eq_false k5, if_neg (show ¬ (false = true) by simp), if_neg k5]
  by_cases k6 : x.Kind = 6
  · have ha : m_raft_member_told x ⟨⟨r.Id, r.N, r.Term, r.Vote, r.Role, r.Lead, ⟨r.Log.Base, r.Log.BaseTerm, r.Log.Entries⟩, r.Commit, r.Snap, r.Granted, r.Next, r.Match, r.Clock, r.Wait⟩, []⟩ = some ⟨(toldR r x).1, [] ++ (toldR r x).2⟩ := told_eq h (by omega) hx h1 h2 (by simp)
    rw [decide_eq_true k6, if_pos (show true = true from rfl), if_pos k6, ha, bnd_some]; rfl
  rw [decide_eq_false k6, if_neg (show ¬ (false = true) by simp), if_neg k6]
  by_cases k7 : x.Kind = 7
  · have ha : m_raft_member_snap x ⟨⟨r.Id, r.N, r.Term, r.Vote, r.Role, r.Lead, ⟨r.Log.Base, r.Log.BaseTerm, r.Log.Entries⟩, r.Commit, r.Snap, r.Granted, r.Next, r.Match, r.Clock, r.Wait⟩, []⟩ = some ⟨(snapR r x).1, [] ++ (snapR r x).2⟩ := snap_eq h (by omega) hx (by simp)
    rw [decide_eq_true k7, if_pos (show true = true from rfl), if_pos k7, ha, bnd_some]; rfl
  rw [decide_eq_false k7, if_neg (show ¬ (false = true) by simp), if_neg k7]
  rfl
theorem receive_eq (h : OkR B r) (hB0 : 0 ≤ B) (hB : B + 2 ≤ 1000000) (hx : OkM B x) : m_raft_Receive r x = some (receiveR r x) := by
  have kt : ∀ v, v = refuseB r x → m_raft_Receive_k1 x ⟨r, []⟩ v = some (receiveR r x) := by
    intro v hv
    unfold m_raft_Receive_k1 receiveR
    rw [← hv]
    cases v with
    | true => rfl
    | false =>
      have hv := hv.symm
      unfold refuseB at hv
      simp only [Bool.or_eq_false_iff, decide_eq_false_iff_not] at hv
      have h1 : 1 ≤ x.From := by omega
      have h2 : x.From ≤ r.N := by omega
      simp only [Bool.false_eq_true, if_false]
      have kk : ∀ w, w = riseB r x → m_raft_Receive_k2 x ⟨r, []⟩ w = some (if riseB r x = true then takeR (followR r x.Term 0) x else takeR r x) := by
        intro w hw
        unfold m_raft_Receive_k2
        rw [← hw]
        cases w with
        | true =>
          simp only [if_true]
          rw [follow_eq, bnd_some]
          exact take_eq (follow_ok h hx.term.2) hB0 hB hx h1 h2
        | false =>
          simp only [Bool.false_eq_true, if_false]
          exact take_eq h hB0 hB hx h1 h2
      by_cases t1 : r.Term < x.Term
      · rw [decide_eq_true t1, if_pos rfl]
        by_cases t2 : x.Kind = 1
        · have e : decide (x.Kind ≠ 1) = false := by simp [t2]
          rw [e, if_neg (by simp)]
          exact kk _ (by simp [riseB, t2])
        · have e : decide (x.Kind ≠ 1) = true := by simp [t2]
          rw [e, if_pos rfl]
          by_cases t3 : x.Kind = 2
          · have e : decide (x.Kind ≠ 2) = false := by simp [t3]
            rw [e, if_neg (by simp)]
            exact kk _ (by simp [riseB, t1, t3])
          · have e : decide (x.Kind ≠ 2) = true := by simp [t3]
            rw [e, if_pos rfl]
            exact kk _ (by simp [riseB, t1, t2, t3])
      · rw [decide_eq_false t1, if_neg (by simp)]
        exact kk _ (by simp [riseB, t1])
  unfold m_raft_Receive
  rw [at_eq h (by omega), bnd_some]
  simp only
  by_cases a1 : x.To = r.Id
  · have e : decide (x.To ≠ r.Id) = false := by simp [a1]
    rw [e, if_neg (by simp)]
    by_cases a2 : x.From < 1
    · rw [decide_eq_true a2, if_pos rfl]; exact kt _ (by simp [refuseB, a2])
    rw [decide_eq_false a2, if_neg (by simp)]
    by_cases a3 : r.N < x.From
    · rw [decide_eq_true a3, if_pos rfl]; exact kt _ (by simp [refuseB, a3])
    rw [decide_eq_false a3, if_neg (by simp)]
    by_cases a4 : x.From = r.Id
    · rw [decide_eq_true a4, if_pos rfl]; exact kt _ (by simp [refuseB, a4])
    rw [decide_eq_false a4, if_neg (by simp)]
    by_cases a5 : x.Term < 0
    · rw [decide_eq_true a5, if_pos rfl]; exact kt _ (by simp [refuseB, a5])
    rw [decide_eq_false a5, if_neg (by simp)]
    by_cases a6 : 1099511627776 < x.Term
    · rw [decide_eq_true a6, if_pos rfl]; exact kt _ (by simp [refuseB, a6])
    rw [decide_eq_false a6, if_neg (by simp)]
    exact kt _ (by simp [refuseB, a1, a2, a3, a4, a5, a6])
  · have e : decide (x.To ≠ r.Id) = true := by simp [a1]
    rw [e, if_pos rfl]; exact kt _ (by simp [refuseB, a1])
theorem tick0_ok (h : OkR B r) : OkR (B + 1) { r with Clock := r.Clock + 1 } := by
  have hc := h.clock
  have hm := h.mono (B' := B + 1) (by omega)
  exact { hm with clock := ⟨by show 0 ≤ r.Clock + 1; omega, by show r.Clock + 1 ≤ B + 1; omega⟩ }
theorem tick1_ok (h : OkR B r) (hB0 : 0 ≤ B) : OkR B { r with Clock := 0 } := { h with clock := ⟨Int.le_refl _, hB0⟩ }
theorem tick_eq (h : OkR B r) (hB0 : 0 ≤ B) (hB : B + 3 ≤ 1000000) (draw : Int) : m_raft_Tick r draw = some (tickR r draw) := by
  have hc := h.clock
  have hw : IntKind.i64.wrap (r.Clock + 1) = r.Clock + 1 := wrap_sm (by omega)
  unfold m_raft_Tick tickR
  rw [at_eq h (by omega), bnd_some]
  simp only
  unfold m_raft_Tick_k1
  by_cases h3 : r.Role = 3
  · rw [decide_eq_true h3, if_pos rfl, if_pos h3]
    simp only [hw]
    by_cases h2 : 2 ≤ r.Clock + 1
    · have ha : m_raft_member_all ⟨⟨r.Id, r.N, r.Term, r.Vote, r.Role, r.Lead, r.Log, r.Commit, r.Snap, r.Granted, r.Next, r.Match, 0, r.Wait⟩, []⟩ = some ⟨{ r with Clock := 0 }, [] ++ (othersR { r with Clock := 0 }).map (tellR { r with Clock := 0 })⟩ := all_eq ((tick1_ok h hB0).tell h3) (by omega) (by simp)
      rw [decide_eq_true h2, if_pos rfl, if_pos h2, ha, bnd_some]; rfl
    · rw [decide_eq_false h2, if_neg (show ¬ (false = true) by simp), if_neg h2]
      have e : decide (r.Role ≠ 3) = false := by simp [h3]
      rw [e, if_neg (show ¬ (false = true) by simp)]
      unfold m_raft_Tick_k2
      simp only [hw]
      rfl
  · rw [decide_eq_false h3, if_neg (show ¬ (false = true) by simp), if_neg h3, if_neg (show ¬ (false = true) by simp)]
    have e : decide (r.Role ≠ 3) = true := by simp [h3]
    simp only [hw]
    rw [e, if_pos (show true = true from rfl)]
    unfold m_raft_Tick_k2
    simp only [hw]
    by_cases hwt : r.Wait ≤ r.Clock + 1
    · have ha : m_raft_member_ask draw ⟨⟨r.Id, r.N, r.Term, r.Vote, r.Role, r.Lead, r.Log, r.Commit, r.Snap, r.Granted, r.Next, r.Match, r.Clock + 1, r.Wait⟩, []⟩ = some ⟨(askR { r with Clock := r.Clock + 1 } draw).1, [] ++ (askR { r with Clock := r.Clock + 1 } draw).2⟩ := ask_eq (tick0_ok h) (by omega) (by omega) draw (by simp)
      rw [decide_eq_true hwt, if_pos rfl, if_pos hwt, ha, bnd_some]; rfl
    · rw [decide_eq_false hwt, if_neg (show ¬ (false = true) by simp), if_neg hwt]; rfl
theorem propose_eq (h : OkR B r) (hB : B + 1 ≤ 1000000) {data : List Int} (hd : data.length ≤ 1000) : m_raft_Propose r data = some (if r.Role = 3 then ((appendR r data).1, lastL (appendR r data).1.Log, (appendR r data).2, 0) else (r, 0, [], 15)) := by
  unfold m_raft_Propose
  rw [at_eq h (by omega), bnd_some]
  simp only
  by_cases h3 : r.Role = 3
  · have e : decide (r.Role ≠ 3) = false := by simp [h3]
    have hl : (appendR r data).1.Log = (behindR r data).Log := commitR_log
    have hq := (commit_ok (behind_ok h h3 hd) h3).log
    rw [e, if_neg (by simp), if_pos h3, append1_eq h hB h3 hd (by simp), bnd_some]
    show bnd (some ((appendR r data).1, [] ++ (appendR r data).2)) _ = _
    rw [bnd_some]
    simp only
    have hlast : m_logs_Last (appendR r data).1.Log = some (lastL (appendR r data).1.Log) := logs_Last hq hB
    rw [hlast, bnd_some]
    simp
  · have e : decide (r.Role ≠ 3) = true := by simp [h3]
    rw [e, if_pos rfl, if_neg h3]
def compactB (r : TRaft) (upto : Int) : Bool := decide (r.Log.Base < upto) && (decide (upto ≤ r.Commit) && (termL r.Log upto).isSome)
def compactR (r : TRaft) (upto : Int) (snap : List Int) : TRaft := { r with Log := compactL r.Log upto, Snap := snap }
theorem compact_eq (h : OkR B r) (hB : B ≤ 1000000) {upto : Int} (hu : -1000000 ≤ upto ∧ upto ≤ 1000000) {snap : List Int} (hs : snap.length ≤ 1000) : m_raft_Compact r upto snap = some (if compactB r upto = true then (compactR r upto snap, 0) else (r, 2)) := by
  have kk : ∀ v, m_raft_Compact_k1 upto snap ⟨r, []⟩ v = some (if v = false ∧ (termL r.Log upto).isSome = true then (compactR r upto snap, 0) else (r, 2)) := by
    intro v
    unfold m_raft_Compact_k1
    cases v with
    | true => simp
    | false =>
      simp only [Bool.false_eq_true, if_false]
      rw [logs_Compact h.log hB (by omega), bnd_some]
      cases ht : termL r.Log upto with
      | none => simp
      | some t =>
        simp only [Option.isSome_some, if_true]
        rw [if_neg (by simp), if_pos (capB_small (by omega))]
        simp [compactR]
  unfold m_raft_Compact
  rw [at_eq h hB, bnd_some]
  simp only
  by_cases h1 : upto ≤ r.Log.Base
  · have : ¬ r.Log.Base < upto := by omega
    rw [decide_eq_true h1, if_pos rfl, kk]
    simp [compactB, this]
  · have h1' : r.Log.Base < upto := by omega
    rw [decide_eq_false h1, if_neg (by simp), kk]
    by_cases h2 : r.Commit < upto
    · have : ¬ upto ≤ r.Commit := by omega
      simp [compactB, h2, this]
    · have : upto ≤ r.Commit := by omega
      simp [compactB, h2, this, h1']
end
end Go.Proofs.Ytgoachcogmlhcaa.R
/- What may be stays so: members and messages keep within bounds. -/
set_option maxRecDepth 100000
set_option linter.unusedVariables false
set_option linter.unusedSimpArgs false
noncomputable section
namespace Go.Proofs.Ytgoachcogmlhcaa.R
open Go
theorem othersF_mem {id : Int} : ∀ {k : Nat} {a to : Int}, to ∈ othersF id k a → a ≤ to ∧ to < a + k ∧ to ≠ id
  | 0, a, to, h => by simp [othersF] at h
  | k + 1, a, to, h => by
    unfold othersF at h
    split at h
    · rename_i hn
      rcases List.mem_cons.1 h with rfl | h
      · exact ⟨Int.le_refl _, by omega, hn⟩
      · have := othersF_mem h; omega
    · have := othersF_mem h; omega
theorem othersF_len {id : Int} : ∀ (k : Nat) (a : Int), (othersF id k a).length ≤ k
  | 0, a => by simp [othersF]
  | k + 1, a => by
    unfold othersF
    split
    · have := othersF_len (id := id) k (a + 1); simp; omega
    · have := othersF_len (id := id) k (a + 1); omega
structure OutOk (B : Int) (r : TRaft) (p : TRaft × List TMsg) : Prop where
  ok : OkR B p.1
  id : p.1.Id = r.Id
  n : p.1.N = r.N
  len : p.2.length ≤ 7
  msg : ∀ y ∈ p.2, OkM B y ∧ y.From = r.Id
section
variable {B : Int} {r : TRaft} {x : TMsg}
theorem OkM.mono {B' : Int} (h : OkM B x) (hb : B ≤ B') : OkM B' x :=
  ⟨⟨h.term.1, by have := h.term.2; omega⟩, ⟨h.at0.1, by have := h.at0.2; omega⟩, ⟨h.att.1, by have := h.att.2; omega⟩, ⟨h.commit.1, by have := h.commit.2; omega⟩, h.el, fun y hy => (h.e y hy).mono hb, h.d, by have := h.ate; omega⟩
theorem OutOk.mono {B' : Int} {p : TRaft × List TMsg} (h : OutOk B r p) (hb : B ≤ B') : OutOk B' r p := ⟨h.ok.mono hb, h.id, h.n, h.len, fun y hy => ⟨(h.msg y hy).1.mono hb, (h.msg y hy).2⟩⟩
theorem others_mem (h : OkR B r) {to : Int} (ht : to ∈ othersR r) : 1 ≤ to ∧ to ≤ r.N ∧ to ≠ r.Id := by
  have := othersF_mem ht
  have := h.id
  omega
theorem others_len (h : OkR B r) : (othersR r).length ≤ 7 := by
  have := othersF_len (id := r.Id) r.N.toNat 1
  have := h.n
  unfold othersR
  omega
theorem fromL_ok (h : OkG B r.Log) (i : Int) : (fromL r.Log i).length ≤ 8 ∧ (∀ y ∈ fromL r.Log i, OkE B y) ∧ (0 ≤ B → 1 ≤ i → i - 1 ≤ B → i - 1 + ((fromL r.Log i).length : Int) ≤ B) := by
  have hl := h.last; have hb := h.b
  unfold fromL
  split
  · simp
  · rename_i hc
    unfold lastL at hc
    refine ⟨by simp; omega, fun y hy => h.e y (List.mem_of_mem_drop (List.mem_of_mem_take hy)), fun _ _ _ => ?_⟩
    simp
    omega
theorem tellR_ok (h : OkR B r) (hB0 : 0 ≤ B) (h3 : r.Role = 3) {to : Int} (h1 : 1 ≤ to) (h2 : to ≤ r.N) : OkM B (tellR r to) := by
  obtain ⟨_, n1, n2⟩ := next_ok (h.tell h3) h1 h2
  have hl := h.log.last; have hb := h.log.b
  unfold tellR
  split
  · exact ⟨h.term, ⟨h.log.b, by show r.Log.Base ≤ B; omega⟩, h.log.bt, h.commit, by simp, by simp, h.snap, by show r.Log.Base + (([] : List TEntry).length : Int) ≤ B; simp; omega⟩
  · obtain ⟨f1, f2, f3⟩ := fromL_ok h.log (nextR r to)
    exact ⟨h.term, ⟨by show 0 ≤ nextR r to - 1; omega, by show nextR r to - 1 ≤ B; omega⟩, termL_r h.log hB0 _, h.commit, f1, f2, by simp, f3 hB0 n1 (by omega)⟩
theorem lastTermL_r (h : OkG B r.Log) (hB0 : 0 ≤ B) : 0 ≤ lastTermL r.Log ∧ lastTermL r.Log ≤ B := termL_r h hB0 _
theorem lastL_r0 (h : OkG B r.Log) : 0 ≤ lastL r.Log ∧ lastL r.Log ≤ B := by
  have hl := h.last; have hb := h.b
  unfold lastL
  omega
theorem voteM_ok (h : OkR B r) (hB0 : 0 ≤ B) (to : Int) : OkM B (voteM r to) := by
  have hl := lastL_r0 h.log
  exact ⟨h.term, hl, lastTermL_r h.log hB0, ⟨Int.le_refl _, hB0⟩, by simp [voteM], by simp [voteM], by simp [voteM], by show lastL r.Log + (([] : List TEntry).length : Int) ≤ B; simp; omega⟩
theorem askM_ok (h : OkR B r) (hB0 : 0 ≤ B) (to : Int) : OkM (B + 1) (askM r to) := by
  have hl := lastL_r0 h.log
  have ht := h.term
  have hlt := lastTermL_r h.log hB0
  exact ⟨⟨by show 0 ≤ r.Term + 1; omega, by show r.Term + 1 ≤ B + 1; omega⟩, ⟨hl.1, by show lastL r.Log ≤ B + 1; omega⟩, ⟨hlt.1, by show lastTermL r.Log ≤ B + 1; omega⟩, ⟨Int.le_refl _, by show (0 : Int) ≤ B + 1; omega⟩, by simp [askM], by simp [askM], by simp [askM], by show lastL r.Log + (([] : List TEntry).length : Int) ≤ B + 1; simp; omega⟩
theorem backM_ok {kind term at0 : Int} {ok : Bool} (hB0 : 0 ≤ B) (ht : 0 ≤ term ∧ term ≤ B) (ha : 0 ≤ at0 ∧ at0 ≤ B) : OkM B (backM r x kind term at0 ok) :=
  ⟨ht, ha, ⟨Int.le_refl _, hB0⟩, ⟨Int.le_refl _, hB0⟩, by simp [backM], by simp [backM], by simp [backM], by show at0 + (([] : List TEntry).length : Int) ≤ B; simp; omega⟩
theorem same_out (h : OkR B r) : OutOk B r (r, []) := ⟨h, rfl, rfl, by simp, by simp⟩
theorem append_out (h : OkR B r) (hB0 : 0 ≤ B) (h3 : r.Role = 3) {data : List Int} (hd : data.length ≤ 1000) : OutOk (B + 1) r (appendR r data) := by
  have hb := behind_ok h h3 hd
  have hc := commit_ok hb h3
  refine ⟨hc, commitR_id, commitR_n, by show ((othersR r).map _).length ≤ 7; rw [List.length_map]; exact others_len h, fun y hy => ?_⟩
  have hy : y ∈ (othersR r).map (tellR (commitR (behindR r data))) := hy
  obtain ⟨to, ht, rfl⟩ := List.mem_map.1 hy
  obtain ⟨t1, t2, _⟩ := others_mem h ht
  have hn : (commitR (behindR r data)).N = r.N := commitR_n
  refine ⟨tellR_ok hc (by omega) (by rw [commitR_role]; exact h3) t1 (by rw [hn]; exact t2), ?_⟩
  have hi : (commitR (behindR r data)).Id = r.Id := commitR_id
  unfold tellR
  split <;> exact hi
theorem lead_out (h : OkR B r) (hB0 : 0 ≤ B) : OutOk (B + 1) r (leadR r) := by
  have := append_out (leadQ_ok h hB0) hB0 rfl (data := []) (by simp)
  exact ⟨this.ok, this.id, this.n, this.len, this.msg⟩
theorem stand_out (h : OkR B r) (hB0 : 0 ≤ B) : OutOk (B + 2) r (standR r) := by
  have hq := standQ_ok h hB0
  unfold standR
  split
  · have := lead_out hq (by omega)
    exact ⟨this.ok.mono (by omega), this.id, this.n, this.len, fun y hy => ⟨(this.msg y hy).1.mono (by omega), (this.msg y hy).2⟩⟩
  · refine ⟨hq.mono (by omega), rfl, rfl, by rw [List.length_map]; exact others_len h, fun y hy => ?_⟩
    obtain ⟨to, ht, rfl⟩ := List.mem_map.1 hy
    exact ⟨(voteM_ok hq (by omega) to).mono (by omega), rfl⟩
theorem ask_out (h : OkR B r) (hB0 : 0 ≤ B) (draw : Int) : OutOk (B + 2) r (askR r draw) := by
  have hq := askQ_ok h hB0 draw
  unfold askR
  split
  · have := stand_out hq hB0
    exact ⟨this.ok, this.id, this.n, this.len, this.msg⟩
  · refine ⟨hq.mono (by omega), rfl, rfl, by rw [List.length_map]; exact others_len h, fun y hy => ?_⟩
    obtain ⟨to, ht, rfl⟩ := List.mem_map.1 hy
    exact ⟨(askM_ok hq hB0 to).mono (by omega), rfl⟩
theorem tick_out (h : OkR B r) (hB0 : 0 ≤ B) (draw : Int) : OutOk (B + 3) r (tickR r draw) := by
  have h0 := tick0_ok h
  have h1 := tick1_ok h hB0
  unfold tickR
  simp only
  split
  · rename_i h3
    split
    · refine ⟨h1.mono (by omega), rfl, rfl, by rw [List.length_map]; exact others_len h, fun y hy => ?_⟩
      obtain ⟨to, ht, rfl⟩ := List.mem_map.1 hy
      obtain ⟨t1, t2, _⟩ := others_mem h ht
      exact ⟨(tellR_ok h1 hB0 h3 t1 t2).mono (by omega), by unfold tellR; split <;> rfl⟩
    · exact ⟨h0.mono (by omega), rfl, rfl, by simp, by simp⟩
  · split
    · have := ask_out h0 (by omega) draw
      exact ⟨this.ok.mono (by omega), this.id, this.n, this.len, fun y hy => ⟨(this.msg y hy).1.mono (by omega), (this.msg y hy).2⟩⟩
    · exact ⟨h0.mono (by omega), rfl, rfl, by simp, by simp⟩
theorem mergeL_ok {ents : List TEntry} (he : ∀ y ∈ ents, OkE B y) : ∀ (k : Nat) (new : List TEntry), (∀ y ∈ new, OkE B y) → (∀ y ∈ mergeL ents k new, OkE B y) ∧ ((mergeL ents k new).length ≤ ents.length ∨ (mergeL ents k new).length ≤ k + new.length) := by
  intro k new
  induction new generalizing k with
  | nil => intro _; exact ⟨he, .inl (Nat.le_refl _)⟩
  | cons e r ih =>
    intro hn
    unfold mergeL
    split
    · split
      · obtain ⟨h1, h2⟩ := ih (k + 1) fun y hy => hn y (List.mem_cons_of_mem _ hy)
        exact ⟨h1, by simp only [List.length_cons]; omega⟩
      · refine ⟨fun y hy => ?_, .inr (by simp; omega)⟩
        rcases List.mem_append.1 hy with hy | hy
        · exact he y (List.mem_of_mem_take hy)
        · exact hn y hy
    · rename_i hg
      have := List.getElem?_eq_none_iff.1 hg
      refine ⟨fun y hy => ?_, .inr (by simp; omega)⟩
      rcases List.mem_append.1 hy with hy | hy
      · exact he y hy
      · exact hn y hy
theorem putC_ok {l : TLog} (h : OkG B l) (hB0 : 0 ≤ B) {at0 term : Int} {es : List TEntry} (h1 : l.Base ≤ at0) (h2 : at0 ≤ B) (h3 : at0 + (es.length : Int) ≤ B) (he : ∀ y ∈ es, OkE B y) : OkG B (putC l at0 term es).1 ∧ 0 ≤ (putC l at0 term es).2.1 ∧ (putC l at0 term es).2.1 ≤ B := by
  have hl := h.last; have hb := h.b
  unfold putC
  split
  · exact ⟨h, by unfold lastL; show 0 ≤ l.Base + _; omega, by unfold lastL; show l.Base + _ ≤ B; omega⟩
  · rename_i mine hm
    split
    · have := hintN_r l mine (at0 - 1 - l.Base).toNat
      refine ⟨h, ?_, ?_⟩
      · show 0 ≤ hintL l at0 mine; unfold hintL; omega
      · show hintL l at0 mine ≤ B
        unfold hintL
        rcases Int.lt_or_le at0 (l.Base + 1) with hlt | hge
        · have e : (at0 - 1 - l.Base).toNat = 0 := by omega
          rw [e]; unfold hintN; omega
        · omega
    · obtain ⟨m1, m2⟩ := mergeL_ok h.e (at0 - l.Base).toNat es he
      refine ⟨⟨h.b, h.bt, ?_, m1⟩, by show 0 ≤ at0 + _; omega, h3⟩
      show l.Base + ((mergeL _ _ _).length : Int) ≤ B
      omega
theorem putL_ok {l : TLog} (h : OkG B l) (hB0 : 0 ≤ B) (hx : OkM B x) : OkG B (putL l x.At x.AtTerm x.Entries).1 ∧ 0 ≤ (putL l x.At x.AtTerm x.Entries).2.1 ∧ (putL l x.At x.AtTerm x.Entries).2.1 ≤ B := by
  have hl := h.last; have hb := h.b; have ha := hx.at0; have hate := hx.ate
  unfold putL
  split
  · split
    · exact ⟨h, h.b, by show l.Base ≤ B; omega⟩
    · exact putC_ok h hB0 (Int.le_refl _) (by omega) (by simp; omega) fun y hy => hx.e y (List.mem_of_mem_drop hy)
  · exact putC_ok h hB0 (by omega) ha.2 hate hx.e
theorem compactL_ok {l : TLog} (h : OkG B l) (hB0 : 0 ≤ B) {i : Int} (h1 : l.Base ≤ i) (h2 : i ≤ lastL l) : OkG B (compactL l i) := by
  have hl := h.last; have hb := h.b
  unfold lastL at h2
  refine ⟨by show 0 ≤ i; omega, termL_r h hB0 i, ?_, fun y hy => h.e y (List.mem_of_mem_drop hy)⟩
  show i + ((l.Entries.drop _).length : Int) ≤ B
  simp
  omega
theorem resetL_ok {l : TLog} (h : OkG B l) (hB0 : 0 ≤ B) {i term : Int} (h1 : 0 ≤ i) (h2 : i ≤ B) (ht : 0 ≤ term ∧ term ≤ B) : OkG B (resetL l i term) := by
  unfold resetL
  split
  · rename_i hh
    have := termL_some hh
    exact compactL_ok h hB0 this.1 this.2
  · exact ⟨h1, ht, by simp; exact h2, by simp⟩
theorem hearQ_ok (h : OkR B r) (hB0 : 0 ≤ B) (hx : OkM B x) : OkR B (hearQ r x) := by
  have := follow_ok h (t := x.Term) (l := x.From) hx.term.2
  exact { this with clock := ⟨Int.le_refl _, hB0⟩ }
theorem take_out (h : OkR B r) (hB0 : 0 ≤ B) (hx : OkM B x) (h1 : 1 ≤ x.From) (h2 : x.From ≤ r.N) : OutOk (B + 2) r (takeR r x) := by
  have ht := h.term; have hid := h.id; have hn := h.n
  have one : ∀ {q : TRaft} {m : TMsg}, OkR B q → q.Id = r.Id → q.N = r.N → OkM B m → m.From = r.Id → OutOk (B + 2) r (q, [m]) := fun hq e1 e2 hm e3 =>
    ⟨hq.mono (by omega), e1, e2, by simp, fun y hy => by simp at hy; subst hy; exact ⟨hm.mono (by omega), e3⟩⟩
  have none : OutOk (B + 2) r (r, []) := (same_out h).mono (by omega)
  unfold takeR
  split
  · exact one h rfl rfl (backM_ok hB0 (by split; exact hx.term; exact h.term) ⟨Int.le_refl _, hB0⟩) rfl
  split
  · unfold askOkR
    split
    · have hg := granted_ok (x := x) h true
      split
      · have := stand_out hg hB0
        exact ⟨this.ok, this.id, this.n, this.len, this.msg⟩
      · exact ⟨hg.mono (by omega), rfl, rfl, by simp, by simp⟩
    · exact none
  split
  · unfold voteR
    split
    · have hq : OkR B { r with Vote := x.From, Clock := 0 } := { h with vote := ⟨by show 0 ≤ x.From; omega, by show x.From ≤ 7; omega⟩, clock := ⟨Int.le_refl _, hB0⟩ }
      exact one hq rfl rfl (backM_ok hB0 h.term ⟨Int.le_refl _, hB0⟩) rfl
    · exact one h rfl rfl (backM_ok hB0 h.term ⟨Int.le_refl _, hB0⟩) rfl
  split
  · unfold voteOkR
    split
    · have hg := granted_ok (x := x) h true
      split
      · have := lead_out hg hB0
        exact ⟨this.ok.mono (by omega), this.id, this.n, this.len, fun y hy => ⟨(this.msg y hy).1.mono (by omega), (this.msg y hy).2⟩⟩
      · exact ⟨hg.mono (by omega), rfl, rfl, by simp, by simp⟩
    · exact none
  split
  · unfold entriesR
    split
    · exact one h rfl rfl (backM_ok hB0 h.term ⟨Int.le_refl _, hB0⟩) rfl
    · obtain ⟨p1, p2, p3⟩ := putL_ok h.log hB0 hx
      have hq := hearQ_ok h hB0 hx
      simp only
      split
      · have hc := h.commit; have hxc := hx.commit
        have hmm : 0 ≤ maxI r.Commit (minI x.Commit (putL r.Log x.At x.AtTerm x.Entries).2.1) ∧ maxI r.Commit (minI x.Commit (putL r.Log x.At x.AtTerm x.Entries).2.1) ≤ B := by
          unfold maxI minI
          split <;> split at * <;> omega
        exact one (q := { hearQ r x with Log := (putL r.Log x.At x.AtTerm x.Entries).1, Commit := maxI r.Commit (minI x.Commit (putL r.Log x.At x.AtTerm x.Entries).2.1) }) { hq with log := p1, commit := hmm } rfl rfl (backM_ok hB0 hq.term ⟨p2, p3⟩) rfl
      · exact one hq rfl rfl (backM_ok hB0 hq.term ⟨p2, p3⟩) rfl
  split
  · unfold toldR
    split
    · exact none
    · rename_i hr
      have h3 : r.Role = 3 := by
        rcases Classical.em (r.Role = 3) with h | h
        · exact h
        · exact absurd (.inr h) hr
      have hq := toldQ_ok h h3 hx h1 h2
      have hp := toldP_ok h h3 hx h1 h2
      have e1 : (toldQ r x).Id = r.Id := commitR_id
      have e2 : (toldQ r x).N = r.N := commitR_n
      have e3 : (toldQ r x).Role = 3 := by unfold toldQ; rw [commitR_role]; exact h3
      split
      · split
        · exact ⟨hq.mono (by omega), e1, e2, by simp, by simp⟩
        · exact one hq e1 e2 (tellR_ok hq hB0 e3 h1 (by rw [e2]; exact h2)) (by unfold tellR; split <;> exact e1)
      · exact one hp rfl rfl (tellR_ok hp hB0 h3 h1 h2) (by unfold tellR; split <;> rfl)
  split
  · unfold snapR
    split
    · exact one h rfl rfl (backM_ok hB0 h.term ⟨Int.le_refl _, hB0⟩) rfl
    · have hq := hearQ_ok h hB0 hx
      simp only
      split
      · exact one (q := { hearQ r x with Log := resetL r.Log x.At x.AtTerm, Commit := x.At, Snap := x.Data }) { hq with log := resetL_ok h.log hB0 hx.at0.1 hx.at0.2 hx.att, commit := hx.at0, snap := hx.d } rfl rfl (backM_ok hB0 hq.term hx.at0) rfl
      · exact one hq rfl rfl (backM_ok hB0 hq.term h.commit) rfl
  · exact none
theorem receive_out (h : OkR B r) (hB0 : 0 ≤ B) (hx : OkM B x) : OutOk (B + 2) r (receiveR r x) := by
  unfold receiveR
  split
  · exact (same_out h).mono (by omega)
  · rename_i hr
    have hv : refuseB r x = false := by simpa using hr
    unfold refuseB at hv
    simp only [Bool.or_eq_false_iff, decide_eq_false_iff_not] at hv
    split
    · have := take_out (follow_ok h (t := x.Term) (l := 0) hx.term.2) hB0 hx (by omega) (by show x.From ≤ r.N; omega)
      exact ⟨this.ok, this.id, this.n, this.len, this.msg⟩
    · exact take_out h hB0 hx (by omega) (by omega)
theorem compact_out (h : OkR B r) (hB0 : 0 ≤ B) {upto : Int} {snap : List Int} (hs : snap.length ≤ 1000) (hc : compactB r upto = true) : OutOk B r (compactR r upto snap, []) := by
  unfold compactB at hc
  simp only [Bool.and_eq_true, decide_eq_true_eq] at hc
  obtain ⟨c1, c2, c3⟩ := hc
  obtain ⟨t, ht⟩ := Option.isSome_iff_exists.1 c3
  have := termL_some ht
  exact ⟨{ h with log := compactL_ok h.log hB0 this.1 this.2, snap := hs }, rfl, rfl, by simp, by simp⟩
end
end Go.Proofs.Ytgoachcogmlhcaa.R
/- What an act does to the world of members. -/
set_option maxRecDepth 100000
set_option linter.unusedVariables false
set_option linter.unusedSimpArgs false
noncomputable section
namespace Go.Proofs.Ytgoachcogmlhcaa.R
open Go
def zeroR : TRaft := ⟨0, 0, 0, 0, 0, 0, ⟨0, 0, []⟩, 0, [], [], [], [], 0, 0⟩
def newR (id n : Int) : TRaft := ⟨id, n, 0, 0, 0, 0, ⟨0, 0, []⟩, 0, [], [], [], [], 0, 10 + id⟩
def restartR (r : TRaft) : TRaft := ⟨r.Id, r.N, r.Term, r.Vote, 0, 0, r.Log, r.Log.Base, r.Snap, [], [], [], 0, 10 + r.Id⟩
theorem new_eq {id n : Int} (h1 : 1 ≤ id) (h2 : id ≤ n) (h3 : n ≤ 7) : m_raft_New id n = some (newR id n, 0) := by
  unfold m_raft_New m_raft_New_k1
  have a1 : ¬ n < 1 := by omega
  have a2 : ¬ (7 : Int) < n := by omega
  have a3 : ¬ id < 1 := by omega
  have a4 : ¬ n < id := by omega
  simp only [a1, a2, a3, a4, decide_false, Bool.false_eq_true, if_false]
  rw [wrap_sm (by omega)]
  rfl
theorem check_loop {l : TLog} (hl : l.Entries.length ≤ 1000000) : ∀ (m k n : Nat) (t : Int), l.Entries.length - k = m → k ≤ l.Entries.length → m < n → ∃ c, m_logs_Check_l1 l n t (k : Int) = some c := by
  intro m
  induction m with
  | zero =>
    intro k n t hm hk hn
    obtain ⟨n, rfl⟩ : ∃ n', n = n' + 1 := ⟨n - 1, by omega⟩
    have hk' : ¬ ((k : Int) < (l.Entries.length : Int)) := by omega
    rw [m_logs_Check_l1, m_logs_Check_l1_B, decide_eq_false hk', if_neg (by simp)]
    exact ⟨_, rfl⟩
  | succ m ih =>
    intro k n t hm hk hn
    obtain ⟨n, rfl⟩ : ∃ n', n = n' + 1 := ⟨n - 1, by omega⟩
    have hlt : k < l.Entries.length := by omega
    have hk' : ((k : Int) < (l.Entries.length : Int)) := by omega
    have k2 : ∀ v, ∃ c, m_logs_Check_k2 (m_logs_Check_l1 l n) (k : Int) l.Entries[k] v = some c := by
      intro v
      unfold m_logs_Check_k2
      cases v with
      | true => exact ⟨_, rfl⟩
      | false =>
        rw [if_neg (by simp), wrap_nat (by omega)]
        exact ih (k + 1) n _ (by omega) (by omega) (by omega)
    rw [m_logs_Check_l1, m_logs_Check_l1_B, decide_eq_true hk', if_pos rfl, nthI_lt hlt, bnd_some]
    split
    · exact k2 _
    · exact k2 _
theorem check_some {l : TLog} (hl : l.Entries.length ≤ 1000000) : ∃ c, m_logs_Check l = some c := by
  have k1 : ∀ v, ∃ c, m_logs_Check_k1 l v = some c := by
    intro v
    unfold m_logs_Check_k1
    cases v with
    | true => exact ⟨_, rfl⟩
    | false =>
      rw [if_neg (by simp)]
      exact check_loop hl _ 0 _ _ rfl (Nat.zero_le _) (by omega)
  unfold m_logs_Check
  repeat' split
  all_goals exact k1 _
section
variable {B : Int} {r : TRaft} {x : TMsg}
theorem restart_eq (h : OkR B r) (hB : B ≤ 1000000) : m_raft_Restart r.Id r.N r.Term r.Vote r.Log r.Snap = some (restartR r, 0) ∨ m_raft_Restart r.Id r.N r.Term r.Vote r.Log r.Snap = some (zeroR, 1) := by
  have hid := h.id; have hn := h.n; have hs := h.snap
  have k1 : ∀ v, m_raft_Restart_k1 r.Term r.Vote r.Log r.Snap (newR r.Id r.N, 0) v = some (restartR r, 0) ∨ m_raft_Restart_k1 r.Term r.Vote r.Log r.Snap (newR r.Id r.N, 0) v = some (zeroR, 1) := by
    intro v
    unfold m_raft_Restart_k1
    cases v with
    | true => exact .inr rfl
    | false =>
      left
      rw [if_neg (by simp), logs_Copy h.log hB, bnd_some, if_pos (capB_small (by omega))]
      rfl
  obtain ⟨c, hc⟩ := check_some (l := r.Log) (h.log.len hB)
  unfold m_raft_Restart
  rw [new_eq hid.1 hid.2 hn, bnd_some, logs_LastTerm h.log hB, bnd_some, hc, bnd_some]
  simp only [ne_eq, not_true_eq_false, decide_false, Bool.false_eq_true, if_false]
  repeat' split
  all_goals exact k1 _
theorem restart_out (h : OkR B r) (hB0 : 20 ≤ B) : OutOk B r (restartR r, []) := by
  have hid := h.id; have hn := h.n
  have hl := h.log.last; have hb := h.log.b
  refine ⟨{ h with commit := ⟨hb, by show r.Log.Base ≤ B; omega⟩, clock := ⟨Int.le_refl _, by show (0 : Int) ≤ B; omega⟩, wait := ⟨by show 0 ≤ 10 + r.Id; omega, by show 10 + r.Id ≤ 20; omega⟩, gl := by simp [restartR], nl := by simp [restartR], ml := by simp [restartR], ga := ?_, na := ?_, ma := ?_, nb := by simp [restartR], mb := by simp [restartR] }, rfl, rfl, by simp, by simp⟩
  · intro h; simp [restartR] at h
  · intro h; simp [restartR] at h
  · intro h; simp [restartR] at h
theorem new_ok {n : Int} (h1 : 1 ≤ r.Id) (h : 0 ≤ B) {id : Int} (h2 : 1 ≤ id) (h3 : id ≤ n) (h4 : n ≤ 7) : OkR B (newR id n) := by
  refine { id := ⟨h2, h3⟩, n := h4, term := ⟨Int.le_refl _, h⟩, vote := ⟨Int.le_refl _, by simp [newR]⟩, commit := ⟨Int.le_refl _, h⟩, clock := ⟨Int.le_refl _, h⟩, wait := ⟨by show 0 ≤ 10 + id; omega, by show 10 + id ≤ 20; omega⟩, log := ⟨Int.le_refl _, ⟨Int.le_refl _, h⟩, by show (0 : Int) + (([] : List TEntry).length : Int) ≤ B; simp; exact h, by simp [newR]⟩, snap := by simp [newR], gl := by simp [newR], nl := by simp [newR], ml := by simp [newR], ga := ?_, na := ?_, ma := ?_, nb := by simp [newR], mb := by simp [newR] }
  · intro h; simp [newR] at h
  · intro h; simp [newR] at h
  · intro h; simp [newR] at h
end
def pickI (k : Int) (n : Nat) : Int := (IntKind.u64.wrap k) % (n : Int)
theorem u64_nn (k : Int) : 0 ≤ IntKind.u64.wrap k := by
  simp only [IntKind.wrap, IntKind.signed, IntKind.bits]
  simp
  omega
theorem pick_eq {k : Int} {n : Nat} (h0 : 0 < n) (h1 : n ≤ 100000) : m_law15_pick k (n : Int) = some (pickI k n) ∧ 0 ≤ pickI k n ∧ pickI k n < (n : Int) := by
  have hk := u64_nn k
  have r1 : 0 ≤ pickI k n := Int.emod_nonneg _ (by omega)
  have r2 : pickI k n < (n : Int) := Int.emod_lt_of_pos _ (by omega)
  refine ⟨?_, r1, r2⟩
  unfold m_law15_pick
  have hn : ¬ ((n : Int) = 0) := by omega
  rw [u64_in (n := (n : Int)) (by omega) (by omega), decide_eq_false hn, if_neg (by simp), Int.tmod_eq_emod_of_nonneg hk]
  have : IntKind.u64.wrap k % (n : Int) = pickI k n := rfl
  rw [this, wrap_sm (by omega)]
def last60 (l : List TMsg) : List TMsg := if 60 < l.length then l.drop (l.length - 60) else l
theorem last60_mem {l : List TMsg} {x : TMsg} (h : x ∈ last60 l) : x ∈ l := by
  unfold last60 at h
  split at h
  · exact List.mem_of_mem_drop h
  · exact h
theorem last60_len (l : List TMsg) : (last60 l).length ≤ 60 := by
  unfold last60
  split
  · simp; omega
  · omega
def setW (w : TWorld) (i : Int) (p : TRaft × List TMsg) : TWorld := ⟨setI w.R i p.1, last60 (w.Net ++ p.2)⟩
theorem set_eq {w : TWorld} {i : Int} {p : TRaft × List TMsg} (h0 : 0 ≤ i) (h1 : i.toNat < w.R.length) (h2 : w.R.length ≤ 100) (h3 : w.Net.length ≤ 1000) (h4 : p.2.length ≤ 1000) : m_law15_set w i p.1 p.2 = some (setW w i p) := by
  unfold m_law15_set setW last60
  rw [if_pos (capB_small (by omega)), nthI_int h0, List.getElem?_eq_getElem h1, bnd_some, if_pos (capB_small (by omega)), if_pos (capB_small (by omega))]
  by_cases hl : 60 < w.Net.length + p.2.length
  · have h5 : (60 : Int) < ((w.Net.length + p.2.length : Nat) : Int) := by omega
    have h6 : IntKind.i64.wrap (((w.Net.length + p.2.length : Nat) : Int) - 60) = ((w.Net.length + p.2.length - 60 : Nat) : Int) := by rw [wrap_sm (by omega)]; omega
    have h7 : 60 < (w.Net ++ p.2).length := by simp; omega
    rw [decide_eq_true h5, if_pos rfl, h6, sliceL_to (by omega) (by simp; omega), bnd_some, if_pos h7]
    have e1 : (((w.Net.length + p.2.length - 60 : Nat) : Int)).toNat = (w.Net ++ p.2).length - 60 := by simp
    rw [e1]
  · have h5 : ¬ (60 : Int) < ((w.Net.length + p.2.length : Nat) : Int) := by omega
    have h7 : ¬ 60 < (w.Net ++ p.2).length := by simp; omega
    rw [decide_eq_false h5, if_neg (by simp), if_neg h7]
def lessW (w : TWorld) (k : Nat) (keep : Bool) (x : TMsg) : TWorld := ⟨w.R, w.Net.take k ++ (if keep = true then [x] else []) ++ w.Net.drop (k + 1)⟩
theorem take_eqW {w : TWorld} {k : Nat} {keep : Bool} (h : k < w.Net.length) (h2 : w.Net.length ≤ 1000) : m_law15_take w (k : Int) keep = some (lessW w k keep w.Net[k], w.Net[k]) := by
  have k1 : ∀ out : List TMsg, out.length ≤ 2000 → m_law15_take_k1 w (k : Int) w.Net[k] out = some (⟨w.R, out ++ w.Net.drop (k + 1)⟩, w.Net[k]) := by
    intro out ho
    have e1 : (((k + 1 : Nat) : Int)).toNat = k + 1 := by omega
    unfold m_law15_take_k1
    rw [wrap_nat (by omega), sliceL_to (by omega) (by omega), bnd_some, e1, if_pos (capB_small (by simp; omega))]
  have e0 : ((k : Int)).toNat = k := by omega
  unfold m_law15_take
  rw [nthI_lt h, bnd_some, sliceL_upto (by omega) (by omega), bnd_some, e0, if_pos (capB_small (by simp; omega))]
  unfold lessW
  cases keep with
  | true => rw [if_pos rfl, if_pos (capB_small (by simp; omega)), k1 _ (by simp; omega)]; simp
  | false => rw [if_neg (by simp), k1 _ (by simp; omega)]; simp
theorem lessW_mem {w : TWorld} {k : Nat} {keep : Bool} (h : k < w.Net.length) {y : TMsg} (hy : y ∈ (lessW w k keep w.Net[k]).Net) : y ∈ w.Net := by
  unfold lessW at hy
  rcases List.mem_append.1 hy with hy | hy
  · rcases List.mem_append.1 hy with hy | hy
    · exact List.mem_of_mem_take hy
    · cases keep with
      | true => simp at hy; subst hy; exact List.getElem_mem h
      | false => simp at hy
  · exact List.mem_of_mem_drop hy
theorem lessW_len {w : TWorld} {k : Nat} {keep : Bool} {x : TMsg} (h : k < w.Net.length) : (lessW w k keep x).Net.length ≤ w.Net.length := by
  unfold lessW
  cases keep <;> simp <;> omega
inductive Act (crash : Bool) (r : TRaft) (net : List TMsg) : TRaft × List TMsg → Prop
  | tick (draw : Int) : Act crash r net (tickR r draw)
  | recv (x : TMsg) (hx : x ∈ net) : Act crash r net (receiveR r x)
  | prop (data : List Int) (hd : data.length ≤ 1000) (h3 : r.Role = 3) : Act crash r net (appendR r data)
  | comp (upto : Int) (snap : List Int) (hs : snap.length ≤ 1000) (hc : compactB r upto = true) : Act crash r net (compactR r upto snap, [])
  | fall (hc : crash = true) : Act crash r net (restartR r, [])
inductive StepW (crash : Bool) (w : TWorld) : TWorld → Prop
  | less (net : List TMsg) (h : ∀ x ∈ net, x ∈ w.Net) : StepW crash w ⟨w.R, net⟩
  | act (i : Nat) (r : TRaft) (p : TRaft × List TMsg) (net : List TMsg) (hi : w.R[i]? = some r) (ha : Act crash r w.Net p) (hn : ∀ x ∈ net, x ∈ w.Net ∨ x ∈ p.2) : StepW crash w ⟨w.R.set i p.1, net⟩
structure OkW (B : Int) (n : Nat) (w : TWorld) : Prop where
  n1 : 1 ≤ n ∧ n ≤ 5
  len : w.R.length = n
  mem : ∀ (k : Nat) (r : TRaft), w.R[k]? = some r → OkR B r ∧ r.Id = (k : Int) + 1 ∧ r.N = (n : Int)
  nl : w.Net.length ≤ 60
  net : ∀ x ∈ w.Net, OkM B x
section
variable {B : Int} {n : Nat} {w : TWorld}
theorem OkW.mono {B' : Int} (h : OkW B n w) (hb : B ≤ B') : OkW B' n w :=
  ⟨h.n1, h.len, fun k r hr => ⟨(h.mem k r hr).1.mono hb, (h.mem k r hr).2⟩, h.nl, fun x hx => (h.net x hx).mono hb⟩
theorem act_out {r : TRaft} {net : List TMsg} {p : TRaft × List TMsg} {c : Bool} (h : OkR B r) (hB0 : 20 ≤ B) (hnet : ∀ x ∈ net, OkM B x) (ha : Act c r net p) : OutOk (B + 3) r p := by
  cases ha with
  | tick draw => exact tick_out h (by omega) draw
  | recv x hx => exact (receive_out h (by omega) (hnet x hx)).mono (by omega)
  | prop data hd h3 => exact (append_out h (by omega) h3 hd).mono (by omega)
  | comp upto snap hs hc => exact (compact_out h (by omega) hs hc).mono (by omega)
  | fall hc => exact (restart_out h hB0).mono (by omega)
theorem set_ok {i : Nat} {r : TRaft} {p : TRaft × List TMsg} {net : List TMsg} (h : OkW B n w) (hi : w.R[i]? = some r) (hp : OutOk (B + 3) r p) (hl : net.length ≤ 60) (hn : ∀ x ∈ net, OkM (B + 3) x) : OkW (B + 3) n ⟨w.R.set i p.1, net⟩ := by
  have hlt : i < w.R.length := by
    rcases Nat.lt_or_ge i w.R.length with h | h
    · exact h
    · rw [List.getElem?_eq_none h] at hi; cases hi
  refine ⟨h.n1, by show (w.R.set i p.1).length = n; rw [List.length_set]; exact h.len, fun k q hq => ?_, hl, hn⟩
  have hq2 : (w.R.set i p.1)[k]? = some q := hq
  by_cases hk : i = k
  · subst hk
    rw [List.getElem?_set_self hlt] at hq2
    obtain rfl := Option.some.inj hq2
    obtain ⟨_, m2, m3⟩ := h.mem i r hi
    exact ⟨hp.ok, by rw [hp.id]; exact m2, by rw [hp.n]; exact m3⟩
  · rw [List.getElem?_set_ne hk] at hq2
    obtain ⟨m1, m2⟩ := h.mem k q hq2
    exact ⟨m1.mono (by omega), m2⟩
theorem act_step {c : Bool} {i : Int} {r : TRaft} {p : TRaft × List TMsg} {v : TWorld} (h : OkW B n w) (hB0 : 20 ≤ B) (hvR : v.R = w.R) (hvN : ∀ x ∈ v.Net, x ∈ w.Net) (hvl : v.Net.length ≤ 60) (h0 : 0 ≤ i) (hi : w.R[i.toNat]? = some r) (ha : Act c r w.Net p) :
    m_law15_set v i p.1 p.2 = some (setW v i p) ∧ StepW c w (setW v i p) ∧ OkW (B + 3) n (setW v i p) := by
  obtain ⟨m1, m2, m3⟩ := h.mem _ r hi
  have hp := act_out m1 hB0 h.net ha
  have hlt : i.toNat < w.R.length := by
    rcases Nat.lt_or_ge i.toNat w.R.length with h | h
    · exact h
    · rw [List.getElem?_eq_none h] at hi; cases hi
  have hwl := h.len; have hn1 := h.n1; have hpl := hp.len
  have hmem : ∀ x ∈ last60 (v.Net ++ p.2), x ∈ w.Net ∨ x ∈ p.2 := by
    intro x hx
    rcases List.mem_append.1 (last60_mem hx) with hx | hx
    · exact .inl (hvN x hx)
    · exact .inr hx
  refine ⟨set_eq h0 (by rw [hvR]; exact hlt) (by rw [hvR]; omega) (by omega) (by omega), ?_, ?_⟩
  · unfold setW setI
    rw [hvR]
    exact .act i.toNat r p _ hi ha hmem
  · unfold setW setI
    rw [hvR]
    refine set_ok h hi hp (last60_len _) fun x hx => ?_
    rcases hmem x hx with hx | hx
    · exact (h.net x hx).mono (by omega)
    · exact (hp.msg x hx).1
theorem same_step (c : Bool) (h : OkW B n w) : StepW c w w ∧ OkW (B + 3) n w := ⟨.less w.Net fun _ hx => hx, h.mono (by omega)⟩
theorem do_ok (h : OkW B n w) (hB0 : 20 ≤ B) (hB : B ≤ 100000) (o : TOp) (ho : o.Data.length ≤ 20) : ∃ w', m_law15_Do w o = some w' ∧ StepW (decide (o.Kind = 6)) w w' ∧ OkW (B + 3) n w' := by
  have hwl := h.len; have hn1 := h.n1; have hnl := h.nl
  obtain ⟨p1, p2, p3⟩ := pick_eq (k := o.Who) (n := w.R.length) (by omega) (by omega)
  have hlt : (pickI o.Who w.R.length).toNat < w.R.length := by omega
  obtain ⟨r, hr⟩ : ∃ r, w.R[(pickI o.Who w.R.length).toNat]? = some r := ⟨_, List.getElem?_eq_getElem hlt⟩
  obtain ⟨m1, m2, m3⟩ := h.mem _ r hr
  unfold m_law15_Do
  rw [p1, bnd_some, nthI_int p2, hr, bnd_some]
  -- the messages
  have k1 : m_law15_Do_k1 w o (pickI o.Who w.R.length) r true = m_law15_Do_k1 w o (pickI o.Who w.R.length) r true → ∃ w', m_law15_Do_k1 w o (pickI o.Who w.R.length) r true = some w' ∧ StepW (decide (o.Kind = 6)) w w' ∧ OkW (B + 3) n w' := by
    intro _
    unfold m_law15_Do_k1
    rw [if_pos rfl]
    by_cases hz : w.Net.length = 0
    · have : (w.Net.length : Int) = 0 := by omega
      rw [decide_eq_true this, if_pos rfl]
      obtain ⟨s1, s2⟩ := same_step (decide (o.Kind = 6)) h
      exact ⟨w, rfl, s1, s2⟩
    · have : ¬ (w.Net.length : Int) = 0 := by omega
      obtain ⟨q1, q2, q3⟩ := pick_eq (k := o.N) (n := w.Net.length) (by omega) (by omega)
      obtain ⟨k, hk⟩ : ∃ k : Nat, pickI o.N w.Net.length = (k : Int) := ⟨(pickI o.N w.Net.length).toNat, by omega⟩
      have hkl : k < w.Net.length := by omega
      rw [decide_eq_false this, if_neg (by simp), q1, bnd_some, hk, take_eqW hkl (by omega), bnd_some]
      have hv := @lessW_mem w k (decide (o.Kind = 3)) hkl
      have hvl := lessW_len (keep := decide (o.Kind = 3)) (x := w.Net[k]) hkl
      have hless : StepW (decide (o.Kind = 6)) w (lessW w k (decide (o.Kind = 3)) w.Net[k]) ∧ OkW (B + 3) n (lessW w k (decide (o.Kind = 3)) w.Net[k]) := by
        refine ⟨.less _ fun x hx => hv hx, ?_⟩
        exact ⟨h.n1, h.len, (h.mono (B' := B + 3) (by omega)).mem, by omega, fun x hx => (h.net x (hv hx)).mono (by omega)⟩
      have k2t : ∃ w', m_law15_Do_k2 (lessW w k (decide (o.Kind = 3)) w.Net[k], w.Net[k]) true = some w' ∧ StepW (decide (o.Kind = 6)) w w' ∧ OkW (B + 3) n w' := ⟨_, rfl, hless.1, hless.2⟩
      simp only
      split
      · exact k2t
      · split
        · exact k2t
        · rename_i ht1
          have ht1' : ¬ w.Net[k].To < 1 := by simpa using ht1
          by_cases ht2 : (w.R.length : Int) < w.Net[k].To
          · rw [decide_eq_true ht2]; exact k2t
          · rw [decide_eq_false ht2]
            unfold m_law15_Do_k2
            rw [if_neg (by simp)]
            have hxo := h.net _ (List.getElem_mem hkl)
            have hlt2 : (w.Net[k].To - 1).toNat < w.R.length := by omega
            obtain ⟨r2, hr2⟩ : ∃ r2, w.R[(w.Net[k].To - 1).toNat]? = some r2 := ⟨_, List.getElem?_eq_getElem hlt2⟩
            obtain ⟨c1, c2, c3⟩ := h.mem _ r2 hr2
            have hlR : (lessW w k (decide (o.Kind = 3)) w.Net[k]).R = w.R := rfl
            simp only
            rw [wrap_sm (by omega), hlR, nthI_int (by omega), hr2, bnd_some, receive_eq c1 (by omega) (by omega) hxo, bnd_some]
            obtain ⟨s1, s2, s3⟩ := act_step (c := decide (o.Kind = 6)) (v := lessW w k (decide (o.Kind = 3)) w.Net[k]) (i := w.Net[k].To - 1) h hB0 rfl (fun x hx => hv hx) (by omega) (by omega) hr2 (.recv _ (List.getElem_mem hkl))
            rw [s1, bnd_some]
            exact ⟨_, rfl, s2, s3⟩
  have k1 := k1 rfl
  by_cases k0 : o.Kind = 0
  · rw [decide_eq_true k0, if_pos rfl, tick_eq m1 (by omega) (by omega), bnd_some]
    obtain ⟨s1, s2, s3⟩ := act_step (c := decide (o.Kind = 6)) (v := w) h hB0 rfl (fun _ hx => hx) hnl p2 hr (.tick o.N)
    rw [s1, bnd_some]
    exact ⟨_, rfl, s2, s3⟩
  rw [decide_eq_false k0, if_neg (show ¬ (false = true) by simp)]
  by_cases k11 : o.Kind = 1
  · rw [decide_eq_true k11, if_pos rfl]; exact k1
  rw [decide_eq_false k11, if_neg (show ¬ (false = true) by simp)]
  by_cases k12 : o.Kind = 2
  · rw [decide_eq_true k12, if_pos rfl]; exact k1
  rw [decide_eq_false k12, if_neg (show ¬ (false = true) by simp)]
  by_cases k13 : o.Kind = 3
  · rw [decide_eq_true k13]; exact k1
  rw [decide_eq_false k13]
  unfold m_law15_Do_k1
  rw [if_neg (show ¬ (false = true) by simp)]
  obtain ⟨z1, z2⟩ := same_step (decide (o.Kind = 6)) h
  by_cases k4 : o.Kind = 4
  · rw [decide_eq_true k4, if_pos rfl, propose_eq m1 (by omega) (by omega), bnd_some]
    by_cases h3 : r.Role = 3
    · rw [if_pos h3]
      obtain ⟨s1, s2, s3⟩ := act_step (c := decide (o.Kind = 6)) (v := w) h hB0 rfl (fun _ hx => hx) hnl p2 hr (.prop o.Data (by omega) h3)
      simp only [ne_eq, not_true_eq_false, decide_false, Bool.false_eq_true, if_false]
      rw [s1, bnd_some]
      exact ⟨_, rfl, by rw [← k4] at *; exact s2, s3⟩
    · rw [if_neg h3]
      exact ⟨w, by simp, z1, z2⟩
  rw [decide_eq_false k4, if_neg (show ¬ (false = true) by simp)]
  by_cases k5 : o.Kind = 5
  · obtain ⟨q1, q2, q3⟩ := pick_eq (k := o.N) (n := 3) (by omega) (by omega)
    have hc := m1.commit
    have q1' : m_law15_pick o.N 3 = some (pickI o.N 3) := q1
    rw [decide_eq_true k5, if_pos rfl, q1', bnd_some, wrap_sm (n := r.Commit - pickI o.N 3) (by omega), compact_eq m1 (by omega) (by omega) (by simp), bnd_some]
    by_cases hcb : compactB r (r.Commit - pickI o.N 3) = true
    · rw [if_pos hcb]
      obtain ⟨s1, s2, s3⟩ := act_step (c := decide (o.Kind = 6)) (v := w) h hB0 rfl (fun _ hx => hx) hnl p2 hr (.comp (r.Commit - pickI o.N 3) [IntKind.u8.wrap (r.Commit - pickI o.N 3)] (by simp) hcb)
      simp only [ne_eq, not_true_eq_false, decide_false, Bool.false_eq_true, if_false]
      rw [s1, bnd_some]
      exact ⟨_, rfl, s2, s3⟩
    · rw [if_neg hcb]
      exact ⟨w, by simp, z1, z2⟩
  rw [decide_eq_false k5, if_neg (show ¬ (false = true) by simp)]
  by_cases k6 : o.Kind = 6
  · rw [decide_eq_true k6, if_pos rfl]
    rcases restart_eq m1 (by omega) with he | he
    · rw [he, bnd_some]
      obtain ⟨s1, s2, s3⟩ := act_step (c := decide (o.Kind = 6)) (v := w) h hB0 rfl (fun _ hx => hx) hnl p2 hr (.fall (by simp [k6]))
      simp only [ne_eq, not_true_eq_false, decide_false, Bool.false_eq_true, if_false]
      rw [s1, bnd_some]
      exact ⟨_, rfl, by rw [decide_eq_true k6] at s2; exact s2, s3⟩
    · rw [he, bnd_some]
      rw [decide_eq_true k6] at z1
      exact ⟨w, by simp, z1, z2⟩
  · rw [decide_eq_false k6, if_neg (show ¬ (false = true) by simp)]
    rw [decide_eq_false k6] at z1
    exact ⟨w, rfl, z1, z2⟩
end
end Go.Proofs.Ytgoachcogmlhcaa.R
/- One leader a term: who voted for whom. -/
set_option maxRecDepth 100000
set_option linter.unusedVariables false
set_option linter.unusedSimpArgs false
noncomputable section
namespace Go.Proofs.Ytgoachcogmlhcaa.R
open Go
theorem cntB_cons (b : Bool) (l : List Bool) : cntB (b :: l) = cntB l + (if b = true then 1 else 0) := by
  unfold cntB
  rw [List.countP_cons]
theorem meet2 : ∀ (a b : List Bool), a.length = b.length → (∀ j : Nat, ¬ (a[j]? = some true ∧ b[j]? = some true)) → cntB a + cntB b ≤ a.length
  | [], [], _, _ => by simp [cntB]
  | x :: a, y :: b, hl, h => by
    have h0 := h 0
    have ih := meet2 a b (by simpa using hl) fun j hj => h (j + 1) (by simpa using hj)
    rw [cntB_cons, cntB_cons, List.length_cons]
    cases x <;> cases y <;> simp at h0 ⊢ <;> omega
theorem won_meet {a b : List Bool} (hl : a.length = b.length) (ha : wonL a = true) (hb : wonL b = true) : ∃ j : Nat, a[j]? = some true ∧ b[j]? = some true := by
  unfold wonL at ha hb
  simp only [decide_eq_true_eq] at ha hb
  rcases Classical.em (∃ j : Nat, a[j]? = some true ∧ b[j]? = some true) with h | h
  · exact h
  · have := meet2 a b hl fun j hj => h ⟨j, hj⟩
    omega
abbrev Votes := Int → Int → Int
abbrev Leads := Int → Int
structure MemV (V : Votes) (L : Leads) (r : TRaft) : Prop where
  cur : V r.Term r.Id = r.Vote
  fut : ∀ t, r.Term < t → V t r.Id = 0
  cand : r.Role = 2 → ∀ j : Nat, r.Granted[j]? = some true → V r.Term ((j : Int) + 1) = r.Id
  lead : r.Role = 3 → L r.Term = r.Id
def MsgV (V : Votes) (x : TMsg) : Prop := x.Kind = 4 → x.Ok = true → x.To ≠ 0 ∧ V x.Term x.From = x.To
def GloV (n : Nat) (V : Votes) (L : Leads) : Prop := ∀ t, L t ≠ 0 → ∃ g : List Bool, g.length = n ∧ wonL g = true ∧ ∀ j : Nat, g[j]? = some true → V t ((j : Int) + 1) = L t
structure ExtV (id : Int) (V V' : Votes) (L L' : Leads) : Prop where
  v : ∀ t k, V t k ≠ 0 → V' t k = V t k
  o : ∀ t k, k ≠ id → V' t k = V t k
  l : ∀ t, L t ≠ 0 → L' t = L t
theorem ExtV.refl (id : Int) (V : Votes) (L : Leads) : ExtV id V V L L := ⟨fun _ _ _ => rfl, fun _ _ _ => rfl, fun _ _ => rfl⟩
theorem ExtV.trans {id : Int} {V V' V'' : Votes} {L L' L'' : Leads} (h : ExtV id V V' L L') (h' : ExtV id V' V'' L' L'') : ExtV id V V'' L L'' :=
  ⟨fun t k hk => by rw [h'.v t k (by rw [h.v t k hk]; exact hk), h.v t k hk], fun t k hk => by rw [h'.o t k hk, h.o t k hk], fun t ht => by rw [h'.l t (by rw [h.l t ht]; exact ht), h.l t ht]⟩
section
variable {n : Nat} {V V' : Votes} {L L' : Leads} {r : TRaft} {x : TMsg}
theorem MsgV.ext {id : Int} (he : ExtV id V V' L L') (h : MsgV V x) : MsgV V' x := fun h1 h2 => by
  obtain ⟨a, b⟩ := h h1 h2
  exact ⟨a, by rw [he.v _ _ (by rw [b]; exact a), b]⟩
theorem MemV.ext {id : Int} (he : ExtV id V V' L L') (hne : r.Id ≠ id) (h0 : r.Id ≠ 0) (h : MemV V L r) : MemV V' L' r :=
  ⟨by rw [he.o _ _ hne]; exact h.cur, fun t ht => by rw [he.o _ _ hne]; exact h.fut t ht, fun h2 j hj => by
    have := h.cand h2 j hj
    rw [he.v _ _ (by rw [this]; exact h0), this], fun h3 => by
    have := h.lead h3
    rw [he.l _ (by rw [this]; exact h0), this]⟩
def GoodV (n : Nat) (V : Votes) (L : Leads) (r : TRaft) (p : TRaft × List TMsg) : Prop :=
  ∃ V' L', ExtV r.Id V V' L L' ∧ MemV V' L' p.1 ∧ GloV n V' L' ∧ ∀ y ∈ p.2, MsgV V' y
theorem GoodV.keep {p : TRaft × List TMsg} (hg : GloV n V L) (hm : MemV V L p.1) (hy : ∀ y ∈ p.2, y.Kind ≠ 4 ∨ y.Ok = false) : GoodV n V L r p :=
  ⟨V, L, ExtV.refl _ _ _, hm, hg, fun y hy2 h1 h2 => by
    rcases hy y hy2 with h | h
    · exact absurd h1 h
    · rw [h] at h2; cases h2⟩
theorem GoodV.comp {q : TRaft} {p : TRaft × List TMsg} {L2 : Leads} {V2 : Votes} (he : ExtV r.Id V V2 L L2) (hi : q.Id = r.Id) (h : GoodV n V2 L2 q p) : GoodV n V L r p := by
  obtain ⟨V', L', h1, h2, h3, h4⟩ := h
  rw [hi] at h1
  exact ⟨V', L', he.trans h1, h2, h3, h4⟩
theorem MemV.of {q : TRaft} (h : MemV V L r) (h1 : q.Id = r.Id) (h2 : q.Term = r.Term) (h3 : q.Vote = r.Vote) (h4 : q.Role = 0 ∨ q.Role = 1 ∨ (q.Role = r.Role ∧ q.Granted = r.Granted) ∨ (q.Role = 3 ∧ r.Role = 3)) : MemV V L q :=
  ⟨by rw [h1, h2, h3]; exact h.cur, fun t ht => by rw [h1]; exact h.fut t (by rw [← h2]; exact ht), fun hr j hj => by
    rcases h4 with h4 | h4 | ⟨h4, h5⟩ | ⟨h4, h5⟩
    · omega
    · omega
    · rw [h1, h2]; exact h.cand (by omega) j (by rw [← h5]; exact hj)
    · omega, fun hr => by
    rcases h4 with h4 | h4 | ⟨h4, h5⟩ | ⟨h4, h5⟩
    · omega
    · omega
    · rw [h1, h2]; exact h.lead (by omega)
    · rw [h1, h2]; exact h.lead h5⟩
theorem MemV.follow (h : MemV V L r) (t l : Int) : MemV V L (followR r t l) := by
  by_cases hlt : r.Term < t
  · have e1 : (followR r t l).Term = t := by simp [followR, hlt]
    have e2 : (followR r t l).Vote = 0 := by simp [followR, hlt]
    have e3 : (followR r t l).Id = r.Id := rfl
    refine ⟨by rw [e1, e2, e3]; exact h.fut t hlt, fun u hu => by rw [e3]; exact h.fut u (by rw [e1] at hu; omega), fun hr => ?_, fun hr => ?_⟩
    · simp [followR] at hr
    · simp [followR] at hr
  · exact h.of rfl (by simp [followR, hlt]) (by simp [followR, hlt]) (.inl rfl)
open Classical in
def setV (V : Votes) (t k c : Int) : Votes := fun t' k' => if t' = t ∧ k' = k then c else V t' k'
open Classical in
def setL (L : Leads) (t c : Int) : Leads := fun t' => if t' = t then c else L t'
theorem setV_at (t k c : Int) : setV V t k c t k = c := by simp [setV]
theorem setV_ext {t k c : Int} (h : V t k = 0 ∨ V t k = c) : ExtV k V (setV V t k c) L L := by
  refine ⟨fun t' k' hk => ?_, fun t' k' hk => ?_, fun _ _ => rfl⟩
  · unfold setV
    split
    · rename_i hh
      obtain ⟨rfl, rfl⟩ := hh
      rcases h with h | h
      · exact absurd h hk
      · exact h.symm
    · rfl
  · unfold setV
    split
    · rename_i hh; exact absurd hh.2 hk
    · rfl
theorem GloV.ext {id : Int} (hg : GloV n V L) (he : ExtV id V V' L L) : GloV n V' L := fun t ht => by
  obtain ⟨g, h1, h2, h3⟩ := hg t ht
  exact ⟨g, h1, h2, fun j hj => by
    have := h3 j hj
    rw [he.v _ _ (by rw [this]; exact ht), this]⟩
theorem vote_good (hg : GloV n V L) (h : MemV V L r) (hx0 : x.From ≠ 0) : GoodV n V L r (voteR r x) := by
  unfold voteR
  by_cases hb : voteB r x = true
  · rw [if_pos hb]
    unfold voteB at hb
    simp only [Bool.and_eq_true, Bool.or_eq_true, decide_eq_true_eq] at hb
    obtain ⟨b1, b2, b3, b4⟩ := hb
    have hext : ExtV r.Id V (setV V r.Term r.Id x.From) L L := setV_ext (by rw [h.cur]; exact b3)
    refine ⟨_, L, hext, ⟨setV_at _ _ _, fun t ht => ?_, fun hr => ?_, fun hr => ?_⟩, hg.ext hext, fun y hy => ?_⟩
    · show setV V r.Term r.Id x.From t r.Id = 0
      have ht : r.Term < t := ht
      have : ¬ (t = r.Term ∧ r.Id = r.Id) := by omega
      unfold setV
      rw [if_neg this]
      exact h.fut t ht
    · have hr : r.Role = 2 := hr
      omega
    · have hr : r.Role = 3 := hr
      omega
    · simp at hy
      subst hy
      exact fun _ _ => ⟨hx0, setV_at _ _ _⟩
  · rw [if_neg hb]
    exact .keep hg h fun y hy => by simp at hy; subst hy; exact .inr rfl
theorem oneG_true (hid : 1 ≤ r.Id) {j : Nat} (hj : (oneG r)[j]? = some true) : (j : Int) + 1 = r.Id := by
  unfold oneG setI at hj
  by_cases he : (r.Id - 1).toNat = j
  · omega
  · rw [List.getElem?_set_ne he] at hj
    rw [List.getElem?_replicate] at hj
    split at hj
    · simp at hj
    · cases hj
theorem leadQ_good (hg : GloV n V L) (h : MemV V L r) (h2 : r.Role = 2) (hl : r.Granted.length = n) (hw : wonL r.Granted = true) (hid : r.Id ≠ 0) : ∃ L', ExtV r.Id V V L L' ∧ MemV V L' (leadQ r) ∧ GloV n V L' := by
  have hc := h.cand h2
  have hL : L r.Term = 0 ∨ L r.Term = r.Id := by
    rcases Classical.em (L r.Term = 0) with h0 | h0
    · exact .inl h0
    · right
      obtain ⟨g, g1, g2, g3⟩ := hg r.Term h0
      obtain ⟨j, j1, j2⟩ := won_meet (by omega) g2 hw
      rw [← g3 j j1, hc j j2]
  have e1 : (leadQ r).Term = r.Term := by simp [leadQ, followR]
  have e2 : (leadQ r).Vote = r.Vote := by simp [leadQ, followR]
  have e3 : (leadQ r).Id = r.Id := rfl
  refine ⟨setL L r.Term r.Id, ⟨fun _ _ _ => rfl, fun _ _ _ => rfl, fun t ht => ?_⟩, ⟨by rw [e1, e2, e3]; exact h.cur, fun t ht => by rw [e3]; exact h.fut t (by rw [e1] at ht; exact ht), fun hr => by simp [leadQ] at hr, fun _ => by rw [e1, e3]; simp [setL]⟩, fun t ht => ?_⟩
  · unfold setL
    split
    · rename_i hh
      subst hh
      rcases hL with h0 | h0
      · exact absurd h0 ht
      · exact h0.symm
    · rfl
  · by_cases hh : t = r.Term
    · subst hh
      refine ⟨r.Granted, hl, hw, fun j hj => ?_⟩
      rw [hc j hj]
      simp [setL]
    · have e : setL L r.Term r.Id t = L t := by simp [setL, hh]
      rw [e] at ht ⊢
      exact hg t ht
theorem commitR_term : (commitR r).Term = r.Term := by unfold commitR; split <;> rfl
theorem commitR_vote : (commitR r).Vote = r.Vote := by unfold commitR; split <;> rfl
theorem commitR_granted : (commitR r).Granted = r.Granted := by unfold commitR; split <;> rfl
theorem tellR_kind (to : Int) : (tellR r to).Kind ≠ 4 := by unfold tellR; split <;> simp
theorem append_good (hg : GloV n V L) (h : MemV V L r) (data : List Int) : GoodV n V L r (appendR r data) := by
  refine .keep hg (h.of commitR_id commitR_term commitR_vote (.inr (.inr (.inl ⟨commitR_role, commitR_granted⟩)))) fun y hy => .inl ?_
  obtain ⟨to, _, rfl⟩ := List.mem_map.1 hy
  exact tellR_kind to
theorem lead_good (hg : GloV n V L) (h : MemV V L r) (h2 : r.Role = 2) (hl : r.Granted.length = n) (hw : wonL r.Granted = true) (hid : r.Id ≠ 0) : GoodV n V L r (leadR r) := by
  obtain ⟨L', h1, h3, h4⟩ := leadQ_good hg h h2 hl hw hid
  exact .comp h1 (q := leadQ r) rfl (append_good h4 h3 [])
theorem stand_good (hg : GloV n V L) (h : MemV V L r) (hN : r.N = (n : Int)) (hid : 1 ≤ r.Id) : GoodV n V L r (standR r) := by
  have e1 : (standQ r).Term = r.Term + 1 := by simp [standQ, followR]; omega
  have hext : ExtV r.Id V (setV V (r.Term + 1) r.Id r.Id) L L := setV_ext (.inl (h.fut _ (by omega)))
  have hm : MemV (setV V (r.Term + 1) r.Id r.Id) L (standQ r) := by
    refine ⟨by rw [e1]; exact setV_at _ _ _, fun t ht => ?_, fun _ j hj => ?_, fun hr => by simp [standQ] at hr⟩
    · rw [e1] at ht
      have : ¬ (t = r.Term + 1 ∧ (standQ r).Id = r.Id) := by omega
      unfold setV
      rw [if_neg this]
      exact h.fut t (by omega)
    · have hj : (oneG r)[j]? = some true := hj
      have := oneG_true hid hj
      rw [e1, this]
      exact setV_at _ _ _
  refine .comp hext (q := standQ r) rfl ?_
  unfold standR
  split
  · rename_i hw
    refine lead_good (hg.ext hext) hm rfl ?_ hw (by show r.Id ≠ 0; omega)
    show (oneG r).length = n
    unfold oneG
    rw [setI_length]
    simp
    omega
  · refine .keep (hg.ext hext) hm fun y hy => .inl ?_
    obtain ⟨to, _, rfl⟩ := List.mem_map.1 hy
    simp [voteM]
theorem askQ_mem (h : MemV V L r) (draw : Int) : MemV V L (askQ r draw) := by
  have := h.follow r.Term 0
  exact this.of rfl rfl rfl (.inr (.inl rfl))
theorem ask_good (hg : GloV n V L) (h : MemV V L r) (hN : r.N = (n : Int)) (hid : 1 ≤ r.Id) (draw : Int) : GoodV n V L r (askR r draw) := by
  have hm := askQ_mem h draw
  unfold askR
  split
  · exact .comp (ExtV.refl _ _ _) (q := askQ r draw) rfl (stand_good hg hm hN hid)
  · refine .keep hg hm fun y hy => .inl ?_
    obtain ⟨to, _, rfl⟩ := List.mem_map.1 hy
    simp [askM]
theorem tick_good (hg : GloV n V L) (h : MemV V L r) (hN : r.N = (n : Int)) (hid : 1 ≤ r.Id) (draw : Int) : GoodV n V L r (tickR r draw) := by
  have hq : ∀ c : Int, MemV V L { r with Clock := c } := fun c => h.of rfl rfl rfl (.inr (.inr (.inl ⟨rfl, rfl⟩)))
  unfold tickR
  simp only
  split
  · split
    · refine .keep hg (hq 0) fun y hy => .inl ?_
      obtain ⟨to, _, rfl⟩ := List.mem_map.1 hy
      exact tellR_kind to
    · exact .keep hg (hq _) (by simp)
  · split
    · exact .comp (ExtV.refl _ _ _) (q := { r with Clock := r.Clock + 1 }) rfl (ask_good hg (hq _) hN hid draw)
    · exact .keep hg (hq _) (by simp)
theorem setI_true {l : List Bool} {i : Int} (h0 : 0 ≤ i) {j : Nat} (hj : (setI l i true)[j]? = some true) : (j : Int) = i ∨ l[j]? = some true := by
  unfold setI at hj
  by_cases he : i.toNat = j
  · left; omega
  · rw [List.getElem?_set_ne he] at hj
    exact .inr hj
theorem take_good (hg : GloV n V L) (h : MemV V L r) (hN : r.N = (n : Int)) (hid : 1 ≤ r.Id) (hx : MsgV V x) (hto : x.To = r.Id) (hf : 1 ≤ x.From) (hgl : r.Role = 2 → (r.Granted.length : Int) = r.N) : GoodV n V L r (takeR r x) := by
  have none : GoodV n V L r (r, []) := .keep hg h (by simp)
  have hear : MemV V L (hearQ r x) := (h.follow x.Term x.From).of rfl rfl rfl (.inl rfl)
  have one : ∀ {q : TRaft} {m : TMsg}, MemV V L q → m.Kind ≠ 4 → GoodV n V L r (q, [m]) := fun hq hk => .keep hg hq fun y hy => by simp at hy; subst hy; exact .inl hk
  unfold takeR
  split
  · exact one h (by simp [backM])
  split
  · unfold askOkR
    split
    · rename_i hc
      have hgr : MemV V L (grantedR r x) := h.of rfl rfl rfl (.inr (.inl hc.2.1))
      split
      · exact .comp (ExtV.refl _ _ _) (q := grantedR r x) rfl (stand_good hg hgr hN hid)
      · exact .keep hg hgr (by simp)
    · exact none
  split
  · exact vote_good hg h (by omega)
  split
  · rename_i hk4
    unfold voteOkR
    split
    · rename_i hc
      obtain ⟨c1, c2, c3⟩ := hc
      obtain ⟨v1, v2⟩ := hx hk4 c1
      have hgr : MemV V L (grantedR r x) := by
        refine ⟨h.cur, h.fut, fun _ j hj => ?_, fun hr => by have hr : r.Role = 3 := hr; omega⟩
        have hj : (setI r.Granted (x.From - 1) true)[j]? = some true := hj
        rcases setI_true (by omega) hj with hj | hj
        · have e : (j : Int) + 1 = x.From := by omega
          show V r.Term ((j : Int) + 1) = r.Id
          rw [e, ← c3, v2, hto]
        · exact h.cand c2 j hj
      split
      · rename_i hw
        refine .comp (ExtV.refl _ _ _) (q := grantedR r x) rfl (lead_good hg hgr c2 ?_ hw (by show r.Id ≠ 0; omega))
        show (setI r.Granted _ _).length = n
        rw [setI_length]
        have := hgl c2
        omega
      · exact .keep hg hgr (by simp)
    · exact none
  split
  · unfold entriesR
    split
    · exact one h (by simp [backM])
    · simp only
      split
      · exact one (hear.of rfl rfl rfl (.inl rfl)) (by simp [backM])
      · exact one hear (by simp [backM])
  split
  · unfold toldR
    split
    · exact none
    · have hq : MemV V L (toldQ r x) := h.of commitR_id commitR_term commitR_vote (.inr (.inr (.inl ⟨commitR_role, commitR_granted⟩)))
      have hp : MemV V L (toldP r x) := h.of rfl rfl rfl (.inr (.inr (.inl ⟨rfl, rfl⟩)))
      split
      · split
        · exact .keep hg hq (by simp)
        · exact one hq (tellR_kind _)
      · exact one hp (tellR_kind _)
  split
  · unfold snapR
    split
    · exact one h (by simp [backM])
    · simp only
      split
      · exact one (hear.of rfl rfl rfl (.inl rfl)) (by simp [backM])
      · exact one hear (by simp [backM])
  · exact none
theorem receive_good {B : Int} (hok : OkR B r) (hg : GloV n V L) (h : MemV V L r) (hN : r.N = (n : Int)) (hx : MsgV V x) : GoodV n V L r (receiveR r x) := by
  unfold receiveR
  split
  · exact .keep hg h (by simp)
  · rename_i hr
    have hv : refuseB r x = false := by simpa using hr
    unfold refuseB at hv
    simp only [Bool.or_eq_false_iff, decide_eq_false_iff_not] at hv
    obtain ⟨v1, v2, v3, _⟩ := hv
    have v1 : x.To = r.Id := by
      rcases Classical.em (x.To = r.Id) with h | h
      · exact h
      · exact absurd h v1
    split
    · exact .comp (ExtV.refl _ _ _) (q := followR r x.Term 0) rfl (take_good hg (h.follow _ _) hN hok.id.1 hx v1 (by omega) (fun h2 => by simp [followR] at h2))
    · exact take_good hg h hN hok.id.1 hx v1 (by omega) (fun h2 => hok.ga (.inr h2))
end
structure InvV (n : Nat) (w : TWorld) (V : Votes) (L : Leads) : Prop where
  mem : ∀ (k : Nat) (r : TRaft), w.R[k]? = some r → MemV V L r
  net : ∀ x ∈ w.Net, MsgV V x
  glo : GloV n V L
theorem step_inv {c : Bool} {n : Nat} {w w' : TWorld} {B : Int} {V : Votes} {L : Leads} (hw : OkW B n w) (h : InvV n w V L) (hs : StepW c w w') : ∃ V' L', InvV n w' V' L' ∧ ∀ t, L t ≠ 0 → L' t = L t := by
  cases hs with
  | less net hn => exact ⟨V, L, ⟨h.mem, fun x hx => h.net x (hn x hx), h.glo⟩, fun _ _ => rfl⟩
  | act i r p net hi ha hn =>
    obtain ⟨m1, m2, m3⟩ := hw.mem i r hi
    have hmv := h.mem i r hi
    have hgood : GoodV n V L r p := by
      cases ha with
      | tick draw => exact tick_good h.glo hmv m3 m1.id.1 draw
      | recv x hx => exact receive_good m1 h.glo hmv m3 (h.net x hx)
      | prop data hd h3 => exact append_good h.glo hmv data
      | comp upto snap hs hc => exact .keep h.glo (hmv.of rfl rfl rfl (.inr (.inr (.inl ⟨rfl, rfl⟩)))) (by simp)
      | fall hc => exact .keep h.glo (hmv.of rfl rfl rfl (.inl rfl)) (by simp)
    obtain ⟨V', L', g1, g2, g3, g4⟩ := hgood
    refine ⟨V', L', ⟨fun k q hq => ?_, fun x hx => ?_, g3⟩, g1.l⟩
    · have hq : (w.R.set i p.1)[k]? = some q := hq
      by_cases hk : i = k
      · subst hk
        have hlt : i < w.R.length := by
          rcases Nat.lt_or_ge i w.R.length with h | h
          · exact h
          · rw [List.getElem?_eq_none h] at hi; cases hi
        rw [List.getElem?_set_self hlt] at hq
        obtain rfl := Option.some.inj hq
        exact g2
      · rw [List.getElem?_set_ne hk] at hq
        obtain ⟨q1, q2, q3⟩ := hw.mem k q hq
        exact (h.mem k q hq).ext g1 (by omega) (by omega)
    · rcases hn x hx with hx | hx
      · exact (h.net x hx).ext g1
      · exact g4 x hx
end Go.Proofs.Ytgoachcogmlhcaa.R
/- The law of one leader a term: its answer is always true. -/
set_option maxRecDepth 100000
set_option linter.unusedVariables false
set_option linter.unusedSimpArgs false
noncomputable section
namespace Go.Proofs.Ytgoachcogmlhcaa.R
open Go
theorem light_loop {l : List TOp} (hl : l.length ≤ 250) : ∀ (m k n : Nat), l.length - k = m → k ≤ l.length → m < n → m_law15_light_l1 l n (k : Int) = some ((l.drop k).all fun o => decide (o.Data.length ≤ 20)) := by
  intro m
  induction m with
  | zero =>
    intro k n hm hk hn
    obtain ⟨n, rfl⟩ : ∃ n', n = n' + 1 := ⟨n - 1, by omega⟩
    have hk' : ¬ ((k : Int) < (l.length : Int)) := by omega
    rw [m_law15_light_l1, m_law15_light_l1_B, decide_eq_false hk', if_neg (by simp), List.drop_eq_nil_of_le (by omega)]
    rfl
  | succ m ih =>
    intro k n hm hk hn
    obtain ⟨n, rfl⟩ : ∃ n', n = n' + 1 := ⟨n - 1, by omega⟩
    have hlt : k < l.length := by omega
    have hk' : ((k : Int) < (l.length : Int)) := by omega
    rw [m_law15_light_l1, m_law15_light_l1_B, decide_eq_true hk', if_pos rfl, nthI_lt hlt, bnd_some, wrap_nat (by omega), ih (k + 1) n (by omega) (by omega) (by omega), List.drop_eq_getElem_cons hlt, List.all_cons]
    by_cases h : 20 < l[k].Data.length
    · have h1 : ((20 : Int) < (l[k].Data.length : Int)) := by omega
      have h2 : ¬ l[k].Data.length ≤ 20 := by omega
      simp [h1, h2]
    · have h1 : ¬ ((20 : Int) < (l[k].Data.length : Int)) := by omega
      have h2 : l[k].Data.length ≤ 20 := by omega
      simp [h1, h2]
theorem light_ok (l : List TOp) : ∃ b, m_law15_light l = some b ∧ (b = true → l.length ≤ 250 ∧ ∀ o ∈ l, o.Data.length ≤ 20) := by
  unfold m_law15_light
  by_cases h : (250 : Int) < (l.length : Int)
  · exact ⟨false, by simp [h], by simp⟩
  · refine ⟨(l.drop 0).all fun o => decide (o.Data.length ≤ 20), ?_, fun hb => ⟨by omega, fun o ho => ?_⟩⟩
    · rw [decide_eq_false h, if_neg (by simp)]
      exact light_loop (by omega) _ 0 _ rfl (Nat.zero_le _) (by omega)
    · have := List.all_eq_true.1 hb o (by simpa using ho)
      simpa using this
theorem size_eq {n : Int} (h : 0 ≤ n ∧ n ≤ 255) : m_law15_size n = some (((n % 5).toNat + 1 : Nat) : Int) := by
  unfold m_law15_size
  rw [wrap_sm (n := n) (by omega), Int.tmod_eq_emod_of_nonneg h.1, wrap_sm (by omega)]
  congr 1
  omega
def beginW (n : Nat) : TWorld := ⟨(List.range n).map fun (k : Nat) => newR ((k : Int) + 1) (n : Int), []⟩
theorem begin_loop {n : Nat} (hn : n ≤ 5) : ∀ (m k f : Nat), n - k = m → k ≤ n → m < f → m_law15_Begin_l1 (n : Int) f ((k : Int) + 1) ((List.range k).map fun (k : Nat) => newR ((k : Int) + 1) (n : Int)) = some (beginW n) := by
  intro m
  induction m with
  | zero =>
    intro k f hm hk hf
    obtain ⟨f, rfl⟩ : ∃ f', f = f' + 1 := ⟨f - 1, by omega⟩
    have hk' : ¬ ((k : Int) + 1 ≤ (n : Int)) := by omega
    have e : k = n := by omega
    rw [m_law15_Begin_l1, m_law15_Begin_l1_B, decide_eq_false hk', if_neg (by simp), e]
    rfl
  | succ m ih =>
    intro k f hm hk hf
    obtain ⟨f, rfl⟩ : ∃ f', f = f' + 1 := ⟨f - 1, by omega⟩
    have hk' : ((k : Int) + 1 ≤ (n : Int)) := by omega
    have hi := ih (k + 1) f (by omega) (by omega) (by omega)
    have e : (List.range (k + 1)).map (fun (k : Nat) => newR ((k : Int) + 1) (n : Int)) = (List.range k).map (fun (k : Nat) => newR ((k : Int) + 1) (n : Int)) ++ [newR ((k : Int) + 1) (n : Int)] := by rw [List.range_succ, List.map_append]; rfl
    rw [e] at hi
    rw [m_law15_Begin_l1, m_law15_Begin_l1_B, decide_eq_true hk', if_pos rfl, new_eq (by omega) hk' (by omega), bnd_some, if_pos (capB_small (by simp; omega)), wrap_sm (by omega)]
    have e2 : ((k + 1 : Nat) : Int) + 1 = (k : Int) + 1 + 1 := by omega
    rw [e2] at hi
    exact hi
theorem begin_eq {n : Nat} (hn : n ≤ 5) : m_law15_Begin (n : Int) = some (beginW n) := by
  have := begin_loop hn n 0 (((n : Int) - 1 + 1).toNat + 1) (by omega) (Nat.zero_le _) (by omega)
  unfold m_law15_Begin
  simpa using this
theorem begin_get {n k : Nat} {r : TRaft} (h : (beginW n).R[k]? = some r) : k < n ∧ r = newR ((k : Int) + 1) (n : Int) := by
  have h : ((List.range n).map fun (k : Nat) => newR ((k : Int) + 1) (n : Int))[k]? = some r := h
  rw [List.getElem?_map] at h
  cases hk : (List.range n)[k]? with
  | none => rw [hk] at h; cases h
  | some j =>
    rw [hk] at h
    have hlt : k < n := by
      rcases Nat.lt_or_ge k n with h | h
      · exact h
      · rw [List.getElem?_eq_none (by simpa using h)] at hk; cases hk
    rw [List.getElem?_range hlt] at hk
    obtain rfl := Option.some.inj hk
    exact ⟨hlt, by simpa using h.symm⟩
theorem begin_ok {n : Nat} (h1 : 1 ≤ n) (h5 : n ≤ 5) : OkW 20 n (beginW n) := by
  refine ⟨⟨h1, h5⟩, by simp [beginW], fun k r hr => ?_, by simp [beginW], by simp [beginW]⟩
  obtain ⟨hk, rfl⟩ := begin_get hr
  exact ⟨new_ok (r := newR 1 1) (by simp [newR]) (by omega) (by omega) (by omega) (by omega), rfl, rfl⟩
theorem begin_inv {n : Nat} : InvV n (beginW n) (fun _ _ => 0) (fun _ => 0) := by
  refine ⟨fun k r hr => ?_, by simp [beginW], fun t ht => absurd rfl ht⟩
  obtain ⟨hk, rfl⟩ := begin_get hr
  exact ⟨rfl, fun _ _ => rfl, fun h => by simp [newR] at h, fun h => by simp [newR] at h⟩
structure Met (L : Leads) (terms who : List Int) (b : Nat) : Prop where
  len : terms.length = who.length
  most : terms.length ≤ b
  met : ∀ (j : Nat) (t : Int), terms[j]? = some t → L t ≠ 0 ∧ who[j]? = some (L t)
theorem Met.next {L L' : Leads} {terms who : List Int} {b b' : Nat} (h : Met L terms who b) (hL : ∀ t, L t ≠ 0 → L' t = L t) (hb : b ≤ b') : Met L' terms who b' :=
  ⟨h.len, by have := h.most; omega, fun j t ht => by
    obtain ⟨h1, h2⟩ := h.met j t ht
    rw [hL t h1]
    exact ⟨h1, h2⟩⟩
theorem one_l3 {rec2 : Int → List Int → List Int → Option Bool} {w : TWorld} {k : Nat} {r : TRaft} {terms who : List Int} {L : Leads} {b : Nat} (hr : w.R[k]? = some r) (hm : Met L terms who b) (hb : b ≤ 100000) (hL : L r.Term = r.Id) :
    ∀ (m j f : Nat) (met : Bool), terms.length - j = m → j ≤ terms.length → m < f → ∃ met', m_law15_RaftOne_l3 rec2 w (k : Int) terms who f met (j : Int) = m_law15_RaftOne_k2 rec2 w (k : Int) terms who met' := by
  have hmost := hm.most
  intro m
  induction m with
  | zero =>
    intro j f met hmj hj hf
    obtain ⟨f, rfl⟩ : ∃ f', f = f' + 1 := ⟨f - 1, by omega⟩
    have hj' : ¬ ((j : Int) < ((terms.length : Nat) : Int)) := by omega
    refine ⟨met, ?_⟩
    rw [m_law15_RaftOne_l3, m_law15_RaftOne_l3_B, decide_eq_false hj', if_neg (by simp)]
  | succ m ih =>
    intro j f met hmj hj hf
    obtain ⟨f, rfl⟩ : ∃ f', f = f' + 1 := ⟨f - 1, by omega⟩
    have hlt : j < terms.length := by omega
    have hj' : ((j : Int) < ((terms.length : Nat) : Int)) := by omega
    obtain ⟨g1, g2⟩ := hm.met j terms[j] (List.getElem?_eq_getElem hlt)
    rw [m_law15_RaftOne_l3, m_law15_RaftOne_l3_B, decide_eq_true hj', if_pos rfl, nthI_lt hlt, bnd_some, nthI_nat, hr, bnd_some]
    unfold m_law15_RaftOne_k1
    by_cases ht : terms[j] = r.Term
    · have e : decide (L terms[j] ≠ r.Id) = false := by rw [ht, hL]; simp
      rw [decide_eq_true ht, if_pos rfl, nthI_nat, g2, bnd_some, e, if_neg (by simp), wrap_nat (by omega)]
      exact ih (j + 1) f true (by omega) (by omega) (by omega)
    · rw [decide_eq_false ht, if_neg (by simp), wrap_nat (by omega)]
      exact ih (j + 1) f met (by omega) (by omega) (by omega)
theorem one_l2 {rec1 : Int → List TRaft → List TMsg → List Int → List Int → Option Bool} {i : Int} {w : TWorld} {n : Nat} {B : Int} {V : Votes} {L : Leads} (hw : OkW B n w) (hv : InvV n w V L) :
    ∀ (m k f : Nat) (terms who : List Int) (b : Nat), w.R.length - k = m → k ≤ w.R.length → m < f → Met L terms who b → b + m ≤ 100000 →
      ∃ terms' who', Met L terms' who' (b + m) ∧ m_law15_RaftOne_l2 rec1 i w f (k : Int) terms who = m_law15_RaftOne_k4 rec1 i w terms' who' := by
  have hwl := hw.len; have hn1 := hw.n1
  intro m
  induction m with
  | zero =>
    intro k f terms who b hm hk hf hmet hb
    obtain ⟨f, rfl⟩ : ∃ f', f = f' + 1 := ⟨f - 1, by omega⟩
    have hk' : ¬ ((k : Int) < (w.R.length : Int)) := by omega
    refine ⟨terms, who, hmet, ?_⟩
    rw [m_law15_RaftOne_l2, m_law15_RaftOne_l2_B, decide_eq_false hk', if_neg (by simp)]
  | succ m ih =>
    intro k f terms who b hm hk hf hmet hb
    obtain ⟨f, rfl⟩ : ∃ f', f = f' + 1 := ⟨f - 1, by omega⟩
    have hlt : k < w.R.length := by omega
    have hk' : ((k : Int) < (w.R.length : Int)) := by omega
    have hr : w.R[k]? = some w.R[k] := List.getElem?_eq_getElem hlt
    obtain ⟨o1, o2, o3⟩ := hw.mem k _ hr
    have hmv := hv.mem k _ hr
    have hmost := hmet.most
    have k3 : ∀ t2 w2, Met L t2 w2 (b + 1) → ∃ terms' who', Met L terms' who' (b + (m + 1)) ∧ m_law15_RaftOne_k3 (m_law15_RaftOne_l2 rec1 i w f) (k : Int) t2 w2 = m_law15_RaftOne_k4 rec1 i w terms' who' := by
      intro t2 w2 h2
      unfold m_law15_RaftOne_k3
      rw [wrap_nat (by omega)]
      obtain ⟨a, c, h3, h4⟩ := ih (k + 1) f t2 w2 (b + 1) (by omega) (by omega) (by omega) h2 (by omega)
      exact ⟨a, c, h3.next (fun _ _ => rfl) (by omega), h4⟩
    have hself := hmet.next (L' := L) (fun _ _ => rfl) (show b ≤ b + 1 by omega)
    rw [m_law15_RaftOne_l2, m_law15_RaftOne_l2_B, decide_eq_true hk', if_pos rfl, nthI_lt hlt, bnd_some]
    by_cases h3 : w.R[k].Role = 3
    · have e : decide (w.R[k].Role ≠ 3) = false := by simp [h3]
      have hL := hmv.lead h3
      rw [e, if_neg (by simp)]
      obtain ⟨met', hl3⟩ := one_l3 (rec2 := m_law15_RaftOne_l2 rec1 i w f) hr hmet (by omega) hL _ 0 ((((terms.length : Nat) : Int) - 0).toNat + 1) false rfl (Nat.zero_le _) (by omega)
      have hl3' : m_law15_RaftOne_l3 (m_law15_RaftOne_l2 rec1 i w f) w (k : Int) terms who ((((terms.length : Nat) : Int) - 0).toNat + 1) false 0 = m_law15_RaftOne_k2 (m_law15_RaftOne_l2 rec1 i w f) w (k : Int) terms who met' := hl3
      rw [hl3']
      unfold m_law15_RaftOne_k2
      cases met' with
      | true => rw [if_pos rfl]; exact k3 _ _ hself
      | false =>
        have hlen := hmet.len
        rw [if_neg (by simp), nthI_lt hlt, bnd_some, if_pos (capB_small (by omega)), if_pos (capB_small (by omega))]
        refine k3 _ _ ⟨by simp; exact hmet.len, by simp; omega, fun j t ht => ?_⟩
        rcases Nat.lt_or_ge j terms.length with hj | hj
        · rw [List.getElem?_append_left hj] at ht
          rw [List.getElem?_append_left (by omega)]
          exact hmet.met j t ht
        · rw [List.getElem?_append_right hj] at ht
          have hj0 : j - terms.length = 0 := by
            rcases Nat.eq_zero_or_pos (j - terms.length) with h | h
            · exact h
            · rw [List.getElem?_eq_none (by simp; omega)] at ht; cases ht
          rw [hj0] at ht
          have ht : w.R[k].Term = t := by simpa using ht
          subst ht
          rw [List.getElem?_append_right (by omega)]
          have : j - who.length = 0 := by omega
          rw [this, hL]
          exact ⟨by omega, rfl⟩
    · have e : decide (w.R[k].Role ≠ 3) = true := by simp [h3]
      rw [e, if_pos rfl]
      exact k3 _ _ hself
theorem one_l1 {l : List TOp} {n : Nat} (hl : l.length ≤ 250) (hd : ∀ o ∈ l, o.Data.length ≤ 20) : ∀ (m i f : Nat) (w : TWorld) (V : Votes) (L : Leads) (terms who : List Int), l.length - i = m → i ≤ l.length → m < f → OkW (20 + 3 * (i : Int)) n w → InvV n w V L → Met L terms who (5 * i) →
    m_law15_RaftOne_l1 l f (i : Int) w.R w.Net terms who = some true := by
  intro m
  induction m with
  | zero =>
    intro i f w V L terms who hm hi hf hw hv hmet
    obtain ⟨f, rfl⟩ : ∃ f', f = f' + 1 := ⟨f - 1, by omega⟩
    have hi' : ¬ ((i : Int) < (l.length : Int)) := by omega
    rw [m_law15_RaftOne_l1, m_law15_RaftOne_l1_B, decide_eq_false hi', if_neg (by simp)]
    rfl
  | succ m ih =>
    intro i f w V L terms who hm hi hf hw hv hmet
    obtain ⟨f, rfl⟩ : ∃ f', f = f' + 1 := ⟨f - 1, by omega⟩
    have hlt : i < l.length := by omega
    have hi' : ((i : Int) < (l.length : Int)) := by omega
    obtain ⟨w', h1, h2, h3⟩ := do_ok hw (by omega) (by omega) l[i] (hd _ (List.getElem_mem hlt))
    obtain ⟨V', L', h4, h5⟩ := step_inv hw hv h2
    have h3l := h3.len; have h3n := h3.n1
    rw [m_law15_RaftOne_l1, m_law15_RaftOne_l1_B, decide_eq_true hi', if_pos rfl, nthI_lt hlt, bnd_some]
    have h1' : m_law15_Do ⟨w.R, w.Net⟩ l[i] = some w' := h1
    rw [h1', bnd_some]
    obtain ⟨t2, w2, h6, h7⟩ := one_l2 (rec1 := m_law15_RaftOne_l1 l f) (i := (i : Int)) h3 h4 _ 0 ((((w'.R.length : Int)) - 0).toNat + 1) terms who (5 * i) rfl (Nat.zero_le _) (by omega) (hmet.next h5 (Nat.le_refl _)) (by omega)
    have h7' : m_law15_RaftOne_l2 (m_law15_RaftOne_l1 l f) (i : Int) w' ((((w'.R.length : Int)) - 0).toNat + 1) 0 terms who = m_law15_RaftOne_k4 (m_law15_RaftOne_l1 l f) (i : Int) w' t2 w2 := h7
    rw [h7']
    unfold m_law15_RaftOne_k4
    rw [wrap_nat (by omega)]
    exact ih (i + 1) f w' V' L' t2 w2 (by omega) (by omega) (by omega) (h3.mono (by omega)) h4 (h6.next (fun _ _ => rfl) (by omega))
theorem ans_RaftOne {n : Int} (hn : 0 ≤ n ∧ n ≤ 255) (l : List TOp) : m_law15_RaftOne n l = some true := by
  obtain ⟨b, h1, h2⟩ := light_ok l
  unfold m_law15_RaftOne
  rw [h1, bnd_some]
  cases b with
  | false => rfl
  | true =>
    obtain ⟨l1, l2⟩ := h2 rfl
    rw [if_pos rfl, size_eq hn, bnd_some, begin_eq (by omega), bnd_some]
    have := one_l1 (n := (n % 5).toNat + 1) l1 l2 _ 0 ((((l.length : Int)) - 0).toNat + 1) (beginW ((n % 5).toNat + 1)) (fun _ _ => 0) (fun _ => 0) [] [] rfl (Nat.zero_le _) (by omega) (begin_ok (by omega) (by omega)) begin_inv ⟨rfl, by simp, by simp⟩
    exact this
end Go.Proofs.Ytgoachcogmlhcaa.R
