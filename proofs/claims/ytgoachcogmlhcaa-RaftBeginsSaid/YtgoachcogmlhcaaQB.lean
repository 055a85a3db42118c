/- Plain laws: rafts begun. -/
import Derived.Test.YtgoachcogmlhcaaQA
set_option maxRecDepth 100000
set_option linter.unusedVariables false
set_option linter.unusedSimpArgs false
noncomputable section
namespace Go.Proofs.Ytgoachcogmlhcaa.R
open Go
structure OkL (l : TLog) : Prop where
  b : inR l.Base
  bt : inR l.BaseTerm
  len : l.Entries.length ≤ maxLen
  e : ∀ x ∈ l.Entries, inR x.Term ∧ x.Data.length ≤ maxLen
/-- A log no longer than what the law asks. -/
structure SmL (l : TLog) : Prop where
  len : l.Entries.length ≤ 300
  d : ∀ x ∈ l.Entries, x.Data.length ≤ 9000
/-! ### What a log weighs -/
theorem weight_loop {l : List TEntry} (hd : ∀ x ∈ l, x.Data.length ≤ maxLen) {r : Int} (hr : r ≤ 200) :
    ∀ (m k n : Nat) (w : Int), l.length - k = m → k ≤ l.length → l.length ≤ maxLen → 0 ≤ w → m_ref13_Weight_l1 l 200 n w (k : Int) = some r →
      (l.length : Int) - k + w ≤ r ∧ ∀ x ∈ l.drop k, x.Data.length ≤ 9000 := by
  intro m
  induction m with
  | zero =>
    intro k n w hm hk hl hw h
    cases n with
    | zero => simp [m_ref13_Weight_l1] at h
    | succ n =>
      have h1 : ¬ ((k : Int) < (l.length : Int)) := by omega
      rw [m_ref13_Weight_l1, m_ref13_Weight_l1_B, decide_eq_false h1, if_neg (by simp), m_ref13_Weight_k1, if_neg (by simp)] at h
      simp only [Option.some.injEq] at h
      refine ⟨by omega, ?_⟩
      rw [List.drop_eq_nil_of_le (by omega)]
      simp
  | succ m ih =>
    intro k n w hm hk hl hw h
    cases n with
    | zero => simp [m_ref13_Weight_l1] at h
    | succ n =>
      have h1 : ((k : Int) < (l.length : Int)) := by omega
      have hlt : k < l.length := by omega
      rw [m_ref13_Weight_l1, m_ref13_Weight_l1_B, decide_eq_true h1, if_pos rfl, m_ref13_Weight_k1] at h
      by_cases h2 : w ≤ 200
      · have hx := hd _ (List.getElem_mem hlt)
        rw [maxLen_eq] at hx hl
        have h3 : 0 ≤ ((l[k].Data.length : Int)) := by omega
        have h4 : IntKind.i64.wrap ((l[k].Data.length : Int).tdiv 20) = (l[k].Data.length : Int) / 20 := by
          rw [tdiv_nn h3]
          exact wrap_in (by unfold inR; omega)
        have h5 : IntKind.i64.wrap (w + 1) = w + 1 := wrap_in (by unfold inR; omega)
        have h6 : IntKind.i64.wrap (w + 1 + (l[k].Data.length : Int) / 20) = w + 1 + (l[k].Data.length : Int) / 20 := wrap_in (by unfold inR; omega)
        rw [if_pos (by simpa using h2), nthI_lt hlt, bnd_some, h4, h5, h6, wrap_succ (by omega)] at h
        obtain ⟨g1, g2⟩ := ih (k + 1) n _ (by omega) (by omega) (by rw [maxLen_eq]; omega) (by omega) h
        refine ⟨by omega, ?_⟩
        rw [List.drop_eq_getElem_cons hlt]
        intro x hx
        rcases List.mem_cons.1 hx with rfl | hx
        · omega
        · exact g2 x hx
      · rw [if_neg (by simpa using h2)] at h
        simp only [Option.some.injEq] at h
        omega
theorem weight_some {l : List TEntry} (hl : l.length ≤ maxLen) : ∀ (m k n : Nat) (w : Int), l.length - k = m → k ≤ l.length → m < n → ∃ r, m_ref13_Weight_l1 l 200 n w (k : Int) = some r := by
  intro m
  induction m with
  | zero =>
    intro k n w hm hk hn
    obtain ⟨n, rfl⟩ : ∃ n', n = n' + 1 := ⟨n - 1, by omega⟩
    have h1 : ¬ ((k : Int) < (l.length : Int)) := by omega
    rw [m_ref13_Weight_l1, m_ref13_Weight_l1_B, decide_eq_false h1, if_neg (by simp), m_ref13_Weight_k1, if_neg (by simp)]
    exact ⟨_, rfl⟩
  | succ m ih =>
    intro k n w hm hk hn
    obtain ⟨n, rfl⟩ : ∃ n', n = n' + 1 := ⟨n - 1, by omega⟩
    have h1 : ((k : Int) < (l.length : Int)) := by omega
    have hlt : k < l.length := by omega
    rw [maxLen_eq] at hl
    rw [m_ref13_Weight_l1, m_ref13_Weight_l1_B, decide_eq_true h1, if_pos rfl, m_ref13_Weight_k1]
    split
    · rw [nthI_lt hlt, bnd_some, wrap_succ (by omega)]
      exact ih (k + 1) n _ (by omega) (by omega) (by omega)
    · exact ⟨_, rfl⟩
theorem weight_ok {l : TLog} (h : OkL l) : ∃ r, m_ref13_Weight l.Entries 200 = some r ∧ (r ≤ 200 → SmL l) := by
  obtain ⟨r, hr⟩ := weight_some h.len _ 0 ((((l.Entries.length : Int)) - ((0 : Int))).toNat + 1) 0 rfl (Nat.zero_le _) (by omega)
  refine ⟨r, hr, fun h2 => ?_⟩
  obtain ⟨g1, g2⟩ := weight_loop (fun x hx => (h.e x hx).2) h2 _ 0 _ 0 rfl (Nat.zero_le _) h.len (by omega) hr
  exact ⟨by omega, fun x hx => g2 x (by simpa using hx)⟩
/-! ### A raft of nothing -/
theorem new_eq (id n : Int) : m_raft_New id n = m_ref15_New id n := rfl
abbrev zeroR : TRaft := TRaft.mk 0 0 0 0 0 0 (TLog.mk 0 0 []) 0 [] [] [] [] 0 0
theorem new_ok (id n : Int) : ∃ x : TRaft × Int, m_ref15_New id n = some x ∧ x.1.Snap = [] ∧ x.1.Granted = [] ∧ x.1.Next = [] ∧ x.1.Match = [] ∧ x.1.Log.Entries = [] := by
  unfold m_ref15_New m_ref15_New_k1
  repeat' split
  all_goals exact ⟨_, rfl, rfl, rfl, rfl, rfl, rfl⟩
/-! ### A log checked -/
/-- How far the terms have come. -/
def termAt (l : TLog) (k : Nat) : Int := if k = 0 then (if l.BaseTerm < 1 then 1 else l.BaseTerm) else (l.Entries[k - 1]?.map TEntry.Term).getD 0
theorem check_loop {l : TLog} (hl : l.Entries.length ≤ maxLen) :
    ∀ (m k n : Nat) (t : Int), l.Entries.length - k = m → k ≤ l.Entries.length → m < n → t = termAt l k → 1 ≤ t → l.BaseTerm ≤ t →
      m_logs_Check_l1 l n t (k : Int) = m_ref13_Check_l1 l n (k : Int) ∧ ∃ r, m_ref13_Check_l1 l n (k : Int) = some r := by
  intro m
  induction m with
  | zero =>
    intro k n t hm hk hn _ _ _
    obtain ⟨n, rfl⟩ : ∃ n', n = n' + 1 := ⟨n - 1, by omega⟩
    have h1 : ¬ ((k : Int) < (l.Entries.length : Int)) := by omega
    rw [m_ref13_Check_l1, m_ref13_Check_l1_B, m_logs_Check_l1, m_logs_Check_l1_B, decide_eq_false h1, if_neg (by simp), if_neg (by simp)]
    exact ⟨rfl, _, rfl⟩
  | succ m ih =>
    intro k n t hm hk hn ht h1 hb
    obtain ⟨n, rfl⟩ : ∃ n', n = n' + 1 := ⟨n - 1, by omega⟩
    have hlt : k < l.Entries.length := by omega
    have hk' : ((k : Int) < (l.Entries.length : Int)) := by omega
    rw [maxLen_eq] at hl
    rw [m_ref13_Check_l1, m_ref13_Check_l1_B, m_logs_Check_l1, m_logs_Check_l1_B, decide_eq_true hk', if_pos rfl, if_pos rfl, nthI_lt hlt, bnd_some, bnd_some]
    unfold m_ref13_Check_k3 m_logs_Check_k2
    rw [wrap_succ (by omega)]
    have hnext : ¬ l.Entries[k].Term < t → m_logs_Check_l1 l n l.Entries[k].Term ((k + 1 : Nat) : Int) = m_ref13_Check_l1 l n ((k + 1 : Nat) : Int) ∧ ∃ r, m_ref13_Check_l1 l n ((k + 1 : Nat) : Int) = some r := by
      intro h
      refine ih (k + 1) n _ (by omega) (by omega) (by omega) ?_ (by omega) (by omega)
      simp [termAt, List.getElem?_eq_getElem hlt]
    generalize m_logs_Check_l1 l n l.Entries[k].Term ((k + 1 : Nat) : Int) = qa, m_ref13_Check_l1 l n ((k + 1 : Nat) : Int) = qb at hnext ⊢
    by_cases hk0 : k = 0
    · subst hk0
      have ht' : t = if l.BaseTerm < 1 then 1 else l.BaseTerm := by simpa [termAt] using ht
      have h00 : ¬ ((0 : Int) < ((0 : Nat) : Int)) := by omega
      by_cases c : l.Entries[0].Term < t
      · refine ⟨?_, ?_⟩ <;> by_cases c1 : l.Entries[0].Term < 1 <;> by_cases c2 : 1099511627776 < l.Entries[0].Term <;> by_cases c3 : l.Entries[0].Term < l.BaseTerm <;> simp [c, c1, c2, c3]
        all_goals (exfalso; split at ht' <;> omega)
      · obtain ⟨g1, g2, g3⟩ := hnext c
        have c1 : ¬ l.Entries[0].Term < 1 := by omega
        have c3 : ¬ l.Entries[0].Term < l.BaseTerm := by omega
        simp [c, c1, c3, h00, g1, g3]
        split <;> exact ⟨_, rfl⟩
    · have hp : k - 1 < l.Entries.length := by omega
      have hw : IntKind.i64.wrap ((k : Int) - 1) = ((k - 1 : Nat) : Int) := by
        rw [wrap_in (by unfold inR; omega)]
        omega
      have h00 : ((0 : Int) < (k : Int)) := by omega
      have ht' : t = l.Entries[k - 1].Term := by simpa [termAt, hk0, List.getElem?_eq_getElem hp] using ht
      subst ht'
      rw [decide_eq_true h00, if_pos rfl, hw, nthI_lt hp, bnd_some]
      by_cases c : l.Entries[k].Term < l.Entries[k - 1].Term
      · refine ⟨?_, ?_⟩ <;> by_cases c1 : l.Entries[k].Term < 1 <;> by_cases c2 : 1099511627776 < l.Entries[k].Term <;> by_cases c3 : l.Entries[k].Term < l.BaseTerm <;> simp [c, c1, c2, c3]
      · obtain ⟨g1, g2, g3⟩ := hnext c
        have c1 : ¬ l.Entries[k].Term < 1 := by omega
        have c3 : ¬ l.Entries[k].Term < l.BaseTerm := by omega
        by_cases c2 : 1099511627776 < l.Entries[k].Term
        · simp [c, c1, c2, c3]
        · simp [c, c1, c2, c3, g1, g3]
theorem check_eq {l : TLog} (hl : l.Entries.length ≤ maxLen) : m_logs_Check l = m_ref13_Check l ∧ ∃ r, m_ref13_Check l = some r := by
  have hlo := check_loop hl _ 0 ((((l.Entries.length : Int)) - ((0 : Int))).toNat + 1) (if l.BaseTerm < 1 then 1 else l.BaseTerm) rfl (Nat.zero_le _) (by omega) rfl (by split <;> omega) (by split <;> omega)
  obtain ⟨g1, g2, g3⟩ := hlo
  replace g1 : m_logs_Check_l1 l ((((l.Entries.length : Int)) - ((0 : Int))).toNat + 1) (if l.BaseTerm < 1 then 1 else l.BaseTerm) (0 : Int) = m_ref13_Check_l1 l ((((l.Entries.length : Int)) - ((0 : Int))).toNat + 1) (0 : Int) := g1
  replace g3 : m_ref13_Check_l1 l ((((l.Entries.length : Int)) - ((0 : Int))).toNat + 1) (0 : Int) = some g2 := g3
  unfold m_logs_Check m_ref13_Check m_logs_Check_k1 m_ref13_Check_k1 m_ref13_Check_k2
  rw [g1, g3]
  generalize m_ref13_Check_l1 l ((((l.Entries.length : Int)) - ((0 : Int))).toNat + 1) (0 : Int) = q at g3
  by_cases c1 : l.Base < 0
  · simp [c1]
  · by_cases c2 : 1099511627776 < l.Base
    · simp [c1, c2]
    · by_cases c3 : l.BaseTerm < 0
      · simp [c1, c2, c3]
      · by_cases c4 : 1099511627776 < l.BaseTerm
        · simp [c1, c2, c3, c4]
        · by_cases c5 : l.Base = 0 <;> by_cases c6 : l.BaseTerm = 0 <;> simp [c1, c2, c3, c4, c5, c6]
/-- A log whose base is no place fails. -/
theorem check_base {l : TLog} (h : ¬ (0 ≤ l.Base ∧ l.Base ≤ 1099511627776)) : m_ref13_Check l = some 1 := by
  unfold m_ref13_Check m_ref13_Check_k1
  by_cases c1 : l.Base < 0
  · simp [c1]
  · have c2 : 1099511627776 < l.Base := by omega
    simp [c1, c2]
/-! ### The last term -/
theorem term_loop {l : TLog} (hl : l.Entries.length ≤ maxLen) (at0 : Int) : ∀ (m k n : Nat), l.Entries.length - k = m → k ≤ l.Entries.length → m < n → ∃ x, m_ref13_Term_l1 l at0 n (k : Int) = some x := by
  intro m
  induction m with
  | zero =>
    intro k n hm hk hn
    obtain ⟨n, rfl⟩ : ∃ n', n = n' + 1 := ⟨n - 1, by omega⟩
    have h1 : ¬ ((k : Int) < (l.Entries.length : Int)) := by omega
    rw [m_ref13_Term_l1, m_ref13_Term_l1_B, decide_eq_false h1, if_neg (by simp)]
    exact ⟨_, rfl⟩
  | succ m ih =>
    intro k n hm hk hn
    obtain ⟨n, rfl⟩ : ∃ n', n = n' + 1 := ⟨n - 1, by omega⟩
    have hlt : k < l.Entries.length := by omega
    have hk' : ((k : Int) < (l.Entries.length : Int)) := by omega
    rw [maxLen_eq] at hl
    rw [m_ref13_Term_l1, m_ref13_Term_l1_B, decide_eq_true hk', if_pos rfl, nthI_lt hlt, bnd_some, wrap_succ (by omega)]
    split
    · exact ⟨_, rfl⟩
    · exact ih (k + 1) n (by omega) (by omega) (by omega)
theorem term_some {l : TLog} (hl : l.Entries.length ≤ maxLen) (at0 : Int) : ∃ x, m_ref13_Term l at0 = some x := by
  unfold m_ref13_Term
  split
  · exact ⟨_, rfl⟩
  · exact term_loop hl at0 _ 0 _ rfl (Nat.zero_le _) (by omega)
theorem term_find {l : TLog} (hb : 0 ≤ l.Base ∧ l.Base ≤ 1099511627776) (hl : l.Entries.length ≤ 300) (h0 : 0 < l.Entries.length) :
    ∀ (m k n : Nat), l.Entries.length - 1 - k = m → k ≤ l.Entries.length - 1 → m < n → m_ref13_Term_l1 l (l.Base + (l.Entries.length : Int)) n (k : Int) = some ((l.Entries[l.Entries.length - 1]'(by omega)).Term, true) := by
  intro m
  induction m with
  | zero =>
    intro k n hm hk hn
    obtain ⟨n, rfl⟩ : ∃ n', n = n' + 1 := ⟨n - 1, by omega⟩
    obtain rfl : k = l.Entries.length - 1 := by omega
    have hlt : l.Entries.length - 1 < l.Entries.length := by omega
    have hk' : ((l.Entries.length - 1 : Nat) : Int) < (l.Entries.length : Int) := by omega
    have hw : IntKind.i64.wrap (IntKind.i64.wrap (l.Base + 1) + ((l.Entries.length - 1 : Nat) : Int)) = l.Base + (l.Entries.length : Int) := by
      rw [wrap_in (n := l.Base + 1) (by unfold inR; omega), wrap_in (by unfold inR; omega)]
      omega
    rw [m_ref13_Term_l1, m_ref13_Term_l1_B, decide_eq_true hk', if_pos rfl, hw, decide_eq_true rfl, if_pos rfl, nthI_lt hlt, bnd_some]
  | succ m ih =>
    intro k n hm hk hn
    obtain ⟨n, rfl⟩ : ∃ n', n = n' + 1 := ⟨n - 1, by omega⟩
    have hk' : ((k : Int) < (l.Entries.length : Int)) := by omega
    have hw : IntKind.i64.wrap (IntKind.i64.wrap (l.Base + 1) + (k : Int)) ≠ l.Base + (l.Entries.length : Int) := by
      rw [wrap_in (n := l.Base + 1) (by unfold inR; omega), wrap_in (by unfold inR; omega)]
      omega
    rw [m_ref13_Term_l1, m_ref13_Term_l1_B, decide_eq_true hk', if_pos rfl, decide_eq_false hw, if_neg (by simp), wrap_succ (by omega)]
    exact ih (k + 1) n (by omega) (by omega) (by omega)
theorem lastTerm_in {l : TLog} (hb : 0 ≤ l.Base ∧ l.Base ≤ 1099511627776) (hl : l.Entries.length ≤ 300) : ∃ x, m_logs_LastTerm l = some x ∧ ∃ b, (m_ref13_Term l (IntKind.i64.wrap (l.Base + (l.Entries.length : Int))) = some (x, b)) := by
  have hw : IntKind.i64.wrap (l.Base + (l.Entries.length : Int)) = l.Base + (l.Entries.length : Int) := wrap_in (by unfold inR; omega)
  unfold m_logs_LastTerm m_ref13_Term m_logs_Term m_logs_Last m_logs_Term_k1
  rw [hw]
  simp only [bnd_some]
  by_cases h0 : l.Entries.length = 0
  · have h1 : l.Base + (l.Entries.length : Int) = l.Base := by omega
    rw [h1]
    exact ⟨l.BaseTerm, by simp [bnd_some], true, by simp⟩
  · have h1 : ¬ (l.Base + (l.Entries.length : Int) = l.Base) := by omega
    have h2 : ¬ (l.Base + (l.Entries.length : Int) < l.Base) := by omega
    have h3 : ¬ (l.Base + (l.Entries.length : Int) < l.Base + (l.Entries.length : Int)) := by omega
    have hlt : l.Entries.length - 1 < l.Entries.length := by omega
    have h4 : IntKind.i64.wrap (IntKind.i64.wrap (l.Base + (l.Entries.length : Int) - l.Base) - 1) = ((l.Entries.length - 1 : Nat) : Int) := by
      rw [wrap_in (n := l.Base + (l.Entries.length : Int) - l.Base) (by unfold inR; omega), wrap_in (by unfold inR; omega)]
      omega
    have h5 : m_ref13_Term_l1 l (l.Base + (l.Entries.length : Int)) ((((l.Entries.length : Int)) - ((0 : Int))).toNat + 1) (0 : Int) = _ := term_find hb hl (by omega) _ 0 ((((l.Entries.length : Int)) - ((0 : Int))).toNat + 1) rfl (Nat.zero_le _) (by omega)
    rw [decide_eq_false h1, decide_eq_false h2, decide_eq_false h3, h4, nthI_lt hlt, h5]
    exact ⟨_, rfl, true, by simp⟩
theorem lastTerm_some {l : TLog} (hl : OkL l) (hs : l.Entries.length ≤ 300) : ∃ x, m_logs_LastTerm l = some x := by
  have hb := hl.b
  unfold m_logs_LastTerm m_logs_Term m_logs_Last m_logs_Term_k1
  simp only [bnd_some]
  have hw := IntKind.wrap_i64 (l.Base + (l.Entries.length : Int))
  by_cases h1 : IntKind.i64.wrap (l.Base + (l.Entries.length : Int)) = l.Base
  · rw [decide_eq_true h1]
    exact ⟨_, rfl⟩
  · by_cases h2 : IntKind.i64.wrap (l.Base + (l.Entries.length : Int)) < l.Base
    · rw [decide_eq_false h1, decide_eq_true h2]
      exact ⟨_, rfl⟩
    · unfold inR at hb
      have h3 : ¬ (IntKind.i64.wrap (l.Base + (l.Entries.length : Int)) < IntKind.i64.wrap (l.Base + (l.Entries.length : Int))) := by omega
      have h5 : IntKind.i64.wrap (l.Base + (l.Entries.length : Int)) = l.Base + (l.Entries.length : Int) := by omega
      have h0 : l.Entries.length ≠ 0 := by
        intro h
        apply h1
        rw [h5, h]
        simp
      have hlt : l.Entries.length - 1 < l.Entries.length := by omega
      have h4 : IntKind.i64.wrap (IntKind.i64.wrap (l.Base + (l.Entries.length : Int) - l.Base) - 1) = ((l.Entries.length - 1 : Nat) : Int) := by
        rw [wrap_in (n := l.Base + (l.Entries.length : Int) - l.Base) (by unfold inR; omega), wrap_in (by unfold inR; omega)]
        omega
      rw [decide_eq_false h1, decide_eq_false h2, decide_eq_false h3, h5, h4, nthI_lt hlt]
      exact ⟨_, rfl⟩
/-! ### A log copied -/
theorem copied_loop {l : List TEntry} (hl : l.length ≤ 300) (hd : ∀ x ∈ l, x.Data.length ≤ 9000) :
    ∀ (m k n : Nat) (out : List TEntry), l.length - k = m → k ≤ l.length → m < n → out = l.take k → m_logs_copied_l1 l n (k : Int) out = some l := by
  intro m
  induction m with
  | zero =>
    intro k n out hm hk hn ho
    obtain ⟨n, rfl⟩ : ∃ n', n = n' + 1 := ⟨n - 1, by omega⟩
    have h1 : ¬ ((k : Int) < (l.length : Int)) := by omega
    rw [m_logs_copied_l1, m_logs_copied_l1_B, decide_eq_false h1, if_neg (by simp), ho, List.take_of_length_le (by omega)]
  | succ m ih =>
    intro k n out hm hk hn ho
    obtain ⟨n, rfl⟩ : ∃ n', n = n' + 1 := ⟨n - 1, by omega⟩
    have hlt : k < l.length := by omega
    have hk' : ((k : Int) < (l.length : Int)) := by omega
    have hx := hd _ (List.getElem_mem hlt)
    have hcap : capB (out.length + 1) = true := capB_small (by rw [ho, List.length_take]; omega)
    rw [m_logs_copied_l1, m_logs_copied_l1_B, decide_eq_true hk', if_pos rfl, nthI_lt hlt, bnd_some, capB_small (by omega), if_pos rfl, hcap, if_pos rfl, wrap_succ (by omega)]
    refine ih (k + 1) n _ (by omega) (by omega) (by omega) ?_
    rw [ho, List.take_succ_eq_append_getElem hlt]
theorem copy_eq {l : TLog} (h : SmL l) : m_logs_Copy l = some l := by
  have h1 : m_logs_copied_l1 l.Entries ((((l.Entries.length : Int)) - ((0 : Int))).toNat + 1) (0 : Int) [] = some l.Entries := copied_loop h.len h.d _ 0 ((((l.Entries.length : Int)) - ((0 : Int))).toNat + 1) [] rfl (Nat.zero_le _) (by omega) (by simp)
  unfold m_logs_Copy m_logs_copied
  rw [h1, bnd_some]
/-! ### A raft begun anew -/
theorem restart_eq {id n term vote : Int} {l : TLog} {snap : List Int} (hl : OkL l) (hs : SmL l) (hsn : snap.length ≤ 500) : m_raft_Restart id n term vote l snap = m_ref15_Restart id n term vote l snap := by
  obtain ⟨x, hx, -⟩ := new_ok id n
  have hsn' : capB snap.length = true := capB_small (by omega)
  unfold m_raft_Restart m_ref15_Restart m_raft_Restart_k1 m_ref15_Restart_k1 m_ref13_Last
  rw [new_eq, hx, bnd_some, bnd_some, copy_eq hs, (check_eq hl.len).1]
  obtain ⟨c, hc⟩ := (check_eq hl.len).2
  rw [hc]
  simp only [bnd_some, hsn', if_true]
  by_cases hb : 0 ≤ l.Base ∧ l.Base ≤ 1099511627776
  · obtain ⟨t, h1, b, h2⟩ := lastTerm_in hb hs.len
    rw [h1, h2]
    simp only [bnd_some]
  · obtain ⟨t, h1⟩ := lastTerm_some hl hs.len
    obtain ⟨t', h2⟩ := term_some hl.len (IntKind.i64.wrap (l.Base + (l.Entries.length : Int)))
    have hc' := check_base hb
    rw [hc] at hc'
    simp only [Option.some.injEq] at hc'
    subst hc'
    rw [h1, h2]
    simp only [bnd_some]
    by_cases a1 : x.2 = 0 <;> by_cases a2 : term < 0 <;> by_cases a3 : 1099511627776 < term <;> by_cases a4 : vote < 0 <;> by_cases a5 : n < vote <;> by_cases a6 : term < t <;> by_cases a7 : term < t'.1 <;> simp [a1, a2, a3, a4, a5, a6, a7]
theorem restart_ok {id n term vote : Int} {l : TLog} {snap : List Int} (hl : OkL l) (hs : SmL l) (hb : okB snap) (hsn : snap.length ≤ 500) : ∃ x : TRaft × Int, m_ref15_Restart id n term vote l snap = some x ∧ OkRf x.1 := by
  obtain ⟨x, hx, e1, e2, e3, e4, e5⟩ := new_ok id n
  unfold m_ref15_Restart m_ref15_Restart_k1 m_ref13_Last
  obtain ⟨c, hc⟩ := (check_eq hl.len).2
  obtain ⟨t', h2⟩ := term_some hl.len (IntKind.i64.wrap (l.Base + (l.Entries.length : Int)))
  have hz : OkRf zeroR := ⟨by simp, by intro n hn; simp at hn, by simp, by simp, by simp, by simp⟩
  have hf : OkRf (TRaft.mk x.1.Id x.1.N term vote x.1.Role x.1.Lead l l.Base snap x.1.Granted x.1.Next x.1.Match x.1.Clock x.1.Wait) :=
    ⟨hl.len, hb, by rw [maxLen_eq]; show snap.length ≤ _; omega, by simp [e2], by simp [e3], by simp [e4]⟩
  rw [hx, bnd_some, bnd_some, h2, bnd_some, hc, bnd_some]
  repeat' split
  all_goals first | exact ⟨_, rfl, hz⟩ | exact ⟨_, rfl, hf⟩
/-! ### The law -/
theorem ans_RaftBegins {id n term vote : Int} {l : TLog} {snap : List Int} (hl : OkL l) (hb : okB snap) (hsn : snap.length ≤ maxLen) : m_law15_RaftBegins id n term vote l snap = some true := by
  obtain ⟨w, hw, hs⟩ := weight_ok hl
  unfold m_law15_RaftBegins
  rw [hw, bnd_some]
  unfold m_law15_RaftBegins_k1 m_law15_works
  by_cases h1 : 200 < w
  · simp [h1, bnd_some]
  · by_cases h2 : 500 < (snap.length : Int)
    · simp [h1, h2, bnd_some]
    · have hs := hs (by omega)
      have h3 : snap.length ≤ 500 := by omega
      obtain ⟨x, hx, e1, e2, e3, e4, e5⟩ := new_ok id n
      obtain ⟨y, hy, oy⟩ := restart_ok (id := id) (n := n) (term := term) (vote := vote) hl hs hb h3
      have ox : OkRf x.1 := ⟨by simp [e5], by rw [e1]; intro n hn; simp at hn, by simp [e1], by simp [e2], by simp [e3], by simp [e4]⟩
      have ey : y = (y.1, y.2) := rfl
      rw [new_eq, restart_eq hl hs h3, hx, hy]
      simp only [bnd_some, h1, h2, decide_false, Bool.false_eq_true, if_false, refSame_eq ox ox, refSame_eq oy oy, refSame_eq ox oy, same_eq ox, sameR_refl, decide_true, if_true, beq_self_eq_true]
end Go.Proofs.Ytgoachcogmlhcaa.R
