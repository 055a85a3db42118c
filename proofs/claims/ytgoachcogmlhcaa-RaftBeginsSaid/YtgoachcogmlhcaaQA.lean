/- Plain laws: numbers, elements, lists compared. -/
import Derived.Test.YtgoachcogmlhcaaMF
import Derived.IntWalk
set_option maxRecDepth 100000
set_option linter.unusedVariables false
set_option linter.unusedSimpArgs false
noncomputable section
namespace Go.Proofs.Ytgoachcogmlhcaa.R
open Go
/-! ### Ranges -/
def inR (n : Int) : Prop := -9223372036854775808 ≤ n ∧ n ≤ 9223372036854775807
instance (n : Int) : Decidable (inR n) := inferInstanceAs (Decidable (_ ∧ _))
theorem wrap_in {n : Int} (h : inR n) : IntKind.i64.wrap n = n := IntWalk.i64_in n h
theorem wrap_r (n : Int) : inR (IntKind.i64.wrap n) := by
  unfold inR
  rw [IntKind.wrap_i64]
  omega
theorem tdiv_nn {a b : Int} (ha : 0 ≤ a) : a.tdiv b = a / b := Int.tdiv_eq_ediv_of_nonneg ha
theorem wrap_succ {k : Nat} (h : k < 9223372036854775807) : IntKind.i64.wrap ((k : Int) + 1) = ((k + 1 : Nat) : Int) := by
  rw [wrap_in (by unfold inR; omega)]
  rfl
/-! ### Elements -/
theorem nthI_nat {α : Type} (l : List α) (k : Nat) : nthI l (k : Int) = l[k]? := by simp [nthI]
theorem nthI_lt {α : Type} {l : List α} {k : Nat} (h : k < l.length) : nthI l (k : Int) = some l[k] := by rw [nthI_nat, List.getElem?_eq_getElem h]
theorem maxLen_eq : maxLen = 9223372036854775807 := rfl
theorem capB_small {n : Nat} (h : n ≤ 549755813888) : capB n = true := by
  unfold capB limN
  simpa using h
/-! ### Two lists compared -/
def all2 {α : Type} (p : α → α → Bool) : List α → List α → Bool
  | x :: a, y :: b => p x y && all2 p a b
  | _, _ => true
def same2 {α : Type} (p : α → α → Bool) (a b : List α) : Bool := decide (a.length = b.length) && all2 p a b
theorem all2_loop {α : Type} {p : α → α → Bool} {a b : List α} (hab : a.length = b.length) (hl : a.length ≤ maxLen) {f : Nat → Int → Option Bool}
    (hf : ∀ n (k : Nat), f (n + 1) (k : Int) = if k < a.length then bnd (nthI a (k : Int)) fun x => bnd (nthI b (k : Int)) fun y => if p x y = true then f n (IntKind.i64.wrap ((k : Int) + 1)) else some false else some true) :
    ∀ (m k n : Nat), a.length - k = m → k ≤ a.length → m < n → f n (k : Int) = some (all2 p (a.drop k) (b.drop k)) := by
  intro m
  induction m with
  | zero =>
    intro k n hm hk hn
    obtain ⟨n, rfl⟩ : ∃ n', n = n' + 1 := ⟨n - 1, by omega⟩
    rw [hf, if_neg (by omega), List.drop_eq_nil_of_le (as := a) (by omega)]
    rfl
  | succ m ih =>
    intro k n hm hk hn
    obtain ⟨n, rfl⟩ : ∃ n', n = n' + 1 := ⟨n - 1, by omega⟩
    have h1 : k < a.length := by omega
    have h2 : k < b.length := by omega
    rw [maxLen_eq] at hl
    rw [hf, if_pos h1, nthI_lt h1, nthI_lt h2, bnd_some, bnd_some, wrap_succ (by omega), ih (k + 1) n (by omega) (by omega) (by omega), List.drop_eq_getElem_cons h1, List.drop_eq_getElem_cons h2]
    cases h : p a[k] b[k] <;> simp [all2, h]
theorem all2_loop0 {α : Type} {p : α → α → Bool} {a b : List α} (hab : a.length = b.length) (hl : a.length ≤ maxLen) {f : Nat → Int → Option Bool}
    (hf : ∀ n (k : Nat), f (n + 1) (k : Int) = if k < a.length then bnd (nthI a (k : Int)) fun x => bnd (nthI b (k : Int)) fun y => if p x y = true then f n (IntKind.i64.wrap ((k : Int) + 1)) else some false else some true) :
    f ((((a.length : Int)) - ((0 : Int))).toNat + 1) (0 : Int) = some (all2 p a b) := by
  have := all2_loop hab hl hf _ 0 ((((a.length : Int)) - ((0 : Int))).toNat + 1) rfl (Nat.zero_le _) (by omega)
  simpa using this
theorem all2_refl {α : Type} {p : α → α → Bool} (h : ∀ x, p x x = true) : ∀ (a : List α), all2 p a a = true
  | [] => rfl
  | x :: a => by simp [all2, h x, all2_refl h a]
theorem same2_refl {α : Type} {p : α → α → Bool} (h : ∀ x, p x x = true) (a : List α) : same2 p a a = true := by simp [same2, all2_refl h a]
theorem all2_iff {α : Type} {p : α → α → Bool} (h : ∀ x y, p x y = true ↔ x = y) : ∀ (a b : List α), a.length = b.length → (all2 p a b = true ↔ a = b)
  | [], [], _ => by simp [all2]
  | x :: a, y :: b, hl => by
    have := all2_iff h a b (by simpa using hl)
    simp [all2, h, this]
theorem same2_iff {α : Type} {p : α → α → Bool} (h : ∀ x y, p x y = true ↔ x = y) (a b : List α) : same2 p a b = true ↔ a = b := by
  unfold same2
  by_cases hl : a.length = b.length
  · simp [hl, all2_iff h a b hl]
  · simp [hl]
    rintro rfl
    exact hl rfl
def eqE (x y : TEntry) : Bool := decide (x.Term = y.Term) && eqS (strI x.Data) (strI y.Data)
theorem eqS_refl (a : ByteArray) : eqS a a = true := eqS_iff.2 rfl
theorem eqE_refl (x : TEntry) : eqE x x = true := by simp [eqE, eqS_refl]
/-! ### Bytes -/
def okB (l : List Int) : Prop := ∀ n ∈ l, 0 ≤ n ∧ n ≤ 255
theorem strI_inj {a b : List Int} (ha : okB a) (hb : okB b) (h : strI a = strI b) : a = b := by
  have h1 : (a.map fun n => UInt8.ofNat n.toNat) = (b.map fun n => UInt8.ofNat n.toNat) := by
    have h2 := congrArg ByteArray.data h
    simpa [strI] using h2
  induction a generalizing b with
  | nil => cases b with
    | nil => rfl
    | cons y b => simp at h1
  | cons x a ih => cases b with
    | nil => simp at h1
    | cons y b =>
      simp only [List.map_cons, List.cons.injEq] at h1
      have hx := ha x (by simp)
      have hy := hb y (by simp)
      have h3 := congrArg UInt8.toNat h1.1
      simp only [UInt8.toNat_ofNat'] at h3
      have h4 : x = y := by omega
      rw [h4, ih (fun n hn => ha n (by simp [hn])) (fun n hn => hb n (by simp [hn])) (by unfold strI; rw [h1.2]) h1.2]
theorem eqS_strI {a b : List Int} (ha : okB a) (hb : okB b) : eqS (strI a) (strI b) = decide (a = b) := by
  rw [eqS_dec]
  congr 1
  apply propext
  exact ⟨strI_inj ha hb, fun e => by rw [e]⟩
/-! ### What the models of comparing answer -/
def eqI (x y : Int) : Bool := decide (x = y)
theorem eqI_iff (x y : Int) : eqI x y = true ↔ x = y := by simp [eqI]
def eqb (x y : Bool) : Bool := x == y
theorem eqb_iff (x y : Bool) : eqb x y = true ↔ x = y := by simp [eqb]
theorem equalFunc_eq {a b : List TEntry} (hl : a.length ≤ maxLen) : m_slices_EqualFunc_api_Entry_api_Entry_api_Entry_api_Entry a b = some (same2 eqE a b) := by
  unfold m_slices_EqualFunc_api_Entry_api_Entry_api_Entry_api_Entry same2
  by_cases h : a.length = b.length
  · have h1 : ¬ ((a.length : Int) ≠ (b.length : Int)) := by omega
    rw [decide_eq_false h1, if_neg (by simp), all2_loop0 (f := m_slices_EqualFunc_api_Entry_api_Entry_api_Entry_api_Entry_l1 a b) (p := eqE) h hl, decide_eq_true h, Bool.true_and]
    intro n k
    rw [m_slices_EqualFunc_api_Entry_api_Entry_api_Entry_api_Entry_l1, m_slices_EqualFunc_api_Entry_api_Entry_api_Entry_api_Entry_l1_B]
    simp only [decide_eq_true_eq, Int.ofNat_lt, m_logs_Same_2, m_bytes_Equal, bnd_some]
    congr 1
    congr 1; funext x; congr 1; funext y
    by_cases ht : x.Term = y.Term <;> simp [ht, eqE, bnd_some]
  · have h1 : ((a.length : Int) ≠ (b.length : Int)) := by omega
    simp [h1, h]
theorem entries_eq {a b : List TEntry} (hl : a.length ≤ maxLen) : m_ref13_Entries a b = some (same2 eqE a b) := by
  unfold m_ref13_Entries same2
  by_cases h : a.length = b.length
  · have h1 : ¬ ((a.length : Int) ≠ (b.length : Int)) := by omega
    rw [decide_eq_false h1, if_neg (by simp), all2_loop0 (f := m_ref13_Entries_l1 a b) (p := eqE) h hl, decide_eq_true h, Bool.true_and]
    intro n k
    rw [m_ref13_Entries_l1, m_ref13_Entries_l1_B]
    simp only [decide_eq_true_eq, Int.ofNat_lt, m_ref13_Entries_k1]
    congr 1
    congr 1; funext x; congr 1; funext y
    by_cases ht : x.Term = y.Term <;> simp [ht, eqE]
    cases eqS (strI x.Data) (strI y.Data) <;> simp
  · have h1 : ((a.length : Int) ≠ (b.length : Int)) := by omega
    simp [h1, h]
theorem bools_eq {a b : List Bool} (hl : a.length ≤ maxLen) : m_ref15_bools a b = some (same2 eqb a b) := by
  unfold m_ref15_bools same2
  by_cases h : a.length = b.length
  · have h1 : ¬ ((a.length : Int) ≠ (b.length : Int)) := by omega
    rw [decide_eq_false h1, if_neg (by simp), all2_loop0 (f := m_ref15_bools_l1 a b) (p := eqb) h hl, decide_eq_true h, Bool.true_and]
    intro n k
    rw [m_ref15_bools_l1, m_ref15_bools_l1_B]
    simp only [decide_eq_true_eq, Int.ofNat_lt]
    rfl
  · have h1 : ((a.length : Int) ≠ (b.length : Int)) := by omega
    simp [h1, h]
theorem ints_eq {a b : List Int} (hl : a.length ≤ maxLen) : m_ref15_ints a b = some (same2 eqI a b) := by
  unfold m_ref15_ints same2
  by_cases h : a.length = b.length
  · have h1 : ¬ ((a.length : Int) ≠ (b.length : Int)) := by omega
    rw [decide_eq_false h1, if_neg (by simp), all2_loop0 (f := m_ref15_ints_l1 a b) (p := eqI) h hl, decide_eq_true h, Bool.true_and]
    intro n k
    rw [m_ref15_ints_l1, m_ref15_ints_l1_B]
    simp only [decide_eq_true_eq, Int.ofNat_lt]
    congr 1
    congr 1; funext x; congr 1; funext y
    by_cases ht : x = y <;> simp [ht, eqI]
  · have h1 : ((a.length : Int) ≠ (b.length : Int)) := by omega
    simp [h1, h]
theorem eqbools_eq {a b : List Bool} (hl : a.length ≤ maxLen) : m_slices_Equal_bool_bool a b = some (same2 eqb a b) := by
  unfold m_slices_Equal_bool_bool same2
  by_cases h : a.length = b.length
  · have h1 : ¬ ((a.length : Int) ≠ (b.length : Int)) := by omega
    rw [decide_eq_false h1, if_neg (by simp), all2_loop0 (f := m_slices_Equal_bool_bool_l1 a b) (p := eqb) h hl, decide_eq_true h, Bool.true_and]
    intro n k
    rw [m_slices_Equal_bool_bool_l1, m_slices_Equal_bool_bool_l1_B]
    simp only [decide_eq_true_eq, Int.ofNat_lt]
    rfl
  · have h1 : ((a.length : Int) ≠ (b.length : Int)) := by omega
    simp [h1, h]
theorem eqints_eq {a b : List Int} (hl : a.length ≤ maxLen) : m_slices_Equal_int_int a b = some (same2 eqI a b) := by
  unfold m_slices_Equal_int_int same2
  by_cases h : a.length = b.length
  · have h1 : ¬ ((a.length : Int) ≠ (b.length : Int)) := by omega
    rw [decide_eq_false h1, if_neg (by simp), all2_loop0 (f := m_slices_Equal_int_int_l1 a b) (p := eqI) h hl, decide_eq_true h, Bool.true_and]
    intro n k
    rw [m_slices_Equal_int_int_l1, m_slices_Equal_int_int_l1_B]
    simp only [decide_eq_true_eq, Int.ofNat_lt]
    congr 1
    congr 1; funext x; congr 1; funext y
    by_cases ht : x = y <;> simp [ht, eqI]
  · have h1 : ((a.length : Int) ≠ (b.length : Int)) := by omega
    simp [h1, h]
theorem eqbytes_eq {a b : List Int} (hl : a.length ≤ maxLen) : m_slices_Equal_byte_byte a b = some (same2 eqI a b) := by
  unfold m_slices_Equal_byte_byte same2
  by_cases h : a.length = b.length
  · have h1 : ¬ ((a.length : Int) ≠ (b.length : Int)) := by omega
    rw [decide_eq_false h1, if_neg (by simp), all2_loop0 (f := m_slices_Equal_byte_byte_l1 a b) (p := eqI) h hl, decide_eq_true h, Bool.true_and]
    intro n k
    rw [m_slices_Equal_byte_byte_l1, m_slices_Equal_byte_byte_l1_B]
    simp only [decide_eq_true_eq, Int.ofNat_lt]
    congr 1
    congr 1; funext x; congr 1; funext y
    by_cases ht : x = y <;> simp [ht, eqI]
  · have h1 : ((a.length : Int) ≠ (b.length : Int)) := by omega
    simp [h1, h]
/-! ### Rafts compared -/
structure OkRf (r : TRaft) : Prop where
  e : r.Log.Entries.length ≤ maxLen
  s : okB r.Snap
  sl : r.Snap.length ≤ maxLen
  g : r.Granted.length ≤ maxLen
  n : r.Next.length ≤ maxLen
  m : r.Match.length ≤ maxLen
def sameR (a b : TRaft) : Bool :=
  decide (a.Id = b.Id) && decide (a.N = b.N) && decide (a.Term = b.Term) && decide (a.Vote = b.Vote) && decide (a.Role = b.Role) && decide (a.Lead = b.Lead) &&
  decide (a.Commit = b.Commit) && decide (a.Clock = b.Clock) && decide (a.Wait = b.Wait) && decide (a.Snap = b.Snap) &&
  (decide (a.Log.Base = b.Log.Base) && decide (a.Log.BaseTerm = b.Log.BaseTerm) && same2 eqE a.Log.Entries b.Log.Entries) && same2 eqb a.Granted b.Granted && same2 eqI a.Next b.Next && same2 eqI a.Match b.Match
theorem dn (p : Prop) [Decidable p] : decide (¬ p) = !(decide p) := by by_cases h : p <;> simp [h]
theorem ref13Same_eq {a b : TLog} (ha : a.Entries.length ≤ maxLen) : m_ref13_Same a b = some (decide (a.Base = b.Base) && decide (a.BaseTerm = b.BaseTerm) && same2 eqE a.Entries b.Entries) := by
  unfold m_ref13_Same
  rw [entries_eq ha]
  by_cases h1 : a.Base = b.Base <;> by_cases h2 : a.BaseTerm = b.BaseTerm <;> simp [h1, h2, bnd_some]
theorem refSame_eq {a b : TRaft} (ha : OkRf a) (hb : OkRf b) : m_ref15_Same a b = some (sameR a b) := by
  unfold m_ref15_Same sameR
  simp only [m_ref15_Same_k1, m_ref15_Same_k2, ref13Same_eq ha.e, bools_eq ha.g, ints_eq ha.n, ints_eq ha.m, eqS_strI ha.s hb.s, bnd_some, ne_eq, dn]
  generalize decide (a.Id = b.Id) = c1, decide (a.N = b.N) = c2, decide (a.Term = b.Term) = c3, decide (a.Vote = b.Vote) = c4, decide (a.Role = b.Role) = c5, decide (a.Lead = b.Lead) = c6,
    decide (a.Commit = b.Commit) = c7, decide (a.Clock = b.Clock) = c8, decide (a.Wait = b.Wait) = c9, decide (a.Snap = b.Snap) = c10, (decide (a.Log.Base = b.Log.Base) && decide (a.Log.BaseTerm = b.Log.BaseTerm) && same2 eqE a.Log.Entries b.Log.Entries) = c11,
    same2 eqb a.Granted b.Granted = c12, same2 eqI a.Next b.Next = c13, same2 eqI a.Match b.Match = c14
  cases c1
  · simp
  cases c2
  · simp
  cases c3
  · simp
  cases c4
  · simp
  cases c5
  · simp
  cases c6
  · simp
  cases c7
  · simp
  cases c8
  · simp
  cases c9
  · simp
  cases c10
  · simp
  cases c11
  · simp
  cases c12
  · simp
  cases c13 <;> simp
theorem bytes_same {a b : List Int} : same2 eqI a b = decide (a = b) := by
  have := same2_iff eqI_iff a b
  by_cases h : a = b
  · rw [this.2 h]; simp [h]
  · have h2 : ¬ same2 eqI a b = true := fun e => h (this.1 e)
    simp [h, h2]
theorem same_eq {a b : TRaft} (ha : OkRf a) : m_raft_Same a b = some (sameR a b) := by
  unfold m_raft_Same sameR
  simp only [m_raft_Same_1, m_logs_Same, m_logs_Same_1, equalFunc_eq ha.e, eqbools_eq ha.g, eqints_eq ha.n, eqints_eq ha.m, eqbytes_eq ha.sl, bytes_same (a := a.Snap), bnd_some, decide_true, Bool.and_true]
  generalize decide (a.Id = b.Id) = c1, decide (a.N = b.N) = c2, decide (a.Term = b.Term) = c3, decide (a.Vote = b.Vote) = c4, decide (a.Role = b.Role) = c5, decide (a.Lead = b.Lead) = c6,
    decide (a.Commit = b.Commit) = c7, decide (a.Clock = b.Clock) = c8, decide (a.Wait = b.Wait) = c9, decide (a.Snap = b.Snap) = c10, decide (a.Log.Base = b.Log.Base) = d1, decide (a.Log.BaseTerm = b.Log.BaseTerm) = d2, same2 eqE a.Log.Entries b.Log.Entries = d3,
    same2 eqb a.Granted b.Granted = c12, same2 eqI a.Next b.Next = c13, same2 eqI a.Match b.Match = c14
  cases c1
  · simp
  cases c2
  · simp
  cases c3
  · simp
  cases c4
  · simp
  cases c5
  · simp
  cases c6
  · simp
  cases c7
  · simp
  cases c8
  · simp
  cases c9
  · simp
  cases d1
  · simp [bnd_some]
  cases d2
  · simp [bnd_some]
  cases d3
  · simp [bnd_some]
  cases c10
  · simp [bnd_some]
  cases c12
  · simp [bnd_some]
  cases c13 <;> simp [bnd_some]
theorem sameR_refl (a : TRaft) : sameR a a = true := by
  simp [sameR, same2_refl eqE_refl, same2_refl (fun x => (eqb_iff x x).2 rfl), same2_refl (fun x => (eqI_iff x x).2 rfl)]
end Go.Proofs.Ytgoachcogmlhcaa.R
