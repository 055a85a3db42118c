/- Plain laws: folded trees. -/
import Derived.Test.YtcmejocmohohpaaPK
set_option maxRecDepth 100000
set_option linter.unusedVariables false
set_option linter.unusedSimpArgs false
noncomputable section
namespace Go.Proofs.Ytcmejocmohohpaa.R
open Go
theorem kind_mk (k n : Int) (s : ByteArray) (l : List TExpr) : (TExpr.mk k n s l).Kind = k := rfl
theorem n_mk (k n : Int) (s : ByteArray) (l : List TExpr) : (TExpr.mk k n s l).N = n := rfl
theorem name_mk (k n : Int) (s : ByteArray) (l : List TExpr) : (TExpr.mk k n s l).Name = s := rfl
theorem kids_mk (k n : Int) (s : ByteArray) (l : List TExpr) : (TExpr.mk k n s l).Kids = l := rfl
theorem node_mk {kd n : Int} {l : List TExpr} (h1 : 1 ≤ kd) (h2 : kd ≤ 14) (hk : ¬ kd = 2) (h3 : (l.length : Int) = kidsOf kd) (h4 : 0 ≤ n) (h5 : n = 0 ∨ kd = 1) : nodeB (.mk kd n ⟨#[]⟩ l) = true := by
  unfold nodeB
  simp only [Bool.and_eq_true, Bool.or_eq_true, decide_eq_true_eq]
  exact ⟨⟨h1, h2⟩, h3, h4, h5, by rw [kind_mk, if_neg hk]; exact eqS_self _⟩
/-! ### Deeper bounds change nothing -/
theorem firstE_all {f : TExpr → Int} : ∀ {l : List TExpr}, (∀ y ∈ l, f y = 0) → firstE f l = 0
  | [], _ => rfl
  | x :: r, h => by
    rw [firstE, if_pos (h x (by simp)), firstE_all fun y hy => h y (by simp [hy])]
theorem chk_succ : ∀ (k : Nat) (x : TExpr), chk k x = 0 → chk (k + 1) x = 0
  | 0, x, h => by simp [chk] at h
  | k + 1, x, h => by
    rw [chk] at h
    split at h
    · rename_i hn
      rw [chk, if_pos hn]
      exact firstE_all fun y hy => chk_succ k y (firstE_zero h y hy)
    · cases h
theorem typB_mono : ∀ (k : Nat) (x : TExpr), typB k x = true → typB (k + 1) x = true
  | 0, x, h => by simp [typB] at h
  | k + 1, x, h => by
    rw [typB_succ, List.all_eq_true] at *
    intro y hy
    have := h y hy
    unfold kidB at *
    rw [Bool.and_eq_true] at *
    exact ⟨typB_mono k y this.1, this.2⟩
theorem evalS_mono (v : TVars) : ∀ (k : Nat) (x : TExpr), OkE x → chk k x = 0 → typB k x = true → evalS (k + 1) x v = evalS k x v
  | 0, x, hx, h, ht => by simp [chk] at h
  | k + 1, x, hx, h, ht => by
    rcases forms hx h ht with h | ⟨y, h⟩ | ⟨y, z, h⟩
    · rw [evalS, evalS, h.kids]
    · have ih := evalS_mono v k y h.kid.ok h.kid.chk h.kid.typ
      rw [evalS, evalS, h.kids]
      simp only [ih]
    · have ih := evalS_mono v k y h.kid.ok h.kid.chk h.kid.typ
      have ih' := evalS_mono v k z h.kid'.ok h.kid'.chk h.kid'.typ
      rw [evalS, evalS, h.kids]
      simp only [ih, ih']
/-! ### What folding makes -/
structure FoldOk (k : Nat) (x y : TExpr) : Prop where
  kid : KidOk k y
  tru : truK y.Kind = truK x.Kind
  val : ∀ v, OkV v → (evalS k x v).2 = 0 → evalS k y v = evalS k x v
theorem KidOk.up {k : Nat} {y : TExpr} (h : KidOk k y) : KidOk (k + 1) y := ⟨h.ok, chk_succ _ _ h.chk, typB_mono _ _ h.typ⟩
theorem emptyS : (⟨#[]⟩ : ByteArray).size = 0 := rfl
theorem leaf_ok {k : Nat} {kind n : Int} (h : kind = 1 ∨ kind = 3 ∨ kind = 4) (h0 : 0 ≤ n) (h1 : inR n) (h2 : n = 0 ∨ kind = 1) : KidOk (k + 1) (.mk kind n ⟨#[]⟩ []) := by
  refine ⟨?_, ?_, ?_⟩
  · rw [OkE_iff]
    refine ⟨?_, h1, ?_, ?_, ?_⟩
    · simp only [kind_mk]; unfold inR; omega
    · simp only [name_mk, emptyS]; exact Nat.zero_le _
    · simp only [kids_mk]; exact Nat.zero_le _
    · simp only [kids_mk]; intro y hy; cases hy
  · rw [chk, if_pos]
    · rfl
    · have e : kidsOf kind = 0 := by unfold kidsOf; rw [if_pos (by omega)]
      exact node_mk (by omega) (by omega) (by omega) (by rw [e]; rfl) h0 h2
  · rw [typB_succ]; rfl
theorem leaf_val (k : Nat) (n : Int) (v : TVars) : evalS (k + 1) (.mk 1 n ⟨#[]⟩ []) v = (⟨false, n⟩, 0) := by rw [evalS]; rfl
theorem yes_val (k : Nat) (v : TVars) : evalS (k + 1) (.mk 3 0 ⟨#[]⟩ []) v = (valT true, 0) := by rw [evalS]; rfl
theorem no_val (k : Nat) (v : TVars) : evalS (k + 1) (.mk 4 0 ⟨#[]⟩ []) v = (valT false, 0) := by rw [evalS]; rfl
def yesE (b : Bool) : TExpr := if b = true then .mk 3 0 ⟨#[]⟩ [] else .mk 4 0 ⟨#[]⟩ []
theorem ref08_yes (b : Bool) : m_ref08_yes b = some (yesE b) := by cases b <;> rfl
theorem yesE_ok (k : Nat) (b : Bool) : KidOk (k + 1) (yesE b) := by
  cases b
  · exact leaf_ok (by simp) (by simp) (by unfold inR; simp) (Or.inl rfl)
  · exact leaf_ok (by simp) (by simp) (by unfold inR; simp) (Or.inl rfl)
theorem yesE_val (k : Nat) (b : Bool) (v : TVars) : evalS (k + 1) (yesE b) v = (valT b, 0) := by
  cases b
  · exact no_val k v
  · exact yes_val k v
theorem yesE_tru (b : Bool) : truK (yesE b).Kind = true := by cases b <;> rfl
/-- A tree whose parts are others, of the same kinds. -/
theorem node2_ok {k : Nat} {x y z a b : TExpr} (h : Two k x y z) (ha : KidOk k a) (hb : KidOk k b) (ta : truK a.Kind = truK y.Kind) (tb : truK b.Kind = truK z.Kind) (hx : OkE x) (ht : typB (k + 1) x = true) : KidOk (k + 1) (.mk x.Kind 0 ⟨#[]⟩ [a, b]) := by
  have lo := h.lo
  have hi := h.hi
  refine ⟨?_, ?_, ?_⟩
  · rw [OkE_iff]
    refine ⟨hx.of.kind, ?_, ?_, ?_, ?_⟩
    · simp only [n_mk]; unfold inR; simp
    · simp only [name_mk, emptyS]; exact Nat.zero_le _
    · simp only [kids_mk, List.length_cons, List.length_nil]; unfold big63; omega
    · simp only [kids_mk]
      intro w hw
      simp only [List.mem_cons, List.not_mem_nil, or_false] at hw
      rcases hw with rfl | rfl
      · exact ha.ok
      · exact hb.ok
  · rw [chk, if_pos]
    · simp only [kids_mk, firstE, ha.chk, hb.chk, if_true]
    · have e : kidsOf x.Kind = 2 := by unfold kidsOf; rw [if_neg (by omega), if_neg (by omega)]
      exact node_mk (by omega) hi (by omega) (by rw [e]; rfl) (Int.le_refl _) (Or.inl rfl)
  · rw [typB_succ, List.all_eq_true] at *
    have hy := ht y (by simp [h.kids])
    have hz := ht z (by simp [h.kids])
    unfold kidB at hy hz
    rw [Bool.and_eq_true] at hy hz
    have hy := hy.2
    have hz := hz.2
    rw [h.kids] at hy hz
    simp only [kids_mk]
    intro w hw
    unfold kidB
    rw [Bool.and_eq_true]
    simp only [kids_mk, kind_mk]
    simp only [List.mem_cons, List.not_mem_nil, or_false] at hw
    rcases hw with rfl | rfl
    · refine ⟨ha.typ, ?_⟩
      cases hw : wantK x.Kind with
      | some q => rw [hw] at hy; rw [ta]; exact hy
      | none => simp
    · refine ⟨hb.typ, ?_⟩
      cases hw : wantK x.Kind with
      | some q => rw [hw] at hz; rw [tb]; exact hz
      | none => rw [hw] at hz; simp only at hz ⊢; rw [ta, tb]; exact hz
theorem node1_ok {k : Nat} {x y a : TExpr} (h : One k x y) (ha : KidOk k a) (ta : truK a.Kind = truK y.Kind) (hx : OkE x) : KidOk (k + 1) (.mk x.Kind 0 ⟨#[]⟩ [a]) := by
  have hk := h.kind
  refine ⟨?_, ?_, ?_⟩
  · rw [OkE_iff]
    refine ⟨hx.of.kind, ?_, ?_, ?_, ?_⟩
    · simp only [n_mk]; unfold inR; simp
    · simp only [name_mk, emptyS]; exact Nat.zero_le _
    · simp only [kids_mk, List.length_cons, List.length_nil]; unfold big63; omega
    · simp only [kids_mk]
      intro w hw
      simp only [List.mem_cons, List.not_mem_nil, or_false] at hw
      rw [hw]
      exact ha.ok
  · rw [chk, if_pos]
    · simp only [kids_mk, firstE, ha.chk, if_true]
    · have e : kidsOf x.Kind = 1 := by unfold kidsOf; rw [if_neg (by omega), if_pos (by omega)]
      exact node_mk (by omega) (by omega) (by omega) (by rw [e]; rfl) (Int.le_refl _) (Or.inl rfl)
  · rw [typB_succ, List.all_eq_true]
    simp only [kids_mk]
    intro w hw
    simp only [List.mem_cons, List.not_mem_nil, or_false] at hw
    rw [hw]
    unfold kidB
    rw [Bool.and_eq_true]
    refine ⟨ha.typ, ?_⟩
    simp only [kind_mk]
    have : wantK x.Kind = some (decide (x.Kind = 6)) := by
      rcases hk with e | e <;> rw [e] <;> decide
    rw [this, ta, h.tru]
    simp
/-! ### Values of what folding makes -/
theorem one_val {k : Nat} {x y : TExpr} (h : One k x y) (v : TVars) : evalS (k + 1) x v =
    if (evalS k y v).2 ≠ 0 then (⟨false, 0⟩, (evalS k y v).2) else if x.Kind = 6 then (valT (decide ((evalS k y v).1.N = 0)), 0) else valN (numS 8 0 (evalS k y v).1.N) := by
  have hk := h.kind
  rw [evalS, if_neg (by omega), if_neg (by omega), if_neg (by omega), h.kids]
  simp only
  split
  · rfl
  · split
    · rfl
    · rw [if_pos (by omega)]
theorem one_mk {k : Nat} {x y a : TExpr} (h : One k x y) (v : TVars) (e : evalS k a v = evalS k y v) : evalS (k + 1) (.mk x.Kind 0 ⟨#[]⟩ [a]) v = evalS (k + 1) x v := by
  have hk := h.kind
  have n1 : ¬ x.Kind = 1 := by omega
  have n2 : ¬ x.Kind = 2 := by omega
  have n3 : ¬ x.Kind = 3 := by omega
  have n4 : ¬ x.Kind = 4 := by omega
  rw [evalS]
  simp only [kind_mk, kids_mk, n1, n2, n3, n4, or_self, if_false, e]
  rw [one_val h]
  split
  · rfl
  · split
    · rfl
    · rw [if_pos (by omega)]
def twoV (kd : Int) (r q : TValue × Int) : TValue × Int :=
  if r.2 ≠ 0 then (⟨false, 0⟩, r.2)
  else if kd = 13 ∧ r.1.N = 0 then (valT false, 0)
  else if kd = 14 ∧ r.1.N = 1 then (valT true, 0)
  else if q.2 ≠ 0 then (⟨false, 0⟩, q.2)
  else if kd = 13 ∨ kd = 14 then (valT (decide (q.1.N = 1)), 0)
  else if kd = 11 then (valT (decide (r.1.N = q.1.N)), 0)
  else if kd = 12 then (valT (decide (r.1.N < q.1.N)), 0)
  else valN (numS kd r.1.N q.1.N)
theorem two_val {k : Nat} {x y z : TExpr} (h : Two k x y z) (v : TVars) : evalS (k + 1) x v = twoV x.Kind (evalS k y v) (evalS k z v) := by
  have lo := h.lo
  rw [evalS, if_neg (by omega), if_neg (by omega), if_neg (by omega), h.kids, twoV]
  simp only
  rw [if_neg (show ¬ x.Kind = 6 by omega), if_neg (show ¬ x.Kind = 5 by omega)]
theorem two_mk {k : Nat} {x y z a b : TExpr} (h : Two k x y z) (v : TVars) : evalS (k + 1) (.mk x.Kind 0 ⟨#[]⟩ [a, b]) v = twoV x.Kind (evalS k a v) (evalS k b v) := by
  have lo := h.lo
  have n1 : ¬ x.Kind = 1 := by omega
  have n2 : ¬ x.Kind = 2 := by omega
  have n3 : ¬ x.Kind = 3 := by omega
  have n4 : ¬ x.Kind = 4 := by omega
  have n5 : ¬ x.Kind = 5 := by omega
  have n6 : ¬ x.Kind = 6 := by omega
  rw [evalS]
  simp only [kind_mk, kids_mk, n1, n2, n3, n4, n5, n6, or_self, if_false, twoV]
  rfl
theorem twoV_left {kd : Int} {r q : TValue × Int} (h : (twoV kd r q).2 = 0) : r.2 = 0 := by
  unfold twoV at h
  split at h
  · exact h
  · rename_i h'
    simpa using h'
theorem twoV_right {kd : Int} {r q q' : TValue × Int} (h : (twoV kd r q).2 = 0) (e : q.2 = 0 → q' = q) : twoV kd r q' = twoV kd r q := by
  by_cases hq : q.2 = 0
  · rw [e hq]
  · have hr : ¬ (r.2 ≠ 0) := by simpa using twoV_left h
    unfold twoV at h ⊢
    rw [if_neg hr] at h
    rw [if_neg hr, if_neg hr]
    by_cases h1 : kd = 13 ∧ r.1.N = 0
    · rw [if_pos h1, if_pos h1]
    · rw [if_neg h1] at h
      rw [if_neg h1, if_neg h1]
      by_cases h2 : kd = 14 ∧ r.1.N = 1
      · rw [if_pos h2, if_pos h2]
      · rw [if_neg h2, if_pos hq] at h
        exact absurd h hq
theorem twoV_strict {kd : Int} {r q : TValue × Int} (h : (twoV kd r q).2 = 0) (h1 : kd ≠ 13) (h2 : kd ≠ 14) : q.2 = 0 := by
  have hr := twoV_left h
  unfold twoV at h
  simp only [hr, h1, h2, false_and, ne_eq, not_true_eq_false, if_false] at h
  split at h
  · exact h
  · rename_i h'
    simpa using h'
theorem lift_val {k : Nat} {a : TExpr} (h : KidOk k a) (v : TVars) : evalS (k + 1) a v = evalS k a v := evalS_mono v k a h.ok h.chk h.typ
/-- A plain tree's value is its own. -/
structure Plain (k : Nat) (a : TExpr) : Prop where
  kind : a.Kind = 1 ∨ a.Kind = 3 ∨ a.Kind = 4
  n0 : 0 ≤ a.N
  nz : a.Kind ≠ 1 → a.N = 0
  val : ∀ v, evalS k a v = if a.Kind = 1 then (⟨false, a.N⟩, 0) else (valT (decide (a.Kind = 3)), 0)
theorem plain_of {k : Nat} {a : TExpr} (h : KidOk k a) (hk : a.Kind = 1 ∨ a.Kind = 3 ∨ a.Kind = 4) : Plain k a := by
  cases k with
  | zero => have := h.chk; simp [chk] at this
  | succ k =>
    have hc := h.chk
    rw [chk] at hc
    split at hc
    · rename_i hn
      unfold nodeB at hn
      simp only [Bool.and_eq_true, Bool.or_eq_true, decide_eq_true_eq] at hn
      refine ⟨hk, hn.2.2.1, fun hne => ?_, fun v => ?_⟩
      · rcases hn.2.2.2.1 with h' | h'
        · exact h'
        · exact absurd h' hne
      · rw [evalS]
        by_cases h1 : a.Kind = 1
        · rw [if_pos h1, if_pos h1]
        · rw [if_neg h1, if_neg h1, if_neg (by omega), if_pos (by omega)]
    · cases hc
def plainB' (a : TExpr) : Bool := decide (a.Kind = 1) || (decide (a.Kind = 3) || decide (a.Kind = 4))
theorem ref08_plain (a : TExpr) : m_ref08_plain a = some (plainB' a) := by
  unfold m_ref08_plain plainB'
  by_cases h1 : a.Kind = 1
  · simp [h1]
  · by_cases h3 : a.Kind = 3 <;> simp [h1, h3]
theorem plainB'_iff {a : TExpr} : plainB' a = true ↔ a.Kind = 1 ∨ a.Kind = 3 ∨ a.Kind = 4 := by unfold plainB'; simp
/-! ### Sums of plain numbers -/
structure SumOk (kd a b : Int) (o : Option (TExpr × Bool)) : Prop where
  ex : ∃ r f, o = some (r, f) ∧ (f = true → (kd = 12 ∧ r = yesE (decide (a < b))) ∨ (kd ≠ 12 ∧ kd ≠ 11 ∧ ∃ n, r = .mk 1 n ⟨#[]⟩ [] ∧ 0 ≤ n ∧ inR n ∧ numS kd a b = (n, 0)))
theorem sums_ok {kd a b : Int} (ha : 0 ≤ a) (hb : 0 ≤ b) (ra : inR a) (rb : inR b) (hk : kd ≠ 11) : SumOk kd a b (m_ref08_sums kd a b) := by
  unfold inR at ra rb
  have no : ∀ r : TExpr, SumOk kd a b (some (r, false)) := fun r => ⟨r, false, rfl, by simp⟩
  have yes : ∀ n : Int, kd ≠ 12 → 0 ≤ n → inR n → numS kd a b = (n, 0) → SumOk kd a b (some (.mk 1 n ⟨#[]⟩ [], true)) := fun n h1 h2 h3 h4 => ⟨_, true, rfl, fun _ => Or.inr ⟨h1, hk, n, rfl, h2, h3, h4⟩⟩
  have k4 : ∀ f : Bool, (f = true → kd = 10 ∧ 0 < b) → SumOk kd a b (m_ref08_sums_k4 kd a b f) := by
    intro f hf
    unfold m_ref08_sums_k4
    cases f
    · by_cases h12 : kd = 12
      · simp only [Bool.false_eq_true, if_false, h12, decide_true, if_true, ref08_yes, bnd_some]
        exact ⟨_, true, rfl, fun _ => Or.inl ⟨rfl, rfl⟩⟩
      · simp only [Bool.false_eq_true, if_false, h12, decide_false]
        exact no _
    · obtain ⟨h10, hb0⟩ := hf rfl
      have hbz : ¬ b = 0 := by omega
      have e : a.tdiv b = a / b := tdiv_nn ha
      have l0 : 0 ≤ a / b := Int.ediv_nonneg ha hb
      have l1 : a / b ≤ a := Int.ediv_le_self _ ha
      have hin : inR (a / b) := by unfold inR; omega
      simp only [if_true, hbz, decide_false, Bool.false_eq_true, if_false, m_ref08_num, bnd_some, e, wrap_in hin]
      refine yes _ (by omega) l0 hin ?_
      unfold numS
      rw [if_neg (by omega), if_neg (by omega), if_neg (by omega), if_pos h10, if_neg hbz, e, if_pos hin]
  have k3 : ∀ f : Bool, (f = true → kd = 9 ∧ inR (a * b)) → SumOk kd a b (m_ref08_sums_k3 kd a b f) := by
    intro f hf
    unfold m_ref08_sums_k3
    cases f
    · by_cases h10 : kd = 10
      · simp only [Bool.false_eq_true, if_false, h10, decide_true, if_true]
        have := k4 (decide (0 < b)) (fun h => ⟨h10, by simpa using h⟩)
        rw [h10] at this
        exact this
      · simp only [Bool.false_eq_true, if_false, h10, decide_false]
        exact k4 false (by simp)
    · obtain ⟨h9, hin⟩ := hf rfl
      simp only [if_true, m_ref08_num, bnd_some, wrap_in hin]
      refine yes _ (by omega) (Int.mul_nonneg ha hb) hin ?_
      unfold numS
      rw [if_neg (by omega), if_neg (by omega), if_pos h9, if_pos hin]
  have k2 : ∀ f : Bool, (f = true → kd = 8 ∧ b ≤ a) → SumOk kd a b (m_ref08_sums_k2 kd a b f) := by
    intro f hf
    unfold m_ref08_sums_k2
    cases f
    · by_cases h9 : kd = 9
      · by_cases h0 : a = 0
        · simp only [Bool.false_eq_true, if_false, h9, decide_true, if_true, h0]
          have := k3 true (fun _ => ⟨h9, by rw [h0, Int.zero_mul]; unfold inR; simp⟩)
          rw [h9, h0] at this
          exact this
        · have e : (9223372036854775807 : Int).tdiv a = 9223372036854775807 / a := tdiv_nn (by decide)
          have l0 : 0 ≤ (9223372036854775807 : Int) / a := Int.ediv_nonneg (by decide) ha
          have l1 : (9223372036854775807 : Int) / a ≤ 9223372036854775807 := Int.ediv_le_self _ (by decide)
          have hw : IntKind.i64.wrap ((9223372036854775807 : Int) / a) = 9223372036854775807 / a := wrap_in (by unfold inR; omega)
          simp only [Bool.false_eq_true, if_false, h9, decide_true, if_true, h0, decide_false, e, hw]
          have := k3 (decide (b ≤ 9223372036854775807 / a)) (fun h => ⟨h9, by
            have h' : b ≤ 9223372036854775807 / a := by simpa using h
            have := Int.mul_le_of_le_ediv (show 0 < a by omega) h'
            rw [Int.mul_comm] at this
            have l2 := Int.mul_nonneg ha hb
            unfold inR
            omega⟩)
          rw [h9] at this
          exact this
      · simp only [Bool.false_eq_true, if_false, h9, decide_false]
        exact k3 false (by simp)
    · obtain ⟨h8, hle⟩ := hf rfl
      have hin : inR (a - b) := by unfold inR; omega
      simp only [if_true, m_ref08_num, bnd_some, wrap_in hin]
      refine yes _ (by omega) (by omega) hin ?_
      unfold numS
      rw [if_neg (by omega), if_pos h8, if_pos hin]
  have k1 : ∀ f : Bool, (f = true → kd = 7 ∧ inR (a + b)) → SumOk kd a b (m_ref08_sums_k1 kd a b f) := by
    intro f hf
    unfold m_ref08_sums_k1
    cases f
    · by_cases h8 : kd = 8
      · simp only [Bool.false_eq_true, if_false, h8, decide_true, if_true]
        have := k2 (decide (b ≤ a)) (fun h => ⟨h8, by simpa using h⟩)
        rw [h8] at this
        exact this
      · simp only [Bool.false_eq_true, if_false, h8, decide_false]
        exact k2 false (by simp)
    · obtain ⟨h7, hin⟩ := hf rfl
      have hn := hin
      unfold inR at hn
      simp only [if_true, m_ref08_num, bnd_some, wrap_in hin]
      refine yes _ (by omega) (by omega) hin ?_
      unfold numS
      rw [if_pos h7, if_pos hin]
  unfold m_ref08_sums
  by_cases h7 : kd = 7
  · have hw : IntKind.i64.wrap ((9223372036854775807 : Int) - a) = 9223372036854775807 - a := wrap_in (by unfold inR; omega)
    simp only [h7, decide_true, if_true, hw]
    have := k1 (decide (b ≤ 9223372036854775807 - a)) (fun h => ⟨h7, by
      have h' : b ≤ 9223372036854775807 - a := by simpa using h
      unfold inR
      omega⟩)
    rw [h7] at this
    exact this
  · simp only [h7, decide_false, Bool.false_eq_true, if_false]
    exact k1 false (by simp)
end Go.Proofs.Ytcmejocmohohpaa.R
