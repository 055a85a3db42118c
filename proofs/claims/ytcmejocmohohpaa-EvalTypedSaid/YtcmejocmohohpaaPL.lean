/- Plain laws: the laws of kinds of values. -/
import Derived.Test.YtcmejocmohohpaaPK
set_option maxRecDepth 100000
set_option linter.unusedVariables false
set_option linter.unusedSimpArgs false
noncomputable section
namespace Go.Proofs.Ytcmejocmohohpaa.R
open Go
def ErrN (p : Int × Int) : Prop := p.2 = 0 ∨ (p.1 = 0 ∧ (p.2 = 12 ∨ p.2 = 13))
def ErrR (r : TValue × Int) : Prop := r.2 = 0 ∨ (r.1 = ⟨false, 0⟩ ∧ (r.2 = 9 ∨ r.2 = 12 ∨ r.2 = 13))
theorem numS_errN (k a b : Int) : ErrN (numS k a b) := by
  unfold numS ErrN
  repeat' split
  all_goals simp
theorem errR_num {p : Int × Int} (h : ErrN p) : ErrR (valN p) := by
  obtain ⟨a, b⟩ := p
  rcases h with h | ⟨h1, h2⟩
  · exact Or.inl h
  · simp only at h1 h2
    subst h1
    exact Or.inr ⟨rfl, Or.inr h2⟩
theorem evalS_errR (v : TVars) : ∀ (k : Nat) (x : TExpr), ErrR (evalS k x v)
  | 0, x => Or.inl rfl
  | k + 1, x => by
    have err : ∀ r : TValue × Int, ErrR r → r.2 ≠ 0 → ErrR (⟨false, 0⟩, r.2) := by
      intro r hr h
      rcases hr with h' | ⟨_, h'⟩
      · exact absurd h' h
      · exact Or.inr ⟨rfl, h'⟩
    rw [evalS]
    by_cases h1 : x.Kind = 1
    · rw [if_pos h1]; exact Or.inl rfl
    rw [if_neg h1]
    by_cases h2 : x.Kind = 2
    · rw [if_pos h2]
      cases getV v.Names v.Vals x.Name with
      | none => exact Or.inr ⟨rfl, Or.inl rfl⟩
      | some n => exact Or.inl rfl
    rw [if_neg h2]
    by_cases h3 : x.Kind = 3 ∨ x.Kind = 4
    · rw [if_pos h3]; exact Or.inl rfl
    rw [if_neg h3]
    cases x.Kids with
    | nil => exact Or.inl rfl
    | cons y r =>
      simp only
      have ih := evalS_errR v k y
      by_cases h4 : (evalS k y v).2 ≠ 0
      · rw [if_pos h4]; exact err _ ih h4
      rw [if_neg h4]
      by_cases h5 : x.Kind = 6
      · rw [if_pos h5]; exact Or.inl rfl
      rw [if_neg h5]
      by_cases h6 : x.Kind = 5
      · rw [if_pos h6]; exact errR_num (numS_errN _ _ _)
      rw [if_neg h6]
      by_cases h7 : x.Kind = 13 ∧ (evalS k y v).1.N = 0
      · rw [if_pos h7]; exact Or.inl rfl
      rw [if_neg h7]
      by_cases h8 : x.Kind = 14 ∧ (evalS k y v).1.N = 1
      · rw [if_pos h8]; exact Or.inl rfl
      rw [if_neg h8]
      cases r with
      | nil => exact Or.inl rfl
      | cons z r' =>
        simp only
        have ih' := evalS_errR v k z
        by_cases h9 : (evalS k z v).2 ≠ 0
        · rw [if_pos h9]; exact err _ ih' h9
        rw [if_neg h9]
        by_cases ha : x.Kind = 13 ∨ x.Kind = 14
        · rw [if_pos ha]; exact Or.inl rfl
        rw [if_neg ha]
        by_cases hb : x.Kind = 11
        · rw [if_pos hb]; exact Or.inl rfl
        rw [if_neg hb]
        by_cases hc : x.Kind = 12
        · rw [if_pos hc]; exact Or.inl rfl
        rw [if_neg hc]
        exact errR_num (numS_errN _ _ _)
theorem evalR_err {x : TExpr} {v : TVars} (h : (evalR x v).2 ≠ 0) : (evalR x v).1 = ⟨false, 0⟩ := by
  unfold evalR at *
  split at h
  · rename_i h1; rw [if_pos h1]
  · rename_i h1
    rw [if_neg h1]
    split at h
    · rename_i h2; rw [if_pos h2]
    · rename_i h2
      rw [if_neg h2]
      rcases evalS_errR v 16 x with h' | ⟨h', _⟩
      · exact absurd h' h
      · exact h'
theorem eval_Number {x : TExpr} {v : TVars} (hx : OkE x) (hv : OkV v) : m_eval_Number x v = some (if (evalR x v).2 = 0 ∧ (evalR x v).1.Bool = true then (0, 7) else ((evalR x v).1.N, (evalR x v).2)) := by
  unfold m_eval_Number m_eval_Number_k1
  rw [eval_Of hx hv, bnd_some]
  by_cases h : (evalR x v).2 = 0
  · cases hb : (evalR x v).1.Bool <;> simp [h, hb]
  · simp [h]
theorem eval_Truth {x : TExpr} {v : TVars} (hx : OkE x) (hv : OkV v) : m_eval_Truth x v = some (if (evalR x v).2 = 0 ∧ (evalR x v).1.Bool = false then (false, 7) else (decide ((evalR x v).1.N = 1), (evalR x v).2)) := by
  unfold m_eval_Truth m_eval_Truth_k1
  rw [eval_Of hx hv, bnd_some]
  by_cases h : (evalR x v).2 = 0
  · cases hb : (evalR x v).1.Bool <;> simp [h, hb]
  · simp [h]
theorem ans_EvalAs {x : TExpr} {v : TVars} (hx : OkE x) (hv : OkV v) : m_law10_EvalAs x v = some true := by
  obtain ⟨b, h, _⟩ := light_ok (v := v) hx
  rw [m_law10_EvalAs, h, bnd_some]
  cases b
  · simp [works_eq, bnd_some]
  · simp only [if_true, ref10_Of hx hv, eval_Number hx hv, eval_Truth hx hv, bnd_some]
    by_cases h0 : (evalR x v).2 = 0
    · cases hb : (evalR x v).1.Bool <;> simp [h0, hb, works_eq, bnd_some]
    · have he := evalR_err h0
      have h1 : (evalR x v).1.N = 0 := by rw [he]
      simp [h0, h1, works_eq, bnd_some]
theorem ans_EvalTyped {x : TExpr} {v : TVars} (hx : OkE x) (hv : OkV v) : m_law10_EvalTyped x v = some true := by
  obtain ⟨b, h, _⟩ := light_ok (v := v) hx
  rw [m_law10_EvalTyped, h, bnd_some]
  cases b
  · simp [m_law10_EvalTyped_k1, works_eq, bnd_some]
  · simp only [if_true, ref09_Check hv, bnd_some, m_law10_EvalTyped_k1]
    by_cases hc : vchk v = 0
    · simp only [hc, ne_eq, not_true_eq_false, decide_false, Bool.false_eq_true, if_false, ref08_Truth hx, eval_Of hx hv, bnd_some]
      by_cases ht : (truR x).2 = 0
      · obtain ⟨h0, h1⟩ := truR_zero ht
        have e1 : (truR x).1 = truK x.Kind := by unfold truR; rw [if_pos h0, if_pos h1]
        have e2 : evalR x v = evalS 16 x v := by unfold evalR; simp [ht, hc]
        have g := evalS_good hv.vals 16 x hx h0 h1
        have ge := evalS_errR v 16 x
        rw [e1, e2]
        generalize evalS 16 x v = r at *
        simp only [ht, not_true_eq_false, decide_false, Bool.false_eq_true, if_false]
        by_cases hr : r.2 = 0
        · have gb := g.bool hr
          have go := g.one hr
          simp only [hr, not_true_eq_false, decide_false, Bool.false_eq_true, if_false, gb]
          cases hk : truK x.Kind
          · simp [works_eq, bnd_some]
          · have go := go hk
            by_cases hn : r.1.N = 1
            · simp [hn, works_eq, bnd_some]
            · have : r.1.N = 0 := by rw [go]; simp [hn, valT, b2i]
              simp [this, works_eq, bnd_some]
        · rcases ge with h' | ⟨h', h''⟩
          · exact absurd h' hr
          · rcases h'' with e | e | e <;> simp [e, h', m_law10_EvalTyped_k2, works_eq, bnd_some]
      · have e2 : (evalR x v).2 = (truR x).2 := by unfold evalR; simp [ht]
        simp [ht, e2, works_eq, bnd_some]
    · simp [hc, works_eq, bnd_some]
end Go.Proofs.Ytcmejocmohohpaa.R
