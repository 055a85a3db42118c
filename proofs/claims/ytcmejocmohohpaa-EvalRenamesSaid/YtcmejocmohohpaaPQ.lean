/- Plain laws: what is not asked for plays no part. -/
import Derived.Test.YtcmejocmohohpaaPP
import Derived.Test.YtcmejocmohohpaaPL
set_option maxRecDepth 100000
set_option linter.unusedVariables false
set_option linter.unusedSimpArgs false
noncomputable section
namespace Go.Proofs.Ytcmejocmohohpaa.R
open Go
theorem evalS_names {v w : TVars} : ∀ (k : Nat) (x : TExpr), chk k x = 0 → (∀ s ∈ namesE k x, getV w.Names w.Vals s = getV v.Names v.Vals s) → evalS k x w = evalS k x v
  | 0, x, h, hg => rfl
  | k + 1, x, h, hg => by
    obtain ⟨hn, hk⟩ := node_of h
    rw [namesE] at hg
    rw [evalS, evalS]
    by_cases h2 : x.Kind = 2
    · rw [if_pos h2] at hg
      have n1 : ¬ x.Kind = 1 := by omega
      rw [if_neg n1, if_neg n1, if_pos h2, if_pos h2, hg x.Name (by simp)]
    · rw [if_neg h2] at hg
      simp only [h2, if_false]
      have ih : ∀ y ∈ x.Kids, evalS k y w = evalS k y v := fun y hy => evalS_names k y (hk y hy) fun s hs => hg s (List.mem_flatMap.2 ⟨y, hy, hs⟩)
      generalize x.Kids = l at ih
      match l, ih with
      | [], _ => rfl
      | [y], ih => simp only [ih y (by simp)]
      | y :: z :: r, ih => simp only [ih y (by simp), ih z (by simp)]
theorem numS_ne9 (k a b : Int) : (numS k a b).2 ≠ 9 := by
  rcases numS_errN k a b with h | ⟨_, h | h⟩ <;> rw [h] <;> decide
theorem z9 (a : TValue) : (a, (0 : Int)).2 ≠ 9 := by simp
theorem evalS_ne9 {v : TVars} : ∀ (k : Nat) (x : TExpr), chk k x = 0 → (∀ s ∈ namesE k x, getV v.Names v.Vals s ≠ none) → (evalS k x v).2 ≠ 9
  | 0, x, h, hg => by simp [evalS]
  | k + 1, x, h, hg => by
    obtain ⟨hn, hk⟩ := node_of h
    rw [namesE] at hg
    rw [evalS]
    by_cases h1 : x.Kind = 1
    · rw [if_pos h1]; exact z9 _
    rw [if_neg h1]
    by_cases h2 : x.Kind = 2
    · rw [if_pos h2] at hg
      rw [if_pos h2]
      have := hg x.Name (by simp)
      cases hq : getV v.Names v.Vals x.Name with
      | none => exact absurd hq this
      | some n => simp
    rw [if_neg h2] at hg
    rw [if_neg h2]
    by_cases h3 : x.Kind = 3 ∨ x.Kind = 4
    · rw [if_pos h3]; exact z9 _
    rw [if_neg h3]
    have ih : ∀ y ∈ x.Kids, (evalS k y v).2 ≠ 9 := fun y hy => evalS_ne9 k y (hk y hy) fun s hs => hg s (List.mem_flatMap.2 ⟨y, hy, hs⟩)
    generalize x.Kids = l at ih
    match l, ih with
    | [], _ => exact z9 _
    | y :: r, ih =>
      simp only
      have ihy := ih y (by simp)
      by_cases h4 : (evalS k y v).2 ≠ 0
      · rw [if_pos h4]; exact ihy
      rw [if_neg h4]
      by_cases h5 : x.Kind = 6
      · rw [if_pos h5]; exact z9 _
      rw [if_neg h5]
      by_cases h6 : x.Kind = 5
      · rw [if_pos h6]; exact numS_ne9 _ _ _
      rw [if_neg h6]
      by_cases h7 : x.Kind = 13 ∧ (evalS k y v).1.N = 0
      · rw [if_pos h7]; exact z9 _
      rw [if_neg h7]
      by_cases h8 : x.Kind = 14 ∧ (evalS k y v).1.N = 1
      · rw [if_pos h8]; exact z9 _
      rw [if_neg h8]
      cases r with
      | nil => exact z9 _
      | cons z r' =>
        simp only
        have ihz := ih z (by simp)
        by_cases h9 : (evalS k z v).2 ≠ 0
        · rw [if_pos h9]; exact ihz
        rw [if_neg h9]
        by_cases ha : x.Kind = 13 ∨ x.Kind = 14
        · rw [if_pos ha]; exact z9 _
        rw [if_neg ha]
        by_cases hb : x.Kind = 11
        · rw [if_pos hb]; exact z9 _
        rw [if_neg hb]
        by_cases hc : x.Kind = 12
        · rw [if_pos hc]; exact z9 _
        rw [if_neg hc]
        exact numS_ne9 _ _ _
theorem firstE_val {f : TExpr → Int} (hf : ∀ y, f y = 0 ∨ f y = 1 ∨ f y = 6) : ∀ l : List TExpr, firstE f l = 0 ∨ firstE f l = 1 ∨ firstE f l = 6
  | [] => Or.inl rfl
  | x :: r => by
    rw [firstE]
    split
    · exact firstE_val hf r
    · exact hf x
theorem chk_val : ∀ (k : Nat) (x : TExpr), chk k x = 0 ∨ chk k x = 1 ∨ chk k x = 6
  | 0, x => Or.inr (Or.inr rfl)
  | k + 1, x => by
    rw [chk]
    split
    · exact firstE_val (chk_val k) _
    · exact Or.inr (Or.inl rfl)
theorem truR_ne9 (x : TExpr) : (truR x).2 ≠ 9 := by
  unfold truR
  split
  · split <;> simp
  · rcases chk_val 16 x with h | h | h <;> simp [h]
theorem law_loop {v : TVars} {r : TValue × Int} {l : List ByteArray} (hl : l.length ≤ 65536) (hv : OkV v) (hc : v.Names.length = v.Vals.length) :
    ∀ (m k n : Nat), l.length - k = m → k ≤ l.length → m < n → m_law10_EvalAsks_l1 v r l n (k : Int) = some (if (l.drop k).all (fun s => (getV v.Names v.Vals s).isSome) = true then decide (r.2 ≠ 9) else true) := by
  intro m
  induction m with
  | zero =>
    intro k n hm hk hn
    obtain ⟨n, rfl⟩ : ∃ n', n = n' + 1 := ⟨n - 1, by omega⟩
    have hk' : ¬ ((k : Int) < (l.length : Int)) := by omega
    rw [m_law10_EvalAsks_l1, m_law10_EvalAsks_l1_B, List.drop_eq_nil_of_le (by omega)]
    simp only [hk', decide_false, Bool.false_eq_true, if_false, m_law10_EvalAsks_k3, List.all_nil, if_true, works_eq, bnd_some]
    by_cases h : r.2 = 9 <;> simp [h]
  | succ m ih =>
    intro k n hm hk hn
    obtain ⟨n, rfl⟩ : ∃ n', n = n' + 1 := ⟨n - 1, by omega⟩
    have hlt : k < l.length := by omega
    have hk' : ((k : Int) < (l.length : Int)) := by omega
    have hw : IntKind.i64.wrap ((k : Int) + 1) = ((k + 1 : Nat) : Int) := wrap_succ (by omega)
    have hih := ih (k + 1) n (by omega) (by omega) (by omega)
    rw [m_law10_EvalAsks_l1, m_law10_EvalAsks_l1_B, List.drop_eq_getElem_cons hlt, List.all_cons]
    simp only [hk', decide_true, if_true, nthI_lt hlt, bnd_some, ref09_Get hc hv.len, hw, hih, works_eq]
    cases getV v.Names v.Vals l[k] <;> simp [getR]
theorem evalR_more {x : TExpr} {v w : TVars} {name : ByteArray} {n : Int} (hc : vchk v = 0) (h : MoreOk v name n w) (ha : chk 16 x = 0 → name ∉ namesE 16 x) : evalR x w = evalR x v := by
  unfold evalR
  by_cases ht : (truR x).2 = 0
  · obtain ⟨h0, _⟩ := truR_zero ht
    have : evalS 16 x w = evalS 16 x v := evalS_names 16 x h0 fun s hs => by
      rw [h.get s, if_neg]
      rintro rfl
      exact ha h0 hs
    simp [hc, h.chk, this]
  · simp [ht]
theorem ans_EvalAsks {x : TExpr} {v : TVars} {name : ByteArray} {n : Int} (hx : OkE x) (hv : OkV v) (hs : name.size ≤ maxLen) (hn : inR n) : m_law10_EvalAsks x v name n = some true := by
  obtain ⟨b, h, hd⟩ := light_ok (v := v) hx
  have triv : m_law10_EvalAsks_k1 x v name n true = some true := by simp [m_law10_EvalAsks_k1, works_eq, bnd_some]
  rw [m_law10_EvalAsks, h, bnd_some]
  cases b
  · simp [triv]
  · obtain ⟨hd, _, _⟩ := hd rfl
    have ha : m_ref08_Asks x name = some (asksS 31 x name) := by
      rw [m_ref08_Asks, asks_ok name 31 x 100 hx hd (by decide), bnd_some]
    simp only [if_true, ha, bnd_some]
    cases hb : asksS 31 x name
    · simp only [Bool.false_eq_true, if_false, ref09_Check hv, bnd_some]
      by_cases hc : vchk v = 0
      · obtain ⟨hlen, h64, _⟩ := vchk_zero hc
        have hno : chk 16 x = 0 → name ∉ namesE 16 x := fun h0 hm => by
          rw [(asks_mem name 16 31 x h0 (by decide)).2 hm] at hb
          cases hb
        obtain ⟨w, e, hof, hmore⟩ := of_two (name := name) (n := n) hv hc hs hn
        simp only [hc, ne_eq, not_true_eq_false, decide_false, m_law10_EvalAsks_k1, Bool.false_eq_true, if_false, m_ref09_One, bnd_some, hof]
        by_cases he : e = 0
        · have M := hmore he
          have hE := evalR_more hc M hno
          simp only [he, not_true_eq_false, decide_false, Bool.false_eq_true, if_false, eval_Of hx hv, eval_Of hx M.ok, bnd_some, hE, beq_self_eq_true, decide_true, Bool.and_self, if_true, m_law10_EvalAsks_k2]
          by_cases h0 : chk 16 x = 0
          · obtain ⟨out, ho, hin, hlo⟩ := Names_ok hx h0
            have hloop := law_loop (r := evalR x v) hlo hv hlen _ 0 ((((out.length : Int)) - 0).toNat + 1) rfl (Nat.zero_le _) (by omega)
            have hloop : m_law10_EvalAsks_l1 v (evalR x v) out ((((out.length : Int)) - 0).toNat + 1) 0 = _ := hloop
            rw [ho, bnd_some, hloop]
            congr 1
            split
            · rename_i hall
              rw [List.drop_zero, List.all_eq_true] at hall
              refine decide_eq_true ?_
              unfold evalR
              split
              · exact truR_ne9 x
              · rw [if_neg (by simpa using hc)]
                refine evalS_ne9 16 x h0 fun s hs hnone => ?_
                have := hall s (hin s hs)
                rw [hnone] at this
                cases this
            · rfl
          · rw [Names_none hx h0, bnd_some]
            have hloop := law_loop (v := v) (r := evalR x v) (l := []) (by simp) hv hlen 0 0 1 rfl (Nat.zero_le _) (by omega)
            have hloop : m_law10_EvalAsks_l1 v (evalR x v) [] (((((([] : List ByteArray)).length : Int)) - 0).toNat + 1) 0 = _ := hloop
            rw [hloop]
            have : (evalR x v).2 ≠ 9 := by
              have ht : (truR x).2 ≠ 0 := fun ht => h0 (truR_zero ht).1
              unfold evalR
              rw [if_pos ht]
              exact truR_ne9 x
            simp [this]
        · simp [he, works_eq, bnd_some]
      · simp [hc, triv]
    · simp [triv]
end Go.Proofs.Ytcmejocmohohpaa.R
