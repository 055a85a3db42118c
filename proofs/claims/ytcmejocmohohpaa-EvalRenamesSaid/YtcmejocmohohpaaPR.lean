/- Plain laws: another variable of the same number. -/
import Derived.Test.YtcmejocmohohpaaPQ
import Derived.Test.YtcmejocmohohpaaPM
set_option maxRecDepth 100000
set_option linter.unusedVariables false
set_option linter.unusedSimpArgs false
noncomputable section
namespace Go.Proofs.Ytcmejocmohohpaa.R
open Go
def renS (fr to : ByteArray) : Nat → TExpr → TExpr
  | 0, x => x
  | k + 1, x => if x.Kind = 2 ∧ x.Name = fr then .mk 2 0 to [] else .mk x.Kind x.N x.Name (x.Kids.map (renS fr to k))
theorem rename_loop {fr to : ByteArray} {x : TExpr} (hl : x.Kids.length ≤ 1000) {rc : TExpr → ByteArray → ByteArray → Option TExpr} {f : TExpr → TExpr} (hrc : ∀ y ∈ x.Kids, rc y fr to = some (f y)) :
    ∀ (m k n : Nat) (out : List TExpr), x.Kids.length - k = m → k ≤ x.Kids.length → m < n → out = (x.Kids.take k).map f → m_ref08_rename_l1 rc x fr to n (k : Int) out = some (.mk x.Kind x.N x.Name (x.Kids.map f)) := by
  intro m
  induction m with
  | zero =>
    intro k n out hm hk hn ho
    obtain ⟨n, rfl⟩ : ∃ n', n = n' + 1 := ⟨n - 1, by omega⟩
    have hk' : ¬ ((k : Int) < (x.Kids.length : Int)) := by omega
    rw [m_ref08_rename_l1, m_ref08_rename_l1_B, ho, List.take_of_length_le (by omega)]
    simp only [hk', decide_false, Bool.false_eq_true, if_false]
  | succ m ih =>
    intro k n out hm hk hn ho
    obtain ⟨n, rfl⟩ : ∃ n', n = n' + 1 := ⟨n - 1, by omega⟩
    have hlt : k < x.Kids.length := by omega
    have hk' : ((k : Int) < (x.Kids.length : Int)) := by omega
    have hw : IntKind.i64.wrap ((k : Int) + 1) = ((k + 1 : Nat) : Int) := wrap_succ (by omega)
    have hout : out ++ [f x.Kids[k]] = (x.Kids.take (k + 1)).map f := by
      rw [ho, List.take_succ_eq_append_getElem hlt, List.map_append]
      rfl
    have hcap : capB (out.length + 1) = true := capB_small (by rw [ho, List.length_map, List.length_take]; omega)
    have hih := ih (k + 1) n (out ++ [f x.Kids[k]]) (by omega) (by omega) (by omega) hout
    rw [m_ref08_rename_l1, m_ref08_rename_l1_B]
    simp only [hk', decide_true, if_true, nthI_lt hlt, bnd_some, hrc _ (List.getElem_mem hlt), hcap, hw, hih]
theorem kids_le {x : TExpr} (h : nodeB x = true) : x.Kids.length ≤ 2 := by
  obtain ⟨_, _, g3⟩ := node_kind h
  unfold kidsOf at g3
  split at g3
  · omega
  · split at g3 <;> omega
theorem rename_ok (fr to : ByteArray) : ∀ (k : Nat) (x : TExpr) (n : Nat), chk k x = 0 → k < n → m_ref08_rename n x fr to = some (renS fr to k x)
  | 0, x, n, h, hn => by simp [chk] at h
  | k + 1, x, n, h, hn => by
    obtain ⟨n, rfl⟩ : ∃ n', n = n' + 1 := ⟨n - 1, by omega⟩
    obtain ⟨hnode, hk⟩ := node_of h
    have hl := kids_le hnode
    have hloop := rename_loop (fr := fr) (to := to) (x := x) (rc := m_ref08_rename n) (f := renS fr to k) (by omega) (fun y hy => rename_ok fr to k y n (hk y hy) (by omega)) _ 0 ((((x.Kids.length : Int)) - 0).toNat + 1) [] rfl (Nat.zero_le _) (by omega) rfl
    have hloop' : m_ref08_rename_l1 (m_ref08_rename n) x fr to ((((x.Kids.length : Int)) - 0).toNat + 1) 0 [] = some (.mk x.Kind x.N x.Name (x.Kids.map (renS fr to k))) := hloop
    rw [m_ref08_rename, m_ref08_rename_B, renS]
    unfold m_ref08_rename_k1
    rw [hloop']
    by_cases h2 : x.Kind = 2
    · by_cases hn : x.Name = fr
      · have : eqS x.Name fr = true := eqS_iff.2 hn
        simp [h2, hn, this, hn ▸ this]
      · have : eqS x.Name fr = false := by rw [eqS_dec]; simpa using hn
        simp [h2, hn, this]
    · simp [h2]
theorem renS_kind (fr to : ByteArray) : ∀ (k : Nat) (x : TExpr), (renS fr to k x).Kind = x.Kind
  | 0, x => rfl
  | k + 1, x => by
    rw [renS]
    split
    · rename_i h; exact h.1.symm
    · rfl
theorem var_node {to : ByteArray} (h : varB to = true) : nodeB (.mk 2 0 to []) = true := by
  unfold nodeB
  simp only [kind_mk, n_mk, name_mk, kids_mk, if_true, h]
  rfl
theorem renS_chk {fr to : ByteArray} (hv : varB to = true) : ∀ (k : Nat) (x : TExpr), chk k x = 0 → chk k (renS fr to k x) = 0
  | 0, x, h => by simp [chk] at h
  | k + 1, x, h => by
    obtain ⟨hnode, hk⟩ := node_of h
    rw [renS]
    split
    · rw [chk, if_pos (var_node hv)]
      rfl
    · have : nodeB (.mk x.Kind x.N x.Name (x.Kids.map (renS fr to k))) = true := by
        unfold nodeB at hnode ⊢
        simp only [kind_mk, n_mk, name_mk, kids_mk, List.length_map]
        exact hnode
      rw [chk, if_pos this, kids_mk]
      refine firstE_all fun y hy => ?_
      obtain ⟨z, hz, rfl⟩ := List.mem_map.1 hy
      exact renS_chk hv k z (hk z hz)
theorem renS_ok {fr to : ByteArray} (hs : to.size ≤ maxLen) : ∀ (k : Nat) (x : TExpr), OkE x → OkE (renS fr to k x)
  | 0, x, h => h
  | k + 1, x, h => by
    have ho := h.of
    rw [renS]
    split
    · rw [OkE_iff]
      refine ⟨?_, ?_, hs, Nat.zero_le _, ?_⟩
      · rw [kind_mk]; unfold inR; simp
      · rw [n_mk]; unfold inR; simp
      · rw [kids_mk]; intro y hy; cases hy
    · rw [OkE_iff]
      refine ⟨ho.kind, ho.n, ho.name, ?_, ?_⟩
      · rw [kids_mk, List.length_map]; exact ho.len
      · rw [kids_mk]
        intro y hy
        obtain ⟨z, hz, rfl⟩ := List.mem_map.1 hy
        exact renS_ok hs k z (ho.kids z hz)
theorem all_congr' {α : Type} {f g : α → Bool} : ∀ {l : List α}, (∀ x ∈ l, f x = g x) → l.all f = l.all g
  | [], _ => rfl
  | x :: r, h => by rw [List.all_cons, List.all_cons, h x (by simp), all_congr' fun y hy => h y (by simp [hy])]
theorem renS_typ {fr to : ByteArray} : ∀ (k : Nat) (x : TExpr), chk k x = 0 → typB k (renS fr to k x) = typB k x
  | 0, x, h => by simp [chk] at h
  | k + 1, x, h => by
    obtain ⟨hnode, hk⟩ := node_of h
    rw [typB_succ, typB_succ, renS]
    split
    · rename_i hh
      rw [(var_leaf hnode hh.1).1]
      rfl
    · rw [kids_mk, List.all_map]
      refine all_congr' fun y hy => ?_
      show kidB k (.mk x.Kind x.N x.Name (x.Kids.map (renS fr to k))) (renS fr to k y) = kidB k x y
      unfold kidB
      rw [renS_typ k y (hk y hy), renS_kind, kind_mk, kids_mk]
      cases hw : wantK x.Kind with
      | some w => rfl
      | none =>
        simp only
        cases x.Kids with
        | nil => rfl
        | cons z r => simp only [List.map_cons, renS_kind]
theorem renS_val {fr to : ByteArray} {v w : TVars} {n : Int} (h1 : getV v.Names v.Vals fr = some n) (h2 : ∀ s, getV w.Names w.Vals s = if s = to then some n else getV v.Names v.Vals s) :
    ∀ (k : Nat) (x : TExpr), chk k x = 0 → to ∉ namesE k x → evalS k (renS fr to k x) w = evalS k x v
  | 0, x, h, hno => by simp [chk] at h
  | k + 1, x, h, hno => by
    obtain ⟨hnode, hk⟩ := node_of h
    rw [namesE] at hno
    by_cases hk2 : x.Kind = 2
    · rw [if_pos hk2, List.mem_singleton] at hno
      have n1 : ¬ x.Kind = 1 := by omega
      have e : ∀ y : TExpr, y.Kind = 2 → ∀ u : TVars, evalS (k + 1) y u = match getV u.Names u.Vals y.Name with | some n => (⟨false, n⟩, 0) | none => (⟨false, 0⟩, 9) := by
        intro y hy u
        rw [evalS, if_neg (by omega), if_pos hy]
        rfl
      rw [renS, e x hk2 v]
      by_cases hn : x.Name = fr
      · rw [if_pos ⟨hk2, hn⟩, e _ rfl w, name_mk, h2 to, if_pos rfl, hn, h1]
      · rw [if_neg (fun hh => hn hh.2), e (.mk x.Kind x.N x.Name (x.Kids.map (renS fr to k))) hk2 w, name_mk, h2 x.Name, if_neg (fun hh => hno hh.symm)]
    · rw [if_neg hk2] at hno
      rw [renS, if_neg (fun hh => hk2 hh.1)]
      have ih : ∀ y ∈ x.Kids, evalS k (renS fr to k y) w = evalS k y v := fun y hy => renS_val h1 h2 k y (hk y hy) fun hm => hno (List.mem_flatMap.2 ⟨y, hy, hm⟩)
      rw [evalS, evalS]
      simp only [kind_mk, n_mk, kids_mk, hk2, if_false]
      generalize x.Kids = l at ih
      match l, ih with
      | [], _ => rfl
      | [y], ih => simp only [List.map_cons, List.map_nil, ih y (by simp)]; rfl
      | y :: z :: r, ih => simp only [List.map_cons, ih y (by simp), ih z (by simp)]; rfl
theorem var_chk {to : ByteArray} (hs : to.size ≤ maxLen) : m_ref07_Check (.mk 2 0 to []) = some (if varB to = true then 0 else 1) := by
  have hx : OkE (.mk 2 0 to []) := by
    rw [OkE_iff]
    refine ⟨?_, ?_, hs, Nat.zero_le _, ?_⟩
    · rw [kind_mk]; unfold inR; simp
    · rw [n_mk]; unfold inR; simp
    · rw [kids_mk]; intro y hy; cases hy
  rw [ref07_Check hx, chk]
  have e : nodeB (.mk 2 0 to []) = varB to := by
    cases hv : varB to
    · unfold nodeB
      simp only [kind_mk, n_mk, name_mk, kids_mk, if_true, hv, Bool.and_false]
    · exact var_node hv
  rw [e]
  rfl
theorem ans_EvalRenames {x : TExpr} {v : TVars} {fr to : ByteArray} (hx : OkE x) (hv : OkV v) (hf : fr.size ≤ maxLen) (hs : to.size ≤ maxLen) : m_law10_EvalRenames x v fr to = some true := by
  obtain ⟨b, h, hd⟩ := light_ok (v := v) hx
  have triv : m_law10_EvalRenames_k1 x v fr to true = some true := by simp [m_law10_EvalRenames_k1, works_eq, bnd_some]
  rw [m_law10_EvalRenames, h, bnd_some]
  cases b
  · simp [triv]
  · obtain ⟨hd, _, _⟩ := hd rfl
    have ha : m_ref08_Asks x to = some (asksS 31 x to) := by
      rw [m_ref08_Asks, asks_ok to 31 x 100 hx hd (by decide), bnd_some]
    simp only [if_true, ref09_Check hv, bnd_some]
    by_cases hc : vchk v = 0
    · obtain ⟨hlen, h64, _⟩ := vchk_zero hc
      simp only [hc, ne_eq, not_true_eq_false, decide_false, Bool.false_eq_true, if_false, ha, bnd_some]
      cases hb : asksS 31 x to
      · have triv2 : ∀ r0 r1, m_law10_EvalRenames_k2 x v to r0 r1 true = some true := fun r0 r1 => by simp [m_law10_EvalRenames_k2, works_eq, bnd_some]
        simp only [m_law10_EvalRenames_k1, Bool.false_eq_true, if_false, ref09_Get hlen hv.len, m_ref08_Rename, ref07_Check hx, var_chk hs, bnd_some]
        by_cases h0 : chk 16 x = 0
        · simp only [h0, ne_eq, not_true_eq_false, decide_false, Bool.false_eq_true, if_false]
          cases hto : varB to
          · simp [triv2, bnd_some]
          · simp only [if_true, ne_eq, not_true_eq_false, decide_false, Bool.false_eq_true, if_false, rename_ok fr to 16 x 100 h0 (by decide), bnd_some]
            cases hg : getV v.Names v.Vals fr with
            | none => simp [getR, triv2]
            | some n =>
              have hn : inR n := getV_in hv.vals hg
              obtain ⟨w, e, hof, hmore⟩ := of_two (name := to) (n := n) hv hc hs hn
              simp only [getR, Bool.not_true, m_law10_EvalRenames_k2, Bool.false_eq_true, if_false, m_ref09_One, bnd_some, hof]
              by_cases he : e = 0
              · have M := hmore he
                have hno : to ∉ namesE 16 x := fun hm => by
                  rw [(asks_mem to 16 31 x h0 (by decide)).2 hm] at hb
                  cases hb
                have hy := renS_ok (fr := fr) hs 16 x hx
                have hcy := renS_chk (fr := fr) hto 16 x h0
                have hty := renS_typ (fr := fr) (to := to) 16 x h0
                have hE : evalR (renS fr to 16 x) w = evalR x v := by
                  have ht : (truR (renS fr to 16 x)).2 = (truR x).2 := by
                    unfold truR
                    rw [if_pos hcy, if_pos h0, hty]
                    cases typB 16 x <;> rfl
                  unfold evalR
                  rw [ht, hc, M.chk, renS_val hg M.get 16 x h0 hno]
                simp [he, eval_Of hx hv, eval_Of hy M.ok, bnd_some, hE, works_eq]
              · simp [he, works_eq, bnd_some]
        · simp [h0, triv2, bnd_some]
      · exact triv
    · simp [hc, triv]
end Go.Proofs.Ytcmejocmohohpaa.R
