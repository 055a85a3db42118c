/- Plain laws: what trees ask for. -/
import Derived.Test.YtcmejocmohohpaaPK
set_option maxRecDepth 100000
set_option linter.unusedVariables false
set_option linter.unusedSimpArgs false
noncomputable section
namespace Go.Proofs.Ytcmejocmohohpaa.R
open Go
def namesE : Nat → TExpr → List ByteArray
  | 0, _ => []
  | k + 1, x => if x.Kind = 2 then [x.Name] else x.Kids.flatMap (namesE k)
/-- What is true of each part of a tree that may be. -/
theorem node_of {k : Nat} {x : TExpr} (h : chk (k + 1) x = 0) : nodeB x = true ∧ ∀ y ∈ x.Kids, chk k y = 0 := by
  rw [chk] at h
  split at h
  · rename_i hn; exact ⟨hn, firstE_zero h⟩
  · cases h
theorem var_leaf {x : TExpr} (h : nodeB x = true) (h2 : x.Kind = 2) : x.Kids = [] ∧ varB x.Name = true := by
  obtain ⟨_, _, g3⟩ := node_kind h
  have e : kidsOf x.Kind = 0 := by rw [h2]; decide
  rw [e] at g3
  refine ⟨List.eq_nil_of_length_eq_zero (by omega), ?_⟩
  unfold nodeB at h
  simp only [Bool.and_eq_true] at h
  have := h.2.2.2.2
  rwa [if_pos h2] at this
/-! ### Asks -/
theorem asks_loop {x : TExpr} {name : ByteArray} (hl : x.Kids.length ≤ big63) {rc : TExpr → ByteArray → Option Bool} {f : TExpr → Bool} (hrc : ∀ y ∈ x.Kids, rc y name = some (f y)) :
    ∀ (m k n : Nat), x.Kids.length - k = m → k ≤ x.Kids.length → m < n → m_ref08_asks_l1 rc x name n (k : Int) = some ((x.Kids.drop k).any f) := by
  intro m
  induction m with
  | zero =>
    intro k n hm hk hn
    obtain ⟨n, rfl⟩ : ∃ n', n = n' + 1 := ⟨n - 1, by omega⟩
    have hk' : ¬ ((k : Int) < (x.Kids.length : Int)) := by omega
    rw [m_ref08_asks_l1, m_ref08_asks_l1_B, List.drop_eq_nil_of_le (by omega)]
    simp [hk']
  | succ m ih =>
    intro k n hm hk hn
    obtain ⟨n, rfl⟩ : ∃ n', n = n' + 1 := ⟨n - 1, by omega⟩
    have hlt : k < x.Kids.length := by omega
    have hk' : ((k : Int) < (x.Kids.length : Int)) := by omega
    have hw : IntKind.i64.wrap ((k : Int) + 1) = (k : Int) + 1 := wrap_succ' (by omega) (by unfold big63 at hl; omega)
    have hih : m_ref08_asks_l1 rc x name n ((k : Int) + 1) = _ := ih (k + 1) n (by omega) (by omega) (by omega)
    rw [m_ref08_asks_l1, m_ref08_asks_l1_B, List.drop_eq_getElem_cons hlt]
    simp only [hk', decide_true, if_true, nthI_lt hlt, bnd_some, hrc _ (List.getElem_mem hlt), List.any_cons, hw, hih]
    cases h : f x.Kids[k] <;> simp
def asksS : Nat → TExpr → ByteArray → Bool
  | 0, _, _ => false
  | k + 1, x, name => (decide (x.Kind = 2) && eqS x.Name name) || x.Kids.any fun y => asksS k y name
theorem asks_ok (name : ByteArray) : ∀ (k : Nat) (x : TExpr) (n : Nat), OkE x → depE k x = true → k < n → m_ref08_asks n x name = some (asksS k x name)
  | 0, x, n, hx, h, hn => by simp [depE] at h
  | k + 1, x, n, hx, h, hn => by
    obtain ⟨n, rfl⟩ : ∃ n', n = n' + 1 := ⟨n - 1, by omega⟩
    have ho := hx.of
    rw [depE, List.all_eq_true] at h
    have hloop := asks_loop (name := name) (rc := m_ref08_asks n) (f := fun y => asksS k y name) ho.len (fun y hy => asks_ok name k y n (ho.kids y hy) (h y hy) (by omega)) _ 0 ((((x.Kids.length : Int)) - 0).toNat + 1) rfl (Nat.zero_le _) (by omega)
    have hloop' : m_ref08_asks_l1 (m_ref08_asks n) x name ((((x.Kids.length : Int)) - 0).toNat + 1) 0 = some (x.Kids.any fun y => asksS k y name) := hloop
    rw [m_ref08_asks, m_ref08_asks_B, asksS]
    unfold m_ref08_asks_k1
    rw [hloop']
    by_cases h2 : x.Kind = 2
    · cases he : eqS x.Name name <;> simp [h2, he]
    · simp [h2]
theorem asks_mem (name : ByteArray) : ∀ (k d : Nat) (x : TExpr), chk k x = 0 → k ≤ d → (asksS d x name = true ↔ name ∈ namesE k x)
  | 0, d, x, h, hd => by simp [chk] at h
  | k + 1, d, x, h, hd => by
    obtain ⟨d, rfl⟩ : ∃ d', d = d' + 1 := ⟨d - 1, by omega⟩
    obtain ⟨hn, hk⟩ := node_of h
    simp only [asksS, namesE]
    by_cases h2 : x.Kind = 2
    · obtain ⟨h0, _⟩ := var_leaf hn h2
      simp only [h2, decide_true, Bool.true_and, h0, List.any_nil, Bool.or_false, if_true, eqS_iff, List.mem_singleton]
      exact eq_comm
    · simp only [h2, decide_false, Bool.false_and, Bool.false_or, if_false, List.any_eq_true, List.mem_flatMap]
      constructor
      · rintro ⟨y, hy, hm⟩
        exact ⟨y, hy, (asks_mem name k d y (hk y hy) (by omega)).1 hm⟩
      · rintro ⟨y, hy, hm⟩
        exact ⟨y, hy, (asks_mem name k d y (hk y hy) (by omega)).2 hm⟩
/-! ### Names -/
theorem names_var : ∀ (k : Nat) (x : TExpr), chk k x = 0 → ∀ s ∈ namesE k x, varB s = true
  | 0, x, h, s, hs => by simp [chk] at h
  | k + 1, x, h, s, hs => by
    obtain ⟨hn, hk⟩ := node_of h
    rw [namesE] at hs
    by_cases h2 : x.Kind = 2
    · rw [if_pos h2, List.mem_singleton] at hs
      rw [hs]
      exact (var_leaf hn h2).2
    · rw [if_neg h2, List.mem_flatMap] at hs
      obtain ⟨y, hy, hm⟩ := hs
      exact names_var k y (hk y hy) s hm
theorem names_len : ∀ (k : Nat) (x : TExpr), chk k x = 0 → (namesE k x).length ≤ 2 ^ k
  | 0, x, h => by simp [chk] at h
  | k + 1, x, h => by
    obtain ⟨hn, hk⟩ := node_of h
    obtain ⟨_, _, g3⟩ := node_kind hn
    have hp : 1 ≤ 2 ^ k := Nat.one_le_two_pow
    rw [namesE]
    by_cases h2 : x.Kind = 2
    · rw [if_pos h2]
      simp only [List.length_singleton]
      rw [Nat.pow_succ]
      omega
    · rw [if_neg h2]
      have hl : x.Kids.length ≤ 2 := by
        unfold kidsOf at g3
        split at g3
        · omega
        · split at g3 <;> omega
      have : ∀ l : List TExpr, (∀ y ∈ l, chk k y = 0) → (l.flatMap (namesE k)).length ≤ l.length * 2 ^ k := by
        intro l
        induction l with
        | nil => intro _; simp
        | cons y r ih =>
          intro hy
          rw [List.flatMap_cons, List.length_append, List.length_cons, Nat.add_mul, Nat.one_mul]
          have a := names_len k y (hy y (by simp))
          have b := ih fun z hz => hy z (by simp [hz])
          omega
      have h3 := this x.Kids hk
      have h4 : x.Kids.length * 2 ^ k ≤ 2 * 2 ^ k := Nat.mul_le_mul_right _ hl
      rw [Nat.pow_succ]
      omega
theorem collect_loop {x : TExpr} (hl : x.Kids.length ≤ big63) {rc : TExpr → Option (List ByteArray)} {f : TExpr → List ByteArray} (hrc : ∀ y ∈ x.Kids, rc y = some (f y)) (hc : ∀ l : Nat, l ≤ (x.Kids.flatMap f).length → capB l = true) :
    ∀ (m k n : Nat) (out : List ByteArray), x.Kids.length - k = m → k ≤ x.Kids.length → m < n → out = (x.Kids.take k).flatMap f → m_ref08_collect_l1 rc x n (k : Int) out = some (x.Kids.flatMap f) := by
  intro m
  induction m with
  | zero =>
    intro k n out hm hk hn ho
    obtain ⟨n, rfl⟩ : ∃ n', n = n' + 1 := ⟨n - 1, by omega⟩
    have hk' : ¬ ((k : Int) < (x.Kids.length : Int)) := by omega
    rw [m_ref08_collect_l1, m_ref08_collect_l1_B, ho, List.take_of_length_le (by omega)]
    simp [hk']
  | succ m ih =>
    intro k n out hm hk hn ho
    obtain ⟨n, rfl⟩ : ∃ n', n = n' + 1 := ⟨n - 1, by omega⟩
    have hlt : k < x.Kids.length := by omega
    have hk' : ((k : Int) < (x.Kids.length : Int)) := by omega
    have hw : IntKind.i64.wrap ((k : Int) + 1) = ((k + 1 : Nat) : Int) := wrap_succ (by unfold big63 at hl; omega)
    have hout : out ++ f x.Kids[k] = (x.Kids.take (k + 1)).flatMap f := by
      rw [ho, List.take_succ_eq_append_getElem hlt, List.flatMap_append]
      simp
    have hcap : capB (out.length + (f x.Kids[k]).length) = true := by
      rw [← List.length_append, hout]
      refine hc _ ?_
      have : x.Kids.flatMap f = (x.Kids.take (k + 1)).flatMap f ++ (x.Kids.drop (k + 1)).flatMap f := by rw [← List.flatMap_append, List.take_append_drop]
      rw [this, List.length_append]
      omega
    have hih := ih (k + 1) n (out ++ f x.Kids[k]) (by omega) (by omega) (by omega) hout
    rw [m_ref08_collect_l1, m_ref08_collect_l1_B]
    simp only [hk', decide_true, if_true, nthI_lt hlt, bnd_some, hrc _ (List.getElem_mem hlt), hcap, hw, hih]
theorem capB_small {n : Nat} (h : n ≤ 1000000) : capB n = true := by
  unfold capB
  exact decide_eq_true (Nat.le_trans h (by decide))
theorem collect_ok : ∀ (k : Nat) (x : TExpr) (n : Nat), OkE x → chk k x = 0 → k ≤ 16 → k < n → m_ref08_collect n x = some (namesE k x)
  | 0, x, n, hx, h, hk, hn => by simp [chk] at h
  | k + 1, x, n, hx, h, hk16, hn => by
    obtain ⟨n, rfl⟩ : ∃ n', n = n' + 1 := ⟨n - 1, by omega⟩
    have ho := hx.of
    obtain ⟨hnode, hk⟩ := node_of h
    have hlen := names_len (k + 1) x h
    have h16 : 2 ^ (k + 1) ≤ 2 ^ 16 := Nat.pow_le_pow_right (by decide) hk16
    have h17 : (2 : Nat) ^ 16 = 65536 := by decide
    rw [m_ref08_collect, m_ref08_collect_B]
    rw [namesE] at hlen ⊢
    by_cases h2 : x.Kind = 2
    · simp [h2]
    · rw [if_neg h2] at hlen ⊢
      have := collect_loop (rc := m_ref08_collect n) (f := namesE k) ho.len (fun y hy => collect_ok k y n (ho.kids y hy) (hk y hy) (by omega) (by omega)) (fun l hl => capB_small (by omega)) _ 0 ((((x.Kids.length : Int)) - 0).toNat + 1) [] rfl (Nat.zero_le _) (by omega) rfl
      simp only [h2, decide_false, Bool.false_eq_true, if_false]
      exact this
def pickB (last best e : ByteArray) : ByteArray := if (ltS e last || eqS e last) = true then best else if eqS best ⟨#[]⟩ = true then e else if ltS e best = true then e else best
theorem inner_loop {rc : ByteArray → List ByteArray → Option (List ByteArray)} {l out : List ByteArray} {last : ByteArray} (hl : l.length ≤ big63) :
    ∀ (m k n : Nat) (best : ByteArray), l.length - k = m → k ≤ l.length → m < n → m_ref08_Names_l2 rc l last out n best (k : Int) = m_ref08_Names_k3 rc out ((l.drop k).foldl (pickB last) best) := by
  intro m
  induction m with
  | zero =>
    intro k n best hm hk hn
    obtain ⟨n, rfl⟩ : ∃ n', n = n' + 1 := ⟨n - 1, by omega⟩
    have hk' : ¬ ((k : Int) < (l.length : Int)) := by omega
    rw [m_ref08_Names_l2, m_ref08_Names_l2_B, List.drop_eq_nil_of_le (by omega)]
    simp [hk']
  | succ m ih =>
    intro k n best hm hk hn
    obtain ⟨n, rfl⟩ : ∃ n', n = n' + 1 := ⟨n - 1, by omega⟩
    have hlt : k < l.length := by omega
    have hk' : ((k : Int) < (l.length : Int)) := by omega
    have hw : IntKind.i64.wrap ((k : Int) + 1) = ((k + 1 : Nat) : Int) := wrap_succ (by unfold big63 at hl; omega)
    have hih := fun b => ih (k + 1) n b (by omega) (by omega) (by omega)
    rw [m_ref08_Names_l2, m_ref08_Names_l2_B, List.drop_eq_getElem_cons hlt, List.foldl_cons]
    simp only [hk', decide_true, if_true, nthI_lt hlt, bnd_some, m_ref08_Names_k1, m_ref08_Names_k2, hw, hih]
    unfold pickB
    cases h1 : (ltS l[k] last || eqS l[k] last)
    · cases h2 : eqS best ⟨#[]⟩
      · cases h3 : ltS l[k] best <;> simp
      · simp
    · simp
/-- The least of those behind one. -/
structure BestOk (last best : ByteArray) (l : List ByteArray) : Prop where
  none : best = ⟨#[]⟩ → ∀ e ∈ l, ltS last e = false
  some : best ≠ ⟨#[]⟩ → best ∈ l ∧ ltS last best = true ∧ ∀ e ∈ l, ltS last e = true → ltS e best = false
theorem after_iff (last e : ByteArray) : (ltS e last || eqS e last) = !ltS last e := by
  rcases ltS_tri e last with h | h | h
  · simp [h, ltS_asymm h]
  · subst h
    simp [eqS_self, ltS_irr]
  · have : e ≠ last := by rintro rfl; rw [ltS_irr] at h; cases h
    simp [h, ltS_asymm h, eqS_dec, this]
theorem best_ok {last : ByteArray} : ∀ (l done : List ByteArray) (best : ByteArray), (∀ e ∈ done ++ l, e ≠ ⟨#[]⟩) → BestOk last best done → BestOk last (l.foldl (pickB last) best) (done ++ l)
  | [], done, best, h0, h => by simpa using h
  | e :: r, done, best, h0, h => by
    have he : e ≠ ⟨#[]⟩ := h0 e (by simp)
    have := best_ok (last := last) r (done ++ [e]) (pickB last best e) (by simpa using h0) (by
      unfold pickB
      rw [after_iff]
      cases hl : ltS last e
      · simp only [Bool.not_false, if_true]
        refine ⟨fun hb x hx => ?_, fun hb => ?_⟩
        · rcases List.mem_append.1 hx with hx | hx
          · exact h.none hb x hx
          · rw [List.mem_singleton.1 hx]; exact hl
        · obtain ⟨g1, g2, g3⟩ := h.some hb
          refine ⟨by simp [g1], g2, fun x hx hlt => ?_⟩
          rcases List.mem_append.1 hx with hx | hx
          · exact g3 x hx hlt
          · rw [List.mem_singleton.1 hx, hl] at hlt; cases hlt
      · simp only [Bool.not_true, Bool.false_eq_true, if_false]
        by_cases hb : best = ⟨#[]⟩
        · have : eqS best ⟨#[]⟩ = true := by rw [hb]; exact eqS_self _
          simp only [this, if_true]
          refine ⟨fun hb => absurd hb he, fun _ => ⟨by simp, hl, fun x hx hlt => ?_⟩⟩
          rcases List.mem_append.1 hx with hx | hx
          · rw [h.none hb x hx] at hlt; cases hlt
          · rw [List.mem_singleton.1 hx]; exact ltS_irr _
        · have : eqS best ⟨#[]⟩ = false := by rw [eqS_dec]; simpa using hb
          obtain ⟨g1, g2, g3⟩ := h.some hb
          simp only [this, Bool.false_eq_true, if_false]
          cases hlt : ltS e best
          · simp only [Bool.false_eq_true, if_false]
            refine ⟨fun hb' => absurd hb' hb, fun _ => ⟨by simp [g1], g2, fun x hx hx' => ?_⟩⟩
            rcases List.mem_append.1 hx with hx | hx
            · exact g3 x hx hx'
            · rw [List.mem_singleton.1 hx]; exact hlt
          · simp only [if_true]
            refine ⟨fun hb' => absurd hb' he, fun _ => ⟨by simp, hl, fun x hx hx' => ?_⟩⟩
            rcases List.mem_append.1 hx with hx | hx
            · cases hxe : ltS x e with
              | false => rfl
              | true =>
                have := ltS_trans hxe hlt
                rw [g3 x hx hx'] at this
                cases this
            · rw [List.mem_singleton.1 hx]; exact ltS_irr _)
    rw [List.foldl_cons]
    simpa using this
theorem names_loop {l : List ByteArray} (hl : l.length ≤ 65536) (h0 : ∀ e ∈ l, e ≠ ⟨#[]⟩) : ∀ (m n : Nat) (last : ByteArray) (out : List ByteArray), (l.filter (fun e => ltS last e)).length = m → m < n → out.length + m ≤ 65536 → (∀ e ∈ l, ltS last e = false → e ∈ out) →
    ∃ out', m_ref08_Names_l1 l n last out = some out' ∧ (∀ e ∈ l, e ∈ out') ∧ out'.length ≤ 65536 := by
  intro m
  induction m using Nat.strongRecOn with
  | _ m ih =>
    intro n last out hm hn hlen hin
    obtain ⟨n, rfl⟩ : ∃ n', n = n' + 1 := ⟨n - 1, by omega⟩
    have hloop := inner_loop (rc := m_ref08_Names_l1 l n) (l := l) (out := out) (last := last) (by unfold big63; omega) _ 0 ((((l.length : Int)) - 0).toNat + 1) ⟨#[]⟩ rfl (Nat.zero_le _) (by omega)
    have hb : BestOk last (l.foldl (pickB last) ⟨#[]⟩) ([] ++ l) := best_ok l [] ⟨#[]⟩ (by simpa using h0) ⟨by simp, by simp⟩
    rw [List.nil_append] at hb
    rw [m_ref08_Names_l1, m_ref08_Names_l1_B]
    have hloop' : m_ref08_Names_l2 (m_ref08_Names_l1 l n) l last out ((((l.length : Int)) - 0).toNat + 1) ⟨#[]⟩ 0 = m_ref08_Names_k3 (m_ref08_Names_l1 l n) out (l.foldl (pickB last) ⟨#[]⟩) := hloop
    rw [hloop']
    generalize l.foldl (pickB last) ⟨#[]⟩ = b at hb
    unfold m_ref08_Names_k3
    by_cases hbe : b = ⟨#[]⟩
    · have : eqS b ⟨#[]⟩ = true := by rw [hbe]; exact eqS_self _
      simp only [this, if_true]
      exact ⟨out, rfl, fun e he => hin e he (hb.none hbe e he), by omega⟩
    · have : eqS b ⟨#[]⟩ = false := by rw [eqS_dec]; simpa using hbe
      obtain ⟨g1, g2, g3⟩ := hb.some hbe
      have hmem : b ∈ l.filter (fun e => ltS last e) := List.mem_filter.2 ⟨g1, g2⟩
      have hpos : 0 < (l.filter (fun e => ltS last e)).length := List.length_pos_of_mem hmem
      have hlt : (l.filter (fun e => ltS b e)).length < m := by
        rw [← hm]
        have hsub : l.filter (fun e => ltS b e) = (l.filter (fun e => ltS last e)).filter (fun e => ltS b e) := by
          rw [List.filter_filter]
          refine List.filter_congr fun e he => ?_
          cases hbe : ltS b e with
          | false => simp
          | true => simp [ltS_trans g2 hbe]
        rw [hsub]
        refine List.length_filter_lt_length_iff_exists.2 ⟨b, hmem, ?_⟩
        simp [ltS_irr]
      have hcap : capB (out.length + 1) = true := capB_small (by omega)
      simp only [this, Bool.false_eq_true, if_false, hcap, if_true]
      refine ih _ hlt n b (out ++ [b]) rfl (by omega) (by simp only [List.length_append, List.length_singleton]; omega) ?_
      intro e he hbe'
      rcases ltS_tri b e with h | h | h
      · rw [hbe'] at h; cases h
      · simp [h]
      · cases hle : ltS last e with
        | false => simp [hin e he hle]
        | true => rw [g3 e he hle] at h; cases h
theorem varB_ne {s : ByteArray} (h : varB s = true) : s ≠ ⟨#[]⟩ := by
  rintro rfl
  revert h
  decide
theorem Names_ok {x : TExpr} (hx : OkE x) (hc : chk 16 x = 0) : ∃ out, m_ref08_Names x = some out ∧ (∀ e ∈ namesE 16 x, e ∈ out) ∧ out.length ≤ 65536 := by
  have hlen := names_len 16 x hc
  have h17 : (2 : Nat) ^ 16 = 65536 := by decide
  have hne : ∀ e ∈ namesE 16 x, e ≠ ⟨#[]⟩ := fun e he => varB_ne (names_var 16 x hc e he)
  have hf : ((namesE 16 x).filter (fun e => ltS ⟨#[]⟩ e)).length ≤ (namesE 16 x).length := List.length_filter_le _ _
  obtain ⟨out, e, h1, h2⟩ := names_loop (by omega) hne _ 1000000 ⟨#[]⟩ [] rfl (by omega) (by simp only [List.length_nil]; omega) (by
    intro e he h
    rcases ltS_tri ⟨#[]⟩ e with h' | h' | h'
    · rw [h] at h'; cases h'
    · exact absurd h'.symm (hne e he)
    · exfalso
      have e0 : (⟨#[]⟩ : ByteArray).toList = [] := by rw [ByteArray.toList_eq]
      unfold ltS at h'
      rw [e0] at h'
      revert h'
      cases e.toList <;> simp [Op.bytesLess])
  refine ⟨out, ?_, h1, h2⟩
  unfold m_ref08_Names
  rw [ref07_Check hx, bnd_some]
  simp only [hc, ne_eq, not_true_eq_false, decide_false, Bool.false_eq_true, if_false, collect_ok 16 x 100 hx hc (by decide) (by decide), bnd_some]
  exact e
theorem Names_none {x : TExpr} (hx : OkE x) (hc : chk 16 x ≠ 0) : m_ref08_Names x = some [] := by
  unfold m_ref08_Names
  rw [ref07_Check hx, bnd_some]
  simp [hc]
end Go.Proofs.Ytcmejocmohohpaa.R
