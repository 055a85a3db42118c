/- Plain laws: weights; the law of values. -/
import Derived.Test.YtcmejocmohohpaaPI
set_option maxRecDepth 100000
set_option linter.unusedVariables false
set_option linter.unusedSimpArgs false
noncomputable section
namespace Go.Proofs.Ytcmejocmohohpaa.R
open Go
def depE : Nat → TExpr → Bool
  | 0, _ => false
  | k + 1, x => x.Kids.all (depE k)
def big59 : Int := 576460752303423488
structure WOk (d : Nat) (most : Int) (y : TExpr) (o : Option Int) : Prop where
  ex : ∃ r, o = some r ∧ 1 ≤ r ∧ r ≤ big59 + 500 * (d : Int) ∧ (r ≤ most → depE (d + 1) y = true)
theorem weigh_loop {x : TExpr} (hl : x.Kids.length ≤ big63) {d : Nat} (hd : d ≤ 30) {most : Int} (h0 : 0 ≤ most) (h5 : most ≤ 500) {rc : TExpr → Int → Int → Option Int}
    (hrc : ∀ y ∈ x.Kids, ∀ e, d = e + 1 → ∀ most', 0 ≤ most' → most' ≤ 500 → WOk e most' y (rc y most' (e : Int))) :
    ∀ (m k n : Nat) (n0 : Int), x.Kids.length - k = m → k ≤ x.Kids.length → m < n → 1 ≤ n0 → n0 ≤ big59 + 500 * (d : Int) →
    ∃ r, m_ref07_weigh_l1 rc x most (d : Int) n n0 (k : Int) = some r ∧ n0 ≤ r ∧ r ≤ big59 + 500 * (d : Int) ∧ (r ≤ most → (x.Kids.drop k).all (depE d) = true) := by
  intro m
  induction m with
  | zero =>
    intro k n n0 hm hk hn h1 h2
    obtain ⟨n, rfl⟩ : ∃ n', n = n' + 1 := ⟨n - 1, by omega⟩
    have hk' : ¬ ((k : Int) < (x.Kids.length : Int)) := by omega
    rw [m_ref07_weigh_l1, m_ref07_weigh_l1_B, List.drop_eq_nil_of_le (by omega)]
    simp only [hk', decide_false, Bool.false_eq_true, if_false, m_ref07_weigh_k1]
    exact ⟨n0, rfl, Int.le_refl _, h2, fun _ => rfl⟩
  | succ m ih =>
    intro k n n0 hm hk hn h1 h2
    obtain ⟨n, rfl⟩ : ∃ n', n = n' + 1 := ⟨n - 1, by omega⟩
    have hlt : k < x.Kids.length := by omega
    have hk' : ((k : Int) < (x.Kids.length : Int)) := by omega
    have hw : IntKind.i64.wrap ((k : Int) + 1) = ((k + 1 : Nat) : Int) := wrap_succ (by unfold big63 at hl; omega)
    rw [m_ref07_weigh_l1, m_ref07_weigh_l1_B, List.drop_eq_getElem_cons hlt]
    simp only [hk', decide_true, if_true]
    by_cases hle : n0 ≤ most
    · simp only [hle, decide_true, m_ref07_weigh_k1, if_true]
      by_cases hd0 : (d : Int) = 0
      · have hw1 : IntKind.i64.wrap (most + 1) = most + 1 := wrap_in (by unfold inR; omega)
        simp only [hd0, decide_true, if_true, hw1]
        refine ⟨most + 1, rfl, by omega, by unfold big59; omega, fun h => by omega⟩
      · obtain ⟨e, rfl⟩ : ∃ e, d = e + 1 := ⟨d - 1, by omega⟩
        have hw1 : IntKind.i64.wrap (most - n0) = most - n0 := wrap_in (by unfold inR; omega)
        have hw2 : IntKind.i64.wrap (((e + 1 : Nat) : Int) - 1) = (e : Int) := by rw [wrap_in (by unfold inR; omega)]; omega
        obtain ⟨r, g1, g2, g3, g4⟩ := (hrc _ (List.getElem_mem hlt) e rfl (most - n0) (by omega) (by omega)).ex
        unfold big59 at g3
        have hw3 : IntKind.i64.wrap (n0 + r) = n0 + r := wrap_in (by unfold inR; omega)
        obtain ⟨r', k1, k2, k3, k4⟩ := ih (k + 1) n (n0 + r) (by omega) (by omega) (by omega) (by omega) (by unfold big59; omega)
        simp only [hd0, decide_false, Bool.false_eq_true, if_false, nthI_lt hlt, bnd_some, hw1, hw2, g1, hw3, hw, k1]
        refine ⟨r', rfl, by omega, k3, fun h => ?_⟩
        rw [List.all_cons, Bool.and_eq_true]
        exact ⟨g4 (by omega), k4 h⟩
    · simp only [hle, decide_false, m_ref07_weigh_k1, Bool.false_eq_true, if_false]
      exact ⟨n0, rfl, Int.le_refl _, h2, fun h => absurd h hle⟩
theorem weigh_ok : ∀ (d : Nat) (x : TExpr) (n : Nat) (most : Int), OkE x → d ≤ 30 → d < n → 0 ≤ most → most ≤ 500 → WOk d most x (m_ref07_weigh n x most (d : Int)) := by
  intro d
  induction d with
  | zero =>
    intro x n most hx hd hn h0 h5
    obtain ⟨n, rfl⟩ : ∃ n', n = n' + 1 := ⟨n - 1, by omega⟩
    have h := hx.of
    have hs : (x.Name.size : Int).tdiv 40 = (x.Name.size : Int) / 40 := tdiv_nn (by omega)
    have hb := h.name
    unfold big63 at hb
    have e1 : IntKind.i64.wrap ((x.Name.size : Int).tdiv 40) = (x.Name.size : Int) / 40 := by rw [hs]; exact wrap_in (by unfold inR; omega)
    have e2 : IntKind.i64.wrap (1 + (x.Name.size : Int) / 40) = 1 + (x.Name.size : Int) / 40 := wrap_in (by unfold inR; omega)
    obtain ⟨r, g1, g2, g3, g4⟩ := weigh_loop (rc := m_ref07_weigh n) h.len (d := 0) (by decide) h0 h5 (fun y hy e he => by omega) _ 0 ((((x.Kids.length : Int)) - 0).toNat + 1) (1 + (x.Name.size : Int) / 40) rfl (Nat.zero_le _) (by omega) (by omega) (by unfold big59; omega)
    rw [m_ref07_weigh, m_ref07_weigh_B, e1, e2]
    exact ⟨r, g1, by omega, g3, g4⟩
  | succ d ih =>
    intro x n most hx hd hn h0 h5
    obtain ⟨n, rfl⟩ : ∃ n', n = n' + 1 := ⟨n - 1, by omega⟩
    have h := hx.of
    have hs : (x.Name.size : Int).tdiv 40 = (x.Name.size : Int) / 40 := tdiv_nn (by omega)
    have hb := h.name
    unfold big63 at hb
    have e1 : IntKind.i64.wrap ((x.Name.size : Int).tdiv 40) = (x.Name.size : Int) / 40 := by rw [hs]; exact wrap_in (by unfold inR; omega)
    have e2 : IntKind.i64.wrap (1 + (x.Name.size : Int) / 40) = 1 + (x.Name.size : Int) / 40 := wrap_in (by unfold inR; omega)
    obtain ⟨r, g1, g2, g3, g4⟩ := weigh_loop (rc := m_ref07_weigh n) h.len (d := d + 1) hd h0 h5 (fun y hy e he most' a b => by
      have : e = d := by omega
      subst this
      exact ih y n most' (h.kids y hy) (by omega) (by omega) a b) _ 0 ((((x.Kids.length : Int)) - 0).toNat + 1) (1 + (x.Name.size : Int) / 40) rfl (Nat.zero_le _) (by omega) (by omega) (by unfold big59; omega)
    rw [m_ref07_weigh, m_ref07_weigh_B, e1, e2]
    exact ⟨r, g1, by omega, g3, g4⟩
theorem light_ok {x : TExpr} {v : TVars} (hx : OkE x) : ∃ b, m_law10_light x v = some b ∧ (b = true → depE 31 x = true ∧ v.Names.length ≤ 200 ∧ v.Vals.length ≤ 200) := by
  obtain ⟨r, g1, g2, g3, g4⟩ := (weigh_ok 30 x 100 500 hx (by decide) (by decide) (by decide) (by decide)).ex
  have e : m_ref07_Weight x 500 = some r := by
    rw [m_ref07_Weight]
    have : m_ref07_weigh 100 x 500 30 = some r := g1
    rw [this, bnd_some]
  rw [m_law10_light, e, bnd_some]
  by_cases h1 : r ≤ 500
  · by_cases h2 : (v.Names.length : Int) ≤ 200
    · refine ⟨decide ((v.Vals.length : Int) ≤ 200), by simp [h1, h2], fun h => ?_⟩
      simp only [decide_eq_true_eq] at h
      exact ⟨g4 h1, by omega, by omega⟩
    · exact ⟨false, by simp [h1, h2], by simp⟩
  · exact ⟨false, by simp [h1], by simp⟩
theorem works_eq : m_law10_works = some true := rfl
end Go.Proofs.Ytcmejocmohohpaa.R
