/- Regions that draw their order: what was looked at once for all. -/
import Derived.Test.YtefjblgmnoheiaaRDrwE
set_option linter.unusedVariables false
set_option linter.unusedSectionVars false
set_option linter.unusedSimpArgs false
noncomputable section
namespace Go.Proofs.Ytefjblgmnoheiaa.R
open Go
theorem ancOf_spec {acc : List Nat} : ∀ {es : List Edge} {m : Nat}, ancOf acc es = some m →
    (∀ e ∈ es, Region.binds .any e = true → e.on < acc.length) ∧ ∀ b, Nat.testBit m b = true → ∃ e ∈ es, Region.binds .any e = true ∧ (b = e.on ∨ ∃ a, acc[e.on]? = some a ∧ Nat.testBit a b = true)
  | [], m, h => by
    simp only [ancOf, Option.some.injEq] at h
    subst h
    exact ⟨by simp, by simp⟩
  | e :: r, m, h => by
    simp only [ancOf] at h
    split at h
    · rename_i hb
      split at h
      · rename_i a m' ha hm
        simp only [Option.some.injEq] at h
        subst h
        obtain ⟨h1, h2⟩ := ancOf_spec hm
        refine ⟨fun e' he' hb' => ?_, fun b hbt => ?_⟩
        · rcases List.mem_cons.1 he' with rfl | he'
          · rcases Nat.lt_or_ge e'.on acc.length with h | h
            · exact h
            · rw [List.getElem?_eq_none h] at ha; cases ha
          · exact h1 e' he' hb'
        · rw [Nat.testBit_or, Nat.testBit_or, Bool.or_eq_true, Bool.or_eq_true] at hbt
          rcases hbt with hbt | hbt | hbt
          · obtain ⟨e', g1, g2⟩ := h2 b hbt
            exact ⟨e', List.mem_cons_of_mem _ g1, g2⟩
          · exact ⟨e, by simp, hb, .inr ⟨a, ha, hbt⟩⟩
          · refine ⟨e, by simp, hb, .inl ?_⟩
            rw [Nat.testBit_shiftLeft] at hbt
            simp only [ge_iff_le, Bool.and_eq_true, decide_eq_true_eq] at hbt
            have := hbt.2
            rw [Nat.testBit_one_eq_true_iff_self_eq_zero] at this
            omega
      · cases h
    · rename_i hb
      obtain ⟨h1, h2⟩ := ancOf_spec h
      refine ⟨fun e' he' hb' => ?_, fun b hbt => ?_⟩
      · rcases List.mem_cons.1 he' with rfl | he'
        · exact absurd hb' hb
        · exact h1 e' he' hb'
      · obtain ⟨e', g1, g2⟩ := h2 b hbt
        exact ⟨e', List.mem_cons_of_mem _ g1, g2⟩
theorem rowChk_spec {j a : Nat} {y : Iop} : ∀ {l : List Iop} {i : Nat} {k : List (Nat × Nat)}, rowChk j a y i l = some k → ∀ t x, l[t]? = some x → Nat.testBit a (i + t) = false → ∃ kk, pairChk (i + t) j x y = some kk ∧ ∀ p ∈ kk, p ∈ k
  | [], i, k, h, t, x, hx, hb => by simp at hx
  | z :: r, i, k, h, t, x, hx, hb => by
    simp only [rowChk] at h
    split at h
    · rename_i l' hl
      cases t with
      | zero =>
        simp at hx
        subst hx
        simp only [Nat.add_zero] at hb ⊢
        rw [if_neg (by simp [hb])] at h
        split at h
        · rename_i kk hkk
          simp only [Option.some.injEq] at h
          subst h
          exact ⟨kk, hkk, fun p hp => List.mem_append_left _ hp⟩
        · cases h
      | succ t =>
        simp only [List.getElem?_cons_succ] at hx
        obtain ⟨kk, h1, h2⟩ := rowChk_spec hl t x hx (by rw [show i + 1 + t = i + (t + 1) by omega]; exact hb)
        refine ⟨kk, by rw [show i + (t + 1) = i + 1 + t by omega]; exact h1, fun p hp => ?_⟩
        have := h2 p hp
        split at h
        · simp only [Option.some.injEq] at h
          subst h
          exact this
        · split at h
          · simp only [Option.some.injEq] at h
            subst h
            exact List.mem_append_right _ this
          · cases h
    · cases h
/-- What was looked at once for all. -/
structure DrawF (ops : List Oper) (ios : List Iop) (k : List (Nat × Nat)) (an : List Nat) (n0 : Nat) : Prop where
  len : an.length = ops.length
  len2 : ios.length = ops.length
  on : ∀ j o, n0 ≤ j → ops[j]? = some o → ∀ e ∈ o.after.toList, Region.binds .any e = true → e.on < j
  anc : ∀ j o a, n0 ≤ j → ops[j]? = some o → an[j]? = some a → ∀ b, Nat.testBit a b = true → ∃ e ∈ o.after.toList, Region.binds .any e = true ∧ (b = e.on ∨ ∃ a', an[e.on]? = some a' ∧ Nat.testBit a' b = true)
  pair : ∀ j y a, n0 ≤ j → ios[j]? = some y → an[j]? = some a → ∀ i x, i < j → ios[i]? = some x → Nat.testBit a i = false → ∃ kk, pairChk i j x y = some kk ∧ ∀ p ∈ kk, p ∈ k
theorem drawGo_spec {ops : List Oper} {ios : List Iop} : ∀ {r : List Oper} {q : List Iop} {acc : List Nat} {k : List (Nat × Nat)} {pre : List Oper} {ipre : List Iop}, ops = pre ++ r → ios = ipre ++ q → pre.length = acc.length → ipre.length = acc.length → drawGo ios r q acc = some k →
    ∃ rest, DrawF ops ios k (acc ++ rest) acc.length
  | [], [], acc, k, pre, ipre, h1, h2, h3, h4, h => by
    simp only [List.append_nil] at h1 h2
    subst h1; subst h2
    refine ⟨[], by simpa using h3.symm, by omega, fun j o hj ho => ?_, fun j o a hj ho => ?_, fun j y a hj hy => ?_⟩
    · rw [List.getElem?_eq_none (by omega)] at ho; cases ho
    · rw [List.getElem?_eq_none (by omega)] at ho; cases ho
    · rw [List.getElem?_eq_none (by omega)] at hy; cases hy
  | o :: r, y :: q, acc, k, pre, ipre, h1, h2, h3, h4, h => by
    simp only [drawGo] at h
    split at h
    · rename_i a ha
      split at h
      · rename_i k1 l hk1 hl
        · simp only [Option.some.injEq] at h
          subst h
          obtain ⟨rest, hF⟩ := drawGo_spec (ops := ops) (ios := ios) (pre := pre ++ [o]) (ipre := ipre ++ [y]) (by rw [h1]; simp) (by rw [h2]; simp) (by simp [h3]) (by simp [h4]) hl
          obtain ⟨a1, a2⟩ := ancOf_spec ha
          have ho : ∀ o', ops[acc.length]? = some o' → o' = o := fun o' ho' => by
            rw [h1, List.getElem?_append_right (by omega), h3, Nat.sub_self] at ho'
            simpa using ho'.symm
          have hy : ∀ y', ios[acc.length]? = some y' → y' = y := fun y' hy' => by
            rw [h2, List.getElem?_append_right (by omega), h4, Nat.sub_self] at hy'
            simpa using hy'.symm
          have haa : ∀ a', (acc ++ [a] ++ rest)[acc.length]? = some a' → a' = a := fun a' ha' => by
            rw [List.append_assoc, List.getElem?_append_right (Nat.le_refl _), Nat.sub_self] at ha'
            simpa using ha'.symm
          have hle : ∀ j, acc.length ≤ j → j = acc.length ∨ (acc ++ [a]).length ≤ j := fun j hj => by simp; omega
          refine ⟨a :: rest, ?_⟩
          rw [show acc ++ a :: rest = acc ++ [a] ++ rest by simp]
          refine ⟨hF.len, hF.len2, fun j o' hj hoj e he hb => ?_, fun j o' a' hj hoj haj b hbt => ?_, fun j y' a' hj hyj haj i x hij hx hbt => ?_⟩
          · rcases hle j hj with rfl | hj'
            · rw [ho o' hoj] at he
              exact a1 e he hb
            · exact hF.on j o' hj' hoj e he hb
          · rcases hle j hj with rfl | hj'
            · rw [ho o' hoj]
              rw [haa a' haj] at hbt
              obtain ⟨e, g1, g2, g3⟩ := a2 b hbt
              refine ⟨e, g1, g2, g3.imp_right ?_⟩
              rintro ⟨a', g4, g5⟩
              refine ⟨a', ?_, g5⟩
              rw [List.append_assoc, List.getElem?_append_left (a1 e g1 g2)]
              exact g4
            · exact hF.anc j o' a' hj' hoj haj b hbt
          · rcases hle j hj with rfl | hj'
            · rw [hy y' hyj]
              rw [haa a' haj] at hbt
              obtain ⟨kk, g1, g2⟩ := rowChk_spec hk1 i x (by rw [List.getElem?_take, if_pos hij]; exact hx) (by simpa using hbt)
              exact ⟨kk, by simpa using g1, fun p hp => List.mem_append_left _ (g2 p hp)⟩
            · obtain ⟨kk, g1, g2⟩ := hF.pair j y' a' hj' hyj haj i x hij hx hbt
              exact ⟨kk, g1, fun p hp => List.mem_append_right _ (g2 p hp)⟩
      · cases h
    · cases h
  | [], _ :: _, acc, k, pre, ipre, h1, h2, h3, h4, h => by simp [drawGo] at h
  | _ :: _, [], acc, k, pre, ipre, h1, h2, h3, h4, h => by simp [drawGo] at h
end Go.Proofs.Ytefjblgmnoheiaa.R
