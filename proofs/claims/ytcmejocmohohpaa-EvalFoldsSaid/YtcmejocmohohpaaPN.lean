/- Plain laws: folding keeps values. -/
import Derived.Test.YtcmejocmohohpaaPM
set_option maxRecDepth 100000
set_option linter.unusedVariables false
set_option linter.unusedSimpArgs false
noncomputable section
namespace Go.Proofs.Ytcmejocmohohpaa.R
open Go
theorem fold_same {k : Nat} {x : TExpr} (h : KidOk k x) : FoldOk k x x := ⟨h, rfl, fun _ _ _ => rfl⟩
theorem valT_n (b : Bool) : (valT b).N = b2i b := rfl
theorem fold_one {k : Nat} {x y a : TExpr} (hx : OkE x) (h : One k x y) (F : FoldOk k y a) (rc : TExpr → Option TExpr) (e0 : rc y = some a) : ∃ w, m_ref08_fold_B rc x = some w ∧ FoldOk (k + 1) x w := by
  have ta : truK a.Kind = decide (x.Kind = 6) := by rw [F.tru, h.tru]
  have node : FoldOk (k + 1) x (.mk x.Kind 0 ⟨#[]⟩ [a]) := ⟨node1_ok h F.kid F.tru hx, rfl, fun v hv he => by
    rw [one_val h] at he
    split at he
    · rename_i h1; exact absurd he h1
    · rename_i h1
      exact one_mk h v (F.val v hv (by simpa using h1))⟩
  have hval : ∀ v, OkV v → (evalS (k + 1) x v).2 = 0 → (evalS k y v).2 = 0 := by
    intro v hv he
    rw [one_val h] at he
    split at he
    · rename_i h1; exact absurd he h1
    · rename_i h1; simpa using h1
  have hl0 : ¬ ((x.Kids.length : Int) = 0) := by rw [h.kids]; simp
  have hl2 : ¬ ((x.Kids.length : Int) = 2) := by rw [h.kids]; simp
  have hn : nthI x.Kids 0 = some y := by rw [h.kids]; rfl
  have k2 : ∀ f : Bool, (f = true → x.Kind = 5 ∧ a.Kind = 1 ∧ a.N = 0) → ∃ w, m_ref08_fold_k2 x a f = some w ∧ FoldOk (k + 1) x w := by
    intro f hf
    unfold m_ref08_fold_k2
    cases f
    · exact ⟨_, rfl, node⟩
    · obtain ⟨h5, h1, h0⟩ := hf rfl
      refine ⟨a, rfl, F.kid.up, ?_, fun v hv he => ?_⟩
      · rw [h1, h5]; rfl
      · have hy := hval v hv he
        have ea := F.val v hv hy
        have pa := (plain_of F.kid (Or.inl h1)).val v
        rw [lift_val F.kid, one_val h, ← ea, pa, if_pos h1, h0]
        simp [h5, valN, numS, inR]
  unfold m_ref08_fold_B
  simp only [hl0, hl2, decide_false, Bool.false_eq_true, if_false, hn, bnd_some, e0, ref08_plain]
  have k1 : ∀ f : Bool, (f = true → x.Kind = 6 ∧ plainB' a = true) → ∃ w, m_ref08_fold_k1 x a f = some w ∧ FoldOk (k + 1) x w := by
    intro f hf
    unfold m_ref08_fold_k1
    cases f
    · simp only [Bool.false_eq_true, if_false]
      by_cases h5 : x.Kind = 5
      · by_cases h1 : a.Kind = 1
        · simp only [h5, h1, decide_true, if_true]
          exact k2 _ (fun hh => ⟨h5, h1, by simpa using hh⟩)
        · simp only [h5, h1, decide_true, if_true, decide_false, Bool.false_eq_true, if_false]
          exact k2 false (by simp)
      · simp only [h5, decide_false, Bool.false_eq_true, if_false]
        exact k2 false (by simp)
    · obtain ⟨h6, hp⟩ := hf rfl
      simp only [if_true, ref08_yes, bnd_some]
      refine ⟨_, rfl, yesE_ok k _, ?_, fun v hv he => ?_⟩
      · rw [yesE_tru, h6]; rfl
      · have hy := hval v hv he
        have ea := F.val v hv hy
        have P := plain_of F.kid (plainB'_iff.1 hp)
        have n1 : ¬ a.Kind = 1 := by
          intro h1
          rw [h1, h6] at ta
          exact absurd ta (by decide)
        have pa := P.val v
        rw [if_neg n1] at pa
        rw [yesE_val, one_val h, ← ea, pa]
        simp only [ne_eq, not_true_eq_false, if_false, h6, if_true, valT_n]
        rcases P.kind with e | e | e
        · exact absurd e n1
        · simp [e, b2i]
        · simp [e, b2i]
  by_cases h6 : x.Kind = 6
  · simp only [h6, decide_true, if_true]
    exact k1 _ (fun hh => ⟨h6, hh⟩)
  · simp only [h6, decide_false, Bool.false_eq_true, if_false]
    exact k1 false (by simp)
theorem fold_two {k : Nat} {x y z a b : TExpr} (hx : OkE x) (hc : chk (k + 1) x = 0) (ht : typB (k + 1) x = true) (h : Two k x y z) (F : FoldOk k y a) (G : FoldOk k z b) : ∃ w, m_ref08_two x.Kind a b = some w ∧ FoldOk (k + 1) x w := by
  have lo := h.lo
  have hi := h.hi
  have left : ∀ v, OkV v → (evalS (k + 1) x v).2 = 0 → evalS k a v = evalS k y v := by
    intro v hv he
    rw [two_val h] at he
    exact F.val v hv (twoV_left he)
  have right : ∀ v, OkV v → (evalS (k + 1) x v).2 = 0 → x.Kind ≠ 13 → x.Kind ≠ 14 → evalS k b v = evalS k z v := by
    intro v hv he h1 h2
    rw [two_val h] at he
    exact G.val v hv (twoV_strict he h1 h2)
  have node : FoldOk (k + 1) x (.mk x.Kind 0 ⟨#[]⟩ [a, b]) := ⟨node2_ok h F.kid G.kid F.tru G.tru hx ht, rfl, fun v hv he => by
    have el := left v hv he
    rw [two_mk h, two_val h] at *
    rw [el]
    exact twoV_right he (fun hq => G.val v hv hq)⟩
  have good := fun v (hv : OkV v) => evalS_good hv.vals k y h.kid.ok h.kid.chk h.kid.typ
  have good' := fun v (hv : OkV v) => evalS_good hv.vals k z h.kid'.ok h.kid'.chk h.kid'.typ
  unfold m_ref08_two
  by_cases h13 : x.Kind = 13
  · have ta : truK a.Kind = true := by rw [F.tru, h.tru (by omega)]; simp [h13]
    have tb : truK b.Kind = true := by rw [G.tru, h.tru' (by omega)]; simp [h13]
    have tx : truK x.Kind = true := by rw [h13]; rfl
    simp only [h13, decide_true, if_true]
    by_cases h4 : a.Kind = 4
    · simp only [h4, decide_true, if_true]
      refine ⟨a, rfl, F.kid.up, by rw [ta, tx], fun v hv he => ?_⟩
      have pa := (plain_of F.kid (by omega)).val v
      rw [if_neg (by omega), h4] at pa
      have el := left v hv he
      rw [lift_val F.kid, two_val h, ← el, pa]
      simp [twoV, h13, valT, b2i]
    · by_cases h3 : a.Kind = 3
      · simp only [h3, decide_true, if_true, show ((3 : Int) = 4) = False from by decide, decide_false, Bool.false_eq_true, if_false]
        refine ⟨b, rfl, G.kid.up, by rw [tb, tx], fun v hv he => ?_⟩
        have pa := (plain_of F.kid (by omega)).val v
        rw [if_neg (by omega), h3] at pa
        have el := left v hv he
        rw [two_val h, ← el, pa] at he ⊢
        have hq : (evalS k z v).2 = 0 := by
          by_cases hq : (evalS k z v).2 = 0
          · exact hq
          · simp [twoV, h13, valT, b2i, hq] at he
        have one := (good' v hv).one hq (by rw [h.tru' (by omega)]; simp [h13])
        rw [lift_val G.kid, G.val v hv hq]
        simp only [twoV, h13, hq, ne_eq, not_true_eq_false, if_false, valT_n, b2i]
        simp only [decide_true, if_true, show ((1 : Int) = 0) = False from by decide, and_false, if_false, true_or, show ((13 : Int) = 14) = False from by decide, false_and]
        rw [← one]
        exact Prod.ext rfl hq
      · simp only [h3, h4, decide_false, Bool.false_eq_true, if_false]
        rw [h13] at node
        exact ⟨_, rfl, by rw [← h13] at node ⊢; exact node⟩
  · by_cases h14 : x.Kind = 14
    · have ta : truK a.Kind = true := by rw [F.tru, h.tru (by omega)]; simp [h14]
      have tb : truK b.Kind = true := by rw [G.tru, h.tru' (by omega)]; simp [h14]
      have tx : truK x.Kind = true := by rw [h14]; rfl
      simp only [h14, decide_true, if_true, show ((14 : Int) = 13) = False from by decide, decide_false, Bool.false_eq_true, if_false]
      by_cases h3 : a.Kind = 3
      · simp only [h3, decide_true, if_true]
        refine ⟨a, rfl, F.kid.up, by rw [ta, tx], fun v hv he => ?_⟩
        have pa := (plain_of F.kid (by omega)).val v
        rw [if_neg (by omega), h3] at pa
        have el := left v hv he
        rw [lift_val F.kid, two_val h, ← el, pa]
        simp [twoV, h14, valT, b2i]
      · by_cases h4 : a.Kind = 4
        · simp only [h4, decide_true, if_true, show ((4 : Int) = 3) = False from by decide, decide_false, Bool.false_eq_true, if_false]
          refine ⟨b, rfl, G.kid.up, by rw [tb, tx], fun v hv he => ?_⟩
          have pa := (plain_of F.kid (by omega)).val v
          rw [if_neg (by omega), h4] at pa
          have el := left v hv he
          rw [two_val h, ← el, pa] at he ⊢
          have hq : (evalS k z v).2 = 0 := by
            by_cases hq : (evalS k z v).2 = 0
            · exact hq
            · simp [twoV, h14, valT, b2i, hq] at he
          have one := (good' v hv).one hq (by rw [h.tru' (by omega)]; simp [h14])
          rw [lift_val G.kid, G.val v hv hq]
          simp only [twoV, h14, hq, ne_eq, not_true_eq_false, if_false, valT_n, b2i]
          simp only [show ((4 : Int) = 3) = False from by decide, decide_false, Bool.false_eq_true, if_false, show ((0 : Int) = 1) = False from by decide, and_false, or_true, if_true, show ((14 : Int) = 13) = False from by decide, false_and]
          rw [← one]
          exact Prod.ext rfl hq
        · simp only [h3, h4, decide_false, Bool.false_eq_true, if_false]
          exact ⟨_, rfl, by rw [← h14]; exact node⟩
    · simp only [h13, h14, decide_false, Bool.false_eq_true, if_false, ref08_plain, bnd_some]
      have k1 : ∀ f : Bool, (f = false → plainB' a = true ∧ plainB' b = true) → ∃ w, m_ref08_two_k1 x.Kind a b f = some w ∧ FoldOk (k + 1) x w := by
        intro f hf
        unfold m_ref08_two_k1
        cases f
        · obtain ⟨ha, hb⟩ := hf rfl
          have Pa := plain_of F.kid (plainB'_iff.1 ha)
          have Pb := plain_of G.kid (plainB'_iff.1 hb)
          simp only [Bool.false_eq_true, if_false]
          by_cases h11 : x.Kind = 11
          · have same : m_ref08_same a b = some (decide (a.Kind = b.Kind) && decide (a.N = b.N)) := by
              unfold m_ref08_same
              by_cases hk : a.Kind = b.Kind <;> simp [hk]
            simp only [h11, decide_true, if_true, same, ref08_yes, bnd_some]
            refine ⟨_, rfl, yesE_ok k _, by rw [yesE_tru, h11]; rfl, fun v hv he => ?_⟩
            have el := left v hv he
            have er := right v hv he h13 h14
            have tt : truK a.Kind = truK b.Kind := by
              rw [F.tru, G.tru]
              have hh := ht
              rw [typB_succ, List.all_eq_true] at hh
              have hz := hh z (by simp [h.kids])
              unfold kidB at hz
              rw [Bool.and_eq_true] at hz
              have hz := hz.2
              rw [h.kids, h11] at hz
              have hw : wantK 11 = none := by decide
              rw [hw] at hz
              simp only [beq_iff_eq] at hz
              exact hz.symm
            rw [yesE_val, two_val h, ← el, ← er, Pa.val v, Pb.val v]
            have na := Pa.nz
            have nb := Pb.nz
            rcases Pa.kind with ka | ka | ka <;> rcases Pb.kind with kb | kb | kb <;> rw [ka, kb] at tt
            · simp [twoV, h11, ka, kb]
            · exact absurd tt (by decide)
            · exact absurd tt (by decide)
            · exact absurd tt (by decide)
            · simp [twoV, h11, ka, kb, na (by omega), nb (by omega), valT, b2i]
            · simp [twoV, h11, ka, kb, na (by omega), nb (by omega), valT, b2i]
            · exact absurd tt (by decide)
            · simp [twoV, h11, ka, kb, na (by omega), nb (by omega), valT, b2i]
            · simp [twoV, h11, ka, kb, na (by omega), nb (by omega), valT, b2i]
          · have ta : truK a.Kind = false := by rw [F.tru, h.tru h11]; simp [h13, h14]
            have tb : truK b.Kind = false := by rw [G.tru, h.tru' h11]; simp [h13, h14]
            have ka : a.Kind = 1 := by
              rcases Pa.kind with e | e | e
              · exact e
              · rw [e] at ta; exact absurd ta (by decide)
              · rw [e] at ta; exact absurd ta (by decide)
            have kb : b.Kind = 1 := by
              rcases Pb.kind with e | e | e
              · exact e
              · rw [e] at tb; exact absurd tb (by decide)
              · rw [e] at tb; exact absurd tb (by decide)
            simp only [h11, decide_false, Bool.false_eq_true, if_false]
            obtain ⟨r, f, e, hs⟩ := (sums_ok Pa.n0 Pb.n0 F.kid.ok.of.n G.kid.ok.of.n h11).ex
            rw [e, bnd_some]
            cases f
            · exact ⟨_, rfl, node⟩
            · refine ⟨r, rfl, ?_⟩
              rcases hs rfl with ⟨h12, rfl⟩ | ⟨h12, _, n, rfl, n0, n1, n2⟩
              · refine ⟨yesE_ok k _, by rw [yesE_tru, h12]; rfl, fun v hv he => ?_⟩
                have el := left v hv he
                have er := right v hv he h13 h14
                rw [yesE_val, two_val h, ← el, ← er, Pa.val v, Pb.val v]
                simp [twoV, h12, ka, kb]
              · refine ⟨leaf_ok (Or.inl rfl) n0 n1 (Or.inr rfl), ?_, fun v hv he => ?_⟩
                · have : x.Kind = 7 ∨ x.Kind = 8 ∨ x.Kind = 9 ∨ x.Kind = 10 := by omega
                  rcases this with e | e | e | e <;> rw [e] <;> rfl
                · have el := left v hv he
                  have er := right v hv he h13 h14
                  rw [leaf_val, two_val h, ← el, ← er, Pa.val v, Pb.val v]
                  simp [twoV, h11, h12, h13, h14, ka, kb, n2, valN]
        · exact ⟨_, rfl, node⟩
      cases ha : plainB' a
      · simp only [Bool.false_eq_true, if_false]
        exact k1 true (by simp)
      · simp only [if_true]
        refine k1 _ (fun hh => ⟨ha, by simpa using hh⟩)
theorem fold_ok : ∀ (k : Nat) (x : TExpr) (n : Nat), OkE x → chk k x = 0 → typB k x = true → k < n → ∃ y, m_ref08_fold n x = some y ∧ FoldOk k x y
  | 0, x, n, hx, h, ht, hn => by simp [chk] at h
  | k + 1, x, n, hx, hc, ht, hn => by
    obtain ⟨n, rfl⟩ : ∃ n', n = n' + 1 := ⟨n - 1, by omega⟩
    rw [m_ref08_fold]
    rcases forms hx hc ht with h | ⟨y, h⟩ | ⟨y, z, h⟩
    · refine ⟨x, ?_, fold_same ⟨hx, hc, ht⟩⟩
      unfold m_ref08_fold_B
      simp [h.kids]
    · obtain ⟨a, e0, F⟩ := fold_ok k y n h.kid.ok h.kid.chk h.kid.typ (by omega)
      exact fold_one hx h F _ e0
    · obtain ⟨a, e0, F⟩ := fold_ok k y n h.kid.ok h.kid.chk h.kid.typ (by omega)
      obtain ⟨b, e1, G⟩ := fold_ok k z n h.kid'.ok h.kid'.chk h.kid'.typ (by omega)
      obtain ⟨w, e2, K⟩ := fold_two hx hc ht h F G
      refine ⟨w, ?_, K⟩
      have hl0 : ¬ ((x.Kids.length : Int) = 0) := by rw [h.kids]; simp
      have hl2 : (x.Kids.length : Int) = 2 := by rw [h.kids]; rfl
      have hn0 : nthI x.Kids 0 = some y := by rw [h.kids]; rfl
      have hn1 : nthI x.Kids 1 = some z := by rw [h.kids]; rfl
      unfold m_ref08_fold_B
      simp only [hl2, show ((2 : Int) = 0) = False from by decide, decide_false, Bool.false_eq_true, if_false, hn0, bnd_some, e0, decide_true, if_true, hn1, e1, e2]
theorem ans_EvalFolds {x : TExpr} {v : TVars} (hx : OkE x) (hv : OkV v) : m_law10_EvalFolds x v = some true := by
  obtain ⟨b, h, _⟩ := light_ok (v := v) hx
  rw [m_law10_EvalFolds, h, bnd_some]
  cases b
  · simp [works_eq, bnd_some]
  · simp only [if_true, m_ref08_Fold, ref08_Truth hx, bnd_some]
    by_cases ht : (truR x).2 = 0
    · obtain ⟨h0, h1⟩ := truR_zero ht
      obtain ⟨y, e, F⟩ := fold_ok 16 x 100 hx h0 h1 (by decide)
      simp only [ht, ne_eq, not_true_eq_false, decide_false, Bool.false_eq_true, if_false, e, bnd_some, eval_Of hx hv, m_law10_EvalFolds_k1]
      by_cases hr : (evalR x v).2 = 0
      · have ty : (truR y).2 = 0 := by unfold truR; rw [if_pos F.kid.chk, if_pos F.kid.typ]
        have hc : vchk v = 0 := by
          by_cases hc : vchk v = 0
          · exact hc
          · unfold evalR at hr
            rw [if_neg (by simpa using ht), if_pos hc] at hr
            exact absurd hr hc
        have ex : evalR x v = evalS 16 x v := by unfold evalR; simp [ht, hc]
        have ey : evalR y v = evalS 16 y v := by unfold evalR; simp [ty, hc]
        have eq : evalR y v = evalR x v := by
          rw [ex] at hr
          rw [ex, ey, F.val v hv hr]
        simp [hr, eval_Of F.kid.ok hv, eq, works_eq, bnd_some]
      · simp [hr, works_eq, bnd_some]
    · have e2 : (evalR x v).2 = (truR x).2 := by unfold evalR; simp [ht]
      simp [ht, eval_Of hx hv, m_law10_EvalFolds_k1, works_eq, bnd_some]
end Go.Proofs.Ytcmejocmohohpaa.R
