/- The law EvalRenames, over the program: its row holds. -/
import Derived.Test.YtcmejocmohohpaaRows
import Derived.Test.YtcmejocmohohpaaMW10
import Derived.Test.YtcmejocmohohpaaPJ
import Derived.Test.YtcmejocmohohpaaPR
import Derived.ProofKit
set_option maxRecDepth 100000
set_option linter.unusedVariables false
noncomputable section
namespace Go.Proofs.Ytcmejocmohohpaa
open Go.ChangeShapes Go.WideShapes Go.ChangeAt Go.RowKit
theorem Try.own : ownKnob Try.prog.godebug = none := by kernel_rfl
theorem Try.laidOut : laidOutB Try.prog = true := by kernel_rfl
abbrev tysA : List TypeId := [24, 28, 3, 2, 9, 22, 25, 26]
theorem tysA_ok : R.tysB Try.prog tysA = true := by kernel_rfl
theorem readA : tysA.all (fun t => Try.prog.readableRec t && decide (t < Try.prog.types.size)) = true := by kernel_rfl
theorem readA' {l : List TypeId} (h : ∀ t ∈ l, tysA.contains t = true) : ∀ t ∈ l, Try.prog.readableRec t = true ∧ t < Try.prog.types.size := by
  intro t ht
  have := List.all_eq_true.1 readA t (by simpa using h t ht)
  simpa using this
theorem evalRenames_lifted (os : Os) (started : os.Started) (H : Type) (enc : TypeId × Value → H) :
    ReturnsInHanded {} Try.checked os 8 .any (Rows.evalRenamesSpec.pre6 enc Try.prog Try.f8 Rows.evalRenamesRow.domain false) (Rows.evalRenamesSpec.post enc Try.prog Try.f8 Rows.evalRenamesRow.apart Rows.evalRenamesRow.fresh Rows.evalRenamesRow.handsOn Rows.evalRenamesRow.again) := by
  refine returnsInHanded_of_change (C := Try.checked) Try.own started (by kernel_rfl) Try.func8
    (ChangeSpec.witness6 (enc := enc) (C := Try.checked) false ⟨#[], #[.agg #[.int .i64 0, .int .i64 0, .string ⟨#[]⟩, .slice none 0 0], .agg #[.slice none 0 0, .slice none 0 0], .string ⟨#[]⟩, .string ⟨#[]⟩], []⟩ 8 (by kernel_rfl) (by kernel_rfl) (by kernel_rfl) (by kernel_rfl)) ?_
  intro W base args ds gs before hval hW _ _
  have hc : ∀ t ∈ Try.f8.params.toList, tysA.contains t = true := by
    rw [Try.params8]
    decide
  refine R.law_spec tysA_ok hc Try.laidOut (readA' hc) (by kernel_rfl) Try.underlying4 rfl ?_ ?_ hval hW
  · intro ds hl
    rw [Try.params8] at hl
    match ds, hl with
    | [a, b, c, d], _ => rfl
  · intro avs ha
    rw [Try.params8] at ha
    obtain ⟨x, v, s, i, rfl, hx, hv, hs, hi⟩ := R.argsEVSS ha
    have := R.w_m_law10_EvalRenames (R.ans_EvalRenames hx hv hs hi)
    rw [← R.TExpr.c_eq, ← R.TVars.c_eq] at this
    exact ⟨_, _, this⟩
theorem evalRenames_holds : Rows.EvalRenamesSaid :=
  OpenClaim.holds_of_wide 8 Try.f8 rfl rfl rfl rfl rfl rfl rfl ⟨rfl, rfl, rfl, rfl, rfl⟩ rfl rfl rfl rfl rfl (by kernel_rfl) Try.func8 (by kernel_rfl)
    (of_decide_eq_true (by kernel_rfl)) (by unfold Func.isWrapper; first | (rw [if_pos (by decide +kernel)]; kernel_rfl) | (rw [if_neg (by decide +kernel)]; exact ⟨rfl, rfl⟩))
    (fun os started H enc _ => evalRenames_lifted os started H enc)
end Go.Proofs.Ytcmejocmohohpaa
