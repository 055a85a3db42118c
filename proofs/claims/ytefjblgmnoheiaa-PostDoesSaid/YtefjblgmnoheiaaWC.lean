/- Whatever post and act: what a post is with one more message, or subscription, without one, or without what is over, and what is given to whom, is what the chapter says: PostDoes answers true at every input. No condition. -/
import Derived.Test.YtefjblgmnoheiaaRows
import Derived.Test.YtefjblgmnoheiaaMW7
import Derived.Test.YtefjblgmnoheiaaYJ
import Derived.Test.YtefjblgmnoheiaaYE
import Derived.ProofKit
set_option maxRecDepth 100000
set_option linter.unusedVariables false
noncomputable section
namespace Go.Proofs.Ytefjblgmnoheiaa
open Go.ChangeShapes Go.WideShapes Go.ChangeAt Go.RowKit
theorem Try.own : ownKnob Try.prog.godebug = none := by kernel_rfl
theorem Try.laidOut : laidOutB Try.prog = true := by kernel_rfl
abbrev tysA : List TypeId := [25, 37, 22, 23, 70, 45, 35, 32, 33, 61, 68, 9, 2, 3]
theorem tysA_ok : R.tysB Try.prog tysA = true := by kernel_rfl
theorem readA : tysA.all (fun t => Try.prog.readableRec t && decide (t < Try.prog.types.size)) = true := by kernel_rfl
theorem readA' {l : List TypeId} (h : ∀ t ∈ l, tysA.contains t = true) : ∀ t ∈ l, Try.prog.readableRec t = true ∧ t < Try.prog.types.size := by
  intro t ht
  have := List.all_eq_true.1 readA t (by simpa using h t ht)
  simpa using this
set_option maxRecDepth 100000 in
theorem postDoes_lifted (os : Os) (started : os.Started) (H : Type) (enc : TypeId × Value → H) :
    ReturnsInHanded {} Try.checked os 4 .any (Rows.postDoesSpec.pre6 enc Try.prog Try.f4 Rows.postDoesRow.domain false) (Rows.postDoesSpec.post enc Try.prog Try.f4 Rows.postDoesRow.apart Rows.postDoesRow.fresh Rows.postDoesRow.handsOn Rows.postDoesRow.again) := by
  refine returnsInHanded_of_change_sized (C := Try.checked) Try.own started (by kernel_rfl) Try.func4
    (ChangeSpec.witness6 (enc := enc) (C := Try.checked) false ⟨#[], #[.agg #[.int .i64 0, .slice none 0 0, .slice none 0 0], .agg #[.int .i64 0, .string ⟨#[]⟩, .int .i64 0, .slice none 0 0, .slice none 0 0, .int .i64 0, .int .i64 0, .int .i64 0, .int .i64 0, .int .i64 0]], []⟩ 8 (by kernel_rfl) (by kernel_rfl) (by kernel_rfl) (by kernel_rfl)) ?_
  intro W base args ds gs before hval hW _ hz _
  have hc : ∀ t ∈ Try.f4.params.toList, tysA.contains t = true := by
    rw [Try.params4]
    decide
  refine R.law_spec tysA_ok hc Try.laidOut (readA' hc) (by kernel_rfl) Try.underlying4 rfl ?_ ?_ hval hW hz
  · intro ds hl
    rw [Try.params4] at hl
    match ds, hl with
    | [a, b], _ => rfl
  · intro avs ha
    rw [Try.params4] at ha
    obtain ⟨p, o, rfl, hp, hq⟩ := R.argsPO ha
    have := R.w_m_law22_PostDoes (R.ans_PostDoes hp hq)
    rw [← R.TPost.c_eq, ← R.TOp.c_eq] at this
    exact ⟨_, _, this⟩
theorem postDoes_holds : Rows.PostDoesSaid :=
  OpenClaim.holds_of_wide 4 Try.f4 rfl rfl rfl rfl rfl rfl rfl ⟨rfl, rfl, rfl, rfl, rfl⟩ rfl rfl rfl rfl rfl (by kernel_rfl) Try.func4 (by kernel_rfl)
    (of_decide_eq_true (by kernel_rfl)) (by unfold Func.isWrapper; first | (rw [if_pos (by decide +kernel)]; kernel_rfl) | (rw [if_neg (by decide +kernel)]; exact ⟨rfl, rfl⟩))
    (fun os started H enc _ => postDoes_lifted os started H enc)
end Go.Proofs.Ytefjblgmnoheiaa
