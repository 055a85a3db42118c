/- Whatever acts: no subscription is given two messages while it is open, no message is given to two subscriptions of one instance, and what may be stays so: PostOnce answers true at every input. No condition. -/
import Derived.Test.YtefjblgmnoheiaaRows
import Derived.Test.YtefjblgmnoheiaaMW8
import Derived.Test.YtefjblgmnoheiaaYJ
import Derived.Test.YtefjblgmnoheiaaZC
import Derived.ProofKit
set_option maxRecDepth 100000
set_option linter.unusedVariables false
noncomputable section
namespace Go.Proofs.Ytefjblgmnoheiaa
open Go.ChangeShapes Go.WideShapes Go.ChangeAt Go.RowKit
theorem Try.own : ownKnob Try.prog.godebug = none := by kernel_rfl
theorem Try.laidOut : laidOutB Try.prog = true := by kernel_rfl
abbrev tysA : List TypeId := [57, 37, 35, 32, 33, 9, 2, 3]
theorem tysA_ok : R.tysB Try.prog tysA = true := by kernel_rfl
theorem readA : tysA.all (fun t => Try.prog.readableRec t && decide (t < Try.prog.types.size)) = true := by kernel_rfl
theorem readA' {l : List TypeId} (h : ∀ t ∈ l, tysA.contains t = true) : ∀ t ∈ l, Try.prog.readableRec t = true ∧ t < Try.prog.types.size := by
  intro t ht
  have := List.all_eq_true.1 readA t (by simpa using h t ht)
  simpa using this
set_option maxRecDepth 100000 in
theorem postOnce_lifted (os : Os) (started : os.Started) (H : Type) (enc : TypeId × Value → H) :
    ReturnsInHanded {} Try.checked os 6 .any (Rows.postOnceSpec.pre6 enc Try.prog Try.f6 Rows.postOnceRow.domain false) (Rows.postOnceSpec.post enc Try.prog Try.f6 Rows.postOnceRow.apart Rows.postOnceRow.fresh Rows.postOnceRow.handsOn Rows.postOnceRow.again) := by
  refine returnsInHanded_of_change_sized (C := Try.checked) Try.own started (by kernel_rfl) Try.func6
    (ChangeSpec.witness6 (enc := enc) (C := Try.checked) false ⟨#[], #[.slice none 0 0], []⟩ 8 (by kernel_rfl) (by kernel_rfl) (by kernel_rfl) (by kernel_rfl)) ?_
  intro W base args ds gs before hval hW _ hz _
  have hc : ∀ t ∈ Try.f6.params.toList, tysA.contains t = true := by
    rw [Try.params6]
    decide
  refine R.law_spec tysA_ok hc Try.laidOut (readA' hc) (by kernel_rfl) Try.underlying4 rfl ?_ ?_ hval hW hz
  · intro ds hl
    rw [Try.params6] at hl
    match ds, hl with
    | [a], _ => rfl
  · intro avs ha
    rw [Try.params6] at ha
    obtain ⟨l, rfl, hp, hq⟩ := R.argsL ha
    have := R.w_m_law22_PostOnce (R.ans_PostOnce hp hq)
    exact ⟨_, _, this⟩
theorem postOnce_holds : Rows.PostOnceSaid :=
  OpenClaim.holds_of_wide 6 Try.f6 rfl rfl rfl rfl rfl rfl rfl ⟨rfl, rfl, rfl, rfl, rfl⟩ rfl rfl rfl rfl rfl (by kernel_rfl) Try.func6 (by kernel_rfl)
    (of_decide_eq_true (by kernel_rfl)) (by unfold Func.isWrapper; first | (rw [if_pos (by decide +kernel)]; kernel_rfl) | (rw [if_neg (by decide +kernel)]; exact ⟨rfl, rfl⟩))
    (fun os started H enc _ => postOnce_lifted os started H enc)
end Go.Proofs.Ytefjblgmnoheiaa
