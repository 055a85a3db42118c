/- What the kernel reckons: the laws' own examples. Publish, Open, Close and Expire keep what they change in arrays whose elements lead to other arrays. -/
import Derived.Test.YtefjblgmnoheiaaRBun
import Derived.Test.YtefjblgmnoheiaaRCfg
import Derived.Test.YtefjblgmnoheiaaDelS
import Derived.KernelRfl
import Derived.Test.YtefjblgmnoheiaaRAuto
set_option linter.unusedVariables false
noncomputable section
namespace Go.Proofs.Ytefjblgmnoheiaa.R
open Go
noncomputable abbrev Pg : Program := Go.Proofs.Try.prog
theorem mixed : (Pg).follows .mixedOrders = true := by kernel_rfl
theorem cfgOk : CfgOk cfg := fun f i h => let ⟨fn, V, h1, h2, _⟩ := fnOf_ok f i h; ⟨fn, V, h1, h2⟩
noncomputable def cfgI : Cfg := { cfg with pr := delP [(67, 6)], ax := 7 }
theorem cfgIOk : CfgOk cfgI := cfgOk
def actB (f : Nat) : Bool := Nat.beq f 16 || (Nat.beq f 19 || (Nat.beq f 22 || Nat.beq f 24))
def actP : Callee := fun f args H m => bif actB f then callF cfgI drawA 60 f args H m else none
theorem actOk : Sound Pg actP := by
  have h := sound_callF (c := cfgI) cfgIOk (drawOk mixed) delOk 60
  refine ⟨h.cln, fun {f args H m r} hx => ?_, fun {f args H m r H' n'} hx => ?_⟩
  · unfold actP at hx
    cases hb : actB f <;> rw [hb] at hx
    · cases hx
    · exact h.fn hx
  · unfold actP at hx
    cases hb : actB f <;> rw [hb] at hx
    · cases hx
    · exact h.calls hx
noncomputable def cfgW : Cfg := { cfg with fn := fun f => bif actB f then none else fnOf f, pr := actP }
theorem cfgWOk : CfgOk cfgW := fun f i h => by
  refine cfgOk f i ?_
  simp only [cfgW] at h
  cases hb : actB f <;> rw [hb] at h
  · exact h
  · cases h
theorem works_run : callF cfgW drawA 60 9 [] [] 0 = some (.bool true, [], 0) := by kernel_rfl
theorem works_spec : Spec Pg 9 [] [] 0 (.bool true) [] 0 := Spec.of_callF cfgWOk (drawOk mixed) actOk works_run
end Go.Proofs.Ytefjblgmnoheiaa.R

/- What the kernel reckons: the laws' own examples. -/
noncomputable section
namespace Go.Proofs.Ytefjblgmnoheiaa.R
open Go Nat
theorem m_law22_works_spec : Spec Pg 9 [] [] 0 (.bool true) [] 0 := works_spec
end Go.Proofs.Ytefjblgmnoheiaa.R

