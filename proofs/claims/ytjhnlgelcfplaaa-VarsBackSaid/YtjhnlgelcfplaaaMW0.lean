/- What the kernel reckons: the laws' own examples. -/
import Derived.Test.YtjhnlgelcfplaaaRAuto
import Derived.Test.YtjhnlgelcfplaaaRCfg
import Derived.Test.YtjhnlgelcfplaaaIns
import Derived.KernelRfl
set_option maxRecDepth 100000
set_option maxHeartbeats 1600000
set_option linter.unusedVariables false
set_option linter.unusedSimpArgs false
set_option linter.defProp false
noncomputable section
namespace Go.Proofs.Ytjhnlgelcfplaaa.R
open Go Nat
noncomputable abbrev Pg : Program := Go.Proofs.Try.prog
theorem mixed : (Pg).follows .mixedOrders = true := by kernel_rfl
theorem cfgOk : CfgOk cfg := fun f i h => let ⟨fn, V, h1, h2, _⟩ := fnOf_ok f i h; ⟨fn, V, h1, h2⟩
noncomputable def cfgI : Cfg := { cfg with pr := insP [68, 69] }
theorem cfgIOk : CfgOk cfgI := cfgOk
theorem m_law09_works_run : callF cfgI drawA 100 13 [] [] 0 = some (.bool true, [], 0) := by kernel_rfl
theorem m_law09_works_spec : Spec Pg 13 [] [] 0 (.bool true) [] 0 := Spec.of_callF (c := cfgI) cfgIOk (drawOk mixed) insOk m_law09_works_run
end Go.Proofs.Ytjhnlgelcfplaaa.R
