/- What the kernel reckons: the laws' own examples. -/
import Derived.Test.YtgoachcogmlhcaaRAuto
import Derived.Test.YtgoachcogmlhcaaRCfg
import Derived.KernelRfl
set_option maxRecDepth 100000
set_option maxHeartbeats 1600000
set_option linter.unusedVariables false
set_option linter.unusedSimpArgs false
set_option linter.defProp false
noncomputable section
namespace Go.Proofs.Ytgoachcogmlhcaa.R
open Go Nat
noncomputable abbrev Pg:Program:=Go.Proofs.Try.prog
theorem mixed:(Pg).follows .mixedOrders=true:=by kernel_rfl
theorem cfgOk:CfgOk cfg:=fun f i h=>let ⟨fn,V,h1,h2,_⟩:=fnOf_ok f i h; ⟨fn,V,h1,h2⟩
theorem zrb:callF cfg drawA 100 10 [] [] 0=some (.bool true,[],0):=by kernel_rfl
theorem zqk:Spec Pg 10 [] [] 0 (.bool true) [] 0:=Spec.of_callF (c:=cfg) cfgOk (drawOk mixed) (noneOk _) zrb
end Go.Proofs.Ytgoachcogmlhcaa.R
