/- What the kernel reckons: the laws' own examples. -/
import Derived.Test.YtgoachcogmlhcaaGreatRAuto
import Derived.Test.YtgoachcogmlhcaaGreatRCfg
import Derived.KernelRfl
set_option maxRecDepth 100000
set_option maxHeartbeats 1600000
set_option linter.unusedVariables false
set_option linter.unusedSimpArgs false
set_option linter.defProp false
noncomputable section
namespace Go.Proofs.YtgoachcogmlhcaaGreat.R
open Go Nat
noncomputable abbrev Pg:Program:=Go.Proofs.Tryz.prog
theorem yao:(Pg).follows .mixedOrders=true:=by kernel_rfl
theorem ydoj:yaxv cfg:=fun f i h=>let ⟨fn,V,h1,h2,_⟩:=ycfc f i h; ⟨fn,V,h1,h2⟩
theorem zaaf:ype cfg yccf 100 5 [] [] 0=some (.bool true,[],0):=by kernel_rfl
theorem zzl:yag Pg 5 [] [] 0 (.bool true) [] 0:=yag.of_callF (c:=cfg) ydoj (ycrr yao) (ybqz _) zaaf
end Go.Proofs.YtgoachcogmlhcaaGreat.R
