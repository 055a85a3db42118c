import Derived.Test.YtgoachcogmlhcaaRAuto
import Derived.Test.YtgoachcogmlhcaaRCfg
import Derived.KernelRfl
set_option maxRecDepth 100000
set_option maxHeartbeats 1600000
set_option linter.unusedVariables false
set_option linter.unusedSimpArgs false
set_option linter.defProp false
noncomputable section
namespace Go.Proofs.Ytgoachcogmlhcaa.R
open Go Nat
abbrev Pg:Program:=Go.Proofs.Try.prog
theorem yau:(Pg).follows .mixedOrders=true:=by kernel_rfl
theorem ydie:ybbi cfg:=fun f i h=>let ⟨fn,V,h1,h2,_⟩:=ycfh f i h; ⟨fn,V,h1,h2⟩
theorem zsh:ytl cfg yccd 100 10 [] [] 0=some (.bool true,[],0):=by kernel_rfl
theorem zrq:yap Pg 10 [] [] 0 (.bool true) [] 0:=yap.of_callF (c:=cfg) ydie (ycov yau) (ybrb _) zsh
end Go.Proofs.Ytgoachcogmlhcaa.R
