/- The program's functions answer what the models answer: 3. -/
import Derived.Test.YtefjblgmnoheiaaMW0
import Derived.Test.YtefjblgmnoheiaaMW2
set_option maxRecDepth 100000
set_option maxHeartbeats 1600000
set_option linter.unusedVariables false
set_option linter.unusedSimpArgs false
set_option linter.defProp false
noncomputable section
namespace Go.Proofs.Ytefjblgmnoheiaa.R
open Go Nat
/-! funicular/funicularref09.Check -/
/-! funicular/funicularref22.took -/
/-! funicular/funicularref22.Mail -/
/-! funicular/funicularref22.Sub -/
/-! funicular/funicularref22.ahead -/
/-! funicular/funicularref22.Check -/
/-! funicular/funicularref08.Texts -/
/-! funicular/funicularref09.Same -/
end Go.Proofs.Ytefjblgmnoheiaa.R
