/- The program's functions answer what the models answer: 6. -/
import Derived.Test.YtcmejocmohohpaaMW0
import Derived.Test.YtcmejocmohohpaaMW4
import Derived.Test.YtcmejocmohohpaaMW5
set_option maxRecDepth 100000
set_option linter.unusedVariables false
set_option linter.unusedSimpArgs false
noncomputable section
namespace Go.Proofs.Ytcmejocmohohpaa.R
open Go Nat
/-! funicular/funicularref10.product -/
/-! funicular/funicularref10.small -/
/-! funicular/funicularref10.two -/
/-! funicular/funicularref10.of -/
/-! funicular/funicularref10.Of -/
/-! funicular/eval.Number -/
/-! funicular/eval.Truth -/
/-! funicular/funicularref08.plain -/
/-! funicular/funicularref08.yes -/
/-! funicular/funicularref08.same -/
/-! funicular/funicularref08.num -/
end Go.Proofs.Ytcmejocmohohpaa.R
