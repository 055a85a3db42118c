/- Plain laws: the laws of kinds of values. -/
import Derived.Test.YtcmejocmohohpaaPK
set_option maxRecDepth 100000
set_option linter.unusedVariables false
set_option linter.unusedSimpArgs false
noncomputable section
namespace Go.Proofs.Ytcmejocmohohpaa.R
open Go
def ErrN (p : Int × Int) : Prop := p.2 = 0 ∨ (p.1 = 0 ∧ (p.2 = 12 ∨ p.2 = 13))
theorem numS_errN (k a b : Int) : ErrN (numS k a b) := by
  unfold numS ErrN
  repeat' split
  all_goals simp
end Go.Proofs.Ytcmejocmohohpaa.R
