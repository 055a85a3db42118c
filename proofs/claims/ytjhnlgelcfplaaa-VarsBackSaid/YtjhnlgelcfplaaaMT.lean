/- Types of the models. -/
import Derived.Test.YtjhnlgelcfplaaaRInl
set_option maxRecDepth 100000
set_option maxHeartbeats 1600000
set_option linter.unusedVariables false
set_option linter.unusedSimpArgs false
set_option linter.defProp false
noncomputable section
namespace Go.Proofs.Ytjhnlgelcfplaaa.R
open Go Nat
structure TVars where
  Names : (List ByteArray)
  Vals : (List Int)
def TVars.c (x : TVars) : List AV := [sl cs x.Names, sl (ci .i64) x.Vals]
theorem TVars.c_eq (x : TVars) : TVars.c x = [sl cs x.Names, sl (ci .i64) x.Vals] := rfl
instance : Row TVars.c 2 := ⟨fun _ => rfl, fun _ => rfl, fun _ => rfl⟩
def EVt := And.intro @TVars.c_eq (@b_tt)
end Go.Proofs.Ytjhnlgelcfplaaa.R
