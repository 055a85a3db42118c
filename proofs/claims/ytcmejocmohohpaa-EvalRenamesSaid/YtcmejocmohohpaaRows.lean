/-
  NARROWER THAN 'FOR EVERY INPUT', by the rows' own cells (each row's printed sentence says how): EvalOf: loops · EvalAs: loops · EvalTyped: loops · EvalFolds: loops · EvalAsks: loops · EvalRenames: loops.
  DERIVED. THE GIVEN ROWS OF THIS SEAT. 6 by the template 'for every input the law returns true; each argument reads behind the call as it read before'; 0 by the template 'total and deterministic' (their statements: YtcmejocmohohpaaTotals.lean).
  GIVEN WITH THE SEED: the statements are not yours to turn. If you find one false, say at which input.
  Laid BY PROGRAM, IN A SANDBOX (cutbox-rows.mjs): the forced cells as the released guide's own fill.sh prints them over the translation f95be5a34fe49e7b… (all of the seat's roots in one cut). By AI agents, Wed Nov 11 2026. No macro, syntax, notation, axiom, sorry.
-/
import Derived.Test.YtcmejocmohohpaaChecked
import GoSem.Claim
import GoSem.ClaimJoined
import GoSem.ClaimMapViews
import Derived.JoinedTies
import Derived.KernelRfl
namespace Go.Proofs.Ytcmejocmohohpaa
/- THE CELL 'sum', in the pinned program and in every row, IS THE sha256 OF THE DUMP (.gsa) THAT YtcmejocmohohpaaProg.lean LOADS. Nothing in Lean hashes anything: it is a label: what it is worth is what the hold of that sum in a sandbox is worth. -/
noncomputable def Try.pinned : Pinned := { name := "ytcmejocmohohpaa", sum := "f95be5a34fe49e7b0084b38b7cb03d7af30f4b1238b97c5d4d9ec8434eda7c5c", checked := Try.checked }
namespace Rows
def none {H : Type} : Left H := { results := [], args := [] }

/-- 'funicularlaw10.EvalOf': WHATEVER THE INPUT: true; the input reads as it did. -/
def evalOfSpec : ChangeSpec := { name := "evalOf", fn := fun _ => fun
  | [d1, d2] => { results := [.lit (.bool true)], args := [d1, d2] }
  | _ => none }
def evalOfRow : OpenClaim := { program := "ytcmejocmohohpaa", sum := "f95be5a34fe49e7b0084b38b7cb03d7af30f4b1238b97c5d4d9ec8434eda7c5c", func := "funicular/funicularlaw10.EvalOf", spec := "evalOf", unfollowed := true, recurses := true, loops := true, apart := false }
def EvalOfSaid : Prop := evalOfRow.holds Try.pinned (OpenSpec.ofChange evalOfSpec)

/-- ITS FALSE NEIGHBOUR: 'it returns false'. Refute it at one input. -/
def evalOfWrong : ChangeSpec := { name := "evalOf", fn := fun _ => fun
  | [d1, d2] => { results := [.lit (.bool false)], args := [d1, d2] }
  | _ => none }
def EvalOfWrongFalsely : Prop := evalOfRow.holds Try.pinned (OpenSpec.ofChange evalOfWrong)

/-- 'funicularlaw10.EvalAs': WHATEVER THE INPUT: true; the input reads as it did. -/
def evalAsSpec : ChangeSpec := { name := "evalAs", fn := fun _ => fun
  | [d1, d2] => { results := [.lit (.bool true)], args := [d1, d2] }
  | _ => none }
def evalAsRow : OpenClaim := { program := "ytcmejocmohohpaa", sum := "f95be5a34fe49e7b0084b38b7cb03d7af30f4b1238b97c5d4d9ec8434eda7c5c", func := "funicular/funicularlaw10.EvalAs", spec := "evalAs", unfollowed := true, recurses := true, loops := true, apart := false }
def EvalAsSaid : Prop := evalAsRow.holds Try.pinned (OpenSpec.ofChange evalAsSpec)

/-- ITS FALSE NEIGHBOUR: 'it returns false'. Refute it at one input. -/
def evalAsWrong : ChangeSpec := { name := "evalAs", fn := fun _ => fun
  | [d1, d2] => { results := [.lit (.bool false)], args := [d1, d2] }
  | _ => none }
def EvalAsWrongFalsely : Prop := evalAsRow.holds Try.pinned (OpenSpec.ofChange evalAsWrong)

/-- 'funicularlaw10.EvalTyped': WHATEVER THE INPUT: true; the input reads as it did. -/
def evalTypedSpec : ChangeSpec := { name := "evalTyped", fn := fun _ => fun
  | [d1, d2] => { results := [.lit (.bool true)], args := [d1, d2] }
  | _ => none }
def evalTypedRow : OpenClaim := { program := "ytcmejocmohohpaa", sum := "f95be5a34fe49e7b0084b38b7cb03d7af30f4b1238b97c5d4d9ec8434eda7c5c", func := "funicular/funicularlaw10.EvalTyped", spec := "evalTyped", unfollowed := true, recurses := true, loops := true, apart := false }
def EvalTypedSaid : Prop := evalTypedRow.holds Try.pinned (OpenSpec.ofChange evalTypedSpec)

/-- ITS FALSE NEIGHBOUR: 'it returns false'. Refute it at one input. -/
def evalTypedWrong : ChangeSpec := { name := "evalTyped", fn := fun _ => fun
  | [d1, d2] => { results := [.lit (.bool false)], args := [d1, d2] }
  | _ => none }
def EvalTypedWrongFalsely : Prop := evalTypedRow.holds Try.pinned (OpenSpec.ofChange evalTypedWrong)

/-- 'funicularlaw10.EvalFolds': WHATEVER THE INPUT: true; the input reads as it did. -/
def evalFoldsSpec : ChangeSpec := { name := "evalFolds", fn := fun _ => fun
  | [d1, d2] => { results := [.lit (.bool true)], args := [d1, d2] }
  | _ => none }
def evalFoldsRow : OpenClaim := { program := "ytcmejocmohohpaa", sum := "f95be5a34fe49e7b0084b38b7cb03d7af30f4b1238b97c5d4d9ec8434eda7c5c", func := "funicular/funicularlaw10.EvalFolds", spec := "evalFolds", unfollowed := true, recurses := true, loops := true, apart := false }
def EvalFoldsSaid : Prop := evalFoldsRow.holds Try.pinned (OpenSpec.ofChange evalFoldsSpec)

/-- ITS FALSE NEIGHBOUR: 'it returns false'. Refute it at one input. -/
def evalFoldsWrong : ChangeSpec := { name := "evalFolds", fn := fun _ => fun
  | [d1, d2] => { results := [.lit (.bool false)], args := [d1, d2] }
  | _ => none }
def EvalFoldsWrongFalsely : Prop := evalFoldsRow.holds Try.pinned (OpenSpec.ofChange evalFoldsWrong)

/-- 'funicularlaw10.EvalAsks': WHATEVER THE INPUT: true; the input reads as it did. -/
def evalAsksSpec : ChangeSpec := { name := "evalAsks", fn := fun _ => fun
  | [d1, d2, d3, d4] => { results := [.lit (.bool true)], args := [d1, d2, d3, d4] }
  | _ => none }
def evalAsksRow : OpenClaim := { program := "ytcmejocmohohpaa", sum := "f95be5a34fe49e7b0084b38b7cb03d7af30f4b1238b97c5d4d9ec8434eda7c5c", func := "funicular/funicularlaw10.EvalAsks", spec := "evalAsks", unfollowed := true, recurses := true, loops := true, apart := false }
def EvalAsksSaid : Prop := evalAsksRow.holds Try.pinned (OpenSpec.ofChange evalAsksSpec)

/-- ITS FALSE NEIGHBOUR: 'it returns false'. Refute it at one input. -/
def evalAsksWrong : ChangeSpec := { name := "evalAsks", fn := fun _ => fun
  | [d1, d2, d3, d4] => { results := [.lit (.bool false)], args := [d1, d2, d3, d4] }
  | _ => none }
def EvalAsksWrongFalsely : Prop := evalAsksRow.holds Try.pinned (OpenSpec.ofChange evalAsksWrong)

/-- 'funicularlaw10.EvalRenames': WHATEVER THE INPUT: true; the input reads as it did. -/
def evalRenamesSpec : ChangeSpec := { name := "evalRenames", fn := fun _ => fun
  | [d1, d2, d3, d4] => { results := [.lit (.bool true)], args := [d1, d2, d3, d4] }
  | _ => none }
def evalRenamesRow : OpenClaim := { program := "ytcmejocmohohpaa", sum := "f95be5a34fe49e7b0084b38b7cb03d7af30f4b1238b97c5d4d9ec8434eda7c5c", func := "funicular/funicularlaw10.EvalRenames", spec := "evalRenames", unfollowed := true, recurses := true, loops := true, apart := false }
def EvalRenamesSaid : Prop := evalRenamesRow.holds Try.pinned (OpenSpec.ofChange evalRenamesSpec)

/-- ITS FALSE NEIGHBOUR: 'it returns false'. Refute it at one input. -/
def evalRenamesWrong : ChangeSpec := { name := "evalRenames", fn := fun _ => fun
  | [d1, d2, d3, d4] => { results := [.lit (.bool false)], args := [d1, d2, d3, d4] }
  | _ => none }
def EvalRenamesWrongFalsely : Prop := evalRenamesRow.holds Try.pinned (OpenSpec.ofChange evalRenamesWrong)

/- THE SECOND FORM. 'bulk': how many values and letters a reading holds, each counted each time it is reached (what is shared counts as often as it is met; a slice's spare places count too). A statement '..UptoSaid' is the law's where the arguments, and the package variables that the reading takes, are together of bulk at most 1048576: NARROWER than '..Said'. Prove '..Said' where nothing that the law and all that it calls make is longer than what came in: it says more and counts as full. Else prove '..UptoSaid'. A law counts once. -/
mutual
def uptoBulk {H : Type} : DataW H → Nat
  | .lit (.string bytes) => bytes.length + 1
  | .lit _ => 1
  | .nil => 1
  | .ptr d => uptoBulk d + 1
  | .slice elems spare => uptoBulkAll elems + uptoBulkAll spare + 1
  | .agg parts => uptoBulkAll parts + 1
  | .iface _ d => uptoBulk d + 1
  | .map entries => uptoBulkEntries entries + 1
  | .held _ => 1
def uptoBulkAll {H : Type} : List (DataW H) → Nat
  | [] => 0
  | d :: r => uptoBulk d + uptoBulkAll r
def uptoBulkEntries {H : Type} : List (Lit × DataW H) → Nat
  | [] => 0
  | x :: r => uptoBulkEntry x + uptoBulkEntries r
def uptoBulkEntry {H : Type} : Lit × DataW H → Nat
  | (.string bytes, d) => bytes.length + uptoBulk d + 1
  | (_, d) => uptoBulk d + 1
 end
def uptoSmall : (H : Type) → List (DataW H) → Bool := fun _ ds => decide (uptoBulkAll ds ≤ 1048576)
def OpenSpec.upto (s : _root_.Go.ChangeSpec) : _root_.Go.OpenSpec := { _root_.Go.OpenSpec.ofChange s with cond := some uptoSmall }

/-- 'funicularlaw10.EvalOf', WHERE WHAT IT READS IS OF BULK AT MOST 1048576: true; the input reads as it did. -/
def evalOfUptoRow : OpenClaim := { program := "ytcmejocmohohpaa", sum := "f95be5a34fe49e7b0084b38b7cb03d7af30f4b1238b97c5d4d9ec8434eda7c5c", func := "funicular/funicularlaw10.EvalOf", spec := "evalOf", unfollowed := true, recurses := true, loops := true, apart := false, narrowed := true }
def EvalOfUptoSaid : Prop := evalOfUptoRow.holds Try.pinned (OpenSpec.upto evalOfSpec)

/-- 'funicularlaw10.EvalAs', WHERE WHAT IT READS IS OF BULK AT MOST 1048576: true; the input reads as it did. -/
def evalAsUptoRow : OpenClaim := { program := "ytcmejocmohohpaa", sum := "f95be5a34fe49e7b0084b38b7cb03d7af30f4b1238b97c5d4d9ec8434eda7c5c", func := "funicular/funicularlaw10.EvalAs", spec := "evalAs", unfollowed := true, recurses := true, loops := true, apart := false, narrowed := true }
def EvalAsUptoSaid : Prop := evalAsUptoRow.holds Try.pinned (OpenSpec.upto evalAsSpec)

/-- 'funicularlaw10.EvalTyped', WHERE WHAT IT READS IS OF BULK AT MOST 1048576: true; the input reads as it did. -/
def evalTypedUptoRow : OpenClaim := { program := "ytcmejocmohohpaa", sum := "f95be5a34fe49e7b0084b38b7cb03d7af30f4b1238b97c5d4d9ec8434eda7c5c", func := "funicular/funicularlaw10.EvalTyped", spec := "evalTyped", unfollowed := true, recurses := true, loops := true, apart := false, narrowed := true }
def EvalTypedUptoSaid : Prop := evalTypedUptoRow.holds Try.pinned (OpenSpec.upto evalTypedSpec)

/-- 'funicularlaw10.EvalFolds', WHERE WHAT IT READS IS OF BULK AT MOST 1048576: true; the input reads as it did. -/
def evalFoldsUptoRow : OpenClaim := { program := "ytcmejocmohohpaa", sum := "f95be5a34fe49e7b0084b38b7cb03d7af30f4b1238b97c5d4d9ec8434eda7c5c", func := "funicular/funicularlaw10.EvalFolds", spec := "evalFolds", unfollowed := true, recurses := true, loops := true, apart := false, narrowed := true }
def EvalFoldsUptoSaid : Prop := evalFoldsUptoRow.holds Try.pinned (OpenSpec.upto evalFoldsSpec)

/-- 'funicularlaw10.EvalAsks', WHERE WHAT IT READS IS OF BULK AT MOST 1048576: true; the input reads as it did. -/
def evalAsksUptoRow : OpenClaim := { program := "ytcmejocmohohpaa", sum := "f95be5a34fe49e7b0084b38b7cb03d7af30f4b1238b97c5d4d9ec8434eda7c5c", func := "funicular/funicularlaw10.EvalAsks", spec := "evalAsks", unfollowed := true, recurses := true, loops := true, apart := false, narrowed := true }
def EvalAsksUptoSaid : Prop := evalAsksUptoRow.holds Try.pinned (OpenSpec.upto evalAsksSpec)

/-- 'funicularlaw10.EvalRenames', WHERE WHAT IT READS IS OF BULK AT MOST 1048576: true; the input reads as it did. -/
def evalRenamesUptoRow : OpenClaim := { program := "ytcmejocmohohpaa", sum := "f95be5a34fe49e7b0084b38b7cb03d7af30f4b1238b97c5d4d9ec8434eda7c5c", func := "funicular/funicularlaw10.EvalRenames", spec := "evalRenames", unfollowed := true, recurses := true, loops := true, apart := false, narrowed := true }
def EvalRenamesUptoSaid : Prop := evalRenamesUptoRow.holds Try.pinned (OpenSpec.upto evalRenamesSpec)

end Rows
end Go.Proofs.Ytcmejocmohohpaa
