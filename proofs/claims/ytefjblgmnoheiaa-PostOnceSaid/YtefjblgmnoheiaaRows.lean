/-
  No cell of these rows narrows 'for every input' (looked for: loops, veiled, ifaces, maps, wideKeys, modest, calm, conditions, laid).
  DERIVED. THE GIVEN ROWS OF THIS SEAT. 5 by the template 'for every input the law returns true; each argument reads behind the call as it read before'; 0 by the template 'total and deterministic' (their statements: YtefjblgmnoheiaaTotals.lean).
  GIVEN WITH THE SEED: the statements are not yours to turn. If you find one false, say at which input.
  Laid BY PROGRAM, IN A SANDBOX (cutbox-rows.mjs): the forced cells as the released guide's own fill.sh prints them over the translation 8fd89343fe30017f… (all of the seat's roots in one cut). By AI agents, Wed Nov 11 2026. No macro, syntax, notation, axiom, sorry.
-/
import Derived.Test.YtefjblgmnoheiaaChecked
import GoSem.Claim
import GoSem.ClaimJoined
import GoSem.ClaimMapViews
import Derived.JoinedTies
import Derived.KernelRfl
namespace Go.Proofs.Ytefjblgmnoheiaa
/- THE CELL 'sum', in the pinned program and in every row, IS THE sha256 OF THE DUMP (.gsa) THAT YtefjblgmnoheiaaProg.lean LOADS. Nothing in Lean hashes anything: it is a label: what it is worth is what the hold of that sum in a sandbox is worth. -/
noncomputable def Try.pinned : Pinned := { name := "ytefjblgmnoheiaa", sum := "8fd89343fe30017f6be5bb0d6a2fe9f6345d5f989350683b545afa375541ae03", checked := Try.checked }
namespace Rows
def none {H : Type} : Left H := { results := [], args := [] }

/-- 'funicularlaw22.PostChecks': WHATEVER THE INPUT: true; the input reads as it did. -/
def postChecksSpec : ChangeSpec := { name := "postChecks", fn := fun _ => fun
  | [d1, d2] => { results := [.lit (.bool true)], args := [d1, d2] }
  | _ => none }
def postChecksRow : OpenClaim := { program := "ytefjblgmnoheiaa", sum := "8fd89343fe30017f6be5bb0d6a2fe9f6345d5f989350683b545afa375541ae03", func := "funicular/funicularlaw22.PostChecks", spec := "postChecks", inPlace := ["slices.overlaps[funicular/api.Sub]"], unfollowed := true, recurses := true, apart := false }
def PostChecksSaid : Prop := postChecksRow.holds Try.pinned (OpenSpec.ofChange postChecksSpec)

/-- ITS FALSE NEIGHBOUR: 'it returns false'. Refute it at one input. -/
def postChecksWrong : ChangeSpec := { name := "postChecks", fn := fun _ => fun
  | [d1, d2] => { results := [.lit (.bool false)], args := [d1, d2] }
  | _ => none }
def PostChecksWrongFalsely : Prop := postChecksRow.holds Try.pinned (OpenSpec.ofChange postChecksWrong)

/-- 'funicularlaw22.PostDoes': WHATEVER THE INPUT: true; the input reads as it did. -/
def postDoesSpec : ChangeSpec := { name := "postDoes", fn := fun _ => fun
  | [d1, d2] => { results := [.lit (.bool true)], args := [d1, d2] }
  | _ => none }
def postDoesRow : OpenClaim := { program := "ytefjblgmnoheiaa", sum := "8fd89343fe30017f6be5bb0d6a2fe9f6345d5f989350683b545afa375541ae03", func := "funicular/funicularlaw22.PostDoes", spec := "postDoes", inPlace := ["slices.overlaps[funicular/api.Sub]"], unfollowed := true, recurses := true, apart := false }
def PostDoesSaid : Prop := postDoesRow.holds Try.pinned (OpenSpec.ofChange postDoesSpec)

/-- ITS FALSE NEIGHBOUR: 'it returns false'. Refute it at one input. -/
def postDoesWrong : ChangeSpec := { name := "postDoes", fn := fun _ => fun
  | [d1, d2] => { results := [.lit (.bool false)], args := [d1, d2] }
  | _ => none }
def PostDoesWrongFalsely : Prop := postDoesRow.holds Try.pinned (OpenSpec.ofChange postDoesWrong)

/-- 'funicularlaw22.PostBack': WHATEVER THE INPUT: true; the input reads as it did. -/
def postBackSpec : ChangeSpec := { name := "postBack", fn := fun _ => fun
  | [d1, d2] => { results := [.lit (.bool true)], args := [d1, d2] }
  | _ => none }
def postBackRow : OpenClaim := { program := "ytefjblgmnoheiaa", sum := "8fd89343fe30017f6be5bb0d6a2fe9f6345d5f989350683b545afa375541ae03", func := "funicular/funicularlaw22.PostBack", spec := "postBack", inPlace := ["slices.overlaps[funicular/api.Sub]"], unfollowed := true, recurses := true, apart := false }
def PostBackSaid : Prop := postBackRow.holds Try.pinned (OpenSpec.ofChange postBackSpec)

/-- ITS FALSE NEIGHBOUR: 'it returns false'. Refute it at one input. -/
def postBackWrong : ChangeSpec := { name := "postBack", fn := fun _ => fun
  | [d1, d2] => { results := [.lit (.bool false)], args := [d1, d2] }
  | _ => none }
def PostBackWrongFalsely : Prop := postBackRow.holds Try.pinned (OpenSpec.ofChange postBackWrong)

/-- 'funicularlaw22.PostOnce': WHATEVER THE INPUT: true; the input reads as it did. -/
def postOnceSpec : ChangeSpec := { name := "postOnce", fn := fun _ => fun
  | [d] => { results := [.lit (.bool true)], args := [d] }
  | _ => none }
def postOnceRow : OpenClaim := { program := "ytefjblgmnoheiaa", sum := "8fd89343fe30017f6be5bb0d6a2fe9f6345d5f989350683b545afa375541ae03", func := "funicular/funicularlaw22.PostOnce", spec := "postOnce", inPlace := ["slices.overlaps[funicular/api.Sub]"], unfollowed := true, recurses := true, apart := false }
def PostOnceSaid : Prop := postOnceRow.holds Try.pinned (OpenSpec.ofChange postOnceSpec)

/-- ITS FALSE NEIGHBOUR: 'it returns false'. Refute it at one input. -/
def postOnceWrong : ChangeSpec := { name := "postOnce", fn := fun _ => fun
  | [d] => { results := [.lit (.bool false)], args := [d] }
  | _ => none }
def PostOnceWrongFalsely : Prop := postOnceRow.holds Try.pinned (OpenSpec.ofChange postOnceWrong)

/-- 'funicularlaw22.PostMeets': WHATEVER THE INPUT: true; the input reads as it did. -/
def postMeetsSpec : ChangeSpec := { name := "postMeets", fn := fun _ => fun
  | [d] => { results := [.lit (.bool true)], args := [d] }
  | _ => none }
def postMeetsRow : OpenClaim := { program := "ytefjblgmnoheiaa", sum := "8fd89343fe30017f6be5bb0d6a2fe9f6345d5f989350683b545afa375541ae03", func := "funicular/funicularlaw22.PostMeets", spec := "postMeets", inPlace := ["slices.overlaps[funicular/api.Sub]"], unfollowed := true, recurses := true, apart := false }
def PostMeetsSaid : Prop := postMeetsRow.holds Try.pinned (OpenSpec.ofChange postMeetsSpec)

/-- ITS FALSE NEIGHBOUR: 'it returns false'. Refute it at one input. -/
def postMeetsWrong : ChangeSpec := { name := "postMeets", fn := fun _ => fun
  | [d] => { results := [.lit (.bool false)], args := [d] }
  | _ => none }
def PostMeetsWrongFalsely : Prop := postMeetsRow.holds Try.pinned (OpenSpec.ofChange postMeetsWrong)

/- THE SECOND FORM. 'bulk': how many values and letters a reading holds, each counted each time it is reached (what is shared counts as often as it is met; a slice's spare places count too). A statement '..UptoSaid' is the law's where the arguments, and the package variables that the reading takes, are together of bulk at most 1048576: NARROWER than '..Said'. Prove '..Said' where nothing that the law and all that it calls make is longer than what came in: it says more and counts as full. Else prove '..UptoSaid'. A law counts once. -/
mutual
def uptoBulk {H : Type} : DataW H → Nat
  | .lit (.string bytes) => bytes.length + 1
  | .lit _ => 1
  | .nil => 1
  | .ptr d => uptoBulk d + 1
  | .slice elems spare => uptoBulkAll elems + uptoBulkAll spare + 1
  | .agg parts => uptoBulkAll parts + 1
  | .iface _ d => uptoBulk d + 1
  | .map entries => uptoBulkEntries entries + 1
  | .held _ => 1
def uptoBulkAll {H : Type} : List (DataW H) → Nat
  | [] => 0
  | d :: r => uptoBulk d + uptoBulkAll r
def uptoBulkEntries {H : Type} : List (Lit × DataW H) → Nat
  | [] => 0
  | x :: r => uptoBulkEntry x + uptoBulkEntries r
def uptoBulkEntry {H : Type} : Lit × DataW H → Nat
  | (.string bytes, d) => bytes.length + uptoBulk d + 1
  | (_, d) => uptoBulk d + 1
 end
def uptoSmall : (H : Type) → List (DataW H) → Bool := fun _ ds => decide (uptoBulkAll ds ≤ 1048576)
def OpenSpec.upto (s : _root_.Go.ChangeSpec) : _root_.Go.OpenSpec := { _root_.Go.OpenSpec.ofChange s with cond := some uptoSmall }

/-- 'funicularlaw22.PostChecks', WHERE WHAT IT READS IS OF BULK AT MOST 1048576: true; the input reads as it did. -/
def postChecksUptoRow : OpenClaim := { program := "ytefjblgmnoheiaa", sum := "8fd89343fe30017f6be5bb0d6a2fe9f6345d5f989350683b545afa375541ae03", func := "funicular/funicularlaw22.PostChecks", spec := "postChecks", inPlace := ["slices.overlaps[funicular/api.Sub]"], unfollowed := true, recurses := true, apart := false, narrowed := true }
def PostChecksUptoSaid : Prop := postChecksUptoRow.holds Try.pinned (OpenSpec.upto postChecksSpec)

/-- 'funicularlaw22.PostDoes', WHERE WHAT IT READS IS OF BULK AT MOST 1048576: true; the input reads as it did. -/
def postDoesUptoRow : OpenClaim := { program := "ytefjblgmnoheiaa", sum := "8fd89343fe30017f6be5bb0d6a2fe9f6345d5f989350683b545afa375541ae03", func := "funicular/funicularlaw22.PostDoes", spec := "postDoes", inPlace := ["slices.overlaps[funicular/api.Sub]"], unfollowed := true, recurses := true, apart := false, narrowed := true }
def PostDoesUptoSaid : Prop := postDoesUptoRow.holds Try.pinned (OpenSpec.upto postDoesSpec)

/-- 'funicularlaw22.PostBack', WHERE WHAT IT READS IS OF BULK AT MOST 1048576: true; the input reads as it did. -/
def postBackUptoRow : OpenClaim := { program := "ytefjblgmnoheiaa", sum := "8fd89343fe30017f6be5bb0d6a2fe9f6345d5f989350683b545afa375541ae03", func := "funicular/funicularlaw22.PostBack", spec := "postBack", inPlace := ["slices.overlaps[funicular/api.Sub]"], unfollowed := true, recurses := true, apart := false, narrowed := true }
def PostBackUptoSaid : Prop := postBackUptoRow.holds Try.pinned (OpenSpec.upto postBackSpec)

/-- 'funicularlaw22.PostOnce', WHERE WHAT IT READS IS OF BULK AT MOST 1048576: true; the input reads as it did. -/
def postOnceUptoRow : OpenClaim := { program := "ytefjblgmnoheiaa", sum := "8fd89343fe30017f6be5bb0d6a2fe9f6345d5f989350683b545afa375541ae03", func := "funicular/funicularlaw22.PostOnce", spec := "postOnce", inPlace := ["slices.overlaps[funicular/api.Sub]"], unfollowed := true, recurses := true, apart := false, narrowed := true }
def PostOnceUptoSaid : Prop := postOnceUptoRow.holds Try.pinned (OpenSpec.upto postOnceSpec)

/-- 'funicularlaw22.PostMeets', WHERE WHAT IT READS IS OF BULK AT MOST 1048576: true; the input reads as it did. -/
def postMeetsUptoRow : OpenClaim := { program := "ytefjblgmnoheiaa", sum := "8fd89343fe30017f6be5bb0d6a2fe9f6345d5f989350683b545afa375541ae03", func := "funicular/funicularlaw22.PostMeets", spec := "postMeets", inPlace := ["slices.overlaps[funicular/api.Sub]"], unfollowed := true, recurses := true, apart := false, narrowed := true }
def PostMeetsUptoSaid : Prop := postMeetsUptoRow.holds Try.pinned (OpenSpec.upto postMeetsSpec)

end Rows
end Go.Proofs.Ytefjblgmnoheiaa
