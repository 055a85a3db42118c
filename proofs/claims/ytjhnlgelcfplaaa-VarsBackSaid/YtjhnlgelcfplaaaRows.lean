/-
  No cell of these rows narrows 'for every input' (looked for: loops, veiled, ifaces, maps, wideKeys, modest, calm, conditions, laid).
  DERIVED. THE GIVEN ROWS OF THIS SEAT. 9 by the template 'for every input the law returns true; each argument reads behind the call as it read before'; 0 by the template 'total and deterministic' (their statements: YtjhnlgelcfplaaaTotals.lean).
  GIVEN WITH THE SEED: the statements are not yours to turn. If you find one false, say at which input.
  Laid BY PROGRAM, IN A SANDBOX (cutbox-rows.mjs): the forced cells as the released guide's own fill.sh prints them over the translation 249ba09e9c351392… (all of the seat's roots in one cut). By AI agents, Wed Nov 11 2026. No macro, syntax, notation, axiom, sorry.
-/
import Derived.Test.YtjhnlgelcfplaaaChecked
import GoSem.Claim
import GoSem.ClaimJoined
import GoSem.ClaimMapViews
import Derived.JoinedTies
import Derived.KernelRfl
namespace Go.Proofs.Ytjhnlgelcfplaaa
/- THE CELL 'sum', in the pinned program and in every row, IS THE sha256 OF THE DUMP (.gsa) THAT YtjhnlgelcfplaaaProg.lean LOADS. Nothing in Lean hashes anything: it is a label: what it is worth is what the hold of that sum in a sandbox is worth. -/
noncomputable def Try.pinned : Pinned := { name := "ytjhnlgelcfplaaa", sum := "249ba09e9c35139236c691c2329f9db93db159dde7a1a3dfa1cc63da879c8abe", checked := Try.checked }
namespace Rows
def none {H : Type} : Left H := { results := [], args := [] }

/-- 'funicularlaw09.VarsChecks': WHATEVER THE INPUT: true; the input reads as it did. -/
def varsChecksSpec : ChangeSpec := { name := "varsChecks", fn := fun _ => fun
  | [d1, d2] => { results := [.lit (.bool true)], args := [d1, d2] }
  | _ => none }
def varsChecksRow : OpenClaim := { program := "ytjhnlgelcfplaaa", sum := "249ba09e9c35139236c691c2329f9db93db159dde7a1a3dfa1cc63da879c8abe", func := "funicular/funicularlaw09.VarsChecks", spec := "varsChecks", inPlace := ["slices.overlaps[string]", "slices.overlaps[int64]"], apart := false }
def VarsChecksSaid : Prop := varsChecksRow.holds Try.pinned (OpenSpec.ofChange varsChecksSpec)

/-- ITS FALSE NEIGHBOUR: 'it returns false'. Refute it at one input. -/
def varsChecksWrong : ChangeSpec := { name := "varsChecks", fn := fun _ => fun
  | [d1, d2] => { results := [.lit (.bool false)], args := [d1, d2] }
  | _ => none }
def VarsChecksWrongFalsely : Prop := varsChecksRow.holds Try.pinned (OpenSpec.ofChange varsChecksWrong)

/-- 'funicularlaw09.VarsBack': WHATEVER THE INPUT: true; the input reads as it did. -/
def varsBackSpec : ChangeSpec := { name := "varsBack", fn := fun _ => fun
  | [d1, d2] => { results := [.lit (.bool true)], args := [d1, d2] }
  | _ => none }
def varsBackRow : OpenClaim := { program := "ytjhnlgelcfplaaa", sum := "249ba09e9c35139236c691c2329f9db93db159dde7a1a3dfa1cc63da879c8abe", func := "funicular/funicularlaw09.VarsBack", spec := "varsBack", inPlace := ["slices.overlaps[string]", "slices.overlaps[int64]"], apart := false }
def VarsBackSaid : Prop := varsBackRow.holds Try.pinned (OpenSpec.ofChange varsBackSpec)

/-- ITS FALSE NEIGHBOUR: 'it returns false'. Refute it at one input. -/
def varsBackWrong : ChangeSpec := { name := "varsBack", fn := fun _ => fun
  | [d1, d2] => { results := [.lit (.bool false)], args := [d1, d2] }
  | _ => none }
def VarsBackWrongFalsely : Prop := varsBackRow.holds Try.pinned (OpenSpec.ofChange varsBackWrong)

/-- 'funicularlaw09.VarsPuts': WHATEVER THE INPUT: true; the input reads as it did. -/
def varsPutsSpec : ChangeSpec := { name := "varsPuts", fn := fun _ => fun
  | [d1, d2, d3, d4, d5] => { results := [.lit (.bool true)], args := [d1, d2, d3, d4, d5] }
  | _ => none }
def varsPutsRow : OpenClaim := { program := "ytjhnlgelcfplaaa", sum := "249ba09e9c35139236c691c2329f9db93db159dde7a1a3dfa1cc63da879c8abe", func := "funicular/funicularlaw09.VarsPuts", spec := "varsPuts", inPlace := ["slices.overlaps[string]", "slices.overlaps[int64]"], apart := false }
def VarsPutsSaid : Prop := varsPutsRow.holds Try.pinned (OpenSpec.ofChange varsPutsSpec)

/-- ITS FALSE NEIGHBOUR: 'it returns false'. Refute it at one input. -/
def varsPutsWrong : ChangeSpec := { name := "varsPuts", fn := fun _ => fun
  | [d1, d2, d3, d4, d5] => { results := [.lit (.bool false)], args := [d1, d2, d3, d4, d5] }
  | _ => none }
def VarsPutsWrongFalsely : Prop := varsPutsRow.holds Try.pinned (OpenSpec.ofChange varsPutsWrong)

/-- 'funicularlaw09.VarsLast': WHATEVER THE INPUT: true; the input reads as it did. -/
def varsLastSpec : ChangeSpec := { name := "varsLast", fn := fun _ => fun
  | [d1, d2, d3] => { results := [.lit (.bool true)], args := [d1, d2, d3] }
  | _ => none }
def varsLastRow : OpenClaim := { program := "ytjhnlgelcfplaaa", sum := "249ba09e9c35139236c691c2329f9db93db159dde7a1a3dfa1cc63da879c8abe", func := "funicular/funicularlaw09.VarsLast", spec := "varsLast", inPlace := ["slices.overlaps[string]", "slices.overlaps[int64]"], apart := false }
def VarsLastSaid : Prop := varsLastRow.holds Try.pinned (OpenSpec.ofChange varsLastSpec)

/-- ITS FALSE NEIGHBOUR: 'it returns false'. Refute it at one input. -/
def varsLastWrong : ChangeSpec := { name := "varsLast", fn := fun _ => fun
  | [d1, d2, d3] => { results := [.lit (.bool false)], args := [d1, d2, d3] }
  | _ => none }
def VarsLastWrongFalsely : Prop := varsLastRow.holds Try.pinned (OpenSpec.ofChange varsLastWrong)

/-- 'funicularlaw22.PostChecks': WHATEVER THE INPUT: true; the input reads as it did. -/
def postChecksSpec : ChangeSpec := { name := "postChecks", fn := fun _ => fun
  | [d1, d2] => { results := [.lit (.bool true)], args := [d1, d2] }
  | _ => none }
def postChecksRow : OpenClaim := { program := "ytjhnlgelcfplaaa", sum := "249ba09e9c35139236c691c2329f9db93db159dde7a1a3dfa1cc63da879c8abe", func := "funicular/funicularlaw22.PostChecks", spec := "postChecks", inPlace := ["slices.overlaps[funicular/api.Sub]"], unfollowed := true, recurses := true, apart := false }
def PostChecksSaid : Prop := postChecksRow.holds Try.pinned (OpenSpec.ofChange postChecksSpec)

/-- ITS FALSE NEIGHBOUR: 'it returns false'. Refute it at one input. -/
def postChecksWrong : ChangeSpec := { name := "postChecks", fn := fun _ => fun
  | [d1, d2] => { results := [.lit (.bool false)], args := [d1, d2] }
  | _ => none }
def PostChecksWrongFalsely : Prop := postChecksRow.holds Try.pinned (OpenSpec.ofChange postChecksWrong)

/-- 'funicularlaw22.PostDoes': WHATEVER THE INPUT: true; the input reads as it did. -/
def postDoesSpec : ChangeSpec := { name := "postDoes", fn := fun _ => fun
  | [d1, d2] => { results := [.lit (.bool true)], args := [d1, d2] }
  | _ => none }
def postDoesRow : OpenClaim := { program := "ytjhnlgelcfplaaa", sum := "249ba09e9c35139236c691c2329f9db93db159dde7a1a3dfa1cc63da879c8abe", func := "funicular/funicularlaw22.PostDoes", spec := "postDoes", inPlace := ["slices.overlaps[funicular/api.Sub]"], unfollowed := true, recurses := true, apart := false }
def PostDoesSaid : Prop := postDoesRow.holds Try.pinned (OpenSpec.ofChange postDoesSpec)

/-- ITS FALSE NEIGHBOUR: 'it returns false'. Refute it at one input. -/
def postDoesWrong : ChangeSpec := { name := "postDoes", fn := fun _ => fun
  | [d1, d2] => { results := [.lit (.bool false)], args := [d1, d2] }
  | _ => none }
def PostDoesWrongFalsely : Prop := postDoesRow.holds Try.pinned (OpenSpec.ofChange postDoesWrong)

/-- 'funicularlaw22.PostBack': WHATEVER THE INPUT: true; the input reads as it did. -/
def postBackSpec : ChangeSpec := { name := "postBack", fn := fun _ => fun
  | [d1, d2] => { results := [.lit (.bool true)], args := [d1, d2] }
  | _ => none }
def postBackRow : OpenClaim := { program := "ytjhnlgelcfplaaa", sum := "249ba09e9c35139236c691c2329f9db93db159dde7a1a3dfa1cc63da879c8abe", func := "funicular/funicularlaw22.PostBack", spec := "postBack", inPlace := ["slices.overlaps[funicular/api.Sub]"], unfollowed := true, recurses := true, apart := false }
def PostBackSaid : Prop := postBackRow.holds Try.pinned (OpenSpec.ofChange postBackSpec)

/-- ITS FALSE NEIGHBOUR: 'it returns false'. Refute it at one input. -/
def postBackWrong : ChangeSpec := { name := "postBack", fn := fun _ => fun
  | [d1, d2] => { results := [.lit (.bool false)], args := [d1, d2] }
  | _ => none }
def PostBackWrongFalsely : Prop := postBackRow.holds Try.pinned (OpenSpec.ofChange postBackWrong)

/-- 'funicularlaw22.PostOnce': WHATEVER THE INPUT: true; the input reads as it did. -/
def postOnceSpec : ChangeSpec := { name := "postOnce", fn := fun _ => fun
  | [d] => { results := [.lit (.bool true)], args := [d] }
  | _ => none }
def postOnceRow : OpenClaim := { program := "ytjhnlgelcfplaaa", sum := "249ba09e9c35139236c691c2329f9db93db159dde7a1a3dfa1cc63da879c8abe", func := "funicular/funicularlaw22.PostOnce", spec := "postOnce", inPlace := ["slices.overlaps[funicular/api.Sub]"], unfollowed := true, recurses := true, apart := false }
def PostOnceSaid : Prop := postOnceRow.holds Try.pinned (OpenSpec.ofChange postOnceSpec)

/-- ITS FALSE NEIGHBOUR: 'it returns false'. Refute it at one input. -/
def postOnceWrong : ChangeSpec := { name := "postOnce", fn := fun _ => fun
  | [d] => { results := [.lit (.bool false)], args := [d] }
  | _ => none }
def PostOnceWrongFalsely : Prop := postOnceRow.holds Try.pinned (OpenSpec.ofChange postOnceWrong)

/-- 'funicularlaw22.PostMeets': WHATEVER THE INPUT: true; the input reads as it did. -/
def postMeetsSpec : ChangeSpec := { name := "postMeets", fn := fun _ => fun
  | [d] => { results := [.lit (.bool true)], args := [d] }
  | _ => none }
def postMeetsRow : OpenClaim := { program := "ytjhnlgelcfplaaa", sum := "249ba09e9c35139236c691c2329f9db93db159dde7a1a3dfa1cc63da879c8abe", func := "funicular/funicularlaw22.PostMeets", spec := "postMeets", inPlace := ["slices.overlaps[funicular/api.Sub]"], unfollowed := true, recurses := true, apart := false }
def PostMeetsSaid : Prop := postMeetsRow.holds Try.pinned (OpenSpec.ofChange postMeetsSpec)

/-- ITS FALSE NEIGHBOUR: 'it returns false'. Refute it at one input. -/
def postMeetsWrong : ChangeSpec := { name := "postMeets", fn := fun _ => fun
  | [d] => { results := [.lit (.bool false)], args := [d] }
  | _ => none }
def PostMeetsWrongFalsely : Prop := postMeetsRow.holds Try.pinned (OpenSpec.ofChange postMeetsWrong)

/- THE SECOND FORM. 'bulk': how many values and letters a reading holds, each counted each time it is reached (what is shared counts as often as it is met; a slice's spare places count too). A statement '..UptoSaid' is the law's where the arguments, and the package variables that the reading takes, are together of bulk at most 1048576: NARROWER than '..Said'. Prove '..Said' where nothing that the law and all that it calls make is longer than what came in: it says more and counts as full. Else prove '..UptoSaid'. A law counts once. -/
mutual
def uptoBulk {H : Type} : DataW H → Nat
  | .lit (.string bytes) => bytes.length + 1
  | .lit _ => 1
  | .nil => 1
  | .ptr d => uptoBulk d + 1
  | .slice elems spare => uptoBulkAll elems + uptoBulkAll spare + 1
  | .agg parts => uptoBulkAll parts + 1
  | .iface _ d => uptoBulk d + 1
  | .map entries => uptoBulkEntries entries + 1
  | .held _ => 1
def uptoBulkAll {H : Type} : List (DataW H) → Nat
  | [] => 0
  | d :: r => uptoBulk d + uptoBulkAll r
def uptoBulkEntries {H : Type} : List (Lit × DataW H) → Nat
  | [] => 0
  | x :: r => uptoBulkEntry x + uptoBulkEntries r
def uptoBulkEntry {H : Type} : Lit × DataW H → Nat
  | (.string bytes, d) => bytes.length + uptoBulk d + 1
  | (_, d) => uptoBulk d + 1
 end
def uptoSmall : (H : Type) → List (DataW H) → Bool := fun _ ds => decide (uptoBulkAll ds ≤ 1048576)
def OpenSpec.upto (s : _root_.Go.ChangeSpec) : _root_.Go.OpenSpec := { _root_.Go.OpenSpec.ofChange s with cond := some uptoSmall }

/-- 'funicularlaw09.VarsChecks', WHERE WHAT IT READS IS OF BULK AT MOST 1048576: true; the input reads as it did. -/
def varsChecksUptoRow : OpenClaim := { program := "ytjhnlgelcfplaaa", sum := "249ba09e9c35139236c691c2329f9db93db159dde7a1a3dfa1cc63da879c8abe", func := "funicular/funicularlaw09.VarsChecks", spec := "varsChecks", inPlace := ["slices.overlaps[string]", "slices.overlaps[int64]"], apart := false, narrowed := true }
def VarsChecksUptoSaid : Prop := varsChecksUptoRow.holds Try.pinned (OpenSpec.upto varsChecksSpec)

/-- 'funicularlaw09.VarsBack', WHERE WHAT IT READS IS OF BULK AT MOST 1048576: true; the input reads as it did. -/
def varsBackUptoRow : OpenClaim := { program := "ytjhnlgelcfplaaa", sum := "249ba09e9c35139236c691c2329f9db93db159dde7a1a3dfa1cc63da879c8abe", func := "funicular/funicularlaw09.VarsBack", spec := "varsBack", inPlace := ["slices.overlaps[string]", "slices.overlaps[int64]"], apart := false, narrowed := true }
def VarsBackUptoSaid : Prop := varsBackUptoRow.holds Try.pinned (OpenSpec.upto varsBackSpec)

/-- 'funicularlaw09.VarsPuts', WHERE WHAT IT READS IS OF BULK AT MOST 1048576: true; the input reads as it did. -/
def varsPutsUptoRow : OpenClaim := { program := "ytjhnlgelcfplaaa", sum := "249ba09e9c35139236c691c2329f9db93db159dde7a1a3dfa1cc63da879c8abe", func := "funicular/funicularlaw09.VarsPuts", spec := "varsPuts", inPlace := ["slices.overlaps[string]", "slices.overlaps[int64]"], apart := false, narrowed := true }
def VarsPutsUptoSaid : Prop := varsPutsUptoRow.holds Try.pinned (OpenSpec.upto varsPutsSpec)

/-- 'funicularlaw09.VarsLast', WHERE WHAT IT READS IS OF BULK AT MOST 1048576: true; the input reads as it did. -/
def varsLastUptoRow : OpenClaim := { program := "ytjhnlgelcfplaaa", sum := "249ba09e9c35139236c691c2329f9db93db159dde7a1a3dfa1cc63da879c8abe", func := "funicular/funicularlaw09.VarsLast", spec := "varsLast", inPlace := ["slices.overlaps[string]", "slices.overlaps[int64]"], apart := false, narrowed := true }
def VarsLastUptoSaid : Prop := varsLastUptoRow.holds Try.pinned (OpenSpec.upto varsLastSpec)

/-- 'funicularlaw22.PostChecks', WHERE WHAT IT READS IS OF BULK AT MOST 1048576: true; the input reads as it did. -/
def postChecksUptoRow : OpenClaim := { program := "ytjhnlgelcfplaaa", sum := "249ba09e9c35139236c691c2329f9db93db159dde7a1a3dfa1cc63da879c8abe", func := "funicular/funicularlaw22.PostChecks", spec := "postChecks", inPlace := ["slices.overlaps[funicular/api.Sub]"], unfollowed := true, recurses := true, apart := false, narrowed := true }
def PostChecksUptoSaid : Prop := postChecksUptoRow.holds Try.pinned (OpenSpec.upto postChecksSpec)

/-- 'funicularlaw22.PostDoes', WHERE WHAT IT READS IS OF BULK AT MOST 1048576: true; the input reads as it did. -/
def postDoesUptoRow : OpenClaim := { program := "ytjhnlgelcfplaaa", sum := "249ba09e9c35139236c691c2329f9db93db159dde7a1a3dfa1cc63da879c8abe", func := "funicular/funicularlaw22.PostDoes", spec := "postDoes", inPlace := ["slices.overlaps[funicular/api.Sub]"], unfollowed := true, recurses := true, apart := false, narrowed := true }
def PostDoesUptoSaid : Prop := postDoesUptoRow.holds Try.pinned (OpenSpec.upto postDoesSpec)

/-- 'funicularlaw22.PostBack', WHERE WHAT IT READS IS OF BULK AT MOST 1048576: true; the input reads as it did. -/
def postBackUptoRow : OpenClaim := { program := "ytjhnlgelcfplaaa", sum := "249ba09e9c35139236c691c2329f9db93db159dde7a1a3dfa1cc63da879c8abe", func := "funicular/funicularlaw22.PostBack", spec := "postBack", inPlace := ["slices.overlaps[funicular/api.Sub]"], unfollowed := true, recurses := true, apart := false, narrowed := true }
def PostBackUptoSaid : Prop := postBackUptoRow.holds Try.pinned (OpenSpec.upto postBackSpec)

/-- 'funicularlaw22.PostOnce', WHERE WHAT IT READS IS OF BULK AT MOST 1048576: true; the input reads as it did. -/
def postOnceUptoRow : OpenClaim := { program := "ytjhnlgelcfplaaa", sum := "249ba09e9c35139236c691c2329f9db93db159dde7a1a3dfa1cc63da879c8abe", func := "funicular/funicularlaw22.PostOnce", spec := "postOnce", inPlace := ["slices.overlaps[funicular/api.Sub]"], unfollowed := true, recurses := true, apart := false, narrowed := true }
def PostOnceUptoSaid : Prop := postOnceUptoRow.holds Try.pinned (OpenSpec.upto postOnceSpec)

/-- 'funicularlaw22.PostMeets', WHERE WHAT IT READS IS OF BULK AT MOST 1048576: true; the input reads as it did. -/
def postMeetsUptoRow : OpenClaim := { program := "ytjhnlgelcfplaaa", sum := "249ba09e9c35139236c691c2329f9db93db159dde7a1a3dfa1cc63da879c8abe", func := "funicular/funicularlaw22.PostMeets", spec := "postMeets", inPlace := ["slices.overlaps[funicular/api.Sub]"], unfollowed := true, recurses := true, apart := false, narrowed := true }
def PostMeetsUptoSaid : Prop := postMeetsUptoRow.holds Try.pinned (OpenSpec.upto postMeetsSpec)

end Rows
end Go.Proofs.Ytjhnlgelcfplaaa
