/-
  No cell of these rows narrows 'for every input' (looked for: loops, veiled, ifaces, maps, wideKeys, modest, calm, conditions, laid).
  DERIVED. THE GIVEN ROWS OF THIS SEAT. 6 by the template 'for every input the law returns true; each argument reads behind the call as it read before'; 0 by the template 'total and deterministic' (their statements: YtgoachcogmlhcaaTotals.lean).
  GIVEN WITH THE SEED: the statements are not yours to turn. If you find one false, say at which input.
  Laid BY PROGRAM, IN A SANDBOX (cutbox-rows.mjs): the forced cells as the released guide's own fill.sh prints them over the translation e1989a6786942761… (all of the seat's roots in one cut). By AI agents, Wed Nov 11 2026. No macro, syntax, notation, axiom, sorry.
-/
import Derived.Test.YtgoachcogmlhcaaChecked
import GoSem.Claim
import GoSem.ClaimJoined
import GoSem.ClaimMapViews
import Derived.JoinedTies
import Derived.KernelRfl
namespace Go.Proofs.Ytgoachcogmlhcaa
/- THE CELL 'sum', in the pinned program and in every row, IS THE sha256 OF THE DUMP (.gsa) THAT YtgoachcogmlhcaaProg.lean LOADS. Nothing in Lean hashes anything: it is a label: what it is worth is what the hold of that sum in a sandbox is worth. -/
noncomputable def Try.pinned : Pinned := { name := "ytgoachcogmlhcaa", sum := "e1989a6786942761ae1c6df0ab671784ff4a26c3efc92bdeb60d9d288e1cc4e3", checked := Try.checked }
namespace Rows
def none {H : Type} : Left H := { results := [], args := [] }

/-- 'funicularlaw15.RaftBegins': WHATEVER THE INPUT: true; the input reads as it did. -/
def raftBeginsSpec : ChangeSpec := { name := "raftBegins", fn := fun _ => fun
  | [d1, d2, d3, d4, d5, d6] => { results := [.lit (.bool true)], args := [d1, d2, d3, d4, d5, d6] }
  | _ => none }
def raftBeginsRow : OpenClaim := { program := "ytgoachcogmlhcaa", sum := "e1989a6786942761ae1c6df0ab671784ff4a26c3efc92bdeb60d9d288e1cc4e3", func := "funicular/funicularlaw15.RaftBegins", spec := "raftBegins", unfollowed := true, recurses := true, apart := false }
def RaftBeginsSaid : Prop := raftBeginsRow.holds Try.pinned (OpenSpec.ofChange raftBeginsSpec)

/-- ITS FALSE NEIGHBOUR: 'it returns false'. Refute it at one input. -/
def raftBeginsWrong : ChangeSpec := { name := "raftBegins", fn := fun _ => fun
  | [d1, d2, d3, d4, d5, d6] => { results := [.lit (.bool false)], args := [d1, d2, d3, d4, d5, d6] }
  | _ => none }
def RaftBeginsWrongFalsely : Prop := raftBeginsRow.holds Try.pinned (OpenSpec.ofChange raftBeginsWrong)

/-- 'funicularlaw15.RaftOne': WHATEVER THE INPUT: true; the input reads as it did. -/
def raftOneSpec : ChangeSpec := { name := "raftOne", fn := fun _ => fun
  | [d1, d2] => { results := [.lit (.bool true)], args := [d1, d2] }
  | _ => none }
def raftOneRow : OpenClaim := { program := "ytgoachcogmlhcaa", sum := "e1989a6786942761ae1c6df0ab671784ff4a26c3efc92bdeb60d9d288e1cc4e3", func := "funicular/funicularlaw15.RaftOne", spec := "raftOne", unfollowed := true, recurses := true, apart := false }
def RaftOneSaid : Prop := raftOneRow.holds Try.pinned (OpenSpec.ofChange raftOneSpec)

/-- ITS FALSE NEIGHBOUR: 'it returns false'. Refute it at one input. -/
def raftOneWrong : ChangeSpec := { name := "raftOne", fn := fun _ => fun
  | [d1, d2] => { results := [.lit (.bool false)], args := [d1, d2] }
  | _ => none }
def RaftOneWrongFalsely : Prop := raftOneRow.holds Try.pinned (OpenSpec.ofChange raftOneWrong)

/-- 'funicularlaw15.RaftLogs': WHATEVER THE INPUT: true; the input reads as it did. -/
def raftLogsSpec : ChangeSpec := { name := "raftLogs", fn := fun _ => fun
  | [d1, d2] => { results := [.lit (.bool true)], args := [d1, d2] }
  | _ => none }
def raftLogsRow : OpenClaim := { program := "ytgoachcogmlhcaa", sum := "e1989a6786942761ae1c6df0ab671784ff4a26c3efc92bdeb60d9d288e1cc4e3", func := "funicular/funicularlaw15.RaftLogs", spec := "raftLogs", unfollowed := true, recurses := true, apart := false }
def RaftLogsSaid : Prop := raftLogsRow.holds Try.pinned (OpenSpec.ofChange raftLogsSpec)

/-- ITS FALSE NEIGHBOUR: 'it returns false'. Refute it at one input. -/
def raftLogsWrong : ChangeSpec := { name := "raftLogs", fn := fun _ => fun
  | [d1, d2] => { results := [.lit (.bool false)], args := [d1, d2] }
  | _ => none }
def RaftLogsWrongFalsely : Prop := raftLogsRow.holds Try.pinned (OpenSpec.ofChange raftLogsWrong)

/-- 'funicularlaw15.RaftCommits': WHATEVER THE INPUT: true; the input reads as it did. -/
def raftCommitsSpec : ChangeSpec := { name := "raftCommits", fn := fun _ => fun
  | [d1, d2] => { results := [.lit (.bool true)], args := [d1, d2] }
  | _ => none }
def raftCommitsRow : OpenClaim := { program := "ytgoachcogmlhcaa", sum := "e1989a6786942761ae1c6df0ab671784ff4a26c3efc92bdeb60d9d288e1cc4e3", func := "funicular/funicularlaw15.RaftCommits", spec := "raftCommits", unfollowed := true, recurses := true, apart := false }
def RaftCommitsSaid : Prop := raftCommitsRow.holds Try.pinned (OpenSpec.ofChange raftCommitsSpec)

/-- ITS FALSE NEIGHBOUR: 'it returns false'. Refute it at one input. -/
def raftCommitsWrong : ChangeSpec := { name := "raftCommits", fn := fun _ => fun
  | [d1, d2] => { results := [.lit (.bool false)], args := [d1, d2] }
  | _ => none }
def RaftCommitsWrongFalsely : Prop := raftCommitsRow.holds Try.pinned (OpenSpec.ofChange raftCommitsWrong)

/-- 'funicularlaw15.RaftKeeps': WHATEVER THE INPUT: true; the input reads as it did. -/
def raftKeepsSpec : ChangeSpec := { name := "raftKeeps", fn := fun _ => fun
  | [d1, d2] => { results := [.lit (.bool true)], args := [d1, d2] }
  | _ => none }
def raftKeepsRow : OpenClaim := { program := "ytgoachcogmlhcaa", sum := "e1989a6786942761ae1c6df0ab671784ff4a26c3efc92bdeb60d9d288e1cc4e3", func := "funicular/funicularlaw15.RaftKeeps", spec := "raftKeeps", unfollowed := true, recurses := true, apart := false }
def RaftKeepsSaid : Prop := raftKeepsRow.holds Try.pinned (OpenSpec.ofChange raftKeepsSpec)

/-- ITS FALSE NEIGHBOUR: 'it returns false'. Refute it at one input. -/
def raftKeepsWrong : ChangeSpec := { name := "raftKeeps", fn := fun _ => fun
  | [d1, d2] => { results := [.lit (.bool false)], args := [d1, d2] }
  | _ => none }
def RaftKeepsWrongFalsely : Prop := raftKeepsRow.holds Try.pinned (OpenSpec.ofChange raftKeepsWrong)

/-- 'funicularlaw15.RaftSettles': WHATEVER THE INPUT: true; the input reads as it did. -/
def raftSettlesSpec : ChangeSpec := { name := "raftSettles", fn := fun _ => fun
  | [d1, d2] => { results := [.lit (.bool true)], args := [d1, d2] }
  | _ => none }
def raftSettlesRow : OpenClaim := { program := "ytgoachcogmlhcaa", sum := "e1989a6786942761ae1c6df0ab671784ff4a26c3efc92bdeb60d9d288e1cc4e3", func := "funicular/funicularlaw15.RaftSettles", spec := "raftSettles", unfollowed := true, recurses := true, apart := false }
def RaftSettlesSaid : Prop := raftSettlesRow.holds Try.pinned (OpenSpec.ofChange raftSettlesSpec)

/-- ITS FALSE NEIGHBOUR: 'it returns false'. Refute it at one input. -/
def raftSettlesWrong : ChangeSpec := { name := "raftSettles", fn := fun _ => fun
  | [d1, d2] => { results := [.lit (.bool false)], args := [d1, d2] }
  | _ => none }
def RaftSettlesWrongFalsely : Prop := raftSettlesRow.holds Try.pinned (OpenSpec.ofChange raftSettlesWrong)

/- THE SECOND FORM. 'bulk': how many values and letters a reading holds, each counted each time it is reached (what is shared counts as often as it is met; a slice's spare places count too). A statement '..UptoSaid' is the law's where the arguments, and the package variables that the reading takes, are together of bulk at most 1048576: NARROWER than '..Said'. Prove '..Said' where nothing that the law and all that it calls make is longer than what came in: it says more and counts as full. Else prove '..UptoSaid'. A law counts once. -/
mutual
def uptoBulk {H : Type} : DataW H → Nat
  | .lit (.string bytes) => bytes.length + 1
  | .lit _ => 1
  | .nil => 1
  | .ptr d => uptoBulk d + 1
  | .slice elems spare => uptoBulkAll elems + uptoBulkAll spare + 1
  | .agg parts => uptoBulkAll parts + 1
  | .iface _ d => uptoBulk d + 1
  | .map entries => uptoBulkEntries entries + 1
  | .held _ => 1
def uptoBulkAll {H : Type} : List (DataW H) → Nat
  | [] => 0
  | d :: r => uptoBulk d + uptoBulkAll r
def uptoBulkEntries {H : Type} : List (Lit × DataW H) → Nat
  | [] => 0
  | x :: r => uptoBulkEntry x + uptoBulkEntries r
def uptoBulkEntry {H : Type} : Lit × DataW H → Nat
  | (.string bytes, d) => bytes.length + uptoBulk d + 1
  | (_, d) => uptoBulk d + 1
 end
def uptoSmall : (H : Type) → List (DataW H) → Bool := fun _ ds => decide (uptoBulkAll ds ≤ 1048576)
def OpenSpec.upto (s : _root_.Go.ChangeSpec) : _root_.Go.OpenSpec := { _root_.Go.OpenSpec.ofChange s with cond := some uptoSmall }

/-- 'funicularlaw15.RaftBegins', WHERE WHAT IT READS IS OF BULK AT MOST 1048576: true; the input reads as it did. -/
def raftBeginsUptoRow : OpenClaim := { program := "ytgoachcogmlhcaa", sum := "e1989a6786942761ae1c6df0ab671784ff4a26c3efc92bdeb60d9d288e1cc4e3", func := "funicular/funicularlaw15.RaftBegins", spec := "raftBegins", unfollowed := true, recurses := true, apart := false, narrowed := true }
def RaftBeginsUptoSaid : Prop := raftBeginsUptoRow.holds Try.pinned (OpenSpec.upto raftBeginsSpec)

/-- 'funicularlaw15.RaftOne', WHERE WHAT IT READS IS OF BULK AT MOST 1048576: true; the input reads as it did. -/
def raftOneUptoRow : OpenClaim := { program := "ytgoachcogmlhcaa", sum := "e1989a6786942761ae1c6df0ab671784ff4a26c3efc92bdeb60d9d288e1cc4e3", func := "funicular/funicularlaw15.RaftOne", spec := "raftOne", unfollowed := true, recurses := true, apart := false, narrowed := true }
def RaftOneUptoSaid : Prop := raftOneUptoRow.holds Try.pinned (OpenSpec.upto raftOneSpec)

/-- 'funicularlaw15.RaftLogs', WHERE WHAT IT READS IS OF BULK AT MOST 1048576: true; the input reads as it did. -/
def raftLogsUptoRow : OpenClaim := { program := "ytgoachcogmlhcaa", sum := "e1989a6786942761ae1c6df0ab671784ff4a26c3efc92bdeb60d9d288e1cc4e3", func := "funicular/funicularlaw15.RaftLogs", spec := "raftLogs", unfollowed := true, recurses := true, apart := false, narrowed := true }
def RaftLogsUptoSaid : Prop := raftLogsUptoRow.holds Try.pinned (OpenSpec.upto raftLogsSpec)

/-- 'funicularlaw15.RaftCommits', WHERE WHAT IT READS IS OF BULK AT MOST 1048576: true; the input reads as it did. -/
def raftCommitsUptoRow : OpenClaim := { program := "ytgoachcogmlhcaa", sum := "e1989a6786942761ae1c6df0ab671784ff4a26c3efc92bdeb60d9d288e1cc4e3", func := "funicular/funicularlaw15.RaftCommits", spec := "raftCommits", unfollowed := true, recurses := true, apart := false, narrowed := true }
def RaftCommitsUptoSaid : Prop := raftCommitsUptoRow.holds Try.pinned (OpenSpec.upto raftCommitsSpec)

/-- 'funicularlaw15.RaftKeeps', WHERE WHAT IT READS IS OF BULK AT MOST 1048576: true; the input reads as it did. -/
def raftKeepsUptoRow : OpenClaim := { program := "ytgoachcogmlhcaa", sum := "e1989a6786942761ae1c6df0ab671784ff4a26c3efc92bdeb60d9d288e1cc4e3", func := "funicular/funicularlaw15.RaftKeeps", spec := "raftKeeps", unfollowed := true, recurses := true, apart := false, narrowed := true }
def RaftKeepsUptoSaid : Prop := raftKeepsUptoRow.holds Try.pinned (OpenSpec.upto raftKeepsSpec)

/-- 'funicularlaw15.RaftSettles', WHERE WHAT IT READS IS OF BULK AT MOST 1048576: true; the input reads as it did. -/
def raftSettlesUptoRow : OpenClaim := { program := "ytgoachcogmlhcaa", sum := "e1989a6786942761ae1c6df0ab671784ff4a26c3efc92bdeb60d9d288e1cc4e3", func := "funicular/funicularlaw15.RaftSettles", spec := "raftSettles", unfollowed := true, recurses := true, apart := false, narrowed := true }
def RaftSettlesUptoSaid : Prop := raftSettlesUptoRow.holds Try.pinned (OpenSpec.upto raftSettlesSpec)

end Rows
end Go.Proofs.Ytgoachcogmlhcaa
