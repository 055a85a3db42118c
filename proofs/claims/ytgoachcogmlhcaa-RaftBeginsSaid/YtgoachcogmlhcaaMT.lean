/- Types of the models. -/
import Derived.Test.YtgoachcogmlhcaaRBun
set_option maxRecDepth 100000
set_option linter.unusedVariables false
set_option linter.unusedSimpArgs false
set_option linter.defProp false
noncomputable section
namespace Go.Proofs.Ytgoachcogmlhcaa.R
open Go Nat
structure TEntry where
  Term : Int
  Data : (List Int)
def TEntry.c (x : TEntry) : List AV := [.int .i64 x.Term, sl (ci .u8) x.Data]
theorem TEntry.c_eq (x : TEntry) : TEntry.c x = [.int .i64 x.Term, sl (ci .u8) x.Data] := rfl
instance : Row TEntry.c 2 := ⟨fun _ => rfl, fun _ => rfl, fun _ => rfl⟩
structure TLog where
  Base : Int
  BaseTerm : Int
  Entries : (List TEntry)
def TLog.c (x : TLog) : List AV := [.int .i64 x.Base, .int .i64 x.BaseTerm, sl TEntry.c x.Entries]
theorem TLog.c_eq (x : TLog) : TLog.c x = [.int .i64 x.Base, .int .i64 x.BaseTerm, sl TEntry.c x.Entries] := rfl
instance : Row TLog.c 3 := ⟨fun _ => rfl, fun _ => rfl, fun _ => rfl⟩
structure TRaft where
  Id : Int
  N : Int
  Term : Int
  Vote : Int
  Role : Int
  Lead : Int
  Log : TLog
  Commit : Int
  Snap : (List Int)
  Granted : (List Bool)
  Next : (List Int)
  Match : (List Int)
  Clock : Int
  Wait : Int
def TRaft.c (x : TRaft) : List AV := [.int .i64 x.Id, .int .i64 x.N, .int .i64 x.Term, .int .i64 x.Vote, .int .i64 x.Role, .int .i64 x.Lead, .int .i64 x.Log.Base, .int .i64 x.Log.BaseTerm, sl TEntry.c x.Log.Entries, .int .i64 x.Commit, sl (ci .u8) x.Snap, sl cb x.Granted, sl (ci .i64) x.Next, sl (ci .i64) x.Match, .int .i64 x.Clock, .int .i64 x.Wait]
theorem TRaft.c_eq (x : TRaft) : TRaft.c x = [.int .i64 x.Id, .int .i64 x.N, .int .i64 x.Term, .int .i64 x.Vote, .int .i64 x.Role, .int .i64 x.Lead, .int .i64 x.Log.Base, .int .i64 x.Log.BaseTerm, sl TEntry.c x.Log.Entries, .int .i64 x.Commit, sl (ci .u8) x.Snap, sl cb x.Granted, sl (ci .i64) x.Next, sl (ci .i64) x.Match, .int .i64 x.Clock, .int .i64 x.Wait] := rfl
instance : Row TRaft.c 16 := ⟨fun _ => rfl, fun _ => rfl, fun _ => rfl⟩
structure A10_Int where
  a0 : Int
  a1 : Int
  a2 : Int
  a3 : Int
  a4 : Int
  a5 : Int
  a6 : Int
  a7 : Int
  a8 : Int
  a9 : Int
def A10_Int.c (x : A10_Int) : List AV := [.int .i64 x.a0, .int .i64 x.a1, .int .i64 x.a2, .int .i64 x.a3, .int .i64 x.a4, .int .i64 x.a5, .int .i64 x.a6, .int .i64 x.a7, .int .i64 x.a8, .int .i64 x.a9]
theorem A10_Int.c_eq (x : A10_Int) : A10_Int.c x = [.int .i64 x.a0, .int .i64 x.a1, .int .i64 x.a2, .int .i64 x.a3, .int .i64 x.a4, .int .i64 x.a5, .int .i64 x.a6, .int .i64 x.a7, .int .i64 x.a8, .int .i64 x.a9] := rfl
instance : Row A10_Int.c 10 := ⟨fun _ => rfl, fun _ => rfl, fun _ => rfl⟩
structure A2_Int where
  a0 : Int
  a1 : Int
def A2_Int.c (x : A2_Int) : List AV := [.int .i64 x.a0, .int .i64 x.a1]
theorem A2_Int.c_eq (x : A2_Int) : A2_Int.c x = [.int .i64 x.a0, .int .i64 x.a1] := rfl
instance : Row A2_Int.c 2 := ⟨fun _ => rfl, fun _ => rfl, fun _ => rfl⟩
def EVt := And.intro @TEntry.c_eq (And.intro @TLog.c_eq (And.intro @TRaft.c_eq (And.intro @A10_Int.c_eq (And.intro @A2_Int.c_eq (@b_tt)))))
end Go.Proofs.Ytgoachcogmlhcaa.R
