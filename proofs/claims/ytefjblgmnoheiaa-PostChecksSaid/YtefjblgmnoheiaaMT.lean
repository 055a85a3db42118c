/- Types of the models. -/
import Derived.Test.YtefjblgmnoheiaaRBun
set_option maxRecDepth 100000
set_option maxHeartbeats 1600000
set_option linter.unusedVariables false
set_option linter.unusedSimpArgs false
set_option linter.defProp false
noncomputable section
namespace Go.Proofs.Ytefjblgmnoheiaa.R
open Go Nat
structure TVars where
  Names : (List ByteArray)
  Vals : (List Int)
def TVars.c (x : TVars) : List AV := [sl cs x.Names, sl (ci .i64) x.Vals]
theorem TVars.c_eq (x : TVars) : TVars.c x = [sl cs x.Names, sl (ci .i64) x.Vals] := rfl
instance : Row TVars.c 2 := ⟨fun _ => rfl, fun _ => rfl, fun _ => rfl⟩
structure TWho where
  Part : Int
  Inst : Int
def TWho.c (x : TWho) : List AV := [.int .i64 x.Part, .int .i64 x.Inst]
theorem TWho.c_eq (x : TWho) : TWho.c x = [.int .i64 x.Part, .int .i64 x.Inst] := rfl
instance : Row TWho.c 2 := ⟨fun _ => rfl, fun _ => rfl, fun _ => rfl⟩
structure TMail where
  Id : Int
  Name : ByteArray
  Key : Int
  Vars : TVars
  Until : Int
  Took : (List TWho)
def TMail.c (x : TMail) : List AV := [.int .i64 x.Id, .str x.Name, .int .i64 x.Key, sl cs x.Vars.Names, sl (ci .i64) x.Vars.Vals, .int .i64 x.Until, sl TWho.c x.Took]
theorem TMail.c_eq (x : TMail) : TMail.c x = [.int .i64 x.Id, .str x.Name, .int .i64 x.Key, sl cs x.Vars.Names, sl (ci .i64) x.Vars.Vals, .int .i64 x.Until, sl TWho.c x.Took] := rfl
instance : Row TMail.c 7 := ⟨fun _ => rfl, fun _ => rfl, fun _ => rfl⟩
structure TSub where
  Part : Int
  Id : Int
  Inst : Int
  Name : ByteArray
  Key : Int
  Mail : Int
def TSub.c (x : TSub) : List AV := [.int .i64 x.Part, .int .i64 x.Id, .int .i64 x.Inst, .str x.Name, .int .i64 x.Key, .int .i64 x.Mail]
theorem TSub.c_eq (x : TSub) : TSub.c x = [.int .i64 x.Part, .int .i64 x.Id, .int .i64 x.Inst, .str x.Name, .int .i64 x.Key, .int .i64 x.Mail] := rfl
instance : Row TSub.c 6 := ⟨fun _ => rfl, fun _ => rfl, fun _ => rfl⟩
structure TPost where
  Next : Int
  Mails : (List TMail)
  Subs : (List TSub)
def TPost.c (x : TPost) : List AV := [.int .i64 x.Next, sl TMail.c x.Mails, sl TSub.c x.Subs]
theorem TPost.c_eq (x : TPost) : TPost.c x = [.int .i64 x.Next, sl TMail.c x.Mails, sl TSub.c x.Subs] := rfl
instance : Row TPost.c 3 := ⟨fun _ => rfl, fun _ => rfl, fun _ => rfl⟩
structure Tkey where
  f_part : Int
  f_id : Int
def Tkey.c (x : Tkey) : List AV := [.int .i64 x.f_part, .int .i64 x.f_id]
theorem Tkey.c_eq (x : Tkey) : Tkey.c x = [.int .i64 x.f_part, .int .i64 x.f_id] := rfl
instance : Row Tkey.c 2 := ⟨fun _ => rfl, fun _ => rfl, fun _ => rfl⟩
def hs1 (v0 : TMail) (e0 : Int) (e1 : (List TMail)) (e2 : (List TSub)) : Heap := [(0, .box [.int .i64 e0, sl TMail.c e1, sl TSub.c e2]), (1, .box (TMail.c v0))]
def hs4 (v0 : TMail)  : Heap := [(0, .box (TMail.c v0))]
def hs7 (v0 : TMail) (v1 : TMail)  : Heap := [(0, .box (TMail.c v0)), (1, .box (TMail.c v1))]
def EVt := And.intro @TVars.c_eq (And.intro @TWho.c_eq (And.intro @TMail.c_eq (And.intro @TSub.c_eq (And.intro @TPost.c_eq (And.intro @Tkey.c_eq (And.intro @hs1.eq_1 (And.intro @hs4.eq_1 (And.intro @hs7.eq_1 (@b_tt)))))))))
end Go.Proofs.Ytefjblgmnoheiaa.R
