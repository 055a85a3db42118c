/- Types of the models. -/
import Derived.Test.YtefjblgmnoheiaaRBun
set_option maxRecDepth 100000
set_option maxHeartbeats 1600000
set_option linter.unusedVariables false
set_option linter.unusedSimpArgs false
set_option linter.defProp false
noncomputable section
namespace Go.Proofs.Ytefjblgmnoheiaa.R
open Go Nat
structure TVars where
  Names : (List ByteArray)
  Vals : (List Int)
def TVars.c (x : TVars) : List AV := [sl cs x.Names, sl (ci .i64) x.Vals]
theorem TVars.c_eq (x : TVars) : TVars.c x = [sl cs x.Names, sl (ci .i64) x.Vals] := rfl
instance : Row TVars.c 2 := ⟨fun _ => rfl, fun _ => rfl, fun _ => rfl⟩
structure TWho where
  Part : Int
  Inst : Int
def TWho.c (x : TWho) : List AV := [.int .i64 x.Part, .int .i64 x.Inst]
theorem TWho.c_eq (x : TWho) : TWho.c x = [.int .i64 x.Part, .int .i64 x.Inst] := rfl
instance : Row TWho.c 2 := ⟨fun _ => rfl, fun _ => rfl, fun _ => rfl⟩
structure TMail where
  Id : Int
  Name : ByteArray
  Key : Int
  Vars : TVars
  Until : Int
  Took : (List TWho)
def TMail.c (x : TMail) : List AV := [.int .i64 x.Id, .str x.Name, .int .i64 x.Key, sl cs x.Vars.Names, sl (ci .i64) x.Vars.Vals, .int .i64 x.Until, sl TWho.c x.Took]
theorem TMail.c_eq (x : TMail) : TMail.c x = [.int .i64 x.Id, .str x.Name, .int .i64 x.Key, sl cs x.Vars.Names, sl (ci .i64) x.Vars.Vals, .int .i64 x.Until, sl TWho.c x.Took] := rfl
instance : Row TMail.c 7 := ⟨fun _ => rfl, fun _ => rfl, fun _ => rfl⟩
structure TSub where
  Part : Int
  Id : Int
  Inst : Int
  Name : ByteArray
  Key : Int
  Mail : Int
def TSub.c (x : TSub) : List AV := [.int .i64 x.Part, .int .i64 x.Id, .int .i64 x.Inst, .str x.Name, .int .i64 x.Key, .int .i64 x.Mail]
theorem TSub.c_eq (x : TSub) : TSub.c x = [.int .i64 x.Part, .int .i64 x.Id, .int .i64 x.Inst, .str x.Name, .int .i64 x.Key, .int .i64 x.Mail] := rfl
instance : Row TSub.c 6 := ⟨fun _ => rfl, fun _ => rfl, fun _ => rfl⟩
structure TPost where
  Next : Int
  Mails : (List TMail)
  Subs : (List TSub)
def TPost.c (x : TPost) : List AV := [.int .i64 x.Next, sl TMail.c x.Mails, sl TSub.c x.Subs]
theorem TPost.c_eq (x : TPost) : TPost.c x = [.int .i64 x.Next, sl TMail.c x.Mails, sl TSub.c x.Subs] := rfl
instance : Row TPost.c 3 := ⟨fun _ => rfl, fun _ => rfl, fun _ => rfl⟩
structure Treader where
  f_b : (List Int)
  f_err : Int
def Treader.c (x : Treader) : List AV := [sl (ci .u8) x.f_b, .int .i64 x.f_err]
theorem Treader.c_eq (x : Treader) : Treader.c x = [sl (ci .u8) x.f_b, .int .i64 x.f_err] := rfl
instance : Row Treader.c 2 := ⟨fun _ => rfl, fun _ => rfl, fun _ => rfl⟩
structure Tkey where
  f_part : Int
  f_id : Int
def Tkey.c (x : Tkey) : List AV := [.int .i64 x.f_part, .int .i64 x.f_id]
theorem Tkey.c_eq (x : Tkey) : Tkey.c x = [.int .i64 x.f_part, .int .i64 x.f_id] := rfl
instance : Row Tkey.c 2 := ⟨fun _ => rfl, fun _ => rfl, fun _ => rfl⟩
def hp19 (p0 : Int) (p1 : (List Int)) (p2 p3 : Int) (p4 : (List TMail)) (p5 : Int) (p6 : ByteArray) (p7 : Int) (p8 : (List ByteArray)) (p9 : (List Int)) (p10 : Int) (p11 : (List TWho)) : Heap := [(0, .box [.int .i64 p0, .nil, .nil]), (1, .box [sl (ci .u8) p1, .int .i64 p2]), (2, .box [.int .i64 p3, .own 7 3 0 p4.length false, .nil]), (3, .arr 7 (List.map TMail.c p4) 0), (4, .box [.int .i64 p5, .str p6, .int .i64 p7, sl cs p8, sl (ci .i64) p9, .int .i64 p10, .own 2 5 0 p11.length false]), (5, .arr 2 (List.map TWho.c p11) 0)]
def hs3 (v0 : TMail) (v1 : TMail)  : Heap := [(0, .box (TMail.c v0)), (1, .box (TMail.c v1))]
def hs5 (v0 : TMail)  : Heap := [(0, .box (TMail.c v0))]
def hs7 (v0 : TMail) (e0 : Int) (e1 : (List TMail)) (e2 : (List TSub)) : Heap := [(0, .box [.int .i64 e0, sl TMail.c e1, sl TSub.c e2]), (1, .box (TMail.c v0))]
def EVt := And.intro @TVars.c_eq (And.intro @TWho.c_eq (And.intro @TMail.c_eq (And.intro @TSub.c_eq (And.intro @TPost.c_eq (And.intro @Treader.c_eq (And.intro @Tkey.c_eq (And.intro @hp19.eq_1 (And.intro @hs3.eq_1 (And.intro @hs5.eq_1 (And.intro @hs7.eq_1 (@b_tt)))))))))))
end Go.Proofs.Ytefjblgmnoheiaa.R
