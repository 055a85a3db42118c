/- Types of the models. -/
import Derived.Test.YtefjblgmnoheiaaRPri
set_option maxRecDepth 100000
set_option maxHeartbeats 1600000
set_option linter.unusedVariables false
set_option linter.unusedSimpArgs false
set_option linter.defProp false
noncomputable section
namespace Go.Proofs.Ytefjblgmnoheiaa.R
open Go Nat
structure TVars where
  Names : (List ByteArray)
  Vals : (List Int)
def TVars.c (x : TVars) : List AV := [sl cs x.Names, sl (ci .i64) x.Vals]
theorem TVars.c_eq (x : TVars) : TVars.c x = [sl cs x.Names, sl (ci .i64) x.Vals] := rfl
instance : Row TVars.c 2 := ⟨fun _ => rfl, fun _ => rfl, fun _ => rfl⟩
structure TWho where
  Part : Int
  Inst : Int
def TWho.c (x : TWho) : List AV := [.int .i64 x.Part, .int .i64 x.Inst]
theorem TWho.c_eq (x : TWho) : TWho.c x = [.int .i64 x.Part, .int .i64 x.Inst] := rfl
instance : Row TWho.c 2 := ⟨fun _ => rfl, fun _ => rfl, fun _ => rfl⟩
structure TMail where
  Id : Int
  Name : ByteArray
  Key : Int
  Vars : TVars
  Until : Int
  Took : (List TWho)
def TMail.c (x : TMail) : List AV := [.int .i64 x.Id, .str x.Name, .int .i64 x.Key, sl cs x.Vars.Names, sl (ci .i64) x.Vars.Vals, .int .i64 x.Until, sl TWho.c x.Took]
theorem TMail.c_eq (x : TMail) : TMail.c x = [.int .i64 x.Id, .str x.Name, .int .i64 x.Key, sl cs x.Vars.Names, sl (ci .i64) x.Vars.Vals, .int .i64 x.Until, sl TWho.c x.Took] := rfl
instance : Row TMail.c 7 := ⟨fun _ => rfl, fun _ => rfl, fun _ => rfl⟩
structure TSub where
  Part : Int
  Id : Int
  Inst : Int
  Name : ByteArray
  Key : Int
  Mail : Int
def TSub.c (x : TSub) : List AV := [.int .i64 x.Part, .int .i64 x.Id, .int .i64 x.Inst, .str x.Name, .int .i64 x.Key, .int .i64 x.Mail]
theorem TSub.c_eq (x : TSub) : TSub.c x = [.int .i64 x.Part, .int .i64 x.Id, .int .i64 x.Inst, .str x.Name, .int .i64 x.Key, .int .i64 x.Mail] := rfl
instance : Row TSub.c 6 := ⟨fun _ => rfl, fun _ => rfl, fun _ => rfl⟩
structure TPost where
  Next : Int
  Mails : (List TMail)
  Subs : (List TSub)
def TPost.c (x : TPost) : List AV := [.int .i64 x.Next, sl TMail.c x.Mails, sl TSub.c x.Subs]
theorem TPost.c_eq (x : TPost) : TPost.c x = [.int .i64 x.Next, sl TMail.c x.Mails, sl TSub.c x.Subs] := rfl
instance : Row TPost.c 3 := ⟨fun _ => rfl, fun _ => rfl, fun _ => rfl⟩
structure TOp where
  Kind : Int
  Name : ByteArray
  Key : Int
  Vars : TVars
  Now : Int
  Keep : Int
  Part : Int
  Id : Int
  Inst : Int
def TOp.c (x : TOp) : List AV := [.int .i64 x.Kind, .str x.Name, .int .i64 x.Key, sl cs x.Vars.Names, sl (ci .i64) x.Vars.Vals, .int .i64 x.Now, .int .i64 x.Keep, .int .i64 x.Part, .int .i64 x.Id, .int .i64 x.Inst]
theorem TOp.c_eq (x : TOp) : TOp.c x = [.int .i64 x.Kind, .str x.Name, .int .i64 x.Key, sl cs x.Vars.Names, sl (ci .i64) x.Vars.Vals, .int .i64 x.Now, .int .i64 x.Keep, .int .i64 x.Part, .int .i64 x.Id, .int .i64 x.Inst] := rfl
instance : Row TOp.c 10 := ⟨fun _ => rfl, fun _ => rfl, fun _ => rfl⟩
structure THit where
  Part : Int
  Sub : Int
  Mail : Int
  Vars : TVars
def THit.c (x : THit) : List AV := [.int .i64 x.Part, .int .i64 x.Sub, .int .i64 x.Mail, sl cs x.Vars.Names, sl (ci .i64) x.Vars.Vals]
theorem THit.c_eq (x : THit) : THit.c x = [.int .i64 x.Part, .int .i64 x.Sub, .int .i64 x.Mail, sl cs x.Vars.Names, sl (ci .i64) x.Vars.Vals] := rfl
instance : Row THit.c 5 := ⟨fun _ => rfl, fun _ => rfl, fun _ => rfl⟩
structure Tkey where
  f_part : Int
  f_id : Int
def Tkey.c (x : Tkey) : List AV := [.int .i64 x.f_part, .int .i64 x.f_id]
theorem Tkey.c_eq (x : Tkey) : Tkey.c x = [.int .i64 x.f_part, .int .i64 x.f_id] := rfl
instance : Row Tkey.c 2 := ⟨fun _ => rfl, fun _ => rfl, fun _ => rfl⟩
def hp13 (p0 p1 : Int) (p2 : (List TMail)) (p3 : (List TSub)) (p4 : Int) (p5 : ByteArray) (p6 : Int) (p7 : (List ByteArray)) (p8 : (List Int)) (p9 : Int) (p10 : (List TWho)) (p11 : (List THit)) : Heap := [(0, .box [.int .i64 p0, .nil, .nil]), (1, .box [.int .i64 p1, .own 7 2 0 p2.length false, .own 6 3 0 p3.length false]), (2, .arr 7 (List.map TMail.c p2) 0), (3, .arr 6 (List.map TSub.c p3) 0), (4, .box [.int .i64 p4, .str p5, .int .i64 p6, sl cs p7, sl (ci .i64) p8, .int .i64 p9, .own 2 5 0 p10.length false]), (5, .arr 2 (List.map TWho.c p10) 0), (6, .arr 5 (List.map THit.c p11) 0)]
def hp18 (p0 p1 : Int) (p2 : (List TMail)) (p3 : (List TSub)) (p4 : Int) (p5 : ByteArray) (p6 : Int) (p7 : (List ByteArray)) (p8 : (List Int)) (p9 : Int) (p10 : (List TWho)) (p11 : (List THit)) : Heap := [(0, .box [.int .i64 p0, .nil, .nil]), (1, .box [.int .i64 p1, .own 7 2 0 p2.length false, .own 6 3 0 p3.length false]), (2, .arr 7 (List.map TMail.c p2) 0), (3, .arr 6 (List.map TSub.c p3) 0), (4, .box [.int .i64 p4, .str p5, .int .i64 p6, sl cs p7, sl (ci .i64) p8, .int .i64 p9, sl TWho.c p10]), (5, .arr 5 (List.map THit.c p11) 0)]
def hp29 (p0 : Int) (p1 : (List TMail)) (p2 : (List TSub)) (p3 p4 : Int) (p5 : ByteArray) (p6 : Int) (p7 : (List ByteArray)) (p8 : (List Int)) (p9 : Int) (p10 : (List TWho)) (p11 : Int) (p12 : (List TSub)) (p13 : (List THit)) : Heap := [(0, .box [.int .i64 p0, sl TMail.c p1, sl TSub.c p2]), (1, .box [.int .i64 p3, .nil, .nil]), (2, .box [.int .i64 p4, .str p5, .int .i64 p6, sl cs p7, sl (ci .i64) p8, .int .i64 p9, sl TWho.c p10]), (3, .box [.int .i64 p11, .nil, .own 6 4 0 p12.length false]), (4, .arr 6 (List.map TSub.c p12) 0), (5, .arr 5 (List.map THit.c p13) 0)]
def hp46 (p0 p1 p2 : Int) (p3 : ByteArray) (p4 p5 p6 p7 : Int) (p8 : (List TMail)) (p9 : (List TSub)) (p10 : (List THit)) : Heap := [(0, .box [.int .i64 p0, .int .i64 p1, .int .i64 p2, .str p3, .int .i64 p4, .int .i64 p5]), (1, .box [.int .i64 p6, .nil, .nil]), (2, .box [.int .i64 p7, .own 7 3 0 p8.length false, .own 6 4 0 p9.length false]), (3, .arr 7 (List.map TMail.c p8) 0), (4, .arr 6 (List.map TSub.c p9) 0), (5, .arr 5 (List.map THit.c p10) 0)]
def hs1 (v0 : TOp) (e0 : Int) (e1 : (List TMail)) (e2 : (List TSub)) : Heap := [(0, .box [.int .i64 e0, sl TMail.c e1, sl TSub.c e2]), (1, .box (TOp.c v0))]
def hs3 (v0 : TOp) (e0 : Int) (e1 : (List TMail)) (e2 : (List TSub)) (e3 : Int) (e4 : (List TMail)) (e5 : (List TSub)) (e6 : Int) (e7 : (List TMail)) (e8 : (List TSub)) : Heap := [(0, .box [.int .i64 e0, sl TMail.c e1, sl TSub.c e2]), (1, .box (TOp.c v0)), (2, .box [.int .i64 e3, sl TMail.c e4, sl TSub.c e5]), (3, .box [.int .i64 e6, sl TMail.c e7, sl TSub.c e8])]
def hs5 (v0 : TMail) (v1 : TMail)  : Heap := [(0, .box (TMail.c v0)), (1, .box (TMail.c v1))]
def hs7 (v0 : TMail)  : Heap := [(0, .box (TMail.c v0))]
def hs9 (v0 : TMail) (e0 : Int) (e1 : (List TMail)) (e2 : (List TSub)) : Heap := [(0, .box [.int .i64 e0, sl TMail.c e1, sl TSub.c e2]), (1, .box (TMail.c v0))]
def hs25 (v0 : TSub) (e0 : Int) (e1 : (List TMail)) (e2 : (List TSub)) (e3 : Int) : Heap := [(0, .box [.int .i64 e0, sl TMail.c e1, sl TSub.c e2]), (1, .box (TSub.c v0)), (2, .box [.int .i64 e3, .nil, .nil])]
def hs27 (v0 : TSub) (e0 e1 : Int) (e2 : (List TMail)) (e3 : (List TSub)) : Heap := [(0, .box (TSub.c v0)), (1, .box [.int .i64 e0, .nil, .nil]), (2, .box [.int .i64 e1, .own 7 3 0 e2.length false, .own 6 4 0 e3.length false]), (3, .arr 7 (List.map TMail.c e2) 0), (4, .arr 6 (List.map TSub.c e3) 0)]
def hs39 (v0 : TSub) (e0 : Int) (e1 : (List TMail)) (e2 : (List TSub)) (e3 e4 : Int) (e5 : (List TMail)) (e6 : Int) (e7 : (List THit)) : Heap := [(0, .box [.int .i64 e0, sl TMail.c e1, sl TSub.c e2]), (1, .box [.int .i64 e3, .nil, .nil]), (2, .box [.int .i64 e4, .own 7 3 0 e5.length false, .nil]), (3, .arr 7 (List.map TMail.c e5) 0), (4, .arr 5 (List.map THit.c e7) 0), (5, .box [.int .i64 v0.Part, .int .i64 v0.Id, .int .i64 v0.Inst, .str v0.Name, .int .i64 v0.Key, .int .i64 e6])]
def hs51 (v0 : TSub) (e0 : Int) (e1 : (List TMail)) (e2 : (List TSub)) (e3 e4 : Int) (e5 : (List TMail)) (e6 : (List TSub)) (e7 : Int) (e8 : (List THit)) : Heap := [(0, .box [.int .i64 e0, sl TMail.c e1, sl TSub.c e2]), (1, .box [.int .i64 e3, .nil, .nil]), (2, .box [.int .i64 e4, .own 7 3 0 e5.length false, .own 6 4 0 e6.length false]), (3, .arr 7 (List.map TMail.c e5) 0), (4, .arr 6 (List.map TSub.c e6) 0), (5, .arr 5 (List.map THit.c e8) 0), (6, .box [.int .i64 v0.Part, .int .i64 v0.Id, .int .i64 v0.Inst, .str v0.Name, .int .i64 v0.Key, .int .i64 e7])]
def hs59 (v0 : TSub) (e0 e1 : Int) (e2 : (List TMail)) (e3 : (List TSub)) (e4 : Int) (e5 : (List THit)) : Heap := [(0, .box [.int .i64 e0, .nil, .nil]), (1, .box [.int .i64 e1, .own 7 2 0 e2.length false, .own 6 3 0 e3.length false]), (2, .arr 7 (List.map TMail.c e2) 0), (3, .arr 6 (List.map TSub.c e3) 0), (4, .arr 5 (List.map THit.c e5) 0), (5, .box [.int .i64 v0.Part, .int .i64 v0.Id, .int .i64 v0.Inst, .str v0.Name, .int .i64 v0.Key, .int .i64 e4])]
def hs66 (v0 : TSub) (e0 : Int) (e1 : (List TMail)) (e2 : (List TSub)) : Heap := [(0, .box [.int .i64 e0, sl TMail.c e1, sl TSub.c e2]), (1, .box (TSub.c v0))]
def hs67 (v0 : TSub) (v1 : TMail) (e0 : Int) (e1 : (List TMail)) (e2 : (List TSub)) : Heap := [(0, .box [.int .i64 e0, sl TMail.c e1, sl TSub.c e2]), (1, .box (TSub.c v0)), (2, .box (TMail.c v1))]
def hs69 (v0 : TMail) (e0 : (List TSub)) : Heap := [(0, .box [.int .i64 v0.Id, .str v0.Name, .int .i64 v0.Key, sl cs v0.Vars.Names, sl (ci .i64) v0.Vars.Vals, .int .i64 v0.Until, .own 2 2 0 v0.Took.length false]), (1, .arr 6 (List.map TSub.c e0) 0), (2, .arr 2 (List.map TWho.c v0.Took) 0)]
def hs70 (v0 : TMail) (e0 : (List TSub)) : Heap := [(0, .box [.int .i64 v0.Id, .str v0.Name, .int .i64 v0.Key, sl cs v0.Vars.Names, sl (ci .i64) v0.Vars.Vals, .int .i64 v0.Until, .nil]), (1, .arr 6 (List.map TSub.c e0) 0)]
def hs71 (v0 : TMail) (e0 : (List TSub)) : Heap := [(0, .box [.int .i64 v0.Id, .str v0.Name, .int .i64 v0.Key, sl cs v0.Vars.Names, sl (ci .i64) v0.Vars.Vals, .int .i64 v0.Until, .own 2 3 0 v0.Took.length false]), (2, .arr 6 (List.map TSub.c e0) 0), (3, .arr 2 (List.map TWho.c v0.Took) 0)]
def hs72 (v0 : TMail) (e0 : (List TSub)) : Heap := [(0, .box [.int .i64 v0.Id, .str v0.Name, .int .i64 v0.Key, sl cs v0.Vars.Names, sl (ci .i64) v0.Vars.Vals, .int .i64 v0.Until, .own 2 1 0 v0.Took.length false]), (1, .arr 2 (List.map TWho.c v0.Took) 0), (2, .arr 6 (List.map TSub.c e0) 0)]
def hs73 (v0 : TSub) (e0 : (List TMail)) : Heap := [(0, .arr 7 (List.map TMail.c e0) 0), (1, .box (TSub.c v0))]
def hs74 (v0 : TSub) (e0 : Int) (e1 : (List TMail)) (e2 : (List TSub)) (e3 e4 : Int) (e5 : ByteArray) (e6 : Int) (e7 : (List ByteArray)) (e8 : (List Int)) (e9 : Int) (e10 : (List TWho)) (e11 : Int) (e12 : (List TSub)) (e13 : Int) (e14 : (List THit)) : Heap := [(0, .box [.int .i64 e0, sl TMail.c e1, sl TSub.c e2]), (1, .box [.int .i64 e3, .nil, .nil]), (2, .box [.int .i64 e4, .str e5, .int .i64 e6, sl cs e7, sl (ci .i64) e8, .int .i64 e9, sl TWho.c e10]), (3, .box [.int .i64 e11, .nil, .own 6 4 0 e12.length false]), (4, .arr 6 (List.map TSub.c e12) 0), (5, .arr 5 (List.map THit.c e14) 0), (6, .box [.int .i64 v0.Part, .int .i64 v0.Id, .int .i64 v0.Inst, .str v0.Name, .int .i64 v0.Key, .int .i64 e13])]
def hs75 (v0 : TSub) (e0 : Int) (e1 : (List TMail)) (e2 : (List TSub)) (e3 e4 : Int) (e5 : (List TMail)) (e6 e7 : Int) (e8 : ByteArray) (e9 : Int) (e10 : (List ByteArray)) (e11 : (List Int)) (e12 : Int) (e13 : (List TWho)) (e14 : (List THit)) : Heap := [(0, .box [.int .i64 e0, sl TMail.c e1, sl TSub.c e2]), (1, .box [.int .i64 e3, .nil, .nil]), (2, .box [.int .i64 e4, .own 7 3 0 e5.length false, .nil]), (3, .arr 7 (List.map TMail.c e5) 0), (4, .arr 5 (List.map THit.c e14) 0), (5, .box [.int .i64 v0.Part, .int .i64 v0.Id, .int .i64 v0.Inst, .str v0.Name, .int .i64 v0.Key, .int .i64 e6]), (6, .box [.int .i64 e7, .str e8, .int .i64 e9, sl cs e10, sl (ci .i64) e11, .int .i64 e12, sl TWho.c e13])]
def EVt := And.intro @TVars.c_eq (And.intro @TWho.c_eq (And.intro @TMail.c_eq (And.intro @TSub.c_eq (And.intro @TPost.c_eq (And.intro @TOp.c_eq (And.intro @THit.c_eq (And.intro @Tkey.c_eq (And.intro @hp13.eq_1 (And.intro @hp18.eq_1 (And.intro @hp29.eq_1 (And.intro @hp46.eq_1 (And.intro @hs1.eq_1 (And.intro @hs3.eq_1 (And.intro @hs5.eq_1 (And.intro @hs7.eq_1 (And.intro @hs9.eq_1 (And.intro @hs25.eq_1 (And.intro @hs27.eq_1 (And.intro @hs39.eq_1 (And.intro @hs51.eq_1 (And.intro @hs59.eq_1 (And.intro @hs66.eq_1 (And.intro @hs67.eq_1 (And.intro @hs69.eq_1 (And.intro @hs70.eq_1 (And.intro @hs71.eq_1 (And.intro @hs72.eq_1 (And.intro @hs73.eq_1 (And.intro @hs74.eq_1 (And.intro @hs75.eq_1 (@b_tt)))))))))))))))))))))))))))))))
end Go.Proofs.Ytefjblgmnoheiaa.R
