/- Types of the models. -/
import Derived.Test.YtcmejocmohohpaaRBun
set_option maxRecDepth 100000
set_option linter.unusedVariables false
set_option linter.unusedSimpArgs false
set_option linter.defProp false
noncomputable section
namespace Go.Proofs.Ytcmejocmohohpaa.R
open Go Nat
inductive TExpr where
  | mk (Kind : Int) (N : Int) (Name : ByteArray) (Kids : (List TExpr))
def TExpr.Kind : TExpr → Int | .mk x _ _ _ => x
def TExpr.N : TExpr → Int | .mk _ x _ _ => x
def TExpr.Name : TExpr → ByteArray | .mk _ _ x _ => x
def TExpr.Kids : TExpr → (List TExpr) | .mk _ _ _ x => x
mutual
def TExpr.c : TExpr → List AV
  | .mk x0 x1 x2 x3 => [.int .i64 x0, .int .i64 x1, .str x2, canI (TExpr.cs x3)]
def TExpr.cs : List TExpr → List (List AV)
  | [] => []
  | x :: r => TExpr.c x :: TExpr.cs r
end
theorem TExpr.cs_eq : ∀ l : List TExpr, TExpr.cs l = l.map TExpr.c
  | [] => by simp [TExpr.cs]
  | x :: r => by simp [TExpr.cs, TExpr.cs_eq r]
theorem TExpr.c_eq (x : TExpr) : TExpr.c x = [.int .i64 x.Kind, .int .i64 x.N, .str x.Name, sl TExpr.c x.Kids] := by
  cases x
  simp [TExpr.c, TExpr.cs_eq, sl, TExpr.Kind, TExpr.N, TExpr.Name, TExpr.Kids]
instance : Row TExpr.c 4 := ⟨fun x => by rw [TExpr.c_eq]; rfl, fun x => by rw [TExpr.c_eq]; rfl, fun x => by rw [TExpr.c_eq]; rfl⟩
structure TVars where
  Names : (List ByteArray)
  Vals : (List Int)
def TVars.c (x : TVars) : List AV := [sl cs x.Names, sl (ci .i64) x.Vals]
theorem TVars.c_eq (x : TVars) : TVars.c x = [sl cs x.Names, sl (ci .i64) x.Vals] := rfl
instance : Row TVars.c 2 := ⟨fun _ => rfl, fun _ => rfl, fun _ => rfl⟩
structure TValue where
  Bool : Bool
  N : Int
def TValue.c (x : TValue) : List AV := [.bool x.Bool, .int .i64 x.N]
theorem TValue.c_eq (x : TValue) : TValue.c x = [.bool x.Bool, .int .i64 x.N] := rfl
instance : Row TValue.c 2 := ⟨fun _ => rfl, fun _ => rfl, fun _ => rfl⟩
structure A3_Int where
  a0 : Int
  a1 : Int
  a2 : Int
def A3_Int.c (x : A3_Int) : List AV := [.int .u64 x.a0, .int .u64 x.a1, .int .u64 x.a2]
theorem A3_Int.c_eq (x : A3_Int) : A3_Int.c x = [.int .u64 x.a0, .int .u64 x.a1, .int .u64 x.a2] := rfl
instance : Row A3_Int.c 3 := ⟨fun _ => rfl, fun _ => rfl, fun _ => rfl⟩
structure TBig where
  Minus : Bool
  D : A3_Int
def TBig.c (x : TBig) : List AV := [.bool x.Minus, .int .u64 x.D.a0, .int .u64 x.D.a1, .int .u64 x.D.a2]
theorem TBig.c_eq (x : TBig) : TBig.c x = [.bool x.Minus, .int .u64 x.D.a0, .int .u64 x.D.a1, .int .u64 x.D.a2] := rfl
instance : Row TBig.c 4 := ⟨fun _ => rfl, fun _ => rfl, fun _ => rfl⟩
theorem TExpr.Kind_mk (x0 : Int) (x1 : Int) (x2 : ByteArray) (x3 : (List TExpr)) : (TExpr.mk x0 x1 x2 x3).Kind = x0 := rfl
theorem TExpr.N_mk (x0 : Int) (x1 : Int) (x2 : ByteArray) (x3 : (List TExpr)) : (TExpr.mk x0 x1 x2 x3).N = x1 := rfl
theorem TExpr.Name_mk (x0 : Int) (x1 : Int) (x2 : ByteArray) (x3 : (List TExpr)) : (TExpr.mk x0 x1 x2 x3).Name = x2 := rfl
theorem TExpr.Kids_mk (x0 : Int) (x1 : Int) (x2 : ByteArray) (x3 : (List TExpr)) : (TExpr.mk x0 x1 x2 x3).Kids = x3 := rfl
def EVt := And.intro @TExpr.c_eq (And.intro @TVars.c_eq (And.intro @TValue.c_eq (And.intro @A3_Int.c_eq (And.intro @TBig.c_eq (And.intro @TExpr.Kind_mk (And.intro @TExpr.N_mk (And.intro @TExpr.Name_mk (And.intro @TExpr.Kids_mk (@b_tt)))))))))
end Go.Proofs.Ytcmejocmohohpaa.R
