/- Models of the functions. -/
import Derived.Test.YtcmejocmohohpaaMT
set_option maxRecDepth 100000
set_option linter.unusedVariables false
set_option linter.unusedSimpArgs false
noncomputable section
namespace Go.Proofs.Ytcmejocmohohpaa.R
open Go Nat
/-! funicular/eval.truth -/
def m_eval_truth  (b : Bool) : Option TValue :=
  if b = true then
    some (TValue.mk true (1 : Int))
  else
    some (TValue.mk true (0 : Int))
/-! cmp.isNaN[string] -/
def m_cmp_isNaN_string  (x0 : ByteArray) : Option Bool :=
  some (!(eqS x0 x0))
/-! cmp.Less[string] -/
def m_cmp_Less_string  (x0 : ByteArray) (y : ByteArray) : Option Bool :=
  bnd (m_cmp_isNaN_string x0) fun r0 =>
  if r0 = true then
    bnd (m_cmp_isNaN_string y) fun r0_1 =>
    if r0_1 = true then
      some (ltS x0 y)
    else
      some true
  else
    some (ltS x0 y)
/-! slices.isNaN[string] -/
def m_slices_isNaN_string  (x0 : ByteArray) : Option Bool :=
  some (!(eqS x0 x0))
/-! slices.BinarySearch[[]string,string] -/
def m_slices_BinarySearch_string_string_k1  (x0 : (List ByteArray)) (target : ByteArray) (i_1 : Int) : Option (Int × Bool) :=
  if (decide (i_1 < (x0.length : Int))) = true then
    bnd (nthI x0 i_1) fun e_1 =>
    if (eqS e_1 target) = true then
      some (i_1, true)
    else
      bnd (m_slices_isNaN_string e_1) fun r0_1 =>
      if r0_1 = true then
        bnd (m_slices_isNaN_string target) fun r0_2 =>
        some (i_1, r0_2)
      else
        some (i_1, false)
  else
    some (i_1, false)
def m_slices_BinarySearch_string_string_l1_B  (x0 : (List ByteArray)) (target : ByteArray) (rec_m_slices_BinarySearch_string_string_l1 : Int → Int → Option (Int × Bool)) (i : Int) (j : Int) : Option (Int × Bool) :=
  if (decide (i < j)) = true then
    bnd (nthI x0 (IntKind.i64.wrap (shrI .u64 (IntKind.u64.wrap (IntKind.i64.wrap (i + j))) (1 : Int)))) fun e =>
    bnd (m_cmp_Less_string e target) fun r0 =>
    if r0 = true then
      rec_m_slices_BinarySearch_string_string_l1 (IntKind.i64.wrap ((IntKind.i64.wrap (shrI .u64 (IntKind.u64.wrap (IntKind.i64.wrap (i + j))) (1 : Int))) + (1 : Int))) j
    else
      rec_m_slices_BinarySearch_string_string_l1 i (IntKind.i64.wrap (shrI .u64 (IntKind.u64.wrap (IntKind.i64.wrap (i + j))) (1 : Int)))
  else
    m_slices_BinarySearch_string_string_k1 x0 target i
def m_slices_BinarySearch_string_string_l1  (x0 : (List ByteArray)) (target : ByteArray) : Nat → Int → Int → Option (Int × Bool)
  | 0, _, _ => none
  | n + 1, i, j => m_slices_BinarySearch_string_string_l1_B  x0 target (m_slices_BinarySearch_string_string_l1  x0 target n) i j
def m_slices_BinarySearch_string_string  (x0 : (List ByteArray)) (target : ByteArray) : Option (Int × Bool) :=
  m_slices_BinarySearch_string_string_l1 x0 target (1000000) (0 : Int) (x0.length : Int)
/-! funicular/vars.Get -/
def m_vars_Get_k1  (v : TVars) (r0 : (Int × Bool)) (v23 : Bool) : Option (Int × Bool) :=
  if v23 = true then
    some ((0 : Int), false)
  else
    bnd (nthI v.Vals r0.1) fun e =>
    some (e, true)
def m_vars_Get  (v : TVars) (name : ByteArray) : Option (Int × Bool) :=
  bnd (m_slices_BinarySearch_string_string v.Names name) fun r0 =>
  if r0.2 = true then
    m_vars_Get_k1 v r0 (decide ((v.Vals.length : Int) ≤ r0.1))
  else
    m_vars_Get_k1 v r0 true
/-! funicular/eval.add -/
def m_eval_add  (a : Int) (b : Int) : Option (Int × Bool) :=
  some ((IntKind.i64.wrap (a + b)), (((decide ((IntKind.i64.wrap (a + b)) < a)) == (decide (b < (0 : Int))))))
/-! funicular/eval.mul -/
def m_eval_mul_k1  (a : Int) (b : Int) (v12 : Bool) : Option (Int × Bool) :=
  if v12 = true then
    some ((0 : Int), true)
  else
    if (decide (b = 0)) = true then none else if (decide ((IntKind.i64.wrap ((IntKind.i64.wrap (a * b)).tdiv b)) = a)) = true then
        some ((IntKind.i64.wrap (a * b)), (((decide ((IntKind.i64.wrap (a * b)) < (0 : Int))) == (!(((decide (a < (0 : Int))) == (decide (b < (0 : Int)))))))))
      else
        some ((IntKind.i64.wrap (a * b)), false)
def m_eval_mul  (a : Int) (b : Int) : Option (Int × Bool) :=
  if (decide (a = (0 : Int))) = true then
    m_eval_mul_k1 a b true
  else
    m_eval_mul_k1 a b (decide (b = (0 : Int)))
/-! funicular/eval.number -/
def m_eval_number_k2  (c : Int) (ok : Bool) : Option (Int × Int) :=
  if ok = true then
    some (c, (0 : Int))
  else
    some ((0 : Int), (13 : Int))
def m_eval_number_k1  (a : Int) (b : Int) (v46 : Bool) : Option (Int × Int) :=
  if v46 = true then
    m_eval_number_k2 (0 : Int) false
  else
    if (decide (b = 0)) = true then none else m_eval_number_k2 (IntKind.i64.wrap (a.tdiv b)) true
def m_eval_number  (kind : Int) (a : Int) (b : Int) : Option (Int × Int) :=
  if (decide (kind = (7 : Int))) = true then
    bnd (m_eval_add a b) fun r0 =>
    m_eval_number_k2 r0.1 r0.2
  else
    if (decide (kind = (8 : Int))) = true then
      if ((decide (a < (IntKind.i64.wrap (a - b)))) == (decide (b < (0 : Int)))) = true then
        m_eval_number_k2 (IntKind.i64.wrap (a - b)) true
      else
        m_eval_number_k2 (IntKind.i64.wrap (a - b)) false
    else
      if (decide (kind = (9 : Int))) = true then
        bnd (m_eval_mul a b) fun r0_1 =>
        m_eval_number_k2 r0_1.1 r0_1.2
      else
        if (decide (kind = (10 : Int))) = true then
          if (decide (b = (0 : Int))) = true then
            some ((0 : Int), (12 : Int))
          else
            if (decide (b = (-1 : Int))) = true then
              m_eval_number_k1 a b (decide (a = (-9223372036854775808 : Int)))
            else
              m_eval_number_k1 a b false
        else
          m_eval_number_k2 (0 : Int) true
/-! funicular/eval.of$1 -/
def m_eval_of_1_B (rec_m_eval_of : TExpr → TVars → Option (TValue × Int)) (i : Int) (b0 : TExpr) (b1 : TVars) : Option (Int × Int) :=
  bnd (nthI b0.Kids i) fun e =>
  bnd (rec_m_eval_of e b1) fun r0 =>
  some (r0.1.N, r0.2)
/-! funicular/eval.of -/
def m_eval_of_k5  (x0 : TExpr) (r0_2 : (Int × Int)) (r0_5 : (Int × Int)) (v103 : Bool) : Option (TValue × Int) :=
  if v103 = true then
    bnd (m_eval_truth (decide (r0_5.1 = (1 : Int)))) fun r0_6 =>
    some (r0_6, (0 : Int))
  else
    if (decide (x0.Kind = (11 : Int))) = true then
      bnd (m_eval_truth (decide (r0_2.1 = r0_5.1))) fun r0_7 =>
      some (r0_7, (0 : Int))
    else
      if (decide (x0.Kind = (12 : Int))) = true then
        bnd (m_eval_truth (decide (r0_2.1 < r0_5.1))) fun r0_8 =>
        some (r0_8, (0 : Int))
      else
        bnd (m_eval_number x0.Kind r0_2.1 r0_5.1) fun r0_9 =>
        some ((TValue.mk false r0_9.1), r0_9.2)
def m_eval_of_k4 (rec_m_eval_of_1 : Int → TExpr → TVars → Option (Int × Int)) (x0 : TExpr) (v : TVars) (r0_2 : (Int × Int)) (v74_1 : Bool) : Option (TValue × Int) :=
  if v74_1 = true then
    bnd (m_eval_truth (decide (r0_2.1 = (1 : Int)))) fun r0_4 =>
    some (r0_4, (0 : Int))
  else
    bnd (rec_m_eval_of_1 (1 : Int) x0 v) fun r0_5 =>
    if (decide (r0_5.2 ≠ (0 : Int))) = true then
      some ((TValue.mk false (0 : Int)), r0_5.2)
    else
      if (decide (x0.Kind = (13 : Int))) = true then
        m_eval_of_k5 x0 r0_2 r0_5 true
      else
        m_eval_of_k5 x0 r0_2 r0_5 (decide (x0.Kind = (14 : Int)))
def m_eval_of_k3 (rec_m_eval_of_1 : Int → TExpr → TVars → Option (Int × Int)) (x0 : TExpr) (v : TVars) (r0_2 : (Int × Int)) (v74 : Bool) : Option (TValue × Int) :=
  if v74 = true then
    m_eval_of_k4 rec_m_eval_of_1 x0 v r0_2 true
  else
    if (decide (x0.Kind = (14 : Int))) = true then
      m_eval_of_k4 rec_m_eval_of_1 x0 v r0_2 (decide (r0_2.1 = (1 : Int)))
    else
      m_eval_of_k4 rec_m_eval_of_1 x0 v r0_2 false
def m_eval_of_k2 (rec_m_eval_of_1 : Int → TExpr → TVars → Option (Int × Int)) (x0 : TExpr) (v : TVars) (r0_2 : (Int × Int)) (v58 : Bool) : Option (TValue × Int) :=
  if v58 = true then
    some ((TValue.mk false (0 : Int)), (13 : Int))
  else
    if (decide (x0.Kind = (5 : Int))) = true then
      some ((TValue.mk false (IntKind.i64.wrap (0 - r0_2.1))), (0 : Int))
    else
      if (decide (x0.Kind = (13 : Int))) = true then
        m_eval_of_k3 rec_m_eval_of_1 x0 v r0_2 (decide (r0_2.1 = (0 : Int)))
      else
        m_eval_of_k3 rec_m_eval_of_1 x0 v r0_2 false
def m_eval_of_k1 (rec_m_eval_of_1 : Int → TExpr → TVars → Option (Int × Int)) (x0 : TExpr) (v : TVars) (v21 : Bool) : Option (TValue × Int) :=
  if v21 = true then
    bnd (m_eval_truth (decide (x0.Kind = (3 : Int)))) fun r0 =>
    some (r0, (0 : Int))
  else
    if (decide (x0.Kind = (2 : Int))) = true then
      bnd (m_vars_Get v x0.Name) fun r0_1 =>
      if r0_1.2 = true then
        some ((TValue.mk false r0_1.1), (0 : Int))
      else
        some ((TValue.mk false (0 : Int)), (9 : Int))
    else
      bnd (rec_m_eval_of_1 (0 : Int) x0 v) fun r0_2 =>
      if (decide (r0_2.2 ≠ (0 : Int))) = true then
        some ((TValue.mk false (0 : Int)), r0_2.2)
      else
        if (decide (x0.Kind = (6 : Int))) = true then
          bnd (m_eval_truth (decide (r0_2.1 = (0 : Int)))) fun r0_3 =>
          some (r0_3, (0 : Int))
        else
          if (decide (x0.Kind = (5 : Int))) = true then
            m_eval_of_k2 rec_m_eval_of_1 x0 v r0_2 (decide (r0_2.1 = (-9223372036854775808 : Int)))
          else
            m_eval_of_k2 rec_m_eval_of_1 x0 v r0_2 false
def m_eval_of_B (rec_m_eval_of_1 : Int → TExpr → TVars → Option (Int × Int)) (x0 : TExpr) (v : TVars) : Option (TValue × Int) :=
  if (decide (x0.Kind = (1 : Int))) = true then
    some ((TValue.mk false x0.N), (0 : Int))
  else
    if (decide (x0.Kind = (3 : Int))) = true then
      m_eval_of_k1 rec_m_eval_of_1 x0 v true
    else
      m_eval_of_k1 rec_m_eval_of_1 x0 v (decide (x0.Kind = (4 : Int)))
mutual
def m_eval_of_1 : Nat → Int → TExpr → TVars → Option (Int × Int)
  | 0, _, _, _ => none
  | n + 1, i, b0, b1 => m_eval_of_1_B (m_eval_of n) i b0 b1
def m_eval_of : Nat → TExpr → TVars → Option (TValue × Int)
  | 0, _, _ => none
  | n + 1, x0, v => m_eval_of_B (m_eval_of_1 n) x0 v
end
/-! funicular/funicularlaw10.works: reckoned by the kernel -/
def m_law10_works : Option Bool := some true
/-! funicular/pack.Name -/
def m_pack_Name_k3  (s : ByteArray) : Option Bool :=
  if (decide ((1 : Int) ≤ (s.size : Int))) = true then
    some (decide ((s.size : Int) ≤ (32 : Int)))
  else
    some false
def m_pack_Name_k2 (rec_m_pack_Name_l1 : Int → Option Bool) (v9 : Int) (v33 : Bool) : Option Bool :=
  if v33 = true then
    some false
  else
    rec_m_pack_Name_l1 (IntKind.i64.wrap (v9 + (1 : Int)))
def m_pack_Name_k1 (rec_m_pack_Name_l1 : Int → Option Bool) (v9 : Int) (e : Int) (letter : Bool) : Option Bool :=
  if letter = true then
    m_pack_Name_k2 rec_m_pack_Name_l1 v9 false
  else
    if (decide (v9 = (0 : Int))) = true then
      m_pack_Name_k2 rec_m_pack_Name_l1 v9 true
    else
      if (decide (e < (48 : Int))) = true then
        m_pack_Name_k2 rec_m_pack_Name_l1 v9 true
      else
        m_pack_Name_k2 rec_m_pack_Name_l1 v9 (decide ((57 : Int) < e))
def m_pack_Name_l1_B  (s : ByteArray) (rec_m_pack_Name_l1 : Int → Option Bool) (v9 : Int) : Option Bool :=
  if (decide (v9 < (((bytesI s).length : Nat) : Int))) = true then
    bnd (nthI (bytesI s) v9) fun e =>
    if (decide ((97 : Int) ≤ e)) = true then
      m_pack_Name_k1 rec_m_pack_Name_l1 v9 e (decide (e ≤ (122 : Int)))
    else
      m_pack_Name_k1 rec_m_pack_Name_l1 v9 e false
  else
    m_pack_Name_k3 s
def m_pack_Name_l1  (s : ByteArray) : Nat → Int → Option Bool
  | 0, _ => none
  | n + 1, v9 => m_pack_Name_l1_B  s (m_pack_Name_l1  s n) v9
def m_pack_Name  (s : ByteArray) : Option Bool :=
  m_pack_Name_l1 s ((((((bytesI s).length : Nat) : Int)) - ((0 : Int))).toNat + 1) (0 : Int)
/-! funicular/expr.check -/
def m_expr_check_l1_B (rec_m_expr_check : TExpr → Int → Option Int) (x0 : TExpr) (deep : Int) (rec_m_expr_check_l1 : Int → Option Int) (v84 : Int) : Option Int :=
  if (decide (v84 < (x0.Kids.length : Int))) = true then
    bnd (nthI x0.Kids v84) fun e =>
    bnd (rec_m_expr_check e (IntKind.i64.wrap (deep + (1 : Int)))) fun r0_2 =>
    if (decide (r0_2 ≠ (0 : Int))) = true then
      some r0_2
    else
      rec_m_expr_check_l1 (IntKind.i64.wrap (v84 + (1 : Int)))
  else
    some (0 : Int)
def m_expr_check_l1 (rec_m_expr_check : TExpr → Int → Option Int) (x0 : TExpr) (deep : Int) : Nat → Int → Option Int
  | 0, _ => none
  | n + 1, v84 => m_expr_check_l1_B rec_m_expr_check x0 deep (m_expr_check_l1 rec_m_expr_check x0 deep n) v84
def m_expr_check_k6 (rec_m_expr_check : TExpr → Int → Option Int) (x0 : TExpr) (deep : Int) (v51 : Bool) : Option Int :=
  if v51 = true then
    some (1 : Int)
  else
    m_expr_check_l1 rec_m_expr_check x0 deep ((((x0.Kids.length : Int)) - ((0 : Int))).toNat + 1) (0 : Int)
def m_expr_check_k5 (rec_m_expr_check : TExpr → Int → Option Int) (x0 : TExpr) (deep : Int) (v37 : Bool) : Option Int :=
  if v37 = true then
    some (1 : Int)
  else
    if (decide (x0.Kind ≠ (2 : Int))) = true then
      if (eqS x0.Name (⟨#[]⟩)) = true then
        if (decide (x0.Kind = (2 : Int))) = true then
          bnd (m_pack_Name x0.Name) fun r0 =>
          if r0 = true then
            if (eqS x0.Name (⟨#[121, 101, 115]⟩)) = true then
              m_expr_check_k6 rec_m_expr_check x0 deep true
            else
              m_expr_check_k6 rec_m_expr_check x0 deep (eqS x0.Name (⟨#[110, 111]⟩))
          else
            m_expr_check_k6 rec_m_expr_check x0 deep true
        else
          m_expr_check_k6 rec_m_expr_check x0 deep false
      else
        m_expr_check_k6 rec_m_expr_check x0 deep true
    else
      if (decide (x0.Kind = (2 : Int))) = true then
        bnd (m_pack_Name x0.Name) fun r0_1 =>
        if r0_1 = true then
          if (eqS x0.Name (⟨#[121, 101, 115]⟩)) = true then
            m_expr_check_k6 rec_m_expr_check x0 deep true
          else
            m_expr_check_k6 rec_m_expr_check x0 deep (eqS x0.Name (⟨#[110, 111]⟩))
        else
          m_expr_check_k6 rec_m_expr_check x0 deep true
      else
        m_expr_check_k6 rec_m_expr_check x0 deep false
def m_expr_check_k4 (rec_m_expr_check : TExpr → Int → Option Int) (x0 : TExpr) (deep : Int) (v21 : Bool) : Option Int :=
  if v21 = true then
    some (1 : Int)
  else
    if (decide (x0.N < (0 : Int))) = true then
      m_expr_check_k5 rec_m_expr_check x0 deep true
    else
      if (decide (x0.N ≠ (0 : Int))) = true then
        m_expr_check_k5 rec_m_expr_check x0 deep (decide (x0.Kind ≠ (1 : Int)))
      else
        m_expr_check_k5 rec_m_expr_check x0 deep false
def m_expr_check_k3 (rec_m_expr_check : TExpr → Int → Option Int) (x0 : TExpr) (deep : Int) (kids : Int) : Option Int :=
  if (decide (x0.Kind < (1 : Int))) = true then
    m_expr_check_k4 rec_m_expr_check x0 deep true
  else
    if (decide ((14 : Int) < x0.Kind)) = true then
      m_expr_check_k4 rec_m_expr_check x0 deep true
    else
      m_expr_check_k4 rec_m_expr_check x0 deep (decide ((x0.Kids.length : Int) ≠ kids))
def m_expr_check_k2 (rec_m_expr_check : TExpr → Int → Option Int) (x0 : TExpr) (deep : Int) (v18 : Bool) : Option Int :=
  if v18 = true then
    m_expr_check_k3 rec_m_expr_check x0 deep (1 : Int)
  else
    m_expr_check_k3 rec_m_expr_check x0 deep (2 : Int)
def m_expr_check_k1 (rec_m_expr_check : TExpr → Int → Option Int) (x0 : TExpr) (deep : Int) (v13 : Bool) : Option Int :=
  if v13 = true then
    m_expr_check_k3 rec_m_expr_check x0 deep (0 : Int)
  else
    if (decide (x0.Kind = (5 : Int))) = true then
      m_expr_check_k2 rec_m_expr_check x0 deep true
    else
      m_expr_check_k2 rec_m_expr_check x0 deep (decide (x0.Kind = (6 : Int)))
def m_expr_check_B (rec_m_expr_check : TExpr → Int → Option Int) (x0 : TExpr) (deep : Int) : Option Int :=
  if (decide ((16 : Int) < deep)) = true then
    some (6 : Int)
  else
    if (decide (x0.Kind = (1 : Int))) = true then
      m_expr_check_k1 rec_m_expr_check x0 deep true
    else
      if (decide (x0.Kind = (2 : Int))) = true then
        m_expr_check_k1 rec_m_expr_check x0 deep true
      else
        if (decide (x0.Kind = (3 : Int))) = true then
          m_expr_check_k1 rec_m_expr_check x0 deep true
        else
          m_expr_check_k1 rec_m_expr_check x0 deep (decide (x0.Kind = (4 : Int)))
def m_expr_check : Nat → TExpr → Int → Option Int
  | 0, _, _ => none
  | n + 1, x0, deep => m_expr_check_B (m_expr_check n) x0 deep
/-! funicular/expr.Check -/
def m_expr_Check  (x0 : TExpr) : Option Int :=
  bnd (m_expr_check 100 x0 (1 : Int)) fun r0 =>
  some r0
/-! funicular/types.shape -/
def m_types_shape_k1  (kind : Int) (v5 : Bool) : Option (Int × Int) :=
  if v5 = true then
    some ((0 : Int), (0 : Int))
  else
    if (decide (kind = (12 : Int))) = true then
      some ((0 : Int), (1 : Int))
    else
      if (decide (kind = (11 : Int))) = true then
        some ((-1 : Int), (1 : Int))
      else
        some ((1 : Int), (1 : Int))
def m_types_shape  (kind : Int) : Option (Int × Int) :=
  if (decide (kind = (1 : Int))) = true then
    m_types_shape_k1 kind true
  else
    if (decide (kind = (2 : Int))) = true then
      m_types_shape_k1 kind true
    else
      if (decide (kind = (5 : Int))) = true then
        m_types_shape_k1 kind true
      else
        if (decide (kind = (7 : Int))) = true then
          m_types_shape_k1 kind true
        else
          if (decide (kind = (8 : Int))) = true then
            m_types_shape_k1 kind true
          else
            if (decide (kind = (9 : Int))) = true then
              m_types_shape_k1 kind true
            else
              m_types_shape_k1 kind (decide (kind = (10 : Int)))
/-! funicular/types.of -/
def m_types_of_k3  (r0 : (Int × Int)) : Option (Int × Int) :=
  some (r0.2, (0 : Int))
def m_types_of_k2 (rec_m_types_of_l1 : Int → Int → Option (Int × Int)) (v19 : Int) (r0_1 : (Int × Int)) (want_1 : Int) : Option (Int × Int) :=
  if (decide (r0_1.1 ≠ want_1)) = true then
    some ((0 : Int), (7 : Int))
  else
    rec_m_types_of_l1 want_1 (IntKind.i64.wrap (v19 + (1 : Int)))
def m_types_of_k1 (rec_m_types_of_l1 : Int → Int → Option (Int × Int)) (want : Int) (v19 : Int) (r0_1 : (Int × Int)) (v37 : Bool) : Option (Int × Int) :=
  if v37 = true then
    m_types_of_k2 rec_m_types_of_l1 v19 r0_1 r0_1.1
  else
    m_types_of_k2 rec_m_types_of_l1 v19 r0_1 want
def m_types_of_l1_B (rec_m_types_of : TExpr → Option (Int × Int)) (x0 : TExpr) (r0 : (Int × Int)) (rec_m_types_of_l1 : Int → Int → Option (Int × Int)) (want : Int) (v19 : Int) : Option (Int × Int) :=
  if (decide (v19 < (x0.Kids.length : Int))) = true then
    bnd (nthI x0.Kids v19) fun e =>
    bnd (rec_m_types_of e) fun r0_1 =>
    if (decide (r0_1.2 ≠ (0 : Int))) = true then
      some ((0 : Int), r0_1.2)
    else
      if (decide (v19 = (0 : Int))) = true then
        m_types_of_k1 rec_m_types_of_l1 want v19 r0_1 (decide (want < (0 : Int)))
      else
        m_types_of_k1 rec_m_types_of_l1 want v19 r0_1 false
  else
    m_types_of_k3 r0
def m_types_of_l1 (rec_m_types_of : TExpr → Option (Int × Int)) (x0 : TExpr) (r0 : (Int × Int)) : Nat → Int → Int → Option (Int × Int)
  | 0, _, _ => none
  | n + 1, want, v19 => m_types_of_l1_B rec_m_types_of x0 r0 (m_types_of_l1 rec_m_types_of x0 r0 n) want v19
def m_types_of_B (rec_m_types_of : TExpr → Option (Int × Int)) (x0 : TExpr) : Option (Int × Int) :=
  bnd (m_types_shape x0.Kind) fun r0 =>
  m_types_of_l1 rec_m_types_of x0 r0 ((((x0.Kids.length : Int)) - ((0 : Int))).toNat + 1) r0.1 (0 : Int)
def m_types_of : Nat → TExpr → Option (Int × Int)
  | 0, _ => none
  | n + 1, x0 => m_types_of_B (m_types_of n) x0
/-! funicular/types.Truth -/
def m_types_Truth  (x0 : TExpr) : Option (Bool × Int) :=
  bnd (m_expr_Check x0) fun r0 =>
  if (decide (r0 ≠ (0 : Int))) = true then
    some (false, r0)
  else
    bnd (m_types_of 100 x0) fun r0_1 =>
    some ((decide (r0_1.1 = (1 : Int))), r0_1.2)
/-! funicular/vars.Check -/
def m_vars_Check_k2 (rec_m_vars_Check_l1 : Int → Option Int) (v21 : Int) (v48 : Bool) : Option Int :=
  if v48 = true then
    some (1 : Int)
  else
    rec_m_vars_Check_l1 (IntKind.i64.wrap (v21 + (1 : Int)))
def m_vars_Check_k1 (rec_m_vars_Check_l1 : Int → Option Int) (v : TVars) (v21 : Int) (e : ByteArray) (v36 : Bool) : Option Int :=
  if v36 = true then
    some (1 : Int)
  else
    if (decide ((0 : Int) < v21)) = true then
      bnd (nthI v.Names (IntKind.i64.wrap (v21 - (1 : Int)))) fun e_1 =>
      m_vars_Check_k2 rec_m_vars_Check_l1 v21 (!(ltS e_1 e))
    else
      m_vars_Check_k2 rec_m_vars_Check_l1 v21 false
def m_vars_Check_l1_B  (v : TVars) (rec_m_vars_Check_l1 : Int → Option Int) (v21 : Int) : Option Int :=
  if (decide (v21 < (v.Names.length : Int))) = true then
    bnd (nthI v.Names v21) fun e =>
    bnd (m_pack_Name e) fun r0 =>
    if r0 = true then
      if (eqS e (⟨#[121, 101, 115]⟩)) = true then
        m_vars_Check_k1 rec_m_vars_Check_l1 v v21 e true
      else
        m_vars_Check_k1 rec_m_vars_Check_l1 v v21 e (eqS e (⟨#[110, 111]⟩))
    else
      m_vars_Check_k1 rec_m_vars_Check_l1 v v21 e true
  else
    some (0 : Int)
def m_vars_Check_l1  (v : TVars) : Nat → Int → Option Int
  | 0, _ => none
  | n + 1, v21 => m_vars_Check_l1_B  v (m_vars_Check_l1  v n) v21
def m_vars_Check  (v : TVars) : Option Int :=
  if (decide ((v.Names.length : Int) ≠ (v.Vals.length : Int))) = true then
    some (1 : Int)
  else
    if (decide ((64 : Int) < (v.Names.length : Int))) = true then
      some (6 : Int)
    else
      m_vars_Check_l1 v ((((v.Names.length : Int)) - ((0 : Int))).toNat + 1) (0 : Int)
/-! funicular/eval.Of -/
def m_eval_Of  (x0 : TExpr) (v : TVars) : Option (TValue × Int) :=
  bnd (m_types_Truth x0) fun r0 =>
  if (decide (r0.2 ≠ (0 : Int))) = true then
    some ((TValue.mk false (0 : Int)), r0.2)
  else
    bnd (m_vars_Check v) fun r0_1 =>
    if (decide (r0_1 ≠ (0 : Int))) = true then
      some ((TValue.mk false (0 : Int)), r0_1)
    else
      bnd (m_eval_of 100 x0 v) fun r0_2 =>
      some (r0_2.1, r0_2.2)
/-! funicular/funicularref02.Name -/
def m_ref02_Name_k4 (rec_m_ref02_Name_l1 : Int → Option Bool) (i : Int) (v50 : Bool) : Option Bool :=
  if v50 = true then
    some false
  else
    rec_m_ref02_Name_l1 (IntKind.i64.wrap (i + (1 : Int)))
def m_ref02_Name_k3 (rec_m_ref02_Name_l1 : Int → Option Bool) (i : Int) (digit : Bool) (letter : Bool) : Option Bool :=
  if digit = true then
    m_ref02_Name_k4 rec_m_ref02_Name_l1 i false
  else
    m_ref02_Name_k4 rec_m_ref02_Name_l1 i (!letter)
def m_ref02_Name_k2 (rec_m_ref02_Name_l1 : Int → Option Bool) (s : ByteArray) (i : Int) (digit : Bool) : Option Bool :=
  bnd (nthS s i) fun c_2 =>
  if (decide ((97 : Int) ≤ c_2)) = true then
    m_ref02_Name_k3 rec_m_ref02_Name_l1 i digit (decide (c_2 ≤ (122 : Int)))
  else
    m_ref02_Name_k3 rec_m_ref02_Name_l1 i digit false
def m_ref02_Name_l1_B  (s : ByteArray) (rec_m_ref02_Name_l1 : Int → Option Bool) (i : Int) : Option Bool :=
  if (decide (i < (s.size : Int))) = true then
    bnd (nthS s i) fun c_1 =>
    if (decide ((48 : Int) ≤ c_1)) = true then
      m_ref02_Name_k2 rec_m_ref02_Name_l1 s i (decide (c_1 ≤ (57 : Int)))
    else
      m_ref02_Name_k2 rec_m_ref02_Name_l1 s i false
  else
    some true
def m_ref02_Name_l1  (s : ByteArray) : Nat → Int → Option Bool
  | 0, _ => none
  | n + 1, i => m_ref02_Name_l1_B  s (m_ref02_Name_l1  s n) i
def m_ref02_Name_k1  (s : ByteArray) (v18 : Bool) : Option Bool :=
  if v18 = true then
    some false
  else
    m_ref02_Name_l1 s ((((s.size : Int)) - ((0 : Int))).toNat + 1) (0 : Int)
def m_ref02_Name  (s : ByteArray) : Option Bool :=
  if (decide ((s.size : Int) = (0 : Int))) = true then
    m_ref02_Name_k1 s true
  else
    if (decide ((32 : Int) < (s.size : Int))) = true then
      m_ref02_Name_k1 s true
    else
      bnd (nthS s (0 : Int)) fun c =>
      m_ref02_Name_k1 s (decide (c < (97 : Int)))
/-! funicular/funicularref09.Check -/
def m_ref09_Check_k1 (rec_m_ref09_Check_l1 : Int → Option Int) (i : Int) (v53 : Bool) : Option Int :=
  if v53 = true then
    some (1 : Int)
  else
    rec_m_ref09_Check_l1 (IntKind.i64.wrap (i + (1 : Int)))
def m_ref09_Check_l1_B  (v : TVars) (rec_m_ref09_Check_l1 : Int → Option Int) (i : Int) : Option Int :=
  if (decide (i < (v.Names.length : Int))) = true then
    bnd (nthI v.Names i) fun e =>
    bnd (m_ref02_Name e) fun r0 =>
    if r0 = true then
      if (eqS e (⟨#[121, 101, 115]⟩)) = true then
        m_ref09_Check_k1 rec_m_ref09_Check_l1 i true
      else
        if (eqS e (⟨#[110, 111]⟩)) = true then
          m_ref09_Check_k1 rec_m_ref09_Check_l1 i true
        else
          if (decide ((0 : Int) < i)) = true then
            bnd (nthI v.Names (IntKind.i64.wrap (i - (1 : Int)))) fun e_1 =>
            m_ref09_Check_k1 rec_m_ref09_Check_l1 i (!(ltS e_1 e))
          else
            m_ref09_Check_k1 rec_m_ref09_Check_l1 i false
    else
      m_ref09_Check_k1 rec_m_ref09_Check_l1 i true
  else
    some (0 : Int)
def m_ref09_Check_l1  (v : TVars) : Nat → Int → Option Int
  | 0, _ => none
  | n + 1, i => m_ref09_Check_l1_B  v (m_ref09_Check_l1  v n) i
def m_ref09_Check  (v : TVars) : Option Int :=
  if (decide ((v.Names.length : Int) ≠ (v.Vals.length : Int))) = true then
    some (1 : Int)
  else
    if (decide ((64 : Int) < (v.Names.length : Int))) = true then
      some (6 : Int)
    else
      m_ref09_Check_l1 v ((((v.Names.length : Int)) - ((0 : Int))).toNat + 1) (0 : Int)
/-! funicular/funicularref07.node -/
def m_ref07_node_k6  (x0 : TExpr) (v47 : Bool) : Option Bool :=
  if v47 = true then
    some false
  else
    if (decide (x0.Kind = (2 : Int))) = true then
      bnd (m_ref02_Name x0.Name) fun r0 =>
      if r0 = true then
        if (eqS x0.Name (⟨#[121, 101, 115]⟩)) = true then
          some false
        else
          some (!(eqS x0.Name (⟨#[110, 111]⟩)))
      else
        some false
    else
      some (eqS x0.Name (⟨#[]⟩))
def m_ref07_node_k5  (x0 : TExpr) (v34 : Bool) : Option Bool :=
  if v34 = true then
    some false
  else
    if (decide (x0.N < (0 : Int))) = true then
      m_ref07_node_k6 x0 true
    else
      if (decide ((0 : Int) < x0.N)) = true then
        m_ref07_node_k6 x0 (decide (x0.Kind ≠ (1 : Int)))
      else
        m_ref07_node_k6 x0 false
def m_ref07_node_k4  (x0 : TExpr) (kids_1 : Int) : Option Bool :=
  if (decide (x0.Kind < (1 : Int))) = true then
    m_ref07_node_k5 x0 true
  else
    if (decide ((14 : Int) < x0.Kind)) = true then
      m_ref07_node_k5 x0 true
    else
      m_ref07_node_k5 x0 (decide ((x0.Kids.length : Int) ≠ kids_1))
def m_ref07_node_k3  (x0 : TExpr) (kids : Int) (v19 : Bool) : Option Bool :=
  if v19 = true then
    m_ref07_node_k4 x0 (1 : Int)
  else
    m_ref07_node_k4 x0 kids
def m_ref07_node_k2  (x0 : TExpr) (kids : Int) : Option Bool :=
  if (decide (x0.Kind = (5 : Int))) = true then
    m_ref07_node_k3 x0 kids true
  else
    m_ref07_node_k3 x0 kids (decide (x0.Kind = (6 : Int)))
def m_ref07_node_k1  (x0 : TExpr) (v11 : Bool) : Option Bool :=
  if v11 = true then
    m_ref07_node_k2 x0 (0 : Int)
  else
    m_ref07_node_k2 x0 (2 : Int)
def m_ref07_node  (x0 : TExpr) : Option Bool :=
  if (decide ((1 : Int) ≤ x0.Kind)) = true then
    m_ref07_node_k1 x0 (decide (x0.Kind ≤ (4 : Int)))
  else
    m_ref07_node_k1 x0 false
/-! funicular/funicularref07.check -/
def m_ref07_check_l1_B (rec_m_ref07_check : TExpr → Int → Option Int) (x0 : TExpr) (deep : Int) (rec_m_ref07_check_l1 : Int → Option Int) (i : Int) : Option Int :=
  if (decide (i < (x0.Kids.length : Int))) = true then
    bnd (nthI x0.Kids i) fun e =>
    bnd (rec_m_ref07_check e (IntKind.i64.wrap (deep + (1 : Int)))) fun r0_1 =>
    if (decide (r0_1 ≠ (0 : Int))) = true then
      some r0_1
    else
      rec_m_ref07_check_l1 (IntKind.i64.wrap (i + (1 : Int)))
  else
    some (0 : Int)
def m_ref07_check_l1 (rec_m_ref07_check : TExpr → Int → Option Int) (x0 : TExpr) (deep : Int) : Nat → Int → Option Int
  | 0, _ => none
  | n + 1, i => m_ref07_check_l1_B rec_m_ref07_check x0 deep (m_ref07_check_l1 rec_m_ref07_check x0 deep n) i
def m_ref07_check_B (rec_m_ref07_check : TExpr → Int → Option Int) (x0 : TExpr) (deep : Int) : Option Int :=
  if (decide ((16 : Int) < deep)) = true then
    some (6 : Int)
  else
    bnd (m_ref07_node x0) fun r0 =>
    if r0 = true then
      m_ref07_check_l1 rec_m_ref07_check x0 deep ((((x0.Kids.length : Int)) - ((0 : Int))).toNat + 1) (0 : Int)
    else
      some (1 : Int)
def m_ref07_check : Nat → TExpr → Int → Option Int
  | 0, _, _ => none
  | n + 1, x0, deep => m_ref07_check_B (m_ref07_check n) x0 deep
/-! funicular/funicularref07.Check -/
def m_ref07_Check  (x0 : TExpr) : Option Int :=
  bnd (m_ref07_check 100 x0 (1 : Int)) fun r0 =>
  some r0
/-! funicular/funicularref08.truth -/
/-! funicular/funicularref08.typed -/
/-! funicular/funicularref08.Truth -/
/-! funicular/funicularref09.Get -/
def m_ref09_Get_l1_B  (v : TVars) (name : ByteArray) (rec_m_ref09_Get_l1 : Int → Option (Int × Bool)) (i : Int) : Option (Int × Bool) :=
  if (decide (i < (v.Names.length : Int))) = true then
    bnd (nthI v.Names i) fun e =>
    if (eqS e name) = true then
      bnd (nthI v.Vals i) fun e_1 =>
      some (e_1, true)
    else
      rec_m_ref09_Get_l1 (IntKind.i64.wrap (i + (1 : Int)))
  else
    some ((0 : Int), false)
def m_ref09_Get_l1  (v : TVars) (name : ByteArray) : Nat → Int → Option (Int × Bool)
  | 0, _ => none
  | n + 1, i => m_ref09_Get_l1_B  v name (m_ref09_Get_l1  v name n) i
def m_ref09_Get  (v : TVars) (name : ByteArray) : Option (Int × Bool) :=
  m_ref09_Get_l1 v name ((((v.Names.length : Int)) - ((0 : Int))).toNat + 1) (0 : Int)
/-! funicular/funicularref10.truth -/
/-! funicular/funicularref10.big -/
/-! funicular/funicularref10.carry -/
/-! funicular/funicularref10.less -/
/-! funicular/funicularref10.sum -/
/-! funicular/funicularref10.product -/
/-! funicular/funicularref10.small -/
/-! funicular/funicularref10.two -/
/-! funicular/funicularref10.of -/
/-! funicular/funicularref10.Of -/
/-! funicular/eval.Number -/
/-! funicular/eval.Truth -/
/-! funicular/funicularref08.plain -/
/-! funicular/funicularref08.yes -/
/-! funicular/funicularref08.same -/
/-! funicular/funicularref08.num -/
/-! funicular/funicularref08.sums -/
/-! funicular/funicularref08.two -/
/-! funicular/funicularref08.fold -/
/-! funicular/funicularref08.Fold -/
/-! funicular/funicularref08.asks -/
def m_ref08_asks_l1_B (rec_m_ref08_asks : TExpr → ByteArray → Option Bool) (x0 : TExpr) (name : ByteArray) (rec_m_ref08_asks_l1 : Int → Option Bool) (i : Int) : Option Bool :=
  if (decide (i < (x0.Kids.length : Int))) = true then
    bnd (nthI x0.Kids i) fun e =>
    bnd (rec_m_ref08_asks e name) fun r0 =>
    if r0 = true then
      some true
    else
      rec_m_ref08_asks_l1 (IntKind.i64.wrap (i + (1 : Int)))
  else
    some false
def m_ref08_asks_l1 (rec_m_ref08_asks : TExpr → ByteArray → Option Bool) (x0 : TExpr) (name : ByteArray) : Nat → Int → Option Bool
  | 0, _ => none
  | n + 1, i => m_ref08_asks_l1_B rec_m_ref08_asks x0 name (m_ref08_asks_l1 rec_m_ref08_asks x0 name n) i
def m_ref08_asks_k1 (rec_m_ref08_asks : TExpr → ByteArray → Option Bool) (x0 : TExpr) (name : ByteArray) (v14 : Bool) : Option Bool :=
  if v14 = true then
    some true
  else
    m_ref08_asks_l1 rec_m_ref08_asks x0 name ((((x0.Kids.length : Int)) - ((0 : Int))).toNat + 1) (0 : Int)
def m_ref08_asks_B (rec_m_ref08_asks : TExpr → ByteArray → Option Bool) (x0 : TExpr) (name : ByteArray) : Option Bool :=
  if (decide (x0.Kind = (2 : Int))) = true then
    m_ref08_asks_k1 rec_m_ref08_asks x0 name (eqS x0.Name name)
  else
    m_ref08_asks_k1 rec_m_ref08_asks x0 name false
def m_ref08_asks : Nat → TExpr → ByteArray → Option Bool
  | 0, _, _ => none
  | n + 1, x0, name => m_ref08_asks_B (m_ref08_asks n) x0 name
/-! funicular/funicularref08.Asks -/
def m_ref08_Asks  (x0 : TExpr) (name : ByteArray) : Option Bool :=
  bnd (m_ref08_asks 100 x0 name) fun r0 =>
  some r0
/-! funicular/funicularref09.put -/
def m_ref09_put_k4  (name : ByteArray) (n0 : Int) (done_3 : Bool) (out_0_3 : (List ByteArray)) (out_1_3 : (List Int)) : Option TVars :=
  if done_3 = true then
    some (TVars.mk out_0_3 out_1_3)
  else
    if (capB (out_0_3.length + 1)) = true then 
      if (capB (out_1_3.length + 1)) = true then 
        some (TVars.mk (out_0_3 ++ [name]) (out_1_3 ++ [n0]))
       else none
     else none
def m_ref09_put_k3 (rec_m_ref09_put_l1 : Bool → Int → (List ByteArray) → (List Int) → Option TVars) (i : Int) (done_2 : Bool) (out_0_2 : (List ByteArray)) (out_1_2 : (List Int)) : Option TVars :=
  rec_m_ref09_put_l1 done_2 (IntKind.i64.wrap (i + (1 : Int))) out_0_2 out_1_2
def m_ref09_put_k2 (rec_m_ref09_put_l1 : Bool → Int → (List ByteArray) → (List Int) → Option TVars) (v : TVars) (name : ByteArray) (i : Int) (done_2 : Bool) (out_0_1 : (List ByteArray)) (out_1_1 : (List Int)) : Option TVars :=
  bnd (nthI v.Names i) fun e_1 =>
  if (eqS e_1 name) = true then
    m_ref09_put_k3 rec_m_ref09_put_l1 i done_2 out_0_1 out_1_1
  else
    if (capB (out_0_1.length + 1)) = true then 
      bnd (nthI v.Vals i) fun e_2 =>
      if (capB (out_1_1.length + 1)) = true then 
        m_ref09_put_k3 rec_m_ref09_put_l1 i done_2 (out_0_1 ++ [e_1]) (out_1_1 ++ [e_2])
       else none
     else none
def m_ref09_put_k1 (rec_m_ref09_put_l1 : Bool → Int → (List ByteArray) → (List Int) → Option TVars) (v : TVars) (name : ByteArray) (n0 : Int) (i : Int) (out_0 : (List ByteArray)) (out_1 : (List Int)) (done_1 : Bool) (v29 : Bool) : Option TVars :=
  if v29 = true then
    if (capB (out_0.length + 1)) = true then 
      if (capB (out_1.length + 1)) = true then 
        m_ref09_put_k2 rec_m_ref09_put_l1 v name i true (out_0 ++ [name]) (out_1 ++ [n0])
       else none
     else none
  else
    m_ref09_put_k2 rec_m_ref09_put_l1 v name i done_1 out_0 out_1
def m_ref09_put_l1_B  (v : TVars) (name : ByteArray) (n0 : Int) (rec_m_ref09_put_l1 : Bool → Int → (List ByteArray) → (List Int) → Option TVars) (done : Bool) (i : Int) (out_0 : (List ByteArray)) (out_1 : (List Int)) : Option TVars :=
  if (decide (i < (v.Names.length : Int))) = true then
    if done = true then
      m_ref09_put_k1 rec_m_ref09_put_l1 v name n0 i out_0 out_1 true false
    else
      bnd (nthI v.Names i) fun e =>
      m_ref09_put_k1 rec_m_ref09_put_l1 v name n0 i out_0 out_1 false (!(ltS e name))
  else
    m_ref09_put_k4 name n0 done out_0 out_1
def m_ref09_put_l1  (v : TVars) (name : ByteArray) (n0 : Int) : Nat → Bool → Int → (List ByteArray) → (List Int) → Option TVars
  | 0, _, _, _, _ => none
  | n + 1, done, i, out_0, out_1 => m_ref09_put_l1_B  v name n0 (m_ref09_put_l1  v name n0 n) done i out_0 out_1
def m_ref09_put  (v : TVars) (name : ByteArray) (n0 : Int) : Option TVars :=
  m_ref09_put_l1 v name n0 ((((v.Names.length : Int)) - ((0 : Int))).toNat + 1) false (0 : Int) ([]) ([])
/-! funicular/funicularref09.Of -/
def m_ref09_Of_k2  (out_0_3 : (List ByteArray)) (out_1_3 : (List Int)) : Option (TVars × Int) :=
  if (decide ((64 : Int) < (out_0_3.length : Int))) = true then
    some ((TVars.mk ([]) ([])), (6 : Int))
  else
    some ((TVars.mk out_0_3 out_1_3), (0 : Int))
def m_ref09_Of_k1 (rec_m_ref09_Of_l1 : Int → (List ByteArray) → (List Int) → Option (TVars × Int)) (i : Int) (out_0_2 : (List ByteArray)) (out_1_2 : (List Int)) : Option (TVars × Int) :=
  rec_m_ref09_Of_l1 (IntKind.i64.wrap (i + (1 : Int))) out_0_2 out_1_2
def m_ref09_Of_l2_B (rec_m_ref09_Of_l1 : Int → (List ByteArray) → (List Int) → Option (TVars × Int)) (l : (List TVars)) (i : Int) (rec_m_ref09_Of_l2 : Int → (List ByteArray) → (List Int) → Option (TVars × Int)) (k : Int) (out_0_1 : (List ByteArray)) (out_1_1 : (List Int)) : Option (TVars × Int) :=
  bnd (nthI l i) fun e_1 =>
  if (decide (k < (e_1.Names.length : Int))) = true then
    bnd (nthI e_1.Names k) fun e_2 =>
    bnd (nthI e_1.Vals k) fun e_3 =>
    bnd (m_ref09_put (TVars.mk out_0_1 out_1_1) e_2 e_3) fun r0_1 =>
    rec_m_ref09_Of_l2 (IntKind.i64.wrap (k + (1 : Int))) r0_1.Names r0_1.Vals
  else
    m_ref09_Of_k1 rec_m_ref09_Of_l1 i out_0_1 out_1_1
def m_ref09_Of_l2 (rec_m_ref09_Of_l1 : Int → (List ByteArray) → (List Int) → Option (TVars × Int)) (l : (List TVars)) (i : Int) : Nat → Int → (List ByteArray) → (List Int) → Option (TVars × Int)
  | 0, _, _, _ => none
  | n + 1, k, out_0_1, out_1_1 => m_ref09_Of_l2_B rec_m_ref09_Of_l1 l i (m_ref09_Of_l2 rec_m_ref09_Of_l1 l i n) k out_0_1 out_1_1
def m_ref09_Of_l1_B  (l : (List TVars)) (rec_m_ref09_Of_l1 : Int → (List ByteArray) → (List Int) → Option (TVars × Int)) (i : Int) (out_0 : (List ByteArray)) (out_1 : (List Int)) : Option (TVars × Int) :=
  if (decide (i < (l.length : Int))) = true then
    bnd (nthI l i) fun e =>
    bnd (m_ref09_Check e) fun r0 =>
    if (decide (r0 ≠ (0 : Int))) = true then
      some ((TVars.mk ([]) ([])), r0)
    else
      m_ref09_Of_l2 rec_m_ref09_Of_l1 l i (1000000) (0 : Int) out_0 out_1
  else
    m_ref09_Of_k2 out_0 out_1
def m_ref09_Of_l1  (l : (List TVars)) : Nat → Int → (List ByteArray) → (List Int) → Option (TVars × Int)
  | 0, _, _, _ => none
  | n + 1, i, out_0, out_1 => m_ref09_Of_l1_B  l (m_ref09_Of_l1  l n) i out_0 out_1
def m_ref09_Of  (l : (List TVars)) : Option (TVars × Int) :=
  m_ref09_Of_l1 l ((((l.length : Int)) - ((0 : Int))).toNat + 1) (0 : Int) ([]) ([])
/-! funicular/funicularref09.One -/
def m_ref09_One  (name : ByteArray) (n0 : Int) : Option TVars :=
  some (TVars.mk ([name]) ([n0]))
/-! funicular/funicularref08.collect -/
def m_ref08_collect_l1_B (rec_m_ref08_collect : TExpr → Option (List ByteArray)) (x0 : TExpr) (rec_m_ref08_collect_l1 : Int → (List ByteArray) → Option (List ByteArray)) (i : Int) (l : (List ByteArray)) : Option (List ByteArray) :=
  if (decide (i < (x0.Kids.length : Int))) = true then
    bnd (nthI x0.Kids i) fun e =>
    bnd (rec_m_ref08_collect e) fun r0 =>
    if (capB (l.length + (r0).length)) = true then 
      rec_m_ref08_collect_l1 (IntKind.i64.wrap (i + (1 : Int))) (l ++ r0)
     else none
  else
    some l
def m_ref08_collect_l1 (rec_m_ref08_collect : TExpr → Option (List ByteArray)) (x0 : TExpr) : Nat → Int → (List ByteArray) → Option (List ByteArray)
  | 0, _, _ => none
  | n + 1, i, l => m_ref08_collect_l1_B rec_m_ref08_collect x0 (m_ref08_collect_l1 rec_m_ref08_collect x0 n) i l
def m_ref08_collect_B (rec_m_ref08_collect : TExpr → Option (List ByteArray)) (x0 : TExpr) : Option (List ByteArray) :=
  if (decide (x0.Kind = (2 : Int))) = true then
    some ([x0.Name])
  else
    m_ref08_collect_l1 rec_m_ref08_collect x0 ((((x0.Kids.length : Int)) - ((0 : Int))).toNat + 1) (0 : Int) ([])
def m_ref08_collect : Nat → TExpr → Option (List ByteArray)
  | 0, _ => none
  | n + 1, x0 => m_ref08_collect_B (m_ref08_collect n) x0
/-! funicular/funicularref08.Names -/
def m_ref08_Names_k3 (rec_m_ref08_Names_l1 : ByteArray → (List ByteArray) → Option (List ByteArray)) (out : (List ByteArray)) (best_2 : ByteArray) : Option (List ByteArray) :=
  if (eqS best_2 (⟨#[]⟩)) = true then
    some out
  else
    if (capB (out.length + 1)) = true then 
      rec_m_ref08_Names_l1 best_2 (out ++ [best_2])
     else none
def m_ref08_Names_k2 (rec_m_ref08_Names_l2 : ByteArray → Int → Option (List ByteArray)) (i : Int) (best_1 : ByteArray) : Option (List ByteArray) :=
  rec_m_ref08_Names_l2 best_1 (IntKind.i64.wrap (i + (1 : Int)))
def m_ref08_Names_k1 (rec_m_ref08_Names_l2 : ByteArray → Int → Option (List ByteArray)) (r0_1 : (List ByteArray)) (best : ByteArray) (i : Int) (v36 : Bool) : Option (List ByteArray) :=
  if v36 = true then
    bnd (nthI r0_1 i) fun e_1 =>
    m_ref08_Names_k2 rec_m_ref08_Names_l2 i e_1
  else
    m_ref08_Names_k2 rec_m_ref08_Names_l2 i best
def m_ref08_Names_l2_B (rec_m_ref08_Names_l1 : ByteArray → (List ByteArray) → Option (List ByteArray)) (r0_1 : (List ByteArray)) (last : ByteArray) (out : (List ByteArray)) (rec_m_ref08_Names_l2 : ByteArray → Int → Option (List ByteArray)) (best : ByteArray) (i : Int) : Option (List ByteArray) :=
  if (decide (i < (r0_1.length : Int))) = true then
    bnd (nthI r0_1 i) fun e =>
    if (ltS e last || eqS e last) = true then
      m_ref08_Names_k1 rec_m_ref08_Names_l2 r0_1 best i false
    else
      if (eqS best (⟨#[]⟩)) = true then
        m_ref08_Names_k1 rec_m_ref08_Names_l2 r0_1 best i true
      else
        m_ref08_Names_k1 rec_m_ref08_Names_l2 r0_1 best i (ltS e best)
  else
    m_ref08_Names_k3 rec_m_ref08_Names_l1 out best
def m_ref08_Names_l2 (rec_m_ref08_Names_l1 : ByteArray → (List ByteArray) → Option (List ByteArray)) (r0_1 : (List ByteArray)) (last : ByteArray) (out : (List ByteArray)) : Nat → ByteArray → Int → Option (List ByteArray)
  | 0, _, _ => none
  | n + 1, best, i => m_ref08_Names_l2_B rec_m_ref08_Names_l1 r0_1 last out (m_ref08_Names_l2 rec_m_ref08_Names_l1 r0_1 last out n) best i
def m_ref08_Names_l1_B  (r0_1 : (List ByteArray)) (rec_m_ref08_Names_l1 : ByteArray → (List ByteArray) → Option (List ByteArray)) (last : ByteArray) (out : (List ByteArray)) : Option (List ByteArray) :=
  m_ref08_Names_l2 rec_m_ref08_Names_l1 r0_1 last out ((((r0_1.length : Int)) - ((0 : Int))).toNat + 1) (⟨#[]⟩) (0 : Int)
def m_ref08_Names_l1  (r0_1 : (List ByteArray)) : Nat → ByteArray → (List ByteArray) → Option (List ByteArray)
  | 0, _, _ => none
  | n + 1, last, out => m_ref08_Names_l1_B  r0_1 (m_ref08_Names_l1  r0_1 n) last out
def m_ref08_Names  (x0 : TExpr) : Option (List ByteArray) :=
  bnd (m_ref07_Check x0) fun r0 =>
  if (decide (r0 ≠ (0 : Int))) = true then
    some ([])
  else
    bnd (m_ref08_collect 100 x0) fun r0_1 =>
    m_ref08_Names_l1 r0_1 (1000000) (⟨#[]⟩) ([])
/-! funicular/funicularref08.rename -/
def m_ref08_rename_l1_B (rec_m_ref08_rename : TExpr → ByteArray → ByteArray → Option TExpr) (x0 : TExpr) (from0 : ByteArray) (to0 : ByteArray) (rec_m_ref08_rename_l1 : Int → (List TExpr) → Option TExpr) (i : Int) (y_3 : (List TExpr)) : Option TExpr :=
  if (decide (i < (x0.Kids.length : Int))) = true then
    bnd (nthI x0.Kids i) fun e =>
    bnd (rec_m_ref08_rename e from0 to0) fun r0 =>
    if (capB (y_3.length + 1)) = true then 
      rec_m_ref08_rename_l1 (IntKind.i64.wrap (i + (1 : Int))) (y_3 ++ [r0])
     else none
  else
    some (TExpr.mk x0.Kind x0.N x0.Name y_3)
def m_ref08_rename_l1 (rec_m_ref08_rename : TExpr → ByteArray → ByteArray → Option TExpr) (x0 : TExpr) (from0 : ByteArray) (to0 : ByteArray) : Nat → Int → (List TExpr) → Option TExpr
  | 0, _, _ => none
  | n + 1, i, y_3 => m_ref08_rename_l1_B rec_m_ref08_rename x0 from0 to0 (m_ref08_rename_l1 rec_m_ref08_rename x0 from0 to0 n) i y_3
def m_ref08_rename_k1 (rec_m_ref08_rename : TExpr → ByteArray → ByteArray → Option TExpr) (x0 : TExpr) (from0 : ByteArray) (to0 : ByteArray) (v17 : Bool) : Option TExpr :=
  if v17 = true then
    some (TExpr.mk (2 : Int) (0 : Int) to0 ([]))
  else
    m_ref08_rename_l1 rec_m_ref08_rename x0 from0 to0 ((((x0.Kids.length : Int)) - ((0 : Int))).toNat + 1) (0 : Int) ([])
def m_ref08_rename_B (rec_m_ref08_rename : TExpr → ByteArray → ByteArray → Option TExpr) (x0 : TExpr) (from0 : ByteArray) (to0 : ByteArray) : Option TExpr :=
  if (decide (x0.Kind = (2 : Int))) = true then
    m_ref08_rename_k1 rec_m_ref08_rename x0 from0 to0 (eqS x0.Name from0)
  else
    m_ref08_rename_k1 rec_m_ref08_rename x0 from0 to0 false
def m_ref08_rename : Nat → TExpr → ByteArray → ByteArray → Option TExpr
  | 0, _, _, _ => none
  | n + 1, x0, from0, to0 => m_ref08_rename_B (m_ref08_rename n) x0 from0 to0
/-! funicular/funicularref08.Rename -/
def m_ref08_Rename  (x0 : TExpr) (from0 : ByteArray) (to0 : ByteArray) : Option (TExpr × Int) :=
  bnd (m_ref07_Check x0) fun r0 =>
  if (decide (r0 ≠ (0 : Int))) = true then
    some ((TExpr.mk (0 : Int) (0 : Int) (⟨#[]⟩) ([])), r0)
  else
    bnd (m_ref07_Check (TExpr.mk (2 : Int) (0 : Int) to0 ([]))) fun r0_1 =>
    if (decide (r0_1 ≠ (0 : Int))) = true then
      some ((TExpr.mk (0 : Int) (0 : Int) (⟨#[]⟩) ([])), r0_1)
    else
      bnd (m_ref08_rename 100 x0 from0 to0) fun r0_2 =>
      some (r0_2, (0 : Int))
/-! funicular/funicularref07.weigh -/
def m_ref07_weigh_k1 (rec_m_ref07_weigh : TExpr → Int → Int → Option Int) (rec_m_ref07_weigh_l1 : Int → Int → Option Int) (x0 : TExpr) (most : Int) (deep : Int) (n0 : Int) (i : Int) (v23 : Bool) : Option Int :=
  if v23 = true then
    if (decide (deep = (0 : Int))) = true then
      some (IntKind.i64.wrap (most + (1 : Int)))
    else
      bnd (nthI x0.Kids i) fun e =>
      bnd (rec_m_ref07_weigh e (IntKind.i64.wrap (most - n0)) (IntKind.i64.wrap (deep - (1 : Int)))) fun r0 =>
      rec_m_ref07_weigh_l1 (IntKind.i64.wrap (n0 + r0)) (IntKind.i64.wrap (i + (1 : Int)))
  else
    some n0
def m_ref07_weigh_l1_B (rec_m_ref07_weigh : TExpr → Int → Int → Option Int) (x0 : TExpr) (most : Int) (deep : Int) (rec_m_ref07_weigh_l1 : Int → Int → Option Int) (n0 : Int) (i : Int) : Option Int :=
  if (decide (i < (x0.Kids.length : Int))) = true then
    m_ref07_weigh_k1 rec_m_ref07_weigh rec_m_ref07_weigh_l1 x0 most deep n0 i (decide (n0 ≤ most))
  else
    m_ref07_weigh_k1 rec_m_ref07_weigh rec_m_ref07_weigh_l1 x0 most deep n0 i false
def m_ref07_weigh_l1 (rec_m_ref07_weigh : TExpr → Int → Int → Option Int) (x0 : TExpr) (most : Int) (deep : Int) : Nat → Int → Int → Option Int
  | 0, _, _ => none
  | n + 1, n0, i => m_ref07_weigh_l1_B rec_m_ref07_weigh x0 most deep (m_ref07_weigh_l1 rec_m_ref07_weigh x0 most deep n) n0 i
def m_ref07_weigh_B (rec_m_ref07_weigh : TExpr → Int → Int → Option Int) (x0 : TExpr) (most : Int) (deep : Int) : Option Int :=
  m_ref07_weigh_l1 rec_m_ref07_weigh x0 most deep ((((x0.Kids.length : Int)) - ((0 : Int))).toNat + 1) (IntKind.i64.wrap ((1 : Int) + (IntKind.i64.wrap ((x0.Name.size : Int).tdiv (40 : Int))))) (0 : Int)
def m_ref07_weigh : Nat → TExpr → Int → Int → Option Int
  | 0, _, _, _ => none
  | n + 1, x0, most, deep => m_ref07_weigh_B (m_ref07_weigh n) x0 most deep
/-! funicular/funicularref07.Weight -/
def m_ref07_Weight  (x0 : TExpr) (most : Int) : Option Int :=
  bnd (m_ref07_weigh 100 x0 most (30 : Int)) fun r0 =>
  some r0
/-! funicular/funicularlaw10.light -/
def m_law10_light  (x0 : TExpr) (v : TVars) : Option Bool :=
  bnd (m_ref07_Weight x0 (500 : Int)) fun r0 =>
  if (decide (r0 ≤ (500 : Int))) = true then
    if (decide ((v.Names.length : Int) ≤ (200 : Int))) = true then
      some (decide ((v.Vals.length : Int) ≤ (200 : Int)))
    else
      some false
  else
    some false
/-! funicular/funicularlaw10.EvalOf -/
/-! funicular/funicularlaw10.EvalAs -/
/-! funicular/funicularlaw10.EvalTyped -/
/-! funicular/funicularlaw10.EvalFolds -/
/-! funicular/funicularlaw10.EvalAsks -/
def m_law10_EvalAsks_k3  (r0_7 : (TValue × Int)) : Option Bool :=
  if (decide (r0_7.2 ≠ (9 : Int))) = true then
    bnd (m_law10_works ) fun r0_12 =>
    some r0_12
  else
    some false
def m_law10_EvalAsks_l1_B  (v : TVars) (r0_7 : (TValue × Int)) (r0_9 : (List ByteArray)) (rec_m_law10_EvalAsks_l1 : Int → Option Bool) (i : Int) : Option Bool :=
  if (decide (i < (r0_9.length : Int))) = true then
    bnd (nthI r0_9 i) fun e =>
    bnd (m_ref09_Get v e) fun r0_10 =>
    if r0_10.2 = true then
      rec_m_law10_EvalAsks_l1 (IntKind.i64.wrap (i + (1 : Int)))
    else
      bnd (m_law10_works ) fun r0_11 =>
      some r0_11
  else
    m_law10_EvalAsks_k3 r0_7
def m_law10_EvalAsks_l1  (v : TVars) (r0_7 : (TValue × Int)) (r0_9 : (List ByteArray)) : Nat → Int → Option Bool
  | 0, _ => none
  | n + 1, i => m_law10_EvalAsks_l1_B  v r0_7 r0_9 (m_law10_EvalAsks_l1  v r0_7 r0_9 n) i
def m_law10_EvalAsks_k2  (x0 : TExpr) (v : TVars) (r0_7 : (TValue × Int)) (v65 : Bool) : Option Bool :=
  if v65 = true then
    some false
  else
    bnd (m_ref08_Names x0) fun r0_9 =>
    m_law10_EvalAsks_l1 v r0_7 r0_9 ((((r0_9.length : Int)) - ((0 : Int))).toNat + 1) (0 : Int)
def m_law10_EvalAsks_k1  (x0 : TExpr) (v : TVars) (name : ByteArray) (n0 : Int) (v32 : Bool) : Option Bool :=
  if v32 = true then
    bnd (m_law10_works ) fun r0_3 =>
    some r0_3
  else
    bnd (m_ref09_One name n0) fun r0_4 =>
    bnd (m_ref09_Of ([v, r0_4])) fun r0_5 =>
    if (decide (r0_5.2 ≠ (0 : Int))) = true then
      bnd (m_law10_works ) fun r0_6 =>
      some r0_6
    else
      bnd (m_eval_Of x0 v) fun r0_7 =>
      bnd (m_eval_Of x0 r0_5.1) fun r0_8 =>
      if (((r0_7.1.Bool == r0_8.1.Bool)) && (decide (r0_7.1.N = r0_8.1.N))) = true then
        m_law10_EvalAsks_k2 x0 v r0_7 (decide (r0_7.2 ≠ r0_8.2))
      else
        m_law10_EvalAsks_k2 x0 v r0_7 true
def m_law10_EvalAsks  (x0 : TExpr) (v : TVars) (name : ByteArray) (n0 : Int) : Option Bool :=
  bnd (m_law10_light x0 v) fun r0 =>
  if r0 = true then
    bnd (m_ref08_Asks x0 name) fun r0_1 =>
    if r0_1 = true then
      m_law10_EvalAsks_k1 x0 v name n0 true
    else
      bnd (m_ref09_Check v) fun r0_2 =>
      m_law10_EvalAsks_k1 x0 v name n0 (decide (r0_2 ≠ (0 : Int)))
  else
    m_law10_EvalAsks_k1 x0 v name n0 true
/-! funicular/funicularlaw10.EvalRenames -/
def m_law10_EvalRenames_k2  (x0 : TExpr) (v : TVars) (to0 : ByteArray) (r0_4 : (TExpr × Int)) (r0_5 : (Int × Bool)) (v52 : Bool) : Option Bool :=
  if v52 = true then
    bnd (m_law10_works ) fun r0_6 =>
    some r0_6
  else
    bnd (m_ref09_One to0 r0_5.1) fun r0_7 =>
    bnd (m_ref09_Of ([v, r0_7])) fun r0_8 =>
    if (decide (r0_8.2 ≠ (0 : Int))) = true then
      bnd (m_law10_works ) fun r0_9 =>
      some r0_9
    else
      bnd (m_eval_Of x0 v) fun r0_10 =>
      bnd (m_eval_Of r0_4.1 r0_8.1) fun r0_11 =>
      if (((r0_10.1.Bool == r0_11.1.Bool)) && (decide (r0_10.1.N = r0_11.1.N))) = true then
        if (decide (r0_10.2 = r0_11.2)) = true then
          bnd (m_law10_works ) fun r0_12 =>
          some r0_12
        else
          some false
      else
        some false
def m_law10_EvalRenames_k1  (x0 : TExpr) (v : TVars) (from0 : ByteArray) (to0 : ByteArray) (v32 : Bool) : Option Bool :=
  if v32 = true then
    bnd (m_law10_works ) fun r0_3 =>
    some r0_3
  else
    bnd (m_ref08_Rename x0 from0 to0) fun r0_4 =>
    bnd (m_ref09_Get v from0) fun r0_5 =>
    if (decide (r0_4.2 ≠ (0 : Int))) = true then
      m_law10_EvalRenames_k2 x0 v to0 r0_4 r0_5 true
    else
      m_law10_EvalRenames_k2 x0 v to0 r0_4 r0_5 (!r0_5.2)
def m_law10_EvalRenames  (x0 : TExpr) (v : TVars) (from0 : ByteArray) (to0 : ByteArray) : Option Bool :=
  bnd (m_law10_light x0 v) fun r0 =>
  if r0 = true then
    bnd (m_ref09_Check v) fun r0_1 =>
    if (decide (r0_1 ≠ (0 : Int))) = true then
      m_law10_EvalRenames_k1 x0 v from0 to0 true
    else
      bnd (m_ref08_Asks x0 to0) fun r0_2 =>
      m_law10_EvalRenames_k1 x0 v from0 to0 r0_2
  else
    m_law10_EvalRenames_k1 x0 v from0 to0 true
end Go.Proofs.Ytcmejocmohohpaa.R
