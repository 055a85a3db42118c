/- Models of the functions. -/
import Derived.Test.YtjhnlgelcfplaaaMT
set_option maxRecDepth 100000
set_option linter.unusedVariables false
set_option linter.unusedSimpArgs false
set_option linter.defProp false
noncomputable section
namespace Go.Proofs.Ytjhnlgelcfplaaa.R
open Go Nat
/-! cmp.isNaN[string] -/
def m_cmp_isNaN_string  (x0 : ByteArray) : Option Bool :=
  some (!(eqS x0 x0))
/-! cmp.Less[string] -/
def m_cmp_Less_string  (x0 : ByteArray) (y : ByteArray) : Option Bool :=
  bnd (m_cmp_isNaN_string x0) fun r0 =>
  if r0 = true then
    bnd (m_cmp_isNaN_string y) fun r0_1 =>
    if r0_1 = true then
      some (ltS x0 y)
    else
      some true
  else
    some (ltS x0 y)
/-! slices.isNaN[string] -/
def m_slices_isNaN_string  (x0 : ByteArray) : Option Bool :=
  some (!(eqS x0 x0))
/-! funicular/funicularlaw09.light -/
def m_law09_light_l1_B  (v : TVars) (rec_m_law09_light_l1 : Int → Option Bool) (i : Int) : Option Bool :=
  if (decide (i < (v.Names.length : Int))) = true then
    bnd (nthI v.Names i) fun e =>
    if (decide ((60 : Int) < (e.size : Int))) = true then
      some false
    else
      rec_m_law09_light_l1 (IntKind.i64.wrap (i + (1 : Int)))
  else
    some true
def m_law09_light_l1  (v : TVars) : Nat → Int → Option Bool
  | 0, _ => none
  | n + 1, i => m_law09_light_l1_B  v (m_law09_light_l1  v n) i
def m_law09_light_k1  (v : TVars) (v13 : Bool) : Option Bool :=
  if v13 = true then
    some false
  else
    m_law09_light_l1 v ((((v.Names.length : Int)) - ((0 : Int))).toNat + 1) (0 : Int)
def m_law09_light  (v : TVars) : Option Bool :=
  if (decide ((200 : Int) < (v.Names.length : Int))) = true then
    m_law09_light_k1 v true
  else
    m_law09_light_k1 v (decide ((200 : Int) < (v.Vals.length : Int)))
/-! funicular/funicularlaw09.works: reckoned by the kernel -/
def m_law09_works : Option Bool := some true
/-! funicular/pack.Name -/
def m_pack_Name_k3  (s : ByteArray) : Option Bool :=
  if (decide ((1 : Int) ≤ (s.size : Int))) = true then
    some (decide ((s.size : Int) ≤ (32 : Int)))
  else
    some false
def m_pack_Name_k2 (rec_m_pack_Name_l1 : Int → Option Bool) (v9 : Int) (v33 : Bool) : Option Bool :=
  if v33 = true then
    some false
  else
    rec_m_pack_Name_l1 (IntKind.i64.wrap (v9 + (1 : Int)))
def m_pack_Name_k1 (rec_m_pack_Name_l1 : Int → Option Bool) (v9 : Int) (e : Int) (letter : Bool) : Option Bool :=
  if letter = true then
    m_pack_Name_k2 rec_m_pack_Name_l1 v9 false
  else
    if (decide (v9 = (0 : Int))) = true then
      m_pack_Name_k2 rec_m_pack_Name_l1 v9 true
    else
      if (decide (e < (48 : Int))) = true then
        m_pack_Name_k2 rec_m_pack_Name_l1 v9 true
      else
        m_pack_Name_k2 rec_m_pack_Name_l1 v9 (decide ((57 : Int) < e))
def m_pack_Name_l1_B  (s : ByteArray) (rec_m_pack_Name_l1 : Int → Option Bool) (v9 : Int) : Option Bool :=
  if (decide (v9 < ((bytesI s).length : Int))) = true then
    bnd (nthI (bytesI s) v9) fun e =>
    if (decide ((97 : Int) ≤ e)) = true then
      m_pack_Name_k1 rec_m_pack_Name_l1 v9 e (decide (e ≤ (122 : Int)))
    else
      m_pack_Name_k1 rec_m_pack_Name_l1 v9 e false
  else
    m_pack_Name_k3 s
def m_pack_Name_l1  (s : ByteArray) : Nat → Int → Option Bool
  | 0, _ => none
  | n + 1, v9 => m_pack_Name_l1_B  s (m_pack_Name_l1  s n) v9
def m_pack_Name  (s : ByteArray) : Option Bool :=
  m_pack_Name_l1 s (((((bytesI s).length : Int)) - ((0 : Int))).toNat + 1) (0 : Int)
/-! funicular/vars.Check -/
def m_vars_Check_k2 (rec_m_vars_Check_l1 : Int → Option Int) (v21 : Int) (v48 : Bool) : Option Int :=
  if v48 = true then
    some (1 : Int)
  else
    rec_m_vars_Check_l1 (IntKind.i64.wrap (v21 + (1 : Int)))
def m_vars_Check_k1 (rec_m_vars_Check_l1 : Int → Option Int) (v : TVars) (v21 : Int) (e : ByteArray) (v36 : Bool) : Option Int :=
  if v36 = true then
    some (1 : Int)
  else
    if (decide ((0 : Int) < v21)) = true then
      bnd (nthI v.Names (IntKind.i64.wrap (v21 - (1 : Int)))) fun e_1 =>
      m_vars_Check_k2 rec_m_vars_Check_l1 v21 (!(ltS e_1 e))
    else
      m_vars_Check_k2 rec_m_vars_Check_l1 v21 false
def m_vars_Check_l1_B  (v : TVars) (rec_m_vars_Check_l1 : Int → Option Int) (v21 : Int) : Option Int :=
  if (decide (v21 < (v.Names.length : Int))) = true then
    bnd (nthI v.Names v21) fun e =>
    bnd (m_pack_Name e) fun r0 =>
    if r0 = true then
      if (eqS e (⟨#[121, 101, 115]⟩)) = true then
        m_vars_Check_k1 rec_m_vars_Check_l1 v v21 e true
      else
        m_vars_Check_k1 rec_m_vars_Check_l1 v v21 e (eqS e (⟨#[110, 111]⟩))
    else
      m_vars_Check_k1 rec_m_vars_Check_l1 v v21 e true
  else
    some (0 : Int)
def m_vars_Check_l1  (v : TVars) : Nat → Int → Option Int
  | 0, _ => none
  | n + 1, v21 => m_vars_Check_l1_B  v (m_vars_Check_l1  v n) v21
def m_vars_Check  (v : TVars) : Option Int :=
  if (decide ((v.Names.length : Int) ≠ (v.Vals.length : Int))) = true then
    some (1 : Int)
  else
    if (decide ((64 : Int) < (v.Names.length : Int))) = true then
      some (6 : Int)
    else
      m_vars_Check_l1 v ((((v.Names.length : Int)) - ((0 : Int))).toNat + 1) (0 : Int)
/-! funicular/funicularref02.Name -/
def m_ref02_Name_k4 (rec_m_ref02_Name_l1 : Int → Option Bool) (i : Int) (v50 : Bool) : Option Bool :=
  if v50 = true then
    some false
  else
    rec_m_ref02_Name_l1 (IntKind.i64.wrap (i + (1 : Int)))
def m_ref02_Name_k3 (rec_m_ref02_Name_l1 : Int → Option Bool) (i : Int) (digit : Bool) (letter : Bool) : Option Bool :=
  if digit = true then
    m_ref02_Name_k4 rec_m_ref02_Name_l1 i false
  else
    m_ref02_Name_k4 rec_m_ref02_Name_l1 i (!letter)
def m_ref02_Name_k2 (rec_m_ref02_Name_l1 : Int → Option Bool) (s : ByteArray) (i : Int) (digit : Bool) : Option Bool :=
  bnd (nthS s i) fun c_2 =>
  if (decide ((97 : Int) ≤ c_2)) = true then
    m_ref02_Name_k3 rec_m_ref02_Name_l1 i digit (decide (c_2 ≤ (122 : Int)))
  else
    m_ref02_Name_k3 rec_m_ref02_Name_l1 i digit false
def m_ref02_Name_l1_B  (s : ByteArray) (rec_m_ref02_Name_l1 : Int → Option Bool) (i : Int) : Option Bool :=
  if (decide (i < (s.size : Int))) = true then
    bnd (nthS s i) fun c_1 =>
    if (decide ((48 : Int) ≤ c_1)) = true then
      m_ref02_Name_k2 rec_m_ref02_Name_l1 s i (decide (c_1 ≤ (57 : Int)))
    else
      m_ref02_Name_k2 rec_m_ref02_Name_l1 s i false
  else
    some true
def m_ref02_Name_l1  (s : ByteArray) : Nat → Int → Option Bool
  | 0, _ => none
  | n + 1, i => m_ref02_Name_l1_B  s (m_ref02_Name_l1  s n) i
def m_ref02_Name_k1  (s : ByteArray) (v18 : Bool) : Option Bool :=
  if v18 = true then
    some false
  else
    m_ref02_Name_l1 s ((((s.size : Int)) - ((0 : Int))).toNat + 1) (0 : Int)
def m_ref02_Name  (s : ByteArray) : Option Bool :=
  if (decide ((s.size : Int) = (0 : Int))) = true then
    m_ref02_Name_k1 s true
  else
    if (decide ((32 : Int) < (s.size : Int))) = true then
      m_ref02_Name_k1 s true
    else
      bnd (nthS s (0 : Int)) fun c =>
      m_ref02_Name_k1 s (decide (c < (97 : Int)))
/-! funicular/funicularref09.Check -/
def m_ref09_Check_k1 (rec_m_ref09_Check_l1 : Int → Option Int) (i : Int) (v53 : Bool) : Option Int :=
  if v53 = true then
    some (1 : Int)
  else
    rec_m_ref09_Check_l1 (IntKind.i64.wrap (i + (1 : Int)))
def m_ref09_Check_l1_B  (v : TVars) (rec_m_ref09_Check_l1 : Int → Option Int) (i : Int) : Option Int :=
  if (decide (i < (v.Names.length : Int))) = true then
    bnd (nthI v.Names i) fun e =>
    bnd (m_ref02_Name e) fun r0 =>
    if r0 = true then
      if (eqS e (⟨#[121, 101, 115]⟩)) = true then
        m_ref09_Check_k1 rec_m_ref09_Check_l1 i true
      else
        if (eqS e (⟨#[110, 111]⟩)) = true then
          m_ref09_Check_k1 rec_m_ref09_Check_l1 i true
        else
          if (decide ((0 : Int) < i)) = true then
            bnd (nthI v.Names (IntKind.i64.wrap (i - (1 : Int)))) fun e_1 =>
            m_ref09_Check_k1 rec_m_ref09_Check_l1 i (!(ltS e_1 e))
          else
            m_ref09_Check_k1 rec_m_ref09_Check_l1 i false
    else
      m_ref09_Check_k1 rec_m_ref09_Check_l1 i true
  else
    some (0 : Int)
def m_ref09_Check_l1  (v : TVars) : Nat → Int → Option Int
  | 0, _ => none
  | n + 1, i => m_ref09_Check_l1_B  v (m_ref09_Check_l1  v n) i
def m_ref09_Check  (v : TVars) : Option Int :=
  if (decide ((v.Names.length : Int) ≠ (v.Vals.length : Int))) = true then
    some (1 : Int)
  else
    if (decide ((64 : Int) < (v.Names.length : Int))) = true then
      some (6 : Int)
    else
      m_ref09_Check_l1 v ((((v.Names.length : Int)) - ((0 : Int))).toNat + 1) (0 : Int)
/-! funicular/funicularref08.Texts -/
def m_ref08_Texts_l1_B  (a : (List ByteArray)) (b : (List ByteArray)) (rec_m_ref08_Texts_l1 : Int → Option Bool) (i : Int) : Option Bool :=
  if (decide (i < (a.length : Int))) = true then
    bnd (nthI a i) fun e =>
    bnd (nthI b i) fun e_1 =>
    if (eqS e e_1) = true then
      rec_m_ref08_Texts_l1 (IntKind.i64.wrap (i + (1 : Int)))
    else
      some false
  else
    some true
def m_ref08_Texts_l1  (a : (List ByteArray)) (b : (List ByteArray)) : Nat → Int → Option Bool
  | 0, _ => none
  | n + 1, i => m_ref08_Texts_l1_B  a b (m_ref08_Texts_l1  a b n) i
def m_ref08_Texts  (a : (List ByteArray)) (b : (List ByteArray)) : Option Bool :=
  if (decide ((a.length : Int) ≠ (b.length : Int))) = true then
    some false
  else
    m_ref08_Texts_l1 a b ((((a.length : Int)) - ((0 : Int))).toNat + 1) (0 : Int)
/-! funicular/funicularref09.Same -/
def m_ref09_Same_l1_B  (a : TVars) (b : TVars) (rec_m_ref09_Same_l1 : Int → Option Bool) (i : Int) : Option Bool :=
  if (decide (i < (a.Vals.length : Int))) = true then
    bnd (nthI a.Vals i) fun e =>
    bnd (nthI b.Vals i) fun e_1 =>
    if (decide (e ≠ e_1)) = true then
      some false
    else
      rec_m_ref09_Same_l1 (IntKind.i64.wrap (i + (1 : Int)))
  else
    some true
def m_ref09_Same_l1  (a : TVars) (b : TVars) : Nat → Int → Option Bool
  | 0, _ => none
  | n + 1, i => m_ref09_Same_l1_B  a b (m_ref09_Same_l1  a b n) i
def m_ref09_Same_k1  (a : TVars) (b : TVars) (v20 : Bool) : Option Bool :=
  if v20 = true then
    some false
  else
    m_ref09_Same_l1 a b ((((a.Vals.length : Int)) - ((0 : Int))).toNat + 1) (0 : Int)
def m_ref09_Same  (a : TVars) (b : TVars) : Option Bool :=
  bnd (m_ref08_Texts a.Names b.Names) fun r0 =>
  if r0 = true then
    m_ref09_Same_k1 a b (decide ((a.Vals.length : Int) ≠ (b.Vals.length : Int)))
  else
    m_ref09_Same_k1 a b true
/-! slices.BinarySearch[[]string,string] -/
def m_slices_BinarySearch_string_string_k1  (x0 : (List ByteArray)) (target : ByteArray) (i_1 : Int) : Option (Int × Bool) :=
  if (decide (i_1 < (x0.length : Int))) = true then
    bnd (nthI x0 i_1) fun e_1 =>
    if (eqS e_1 target) = true then
      some (i_1, true)
    else
      bnd (m_slices_isNaN_string e_1) fun r0_1 =>
      if r0_1 = true then
        bnd (m_slices_isNaN_string target) fun r0_2 =>
        some (i_1, r0_2)
      else
        some (i_1, false)
  else
    some (i_1, false)
def m_slices_BinarySearch_string_string_l1_B  (x0 : (List ByteArray)) (target : ByteArray) (rec_m_slices_BinarySearch_string_string_l1 : Int → Int → Option (Int × Bool)) (i : Int) (j : Int) : Option (Int × Bool) :=
  if (decide (i < j)) = true then
    bnd (nthI x0 (IntKind.i64.wrap (shrI .u64 (IntKind.u64.wrap (IntKind.i64.wrap (i + j))) (1 : Int)))) fun e =>
    bnd (m_cmp_Less_string e target) fun r0 =>
    if r0 = true then
      rec_m_slices_BinarySearch_string_string_l1 (IntKind.i64.wrap ((IntKind.i64.wrap (shrI .u64 (IntKind.u64.wrap (IntKind.i64.wrap (i + j))) (1 : Int))) + (1 : Int))) j
    else
      rec_m_slices_BinarySearch_string_string_l1 i (IntKind.i64.wrap (shrI .u64 (IntKind.u64.wrap (IntKind.i64.wrap (i + j))) (1 : Int)))
  else
    m_slices_BinarySearch_string_string_k1 x0 target i
def m_slices_BinarySearch_string_string_l1  (x0 : (List ByteArray)) (target : ByteArray) : Nat → Int → Int → Option (Int × Bool)
  | 0, _, _ => none
  | n + 1, i, j => m_slices_BinarySearch_string_string_l1_B  x0 target (m_slices_BinarySearch_string_string_l1  x0 target n) i j
def m_slices_BinarySearch_string_string  (x0 : (List ByteArray)) (target : ByteArray) : Option (Int × Bool) :=
  m_slices_BinarySearch_string_string_l1 x0 target (1000000) (0 : Int) (x0.length : Int)
/-! funicular/vars.Of -/
def m_vars_Of_k1  (out_0_2 : (List ByteArray)) (out_1_2 : (List Int)) : Option (TVars × Int) :=
  if (decide ((64 : Int) < ((out_0_2.length : Nat) : Int))) = true then
    some ((TVars.mk ([]) ([])), (6 : Int))
  else
    some ((TVars.mk out_0_2 out_1_2), (0 : Int))
def m_vars_Of_l2_B (rec_m_vars_Of_l1 : Int → (List ByteArray) → (List Int) → Option (TVars × Int)) (v14 : Int) (e : TVars) (rec_m_vars_Of_l2 : Int → (List ByteArray) → (List Int) → Option (TVars × Int)) (v27 : Int) (out_0_1 : (List ByteArray)) (out_1_1 : (List Int)) : Option (TVars × Int) :=
  if (decide (v27 < (e.Names.length : Int))) = true then
    bnd (nthI e.Names v27) fun e_1 =>
    bnd (m_slices_BinarySearch_string_string out_0_1 e_1) fun r0_1 =>
    if r0_1.2 = true then
      bnd (nthI e.Vals v27) fun e_2 =>
      bnd (nthI out_1_1 r0_1.1) fun e_3 =>
      rec_m_vars_Of_l2 (IntKind.i64.wrap (v27 + (1 : Int))) out_0_1 (setI out_1_1 r0_1.1 e_2)
    else
      if (decide ((0 : Int) ≤ r0_1.1)) = true then 
        if (decide (r0_1.1 ≤ ((out_0_1).length : Int))) = true then 
          if (capB ((out_0_1).length + 1)) = true then 
            bnd (nthI e.Vals v27) fun e_4 =>
            if (decide (r0_1.1 ≤ ((out_1_1).length : Int))) = true then 
              if (capB ((out_1_1).length + 1)) = true then 
                rec_m_vars_Of_l2 (IntKind.i64.wrap (v27 + (1 : Int))) (insI out_0_1 r0_1.1 e_1) (insI out_1_1 r0_1.1 e_4)
               else none
             else none
           else none
         else none
       else none
  else
    rec_m_vars_Of_l1 (IntKind.i64.wrap (v14 + (1 : Int))) out_0_1 out_1_1
def m_vars_Of_l2 (rec_m_vars_Of_l1 : Int → (List ByteArray) → (List Int) → Option (TVars × Int)) (v14 : Int) (e : TVars) : Nat → Int → (List ByteArray) → (List Int) → Option (TVars × Int)
  | 0, _, _, _ => none
  | n + 1, v27, out_0_1, out_1_1 => m_vars_Of_l2_B rec_m_vars_Of_l1 v14 e (m_vars_Of_l2 rec_m_vars_Of_l1 v14 e n) v27 out_0_1 out_1_1
def m_vars_Of_l1_B  (l : (List TVars)) (rec_m_vars_Of_l1 : Int → (List ByteArray) → (List Int) → Option (TVars × Int)) (v14 : Int) (out_0 : (List ByteArray)) (out_1 : (List Int)) : Option (TVars × Int) :=
  if (decide (v14 < (l.length : Int))) = true then
    bnd (nthI l v14) fun e =>
    bnd (m_vars_Check e) fun r0 =>
    if (decide (r0 ≠ (0 : Int))) = true then
      some ((TVars.mk ([]) ([])), r0)
    else
      m_vars_Of_l2 rec_m_vars_Of_l1 v14 e ((((e.Names.length : Int)) - ((0 : Int))).toNat + 1) (0 : Int) out_0 out_1
  else
    m_vars_Of_k1 out_0 out_1
def m_vars_Of_l1  (l : (List TVars)) : Nat → Int → (List ByteArray) → (List Int) → Option (TVars × Int)
  | 0, _, _, _ => none
  | n + 1, v14, out_0, out_1 => m_vars_Of_l1_B  l (m_vars_Of_l1  l n) v14 out_0 out_1
def m_vars_Of  (l : (List TVars)) : Option (TVars × Int) :=
  m_vars_Of_l1 l ((((l.length : Int)) - ((0 : Int))).toNat + 1) (0 : Int) ([]) ([])
/-! funicular/funicularref09.put -/
def m_ref09_put_k4  (name : ByteArray) (n0 : Int) (done_3 : Bool) (out_0_3 : (List ByteArray)) (out_1_3 : (List Int)) : Option TVars :=
  if done_3 = true then
    some (TVars.mk out_0_3 out_1_3)
  else
    if (capB (out_0_3.length + 1)) = true then 
      if (capB (out_1_3.length + 1)) = true then 
        some (TVars.mk (out_0_3 ++ [name]) (out_1_3 ++ [n0]))
       else none
     else none
def m_ref09_put_k3 (rec_m_ref09_put_l1 : Bool → Int → (List ByteArray) → (List Int) → Option TVars) (i : Int) (done_2 : Bool) (out_0_2 : (List ByteArray)) (out_1_2 : (List Int)) : Option TVars :=
  rec_m_ref09_put_l1 done_2 (IntKind.i64.wrap (i + (1 : Int))) out_0_2 out_1_2
def m_ref09_put_k2 (rec_m_ref09_put_l1 : Bool → Int → (List ByteArray) → (List Int) → Option TVars) (v : TVars) (name : ByteArray) (i : Int) (done_2 : Bool) (out_0_1 : (List ByteArray)) (out_1_1 : (List Int)) : Option TVars :=
  bnd (nthI v.Names i) fun e_1 =>
  if (eqS e_1 name) = true then
    m_ref09_put_k3 rec_m_ref09_put_l1 i done_2 out_0_1 out_1_1
  else
    if (capB (out_0_1.length + 1)) = true then 
      bnd (nthI v.Vals i) fun e_2 =>
      if (capB (out_1_1.length + 1)) = true then 
        m_ref09_put_k3 rec_m_ref09_put_l1 i done_2 (out_0_1 ++ [e_1]) (out_1_1 ++ [e_2])
       else none
     else none
def m_ref09_put_k1 (rec_m_ref09_put_l1 : Bool → Int → (List ByteArray) → (List Int) → Option TVars) (v : TVars) (name : ByteArray) (n0 : Int) (i : Int) (out_0 : (List ByteArray)) (out_1 : (List Int)) (done_1 : Bool) (v29 : Bool) : Option TVars :=
  if v29 = true then
    if (capB (out_0.length + 1)) = true then 
      if (capB (out_1.length + 1)) = true then 
        m_ref09_put_k2 rec_m_ref09_put_l1 v name i true (out_0 ++ [name]) (out_1 ++ [n0])
       else none
     else none
  else
    m_ref09_put_k2 rec_m_ref09_put_l1 v name i done_1 out_0 out_1
def m_ref09_put_l1_B  (v : TVars) (name : ByteArray) (n0 : Int) (rec_m_ref09_put_l1 : Bool → Int → (List ByteArray) → (List Int) → Option TVars) (done : Bool) (i : Int) (out_0 : (List ByteArray)) (out_1 : (List Int)) : Option TVars :=
  if (decide (i < (v.Names.length : Int))) = true then
    if done = true then
      m_ref09_put_k1 rec_m_ref09_put_l1 v name n0 i out_0 out_1 true false
    else
      bnd (nthI v.Names i) fun e =>
      m_ref09_put_k1 rec_m_ref09_put_l1 v name n0 i out_0 out_1 false (!(ltS e name))
  else
    m_ref09_put_k4 name n0 done out_0 out_1
def m_ref09_put_l1  (v : TVars) (name : ByteArray) (n0 : Int) : Nat → Bool → Int → (List ByteArray) → (List Int) → Option TVars
  | 0, _, _, _, _ => none
  | n + 1, done, i, out_0, out_1 => m_ref09_put_l1_B  v name n0 (m_ref09_put_l1  v name n0 n) done i out_0 out_1
def m_ref09_put  (v : TVars) (name : ByteArray) (n0 : Int) : Option TVars :=
  m_ref09_put_l1 v name n0 ((((v.Names.length : Int)) - ((0 : Int))).toNat + 1) false (0 : Int) ([]) ([])
/-! funicular/funicularref09.Of -/
def m_ref09_Of_k2  (out_0_3 : (List ByteArray)) (out_1_3 : (List Int)) : Option (TVars × Int) :=
  if (decide ((64 : Int) < (out_0_3.length : Int))) = true then
    some ((TVars.mk ([]) ([])), (6 : Int))
  else
    some ((TVars.mk out_0_3 out_1_3), (0 : Int))
def m_ref09_Of_k1 (rec_m_ref09_Of_l1 : Int → (List ByteArray) → (List Int) → Option (TVars × Int)) (i : Int) (out_0_2 : (List ByteArray)) (out_1_2 : (List Int)) : Option (TVars × Int) :=
  rec_m_ref09_Of_l1 (IntKind.i64.wrap (i + (1 : Int))) out_0_2 out_1_2
def m_ref09_Of_l2_B (rec_m_ref09_Of_l1 : Int → (List ByteArray) → (List Int) → Option (TVars × Int)) (l : (List TVars)) (i : Int) (rec_m_ref09_Of_l2 : Int → (List ByteArray) → (List Int) → Option (TVars × Int)) (k : Int) (out_0_1 : (List ByteArray)) (out_1_1 : (List Int)) : Option (TVars × Int) :=
  bnd (nthI l i) fun e_1 =>
  if (decide (k < (e_1.Names.length : Int))) = true then
    bnd (nthI e_1.Names k) fun e_2 =>
    bnd (nthI e_1.Vals k) fun e_3 =>
    bnd (m_ref09_put (TVars.mk out_0_1 out_1_1) e_2 e_3) fun r0_1 =>
    rec_m_ref09_Of_l2 (IntKind.i64.wrap (k + (1 : Int))) r0_1.Names r0_1.Vals
  else
    m_ref09_Of_k1 rec_m_ref09_Of_l1 i out_0_1 out_1_1
def m_ref09_Of_l2 (rec_m_ref09_Of_l1 : Int → (List ByteArray) → (List Int) → Option (TVars × Int)) (l : (List TVars)) (i : Int) : Nat → Int → (List ByteArray) → (List Int) → Option (TVars × Int)
  | 0, _, _, _ => none
  | n + 1, k, out_0_1, out_1_1 => m_ref09_Of_l2_B rec_m_ref09_Of_l1 l i (m_ref09_Of_l2 rec_m_ref09_Of_l1 l i n) k out_0_1 out_1_1
def m_ref09_Of_l1_B  (l : (List TVars)) (rec_m_ref09_Of_l1 : Int → (List ByteArray) → (List Int) → Option (TVars × Int)) (i : Int) (out_0 : (List ByteArray)) (out_1 : (List Int)) : Option (TVars × Int) :=
  if (decide (i < (l.length : Int))) = true then
    bnd (nthI l i) fun e =>
    bnd (m_ref09_Check e) fun r0 =>
    if (decide (r0 ≠ (0 : Int))) = true then
      some ((TVars.mk ([]) ([])), r0)
    else
      m_ref09_Of_l2 rec_m_ref09_Of_l1 l i (1000000) (0 : Int) out_0 out_1
  else
    m_ref09_Of_k2 out_0 out_1
def m_ref09_Of_l1  (l : (List TVars)) : Nat → Int → (List ByteArray) → (List Int) → Option (TVars × Int)
  | 0, _, _, _ => none
  | n + 1, i, out_0, out_1 => m_ref09_Of_l1_B  l (m_ref09_Of_l1  l n) i out_0 out_1
def m_ref09_Of  (l : (List TVars)) : Option (TVars × Int) :=
  m_ref09_Of_l1 l ((((l.length : Int)) - ((0 : Int))).toNat + 1) (0 : Int) ([]) ([])
/-! funicular/vars.Set -/
def m_vars_Set  (v : TVars) (name : ByteArray) (n0 : Int) : Option (TVars × Int) :=
  bnd (m_vars_Of ([v, (TVars.mk ([name]) ([n0]))])) fun r0 =>
  some (r0.1, r0.2)
/-! funicular/funicularref09.One -/
def m_ref09_One  (name : ByteArray) (n0 : Int) : Option TVars :=
  some (TVars.mk ([name]) ([n0]))
/-! funicular/vars.Get -/
def m_vars_Get_k1  (v : TVars) (r0 : (Int × Bool)) (v23 : Bool) : Option (Int × Bool) :=
  if v23 = true then
    some ((0 : Int), false)
  else
    bnd (nthI v.Vals r0.1) fun e =>
    some (e, true)
def m_vars_Get  (v : TVars) (name : ByteArray) : Option (Int × Bool) :=
  bnd (m_slices_BinarySearch_string_string v.Names name) fun r0 =>
  if r0.2 = true then
    m_vars_Get_k1 v r0 (decide ((v.Vals.length : Int) ≤ r0.1))
  else
    m_vars_Get_k1 v r0 true
/-! funicular/vars.Diff -/
def m_vars_Diff_k4  (out_0_1 : (List ByteArray)) (out_1_1 : (List Int)) : Option (TVars × Int) :=
  some ((TVars.mk out_0_1 out_1_1), (0 : Int))
def m_vars_Diff_k3 (rec_m_vars_Diff_l3 : Int → (List ByteArray) → (List Int) → Option (TVars × Int)) (to0 : TVars) (v53 : Int) (out_0 : (List ByteArray)) (out_1 : (List Int)) (e_2 : ByteArray) (v73 : Bool) : Option (TVars × Int) :=
  if v73 = true then
    rec_m_vars_Diff_l3 (IntKind.i64.wrap (v53 + (1 : Int))) out_0 out_1
  else
    if (capB (out_0.length + 1)) = true then 
      bnd (nthI to0.Vals v53) fun e_4 =>
      if (capB (out_1.length + 1)) = true then 
        rec_m_vars_Diff_l3 (IntKind.i64.wrap (v53 + (1 : Int))) (out_0 ++ [e_2]) (out_1 ++ [e_4])
       else none
     else none
def m_vars_Diff_l3_B  (from0 : TVars) (to0 : TVars) (rec_m_vars_Diff_l3 : Int → (List ByteArray) → (List Int) → Option (TVars × Int)) (v53 : Int) (out_0 : (List ByteArray)) (out_1 : (List Int)) : Option (TVars × Int) :=
  if (decide (v53 < (to0.Names.length : Int))) = true then
    bnd (nthI to0.Names v53) fun e_2 =>
    bnd (m_vars_Get from0 e_2) fun r0_2 =>
    if r0_2.2 = true then
      bnd (nthI to0.Vals v53) fun e_3 =>
      m_vars_Diff_k3 rec_m_vars_Diff_l3 to0 v53 out_0 out_1 e_2 (decide (r0_2.1 = e_3))
    else
      m_vars_Diff_k3 rec_m_vars_Diff_l3 to0 v53 out_0 out_1 e_2 false
  else
    m_vars_Diff_k4 out_0 out_1
def m_vars_Diff_l3  (from0 : TVars) (to0 : TVars) : Nat → Int → (List ByteArray) → (List Int) → Option (TVars × Int)
  | 0, _, _, _ => none
  | n + 1, v53, out_0, out_1 => m_vars_Diff_l3_B  from0 to0 (m_vars_Diff_l3  from0 to0 n) v53 out_0 out_1
def m_vars_Diff_k2  (from0 : TVars) (to0 : TVars) : Option (TVars × Int) :=
  m_vars_Diff_l3 from0 to0 ((((to0.Names.length : Int)) - ((0 : Int))).toNat + 1) (0 : Int) ([]) ([])
def m_vars_Diff_l2_B  (from0 : TVars) (to0 : TVars) (rec_m_vars_Diff_l2 : Int → Option (TVars × Int)) (v36 : Int) : Option (TVars × Int) :=
  if (decide (v36 < (from0.Names.length : Int))) = true then
    bnd (nthI from0.Names v36) fun e_1 =>
    bnd (m_vars_Get to0 e_1) fun r0_1 =>
    if r0_1.2 = true then
      rec_m_vars_Diff_l2 (IntKind.i64.wrap (v36 + (1 : Int)))
    else
      some ((TVars.mk ([]) ([])), (9 : Int))
  else
    m_vars_Diff_k2 from0 to0
def m_vars_Diff_l2  (from0 : TVars) (to0 : TVars) : Nat → Int → Option (TVars × Int)
  | 0, _ => none
  | n + 1, v36 => m_vars_Diff_l2_B  from0 to0 (m_vars_Diff_l2  from0 to0 n) v36
def m_vars_Diff_k1  (from0 : TVars) (to0 : TVars) : Option (TVars × Int) :=
  m_vars_Diff_l2 from0 to0 ((((from0.Names.length : Int)) - ((0 : Int))).toNat + 1) (0 : Int)
def m_vars_Diff_l1_B  (from0 : TVars) (to0 : TVars) (rec_m_vars_Diff_l1 : Int → Option (TVars × Int)) (v22 : Int) : Option (TVars × Int) :=
  if (decide (v22 < ((2 : Nat) : Int))) = true then
    bnd (nthI ([from0, to0]) v22) fun e =>
    bnd (m_vars_Check e) fun r0 =>
    if (decide (r0 ≠ (0 : Int))) = true then
      some ((TVars.mk ([]) ([])), r0)
    else
      rec_m_vars_Diff_l1 (IntKind.i64.wrap (v22 + (1 : Int)))
  else
    m_vars_Diff_k1 from0 to0
def m_vars_Diff_l1  (from0 : TVars) (to0 : TVars) : Nat → Int → Option (TVars × Int)
  | 0, _ => none
  | n + 1, v22 => m_vars_Diff_l1_B  from0 to0 (m_vars_Diff_l1  from0 to0 n) v22
def m_vars_Diff  (from0 : TVars) (to0 : TVars) : Option (TVars × Int) :=
  m_vars_Diff_l1 from0 to0 (((((2 : Nat) : Int)) - ((0 : Int))).toNat + 1) (0 : Int)
/-! funicular/funicularref09.Get -/
def m_ref09_Get_l1_B  (v : TVars) (name : ByteArray) (rec_m_ref09_Get_l1 : Int → Option (Int × Bool)) (i : Int) : Option (Int × Bool) :=
  if (decide (i < (v.Names.length : Int))) = true then
    bnd (nthI v.Names i) fun e =>
    if (eqS e name) = true then
      bnd (nthI v.Vals i) fun e_1 =>
      some (e_1, true)
    else
      rec_m_ref09_Get_l1 (IntKind.i64.wrap (i + (1 : Int)))
  else
    some ((0 : Int), false)
def m_ref09_Get_l1  (v : TVars) (name : ByteArray) : Nat → Int → Option (Int × Bool)
  | 0, _ => none
  | n + 1, i => m_ref09_Get_l1_B  v name (m_ref09_Get_l1  v name n) i
def m_ref09_Get  (v : TVars) (name : ByteArray) : Option (Int × Bool) :=
  m_ref09_Get_l1 v name ((((v.Names.length : Int)) - ((0 : Int))).toNat + 1) (0 : Int)
/-! funicular/funicularref09.Diff -/
def m_ref09_Diff_k4  (out_0_2 : (List ByteArray)) (out_1_2 : (List Int)) : Option (TVars × Int) :=
  some ((TVars.mk out_0_2 out_1_2), (0 : Int))
def m_ref09_Diff_k3 (rec_m_ref09_Diff_l2 : Int → (List ByteArray) → (List Int) → Option (TVars × Int)) (i_1 : Int) (out_0_1 : (List ByteArray)) (out_1_1 : (List Int)) : Option (TVars × Int) :=
  rec_m_ref09_Diff_l2 (IntKind.i64.wrap (i_1 + (1 : Int))) out_0_1 out_1_1
def m_ref09_Diff_k2 (rec_m_ref09_Diff_l2 : Int → (List ByteArray) → (List Int) → Option (TVars × Int)) (to0 : TVars) (i_1 : Int) (out_0 : (List ByteArray)) (out_1 : (List Int)) (v75 : Bool) : Option (TVars × Int) :=
  if v75 = true then
    bnd (nthI to0.Names i_1) fun e_3 =>
    bnd (nthI to0.Vals i_1) fun e_4 =>
    bnd (m_ref09_put (TVars.mk out_0 out_1) e_3 e_4) fun r0_4 =>
    m_ref09_Diff_k3 rec_m_ref09_Diff_l2 i_1 r0_4.Names r0_4.Vals
  else
    m_ref09_Diff_k3 rec_m_ref09_Diff_l2 i_1 out_0 out_1
def m_ref09_Diff_l2_B  (from0 : TVars) (to0 : TVars) (rec_m_ref09_Diff_l2 : Int → (List ByteArray) → (List Int) → Option (TVars × Int)) (i_1 : Int) (out_0 : (List ByteArray)) (out_1 : (List Int)) : Option (TVars × Int) :=
  if (decide (i_1 < (to0.Names.length : Int))) = true then
    bnd (nthI to0.Names i_1) fun e_1 =>
    bnd (m_ref09_Get from0 e_1) fun r0_3 =>
    if r0_3.2 = true then
      bnd (nthI to0.Vals i_1) fun e_2 =>
      m_ref09_Diff_k2 rec_m_ref09_Diff_l2 to0 i_1 out_0 out_1 (decide (r0_3.1 ≠ e_2))
    else
      m_ref09_Diff_k2 rec_m_ref09_Diff_l2 to0 i_1 out_0 out_1 true
  else
    m_ref09_Diff_k4 out_0 out_1
def m_ref09_Diff_l2  (from0 : TVars) (to0 : TVars) : Nat → Int → (List ByteArray) → (List Int) → Option (TVars × Int)
  | 0, _, _, _ => none
  | n + 1, i_1, out_0, out_1 => m_ref09_Diff_l2_B  from0 to0 (m_ref09_Diff_l2  from0 to0 n) i_1 out_0 out_1
def m_ref09_Diff_k1  (from0 : TVars) (to0 : TVars) : Option (TVars × Int) :=
  m_ref09_Diff_l2 from0 to0 ((((to0.Names.length : Int)) - ((0 : Int))).toNat + 1) (0 : Int) ([]) ([])
def m_ref09_Diff_l1_B  (from0 : TVars) (to0 : TVars) (rec_m_ref09_Diff_l1 : Int → Option (TVars × Int)) (i : Int) : Option (TVars × Int) :=
  if (decide (i < (from0.Names.length : Int))) = true then
    bnd (nthI from0.Names i) fun e =>
    bnd (m_ref09_Get to0 e) fun r0_2 =>
    if r0_2.2 = true then
      rec_m_ref09_Diff_l1 (IntKind.i64.wrap (i + (1 : Int)))
    else
      some ((TVars.mk ([]) ([])), (9 : Int))
  else
    m_ref09_Diff_k1 from0 to0
def m_ref09_Diff_l1  (from0 : TVars) (to0 : TVars) : Nat → Int → Option (TVars × Int)
  | 0, _ => none
  | n + 1, i => m_ref09_Diff_l1_B  from0 to0 (m_ref09_Diff_l1  from0 to0 n) i
def m_ref09_Diff  (from0 : TVars) (to0 : TVars) : Option (TVars × Int) :=
  bnd (m_ref09_Check from0) fun r0 =>
  if (decide (r0 ≠ (0 : Int))) = true then
    some ((TVars.mk ([]) ([])), r0)
  else
    bnd (m_ref09_Check to0) fun r0_1 =>
    if (decide (r0_1 ≠ (0 : Int))) = true then
      some ((TVars.mk ([]) ([])), r0_1)
    else
      m_ref09_Diff_l1 from0 to0 ((((from0.Names.length : Int)) - ((0 : Int))).toNat + 1) (0 : Int)
/-! funicular/funicularlaw09.VarsPuts -/
def m_law09_VarsPuts_k2  (v : TVars) (name : ByteArray) (v120 : Bool) : Option Bool :=
  if v120 = true then
    some false
  else
    bnd (m_ref09_Check v) fun r0_14 =>
    if (decide (r0_14 ≠ (0 : Int))) = true then
      bnd (m_law09_works ) fun r0_15 =>
      some r0_15
    else
      bnd (m_vars_Get v name) fun r0_16 =>
      bnd (m_ref09_Get v name) fun r0_17 =>
      if (decide (r0_16.1 = r0_17.1)) = true then
        if (r0_16.2 == r0_17.2) = true then
          bnd (m_law09_works ) fun r0_18 =>
          some r0_18
        else
          some false
      else
        some false
def m_law09_VarsPuts_k1  (v : TVars) (w : TVars) (x0 : TVars) (name : ByteArray) (n0 : Int) (v44 : Bool) : Option Bool :=
  if v44 = true then
    bnd (m_law09_works ) fun r0_3 =>
    some r0_3
  else
    bnd (m_vars_Of ([v, w, x0])) fun r0_4 =>
    bnd (m_ref09_Of ([v, w, x0])) fun r0_5 =>
    bnd (m_vars_Set v name n0) fun r0_6 =>
    bnd (m_ref09_One name n0) fun r0_7 =>
    bnd (m_ref09_Of ([v, r0_7])) fun r0_8 =>
    bnd (m_vars_Diff v w) fun r0_9 =>
    bnd (m_ref09_Diff v w) fun r0_10 =>
    if (decide (r0_4.2 ≠ r0_5.2)) = true then
      m_law09_VarsPuts_k2 v name true
    else
      if (decide (r0_6.2 ≠ r0_8.2)) = true then
        m_law09_VarsPuts_k2 v name true
      else
        if (decide (r0_9.2 ≠ r0_10.2)) = true then
          m_law09_VarsPuts_k2 v name true
        else
          bnd (m_ref09_Same r0_4.1 r0_5.1) fun r0_11 =>
          if r0_11 = true then
            bnd (m_ref09_Same r0_6.1 r0_8.1) fun r0_12 =>
            if r0_12 = true then
              bnd (m_ref09_Same r0_9.1 r0_10.1) fun r0_13 =>
              m_law09_VarsPuts_k2 v name (!r0_13)
            else
              m_law09_VarsPuts_k2 v name true
          else
            m_law09_VarsPuts_k2 v name true
def m_law09_VarsPuts  (v : TVars) (w : TVars) (x0 : TVars) (name : ByteArray) (n0 : Int) : Option Bool :=
  bnd (m_law09_light v) fun r0 =>
  if r0 = true then
    bnd (m_law09_light w) fun r0_1 =>
    if r0_1 = true then
      bnd (m_law09_light x0) fun r0_2 =>
      if r0_2 = true then
        m_law09_VarsPuts_k1 v w x0 name n0 (decide ((60 : Int) < (name.size : Int)))
      else
        m_law09_VarsPuts_k1 v w x0 name n0 true
    else
      m_law09_VarsPuts_k1 v w x0 name n0 true
  else
    m_law09_VarsPuts_k1 v w x0 name n0 true
/-! funicular/funicularlaw09.VarsLast -/
def m_law09_VarsLast_k4  (v : TVars) (r0_3 : (TVars × Int)) (v85 : Bool) : Option Bool :=
  if v85 = true then
    some false
  else
    bnd (m_vars_Diff v r0_3.1) fun r0_10 =>
    bnd (m_vars_Of ([v, r0_10.1])) fun r0_11 =>
    if (decide (r0_10.2 = (0 : Int))) = true then
      if (decide (r0_11.2 = (0 : Int))) = true then
        bnd (m_ref09_Same r0_11.1 r0_3.1) fun r0_12 =>
        if r0_12 = true then
          bnd (m_law09_works ) fun r0_13 =>
          some r0_13
        else
          some false
      else
        some false
    else
      some false
def m_law09_VarsLast_k3  (v : TVars) (r0_3 : (TVars × Int)) (r0_7 : (Int × Bool)) (m : Int) (is : Bool) : Option Bool :=
  if (decide (r0_7.1 ≠ m)) = true then
    m_law09_VarsLast_k4 v r0_3 true
  else
    m_law09_VarsLast_k4 v r0_3 (!((r0_7.2 == is)))
def m_law09_VarsLast_k2  (v : TVars) (w : TVars) (name : ByteArray) (r0_3 : (TVars × Int)) (v57 : Bool) : Option Bool :=
  if v57 = true then
    some false
  else
    bnd (m_vars_Get r0_3.1 name) fun r0_7 =>
    bnd (m_vars_Get w name) fun r0_8 =>
    if r0_8.2 = true then
      m_law09_VarsLast_k3 v r0_3 r0_7 r0_8.1 true
    else
      bnd (m_vars_Get v name) fun r0_9 =>
      m_law09_VarsLast_k3 v r0_3 r0_7 r0_9.1 r0_9.2
def m_law09_VarsLast_k1  (v : TVars) (w : TVars) (name : ByteArray) (v31 : Bool) : Option Bool :=
  if v31 = true then
    bnd (m_law09_works ) fun r0_2 =>
    some r0_2
  else
    bnd (m_vars_Of ([v, w])) fun r0_3 =>
    if (decide (r0_3.2 ≠ (0 : Int))) = true then
      bnd (m_law09_works ) fun r0_4 =>
      some r0_4
    else
      bnd (m_vars_Of ([r0_3.1, w])) fun r0_5 =>
      if (decide (r0_5.2 ≠ (0 : Int))) = true then
        m_law09_VarsLast_k2 v w name r0_3 true
      else
        bnd (m_ref09_Same r0_3.1 r0_5.1) fun r0_6 =>
        m_law09_VarsLast_k2 v w name r0_3 (!r0_6)
def m_law09_VarsLast  (v : TVars) (w : TVars) (name : ByteArray) : Option Bool :=
  bnd (m_law09_light v) fun r0 =>
  if r0 = true then
    bnd (m_law09_light w) fun r0_1 =>
    if r0_1 = true then
      m_law09_VarsLast_k1 v w name (decide ((60 : Int) < (name.size : Int)))
    else
      m_law09_VarsLast_k1 v w name true
  else
    m_law09_VarsLast_k1 v w name true
end Go.Proofs.Ytjhnlgelcfplaaa.R
