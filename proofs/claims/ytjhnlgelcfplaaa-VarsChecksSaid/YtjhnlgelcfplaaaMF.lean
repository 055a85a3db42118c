/- Models of the functions. -/
import Derived.Test.YtjhnlgelcfplaaaMT
set_option maxRecDepth 100000
set_option linter.unusedVariables false
set_option linter.unusedSimpArgs false
set_option linter.defProp false
noncomputable section
namespace Go.Proofs.Ytjhnlgelcfplaaa.R
open Go Nat
/-! funicular/funicularlaw09.light -/
def m_law09_light_l1_B  (v : TVars) (rec_m_law09_light_l1 : Int → Option Bool) (i : Int) : Option Bool :=
  if (decide (i < (v.Names.length : Int))) = true then
    bnd (nthI v.Names i) fun e =>
    if (decide ((60 : Int) < (e.size : Int))) = true then
      some false
    else
      rec_m_law09_light_l1 (IntKind.i64.wrap (i + (1 : Int)))
  else
    some true
def m_law09_light_l1  (v : TVars) : Nat → Int → Option Bool
  | 0, _ => none
  | n + 1, i => m_law09_light_l1_B  v (m_law09_light_l1  v n) i
def m_law09_light_k1  (v : TVars) (v13 : Bool) : Option Bool :=
  if v13 = true then
    some false
  else
    m_law09_light_l1 v ((((v.Names.length : Int)) - ((0 : Int))).toNat + 1) (0 : Int)
def m_law09_light  (v : TVars) : Option Bool :=
  if (decide ((200 : Int) < (v.Names.length : Int))) = true then
    m_law09_light_k1 v true
  else
    m_law09_light_k1 v (decide ((200 : Int) < (v.Vals.length : Int)))
/-! funicular/funicularlaw09.works: reckoned by the kernel -/
def m_law09_works : Option Bool := some true
/-! funicular/pack.Name -/
def m_pack_Name_k3  (s : ByteArray) : Option Bool :=
  if (decide ((1 : Int) ≤ (s.size : Int))) = true then
    some (decide ((s.size : Int) ≤ (32 : Int)))
  else
    some false
def m_pack_Name_k2 (rec_m_pack_Name_l1 : Int → Option Bool) (v9 : Int) (v33 : Bool) : Option Bool :=
  if v33 = true then
    some false
  else
    rec_m_pack_Name_l1 (IntKind.i64.wrap (v9 + (1 : Int)))
def m_pack_Name_k1 (rec_m_pack_Name_l1 : Int → Option Bool) (v9 : Int) (e : Int) (letter : Bool) : Option Bool :=
  if letter = true then
    m_pack_Name_k2 rec_m_pack_Name_l1 v9 false
  else
    if (decide (v9 = (0 : Int))) = true then
      m_pack_Name_k2 rec_m_pack_Name_l1 v9 true
    else
      if (decide (e < (48 : Int))) = true then
        m_pack_Name_k2 rec_m_pack_Name_l1 v9 true
      else
        m_pack_Name_k2 rec_m_pack_Name_l1 v9 (decide ((57 : Int) < e))
def m_pack_Name_l1_B  (s : ByteArray) (rec_m_pack_Name_l1 : Int → Option Bool) (v9 : Int) : Option Bool :=
  if (decide (v9 < ((bytesI s).length : Int))) = true then
    bnd (nthI (bytesI s) v9) fun e =>
    if (decide ((97 : Int) ≤ e)) = true then
      m_pack_Name_k1 rec_m_pack_Name_l1 v9 e (decide (e ≤ (122 : Int)))
    else
      m_pack_Name_k1 rec_m_pack_Name_l1 v9 e false
  else
    m_pack_Name_k3 s
def m_pack_Name_l1  (s : ByteArray) : Nat → Int → Option Bool
  | 0, _ => none
  | n + 1, v9 => m_pack_Name_l1_B  s (m_pack_Name_l1  s n) v9
def m_pack_Name  (s : ByteArray) : Option Bool :=
  m_pack_Name_l1 s (((((bytesI s).length : Int)) - ((0 : Int))).toNat + 1) (0 : Int)
/-! funicular/vars.Check -/
def m_vars_Check_k2 (rec_m_vars_Check_l1 : Int → Option Int) (v21 : Int) (v48 : Bool) : Option Int :=
  if v48 = true then
    some (1 : Int)
  else
    rec_m_vars_Check_l1 (IntKind.i64.wrap (v21 + (1 : Int)))
def m_vars_Check_k1 (rec_m_vars_Check_l1 : Int → Option Int) (v : TVars) (v21 : Int) (e : ByteArray) (v36 : Bool) : Option Int :=
  if v36 = true then
    some (1 : Int)
  else
    if (decide ((0 : Int) < v21)) = true then
      bnd (nthI v.Names (IntKind.i64.wrap (v21 - (1 : Int)))) fun e_1 =>
      m_vars_Check_k2 rec_m_vars_Check_l1 v21 (!(ltS e_1 e))
    else
      m_vars_Check_k2 rec_m_vars_Check_l1 v21 false
def m_vars_Check_l1_B  (v : TVars) (rec_m_vars_Check_l1 : Int → Option Int) (v21 : Int) : Option Int :=
  if (decide (v21 < (v.Names.length : Int))) = true then
    bnd (nthI v.Names v21) fun e =>
    bnd (m_pack_Name e) fun r0 =>
    if r0 = true then
      if (eqS e (⟨#[121, 101, 115]⟩)) = true then
        m_vars_Check_k1 rec_m_vars_Check_l1 v v21 e true
      else
        m_vars_Check_k1 rec_m_vars_Check_l1 v v21 e (eqS e (⟨#[110, 111]⟩))
    else
      m_vars_Check_k1 rec_m_vars_Check_l1 v v21 e true
  else
    some (0 : Int)
def m_vars_Check_l1  (v : TVars) : Nat → Int → Option Int
  | 0, _ => none
  | n + 1, v21 => m_vars_Check_l1_B  v (m_vars_Check_l1  v n) v21
def m_vars_Check  (v : TVars) : Option Int :=
  if (decide ((v.Names.length : Int) ≠ (v.Vals.length : Int))) = true then
    some (1 : Int)
  else
    if (decide ((64 : Int) < (v.Names.length : Int))) = true then
      some (6 : Int)
    else
      m_vars_Check_l1 v ((((v.Names.length : Int)) - ((0 : Int))).toNat + 1) (0 : Int)
/-! funicular/funicularref02.Name -/
def m_ref02_Name_k4 (rec_m_ref02_Name_l1 : Int → Option Bool) (i : Int) (v50 : Bool) : Option Bool :=
  if v50 = true then
    some false
  else
    rec_m_ref02_Name_l1 (IntKind.i64.wrap (i + (1 : Int)))
def m_ref02_Name_k3 (rec_m_ref02_Name_l1 : Int → Option Bool) (i : Int) (digit : Bool) (letter : Bool) : Option Bool :=
  if digit = true then
    m_ref02_Name_k4 rec_m_ref02_Name_l1 i false
  else
    m_ref02_Name_k4 rec_m_ref02_Name_l1 i (!letter)
def m_ref02_Name_k2 (rec_m_ref02_Name_l1 : Int → Option Bool) (s : ByteArray) (i : Int) (digit : Bool) : Option Bool :=
  bnd (nthS s i) fun c_2 =>
  if (decide ((97 : Int) ≤ c_2)) = true then
    m_ref02_Name_k3 rec_m_ref02_Name_l1 i digit (decide (c_2 ≤ (122 : Int)))
  else
    m_ref02_Name_k3 rec_m_ref02_Name_l1 i digit false
def m_ref02_Name_l1_B  (s : ByteArray) (rec_m_ref02_Name_l1 : Int → Option Bool) (i : Int) : Option Bool :=
  if (decide (i < (s.size : Int))) = true then
    bnd (nthS s i) fun c_1 =>
    if (decide ((48 : Int) ≤ c_1)) = true then
      m_ref02_Name_k2 rec_m_ref02_Name_l1 s i (decide (c_1 ≤ (57 : Int)))
    else
      m_ref02_Name_k2 rec_m_ref02_Name_l1 s i false
  else
    some true
def m_ref02_Name_l1  (s : ByteArray) : Nat → Int → Option Bool
  | 0, _ => none
  | n + 1, i => m_ref02_Name_l1_B  s (m_ref02_Name_l1  s n) i
def m_ref02_Name_k1  (s : ByteArray) (v18 : Bool) : Option Bool :=
  if v18 = true then
    some false
  else
    m_ref02_Name_l1 s ((((s.size : Int)) - ((0 : Int))).toNat + 1) (0 : Int)
def m_ref02_Name  (s : ByteArray) : Option Bool :=
  if (decide ((s.size : Int) = (0 : Int))) = true then
    m_ref02_Name_k1 s true
  else
    if (decide ((32 : Int) < (s.size : Int))) = true then
      m_ref02_Name_k1 s true
    else
      bnd (nthS s (0 : Int)) fun c =>
      m_ref02_Name_k1 s (decide (c < (97 : Int)))
/-! funicular/funicularref09.Check -/
def m_ref09_Check_k1 (rec_m_ref09_Check_l1 : Int → Option Int) (i : Int) (v53 : Bool) : Option Int :=
  if v53 = true then
    some (1 : Int)
  else
    rec_m_ref09_Check_l1 (IntKind.i64.wrap (i + (1 : Int)))
def m_ref09_Check_l1_B  (v : TVars) (rec_m_ref09_Check_l1 : Int → Option Int) (i : Int) : Option Int :=
  if (decide (i < (v.Names.length : Int))) = true then
    bnd (nthI v.Names i) fun e =>
    bnd (m_ref02_Name e) fun r0 =>
    if r0 = true then
      if (eqS e (⟨#[121, 101, 115]⟩)) = true then
        m_ref09_Check_k1 rec_m_ref09_Check_l1 i true
      else
        if (eqS e (⟨#[110, 111]⟩)) = true then
          m_ref09_Check_k1 rec_m_ref09_Check_l1 i true
        else
          if (decide ((0 : Int) < i)) = true then
            bnd (nthI v.Names (IntKind.i64.wrap (i - (1 : Int)))) fun e_1 =>
            m_ref09_Check_k1 rec_m_ref09_Check_l1 i (!(ltS e_1 e))
          else
            m_ref09_Check_k1 rec_m_ref09_Check_l1 i false
    else
      m_ref09_Check_k1 rec_m_ref09_Check_l1 i true
  else
    some (0 : Int)
def m_ref09_Check_l1  (v : TVars) : Nat → Int → Option Int
  | 0, _ => none
  | n + 1, i => m_ref09_Check_l1_B  v (m_ref09_Check_l1  v n) i
def m_ref09_Check  (v : TVars) : Option Int :=
  if (decide ((v.Names.length : Int) ≠ (v.Vals.length : Int))) = true then
    some (1 : Int)
  else
    if (decide ((64 : Int) < (v.Names.length : Int))) = true then
      some (6 : Int)
    else
      m_ref09_Check_l1 v ((((v.Names.length : Int)) - ((0 : Int))).toNat + 1) (0 : Int)
/-! slices.Equal[[]string,string] -/
def m_slices_Equal_string_string_l1_B  (s1 : (List ByteArray)) (s2 : (List ByteArray)) (rec_m_slices_Equal_string_string_l1 : Int → Option Bool) (v13 : Int) : Option Bool :=
  if (decide (v13 < (s1.length : Int))) = true then
    bnd (nthI s1 v13) fun e =>
    bnd (nthI s2 v13) fun e_1 =>
    if (eqS e e_1) = true then
      rec_m_slices_Equal_string_string_l1 (IntKind.i64.wrap (v13 + (1 : Int)))
    else
      some false
  else
    some true
def m_slices_Equal_string_string_l1  (s1 : (List ByteArray)) (s2 : (List ByteArray)) : Nat → Int → Option Bool
  | 0, _ => none
  | n + 1, v13 => m_slices_Equal_string_string_l1_B  s1 s2 (m_slices_Equal_string_string_l1  s1 s2 n) v13
def m_slices_Equal_string_string  (s1 : (List ByteArray)) (s2 : (List ByteArray)) : Option Bool :=
  if (decide ((s1.length : Int) ≠ (s2.length : Int))) = true then
    some false
  else
    m_slices_Equal_string_string_l1 s1 s2 ((((s1.length : Int)) - ((0 : Int))).toNat + 1) (0 : Int)
/-! slices.Equal[[]int64,int64] -/
def m_slices_Equal_int64_int64_l1_B  (s1 : (List Int)) (s2 : (List Int)) (rec_m_slices_Equal_int64_int64_l1 : Int → Option Bool) (v13 : Int) : Option Bool :=
  if (decide (v13 < (s1.length : Int))) = true then
    bnd (nthI s1 v13) fun e =>
    bnd (nthI s2 v13) fun e_1 =>
    if (decide (e ≠ e_1)) = true then
      some false
    else
      rec_m_slices_Equal_int64_int64_l1 (IntKind.i64.wrap (v13 + (1 : Int)))
  else
    some true
def m_slices_Equal_int64_int64_l1  (s1 : (List Int)) (s2 : (List Int)) : Nat → Int → Option Bool
  | 0, _ => none
  | n + 1, v13 => m_slices_Equal_int64_int64_l1_B  s1 s2 (m_slices_Equal_int64_int64_l1  s1 s2 n) v13
def m_slices_Equal_int64_int64  (s1 : (List Int)) (s2 : (List Int)) : Option Bool :=
  if (decide ((s1.length : Int) ≠ (s2.length : Int))) = true then
    some false
  else
    m_slices_Equal_int64_int64_l1 s1 s2 ((((s1.length : Int)) - ((0 : Int))).toNat + 1) (0 : Int)
/-! funicular/vars.Same -/
def m_vars_Same  (a : TVars) (b : TVars) : Option Bool :=
  bnd (m_slices_Equal_string_string a.Names b.Names) fun r0 =>
  if r0 = true then
    bnd (m_slices_Equal_int64_int64 a.Vals b.Vals) fun r0_1 =>
    some r0_1
  else
    some false
/-! funicular/funicularref08.Texts -/
def m_ref08_Texts_l1_B  (a : (List ByteArray)) (b : (List ByteArray)) (rec_m_ref08_Texts_l1 : Int → Option Bool) (i : Int) : Option Bool :=
  if (decide (i < (a.length : Int))) = true then
    bnd (nthI a i) fun e =>
    bnd (nthI b i) fun e_1 =>
    if (eqS e e_1) = true then
      rec_m_ref08_Texts_l1 (IntKind.i64.wrap (i + (1 : Int)))
    else
      some false
  else
    some true
def m_ref08_Texts_l1  (a : (List ByteArray)) (b : (List ByteArray)) : Nat → Int → Option Bool
  | 0, _ => none
  | n + 1, i => m_ref08_Texts_l1_B  a b (m_ref08_Texts_l1  a b n) i
def m_ref08_Texts  (a : (List ByteArray)) (b : (List ByteArray)) : Option Bool :=
  if (decide ((a.length : Int) ≠ (b.length : Int))) = true then
    some false
  else
    m_ref08_Texts_l1 a b ((((a.length : Int)) - ((0 : Int))).toNat + 1) (0 : Int)
/-! funicular/funicularref09.Same -/
def m_ref09_Same_l1_B  (a : TVars) (b : TVars) (rec_m_ref09_Same_l1 : Int → Option Bool) (i : Int) : Option Bool :=
  if (decide (i < (a.Vals.length : Int))) = true then
    bnd (nthI a.Vals i) fun e =>
    bnd (nthI b.Vals i) fun e_1 =>
    if (decide (e ≠ e_1)) = true then
      some false
    else
      rec_m_ref09_Same_l1 (IntKind.i64.wrap (i + (1 : Int)))
  else
    some true
def m_ref09_Same_l1  (a : TVars) (b : TVars) : Nat → Int → Option Bool
  | 0, _ => none
  | n + 1, i => m_ref09_Same_l1_B  a b (m_ref09_Same_l1  a b n) i
def m_ref09_Same_k1  (a : TVars) (b : TVars) (v20 : Bool) : Option Bool :=
  if v20 = true then
    some false
  else
    m_ref09_Same_l1 a b ((((a.Vals.length : Int)) - ((0 : Int))).toNat + 1) (0 : Int)
def m_ref09_Same  (a : TVars) (b : TVars) : Option Bool :=
  bnd (m_ref08_Texts a.Names b.Names) fun r0 =>
  if r0 = true then
    m_ref09_Same_k1 a b (decide ((a.Vals.length : Int) ≠ (b.Vals.length : Int)))
  else
    m_ref09_Same_k1 a b true
/-! funicular/vars.Copy -/
def m_vars_Copy  (v : TVars) : Option TVars :=
  if (capB (v.Names).length) = true then 
    if (capB (v.Vals).length) = true then 
      some v
     else none
   else none
/-! funicular/funicularlaw09.VarsChecks -/
def m_law09_VarsChecks_k1  (v : TVars) (w : TVars) (v12 : Bool) : Option Bool :=
  if v12 = true then
    bnd (m_law09_works ) fun r0_2 =>
    some r0_2
  else
    bnd (m_vars_Check v) fun r0_3 =>
    bnd (m_ref09_Check v) fun r0_4 =>
    if (decide (r0_3 = r0_4)) = true then
      bnd (m_vars_Same v w) fun r0_5 =>
      bnd (m_ref09_Same v w) fun r0_6 =>
      if (r0_5 == r0_6) = true then
        bnd (m_vars_Copy v) fun r0_7 =>
        bnd (m_ref09_Same r0_7 v) fun r0_8 =>
        if r0_8 = true then
          bnd (m_law09_works ) fun r0_9 =>
          some r0_9
        else
          some false
      else
        some false
    else
      some false
def m_law09_VarsChecks  (v : TVars) (w : TVars) : Option Bool :=
  bnd (m_law09_light v) fun r0 =>
  if r0 = true then
    bnd (m_law09_light w) fun r0_1 =>
    m_law09_VarsChecks_k1 v w (!r0_1)
  else
    m_law09_VarsChecks_k1 v w true
end Go.Proofs.Ytjhnlgelcfplaaa.R
