/- Models of the functions. -/
import Derived.Test.YtjhnlgelcfplaaaMT
set_option maxRecDepth 100000
set_option maxHeartbeats 1600000
set_option linter.unusedVariables false
set_option linter.unusedSimpArgs false
set_option linter.defProp false
noncomputable section
namespace Go.Proofs.Ytjhnlgelcfplaaa.R
open Go Nat
/-! funicular/pack.Uint -/
def m_pack_Uint_k1  (n0_2 : Int) (b_1 : (List Int)) : Option (List Int) :=
  if (capB (b_1.length + 1)) = true then 
    some (b_1 ++ [(IntKind.u8.wrap n0_2)])
   else none
def m_pack_Uint_l1_B   (rec_m_pack_Uint_l1 : Int → (List Int) → Option (List Int)) (n0_1 : Int) (b : (List Int)) : Option (List Int) :=
  if (decide ((128 : Int) ≤ n0_1)) = true then
    if (capB (b.length + 1)) = true then 
      rec_m_pack_Uint_l1 (shrI .u64 n0_1 (7 : Int)) (b ++ [(orI .u8 (IntKind.u8.wrap n0_1) (128 : Int))])
     else none
  else
    m_pack_Uint_k1 n0_1 b
def m_pack_Uint_l1   : Nat → Int → (List Int) → Option (List Int)
  | 0, _, _ => none
  | n + 1, n0_1, b => m_pack_Uint_l1_B   (m_pack_Uint_l1   n) n0_1 b
def m_pack_Uint  (n0 : Int) : Option (List Int) :=
  m_pack_Uint_l1 (1000000) n0 ([])
/-! funicular/pack.Uint -/
def m_pack_Uint_v1_k1  (n0_2 : Int) (b_2 : (List Int)) : Option (List Int) :=
  if (capB (b_2.length + 1)) = true then 
    some (b_2 ++ [(IntKind.u8.wrap n0_2)])
   else none
def m_pack_Uint_v1_l1_B   (rec_m_pack_Uint_v1_l1 : Int → (List Int) → Option (List Int)) (n0_1 : Int) (b_1 : (List Int)) : Option (List Int) :=
  if (decide ((128 : Int) ≤ n0_1)) = true then
    if (capB (b_1.length + 1)) = true then 
      rec_m_pack_Uint_v1_l1 (shrI .u64 n0_1 (7 : Int)) (b_1 ++ [(orI .u8 (IntKind.u8.wrap n0_1) (128 : Int))])
     else none
  else
    m_pack_Uint_v1_k1 n0_1 b_1
def m_pack_Uint_v1_l1   : Nat → Int → (List Int) → Option (List Int)
  | 0, _, _ => none
  | n + 1, n0_1, b_1 => m_pack_Uint_v1_l1_B   (m_pack_Uint_v1_l1   n) n0_1 b_1
def m_pack_Uint_v1  (b : (List Int)) (n0 : Int) : Option (List Int) :=
  m_pack_Uint_v1_l1 (1000000) n0 b
/-! funicular/pack.Bytes -/
def m_pack_Bytes  (b : (List Int)) (s : (List Int)) : Option (List Int) :=
  bnd (m_pack_Uint_v1 b (IntKind.u64.wrap (s.length : Int))) fun r0 =>
  if (capB (r0.length + (s).length)) = true then 
    some (r0 ++ s)
   else none
/-! funicular/pack.Int -/
def m_pack_Int  (b : (List Int)) (n0 : Int) : Option (List Int) :=
  bnd (m_pack_Uint_v1 b (xorI .u64 (shlI .u64 (IntKind.u64.wrap n0) (1 : Int)) (IntKind.u64.wrap (shrI .i64 n0 (63 : Int))))) fun r0 =>
  some r0
/-! funicular/vars.Put -/
def m_vars_Put_l1_B  (v : TVars) (rec_m_vars_Put_l1 : Int → (List Int) → Option (List Int)) (v16 : Int) (b : (List Int)) : Option (List Int) :=
  if (decide (v16 < (v.Names.length : Int))) = true then
    bnd (nthI v.Names v16) fun e =>
    bnd (m_pack_Bytes b (bytesI e)) fun r0_1 =>
    bnd (nthI v.Vals v16) fun e_1 =>
    bnd (m_pack_Int r0_1 e_1) fun r0_2 =>
    rec_m_vars_Put_l1 (IntKind.i64.wrap (v16 + (1 : Int))) r0_2
  else
    some b
def m_vars_Put_l1  (v : TVars) : Nat → Int → (List Int) → Option (List Int)
  | 0, _, _ => none
  | n + 1, v16, b => m_vars_Put_l1_B  v (m_vars_Put_l1  v n) v16 b
def m_vars_Put  (v : TVars) : Option (List Int) :=
  bnd (m_pack_Uint (IntKind.u64.wrap (v.Names.length : Int))) fun r0 =>
  m_vars_Put_l1 v ((((v.Names.length : Int)) - ((0 : Int))).toNat + 1) (0 : Int) r0
/-! funicular/funicularlaw09.light -/
def m_law09_light_l1_B  (v : TVars) (rec_m_law09_light_l1 : Int → Option Bool) (i : Int) : Option Bool :=
  if (decide (i < (v.Names.length : Int))) = true then
    bnd (nthI v.Names i) fun e =>
    if (decide ((60 : Int) < (e.size : Int))) = true then
      some false
    else
      rec_m_law09_light_l1 (IntKind.i64.wrap (i + (1 : Int)))
  else
    some true
def m_law09_light_l1  (v : TVars) : Nat → Int → Option Bool
  | 0, _ => none
  | n + 1, i => m_law09_light_l1_B  v (m_law09_light_l1  v n) i
def m_law09_light_k1  (v : TVars) (v13 : Bool) : Option Bool :=
  if v13 = true then
    some false
  else
    m_law09_light_l1 v ((((v.Names.length : Int)) - ((0 : Int))).toNat + 1) (0 : Int)
def m_law09_light  (v : TVars) : Option Bool :=
  if (decide ((200 : Int) < (v.Names.length : Int))) = true then
    m_law09_light_k1 v true
  else
    m_law09_light_k1 v (decide ((200 : Int) < (v.Vals.length : Int)))
/-! funicular/funicularlaw09.works: reckoned by the kernel -/
def m_law09_works : Option Bool := some true
/-! funicular/pack.Name -/
def m_pack_Name_k3  (s : ByteArray) : Option Bool :=
  if (decide ((1 : Int) ≤ (s.size : Int))) = true then
    some (decide ((s.size : Int) ≤ (32 : Int)))
  else
    some false
def m_pack_Name_k2 (rec_m_pack_Name_l1 : Int → Option Bool) (v9 : Int) (v33 : Bool) : Option Bool :=
  if v33 = true then
    some false
  else
    rec_m_pack_Name_l1 (IntKind.i64.wrap (v9 + (1 : Int)))
def m_pack_Name_k1 (rec_m_pack_Name_l1 : Int → Option Bool) (v9 : Int) (e : Int) (letter : Bool) : Option Bool :=
  if letter = true then
    m_pack_Name_k2 rec_m_pack_Name_l1 v9 false
  else
    if (decide (v9 = (0 : Int))) = true then
      m_pack_Name_k2 rec_m_pack_Name_l1 v9 true
    else
      if (decide (e < (48 : Int))) = true then
        m_pack_Name_k2 rec_m_pack_Name_l1 v9 true
      else
        m_pack_Name_k2 rec_m_pack_Name_l1 v9 (decide ((57 : Int) < e))
def m_pack_Name_l1_B  (s : ByteArray) (rec_m_pack_Name_l1 : Int → Option Bool) (v9 : Int) : Option Bool :=
  if (decide (v9 < ((bytesI s).length : Int))) = true then
    bnd (nthI (bytesI s) v9) fun e =>
    if (decide ((97 : Int) ≤ e)) = true then
      m_pack_Name_k1 rec_m_pack_Name_l1 v9 e (decide (e ≤ (122 : Int)))
    else
      m_pack_Name_k1 rec_m_pack_Name_l1 v9 e false
  else
    m_pack_Name_k3 s
def m_pack_Name_l1  (s : ByteArray) : Nat → Int → Option Bool
  | 0, _ => none
  | n + 1, v9 => m_pack_Name_l1_B  s (m_pack_Name_l1  s n) v9
def m_pack_Name  (s : ByteArray) : Option Bool :=
  m_pack_Name_l1 s (((((bytesI s).length : Int)) - ((0 : Int))).toNat + 1) (0 : Int)
/-! funicular/vars.Check -/
def m_vars_Check_k2 (rec_m_vars_Check_l1 : Int → Option Int) (v21 : Int) (v48 : Bool) : Option Int :=
  if v48 = true then
    some (1 : Int)
  else
    rec_m_vars_Check_l1 (IntKind.i64.wrap (v21 + (1 : Int)))
def m_vars_Check_k1 (rec_m_vars_Check_l1 : Int → Option Int) (v : TVars) (v21 : Int) (e : ByteArray) (v36 : Bool) : Option Int :=
  if v36 = true then
    some (1 : Int)
  else
    if (decide ((0 : Int) < v21)) = true then
      bnd (nthI v.Names (IntKind.i64.wrap (v21 - (1 : Int)))) fun e_1 =>
      m_vars_Check_k2 rec_m_vars_Check_l1 v21 (!(ltS e_1 e))
    else
      m_vars_Check_k2 rec_m_vars_Check_l1 v21 false
def m_vars_Check_l1_B  (v : TVars) (rec_m_vars_Check_l1 : Int → Option Int) (v21 : Int) : Option Int :=
  if (decide (v21 < (v.Names.length : Int))) = true then
    bnd (nthI v.Names v21) fun e =>
    bnd (m_pack_Name e) fun r0 =>
    if r0 = true then
      if (eqS e (⟨#[121, 101, 115]⟩)) = true then
        m_vars_Check_k1 rec_m_vars_Check_l1 v v21 e true
      else
        m_vars_Check_k1 rec_m_vars_Check_l1 v v21 e (eqS e (⟨#[110, 111]⟩))
    else
      m_vars_Check_k1 rec_m_vars_Check_l1 v v21 e true
  else
    some (0 : Int)
def m_vars_Check_l1  (v : TVars) : Nat → Int → Option Int
  | 0, _ => none
  | n + 1, v21 => m_vars_Check_l1_B  v (m_vars_Check_l1  v n) v21
def m_vars_Check  (v : TVars) : Option Int :=
  if (decide ((v.Names.length : Int) ≠ (v.Vals.length : Int))) = true then
    some (1 : Int)
  else
    if (decide ((64 : Int) < (v.Names.length : Int))) = true then
      some (6 : Int)
    else
      m_vars_Check_l1 v ((((v.Names.length : Int)) - ((0 : Int))).toNat + 1) (0 : Int)
/-! funicular/funicularref02.Name -/
def m_ref02_Name_k4 (rec_m_ref02_Name_l1 : Int → Option Bool) (i : Int) (v50 : Bool) : Option Bool :=
  if v50 = true then
    some false
  else
    rec_m_ref02_Name_l1 (IntKind.i64.wrap (i + (1 : Int)))
def m_ref02_Name_k3 (rec_m_ref02_Name_l1 : Int → Option Bool) (i : Int) (digit : Bool) (letter : Bool) : Option Bool :=
  if digit = true then
    m_ref02_Name_k4 rec_m_ref02_Name_l1 i false
  else
    m_ref02_Name_k4 rec_m_ref02_Name_l1 i (!letter)
def m_ref02_Name_k2 (rec_m_ref02_Name_l1 : Int → Option Bool) (s : ByteArray) (i : Int) (digit : Bool) : Option Bool :=
  bnd (nthS s i) fun c_2 =>
  if (decide ((97 : Int) ≤ c_2)) = true then
    m_ref02_Name_k3 rec_m_ref02_Name_l1 i digit (decide (c_2 ≤ (122 : Int)))
  else
    m_ref02_Name_k3 rec_m_ref02_Name_l1 i digit false
def m_ref02_Name_l1_B  (s : ByteArray) (rec_m_ref02_Name_l1 : Int → Option Bool) (i : Int) : Option Bool :=
  if (decide (i < (s.size : Int))) = true then
    bnd (nthS s i) fun c_1 =>
    if (decide ((48 : Int) ≤ c_1)) = true then
      m_ref02_Name_k2 rec_m_ref02_Name_l1 s i (decide (c_1 ≤ (57 : Int)))
    else
      m_ref02_Name_k2 rec_m_ref02_Name_l1 s i false
  else
    some true
def m_ref02_Name_l1  (s : ByteArray) : Nat → Int → Option Bool
  | 0, _ => none
  | n + 1, i => m_ref02_Name_l1_B  s (m_ref02_Name_l1  s n) i
def m_ref02_Name_k1  (s : ByteArray) (v18 : Bool) : Option Bool :=
  if v18 = true then
    some false
  else
    m_ref02_Name_l1 s ((((s.size : Int)) - ((0 : Int))).toNat + 1) (0 : Int)
def m_ref02_Name  (s : ByteArray) : Option Bool :=
  if (decide ((s.size : Int) = (0 : Int))) = true then
    m_ref02_Name_k1 s true
  else
    if (decide ((32 : Int) < (s.size : Int))) = true then
      m_ref02_Name_k1 s true
    else
      bnd (nthS s (0 : Int)) fun c =>
      m_ref02_Name_k1 s (decide (c < (97 : Int)))
/-! funicular/funicularref09.Check -/
def m_ref09_Check_k1 (rec_m_ref09_Check_l1 : Int → Option Int) (i : Int) (v53 : Bool) : Option Int :=
  if v53 = true then
    some (1 : Int)
  else
    rec_m_ref09_Check_l1 (IntKind.i64.wrap (i + (1 : Int)))
def m_ref09_Check_l1_B  (v : TVars) (rec_m_ref09_Check_l1 : Int → Option Int) (i : Int) : Option Int :=
  if (decide (i < (v.Names.length : Int))) = true then
    bnd (nthI v.Names i) fun e =>
    bnd (m_ref02_Name e) fun r0 =>
    if r0 = true then
      if (eqS e (⟨#[121, 101, 115]⟩)) = true then
        m_ref09_Check_k1 rec_m_ref09_Check_l1 i true
      else
        if (eqS e (⟨#[110, 111]⟩)) = true then
          m_ref09_Check_k1 rec_m_ref09_Check_l1 i true
        else
          if (decide ((0 : Int) < i)) = true then
            bnd (nthI v.Names (IntKind.i64.wrap (i - (1 : Int)))) fun e_1 =>
            m_ref09_Check_k1 rec_m_ref09_Check_l1 i (!(ltS e_1 e))
          else
            m_ref09_Check_k1 rec_m_ref09_Check_l1 i false
    else
      m_ref09_Check_k1 rec_m_ref09_Check_l1 i true
  else
    some (0 : Int)
def m_ref09_Check_l1  (v : TVars) : Nat → Int → Option Int
  | 0, _ => none
  | n + 1, i => m_ref09_Check_l1_B  v (m_ref09_Check_l1  v n) i
def m_ref09_Check  (v : TVars) : Option Int :=
  if (decide ((v.Names.length : Int) ≠ (v.Vals.length : Int))) = true then
    some (1 : Int)
  else
    if (decide ((64 : Int) < (v.Names.length : Int))) = true then
      some (6 : Int)
    else
      m_ref09_Check_l1 v ((((v.Names.length : Int)) - ((0 : Int))).toNat + 1) (0 : Int)
/-! funicular/funicularref08.Texts -/
def m_ref08_Texts_l1_B  (a : (List ByteArray)) (b : (List ByteArray)) (rec_m_ref08_Texts_l1 : Int → Option Bool) (i : Int) : Option Bool :=
  if (decide (i < (a.length : Int))) = true then
    bnd (nthI a i) fun e =>
    bnd (nthI b i) fun e_1 =>
    if (eqS e e_1) = true then
      rec_m_ref08_Texts_l1 (IntKind.i64.wrap (i + (1 : Int)))
    else
      some false
  else
    some true
def m_ref08_Texts_l1  (a : (List ByteArray)) (b : (List ByteArray)) : Nat → Int → Option Bool
  | 0, _ => none
  | n + 1, i => m_ref08_Texts_l1_B  a b (m_ref08_Texts_l1  a b n) i
def m_ref08_Texts  (a : (List ByteArray)) (b : (List ByteArray)) : Option Bool :=
  if (decide ((a.length : Int) ≠ (b.length : Int))) = true then
    some false
  else
    m_ref08_Texts_l1 a b ((((a.length : Int)) - ((0 : Int))).toNat + 1) (0 : Int)
/-! funicular/funicularref09.Same -/
def m_ref09_Same_l1_B  (a : TVars) (b : TVars) (rec_m_ref09_Same_l1 : Int → Option Bool) (i : Int) : Option Bool :=
  if (decide (i < (a.Vals.length : Int))) = true then
    bnd (nthI a.Vals i) fun e =>
    bnd (nthI b.Vals i) fun e_1 =>
    if (decide (e ≠ e_1)) = true then
      some false
    else
      rec_m_ref09_Same_l1 (IntKind.i64.wrap (i + (1 : Int)))
  else
    some true
def m_ref09_Same_l1  (a : TVars) (b : TVars) : Nat → Int → Option Bool
  | 0, _ => none
  | n + 1, i => m_ref09_Same_l1_B  a b (m_ref09_Same_l1  a b n) i
def m_ref09_Same_k1  (a : TVars) (b : TVars) (v20 : Bool) : Option Bool :=
  if v20 = true then
    some false
  else
    m_ref09_Same_l1 a b ((((a.Vals.length : Int)) - ((0 : Int))).toNat + 1) (0 : Int)
def m_ref09_Same  (a : TVars) (b : TVars) : Option Bool :=
  bnd (m_ref08_Texts a.Names b.Names) fun r0 =>
  if r0 = true then
    m_ref09_Same_k1 a b (decide ((a.Vals.length : Int) ≠ (b.Vals.length : Int)))
  else
    m_ref09_Same_k1 a b true
/-! funicular/pack.ReadUint -/
def m_pack_ReadUint_k3   : Option (Int × (List Int) × Int) :=
  some ((0 : Int), [], (5 : Int))
def m_pack_ReadUint_k2  (b : (List Int)) (n0 : Int) (v11 : Int) (e : Int) (v39 : Bool) : Option (Int × (List Int) × Int) :=
  if v39 = true then
    some ((0 : Int), [], (2 : Int))
  else
    bnd (sliceL b (IntKind.i64.wrap (v11 + (1 : Int))) b.length) fun l =>
    some ((orI .u64 n0 (shlI .u64 (andI .u64 (IntKind.u64.wrap e) (127 : Int)) (IntKind.i64.wrap ((7 : Int) * v11)))), l, (0 : Int))
def m_pack_ReadUint_k1 (rec_m_pack_ReadUint_l1 : Int → Int → Option (Int × (List Int) × Int)) (b : (List Int)) (n0 : Int) (v11 : Int) (e : Int) (v24 : Bool) : Option (Int × (List Int) × Int) :=
  if v24 = true then
    some ((0 : Int), [], (2 : Int))
  else
    if (decide ((IntKind.i64.wrap ((7 : Int) * v11)) < 0)) = true then none else if (decide ((IntKind.u64.wrap e) < (128 : Int))) = true then
        if (decide ((IntKind.u64.wrap e) = (0 : Int))) = true then
          m_pack_ReadUint_k2 b n0 v11 e (decide ((0 : Int) < v11))
        else
          m_pack_ReadUint_k2 b n0 v11 e false
      else
        rec_m_pack_ReadUint_l1 (orI .u64 n0 (shlI .u64 (andI .u64 (IntKind.u64.wrap e) (127 : Int)) (IntKind.i64.wrap ((7 : Int) * v11)))) (IntKind.i64.wrap (v11 + (1 : Int)))
def m_pack_ReadUint_l1_B  (b : (List Int)) (rec_m_pack_ReadUint_l1 : Int → Int → Option (Int × (List Int) × Int)) (n0 : Int) (v11 : Int) : Option (Int × (List Int) × Int) :=
  if (decide (v11 < (if (10 : Int) < (b.length : Int) then (10 : Int) else (b.length : Int)))) = true then
    bnd (nthI b v11) fun e =>
    if (decide (v11 = (9 : Int))) = true then
      m_pack_ReadUint_k1 rec_m_pack_ReadUint_l1 b n0 v11 e (decide ((1 : Int) < (IntKind.u64.wrap e)))
    else
      m_pack_ReadUint_k1 rec_m_pack_ReadUint_l1 b n0 v11 e false
  else
    m_pack_ReadUint_k3
def m_pack_ReadUint_l1  (b : (List Int)) : Nat → Int → Int → Option (Int × (List Int) × Int)
  | 0, _, _ => none
  | n + 1, n0, v11 => m_pack_ReadUint_l1_B  b (m_pack_ReadUint_l1  b n) n0 v11
def m_pack_ReadUint  (b : (List Int)) : Option (Int × (List Int) × Int) :=
  m_pack_ReadUint_l1 b (1000000) (0 : Int) (0 : Int)
/-! funicular/pack.ReadBytes -/
def m_pack_ReadBytes  (b : (List Int)) : Option ((List Int) × (List Int) × Int) :=
  bnd (m_pack_ReadUint b) fun r0 =>
  if (decide (r0.2.2 ≠ (0 : Int))) = true then
    some ([], [], r0.2.2)
  else
    if (decide ((IntKind.u64.wrap (r0.2.1.length : Int)) < r0.1)) = true then
      some ([], [], (5 : Int))
    else
      bnd (sliceL r0.2.1 0 r0.1) fun l =>
      bnd (sliceL r0.2.1 r0.1 r0.2.1.length) fun l_1 =>
      some (l, l_1, (0 : Int))
/-! funicular/pack.ReadInt -/
def m_pack_ReadInt  (b : (List Int)) : Option (Int × (List Int) × Int) :=
  bnd (m_pack_ReadUint b) fun r0 =>
  some ((xorI .i64 (IntKind.i64.wrap (shrI .u64 r0.1 (1 : Int))) (IntKind.i64.wrap (0 - (IntKind.i64.wrap (andI .u64 r0.1 (1 : Int)))))), r0.2.1, r0.2.2)
/-! funicular/vars.Read -/
def m_vars_Read_k1  (b_2 : (List Int)) (v_0_1 : (List ByteArray)) (v_1_1 : (List Int)) : Option (TVars × (List Int) × Int) :=
  bnd (m_vars_Check (TVars.mk v_0_1 v_1_1)) fun r0_3 =>
  if (decide (r0_3 ≠ (0 : Int))) = true then
    some ((TVars.mk ([]) ([])), [], r0_3)
  else
    some ((TVars.mk v_0_1 v_1_1), b_2, (0 : Int))
def m_vars_Read_l1_B  (r0 : (Int × (List Int) × Int)) (rec_m_vars_Read_l1 : (List Int) → Int → (List ByteArray) → (List Int) → Option (TVars × (List Int) × Int)) (b_1 : (List Int)) (v27 : Int) (v_0 : (List ByteArray)) (v_1 : (List Int)) : Option (TVars × (List Int) × Int) :=
  if (decide (v27 < r0.1)) = true then
    bnd (m_pack_ReadBytes b_1) fun r0_1 =>
    if (decide (r0_1.2.2 ≠ (0 : Int))) = true then
      some ((TVars.mk ([]) ([])), [], r0_1.2.2)
    else
      bnd (m_pack_ReadInt r0_1.2.1) fun r0_2 =>
      if (decide (r0_2.2.2 ≠ (0 : Int))) = true then
        some ((TVars.mk ([]) ([])), [], r0_2.2.2)
      else
        if (capB (v_0.length + 1)) = true then 
          if (capB (v_1.length + 1)) = true then 
            rec_m_vars_Read_l1 r0_2.2.1 (IntKind.u64.wrap (v27 + (1 : Int))) (v_0 ++ [strI r0_1.1]) (v_1 ++ [r0_2.1])
           else none
         else none
  else
    m_vars_Read_k1 b_1 v_0 v_1
def m_vars_Read_l1  (r0 : (Int × (List Int) × Int)) : Nat → (List Int) → Int → (List ByteArray) → (List Int) → Option (TVars × (List Int) × Int)
  | 0, _, _, _, _ => none
  | n + 1, b_1, v27, v_0, v_1 => m_vars_Read_l1_B  r0 (m_vars_Read_l1  r0 n) b_1 v27 v_0 v_1
def m_vars_Read  (b : (List Int)) : Option (TVars × (List Int) × Int) :=
  bnd (m_pack_ReadUint b) fun r0 =>
  if (decide (r0.2.2 ≠ (0 : Int))) = true then
    some ((TVars.mk ([]) ([])), [], r0.2.2)
  else
    if (decide ((64 : Int) < r0.1)) = true then
      some ((TVars.mk ([]) ([])), [], (6 : Int))
    else
      m_vars_Read_l1 r0 (((r0.1) - ((0 : Int))).toNat + 1) r0.2.1 (0 : Int) ([]) ([])
/-! funicular/funicularref02.Same -/
def m_ref02_Same  (a : (List Int)) (b : (List Int)) : Option Bool :=
  some (eqS (strI a) (strI b))
/-! funicular/funicularlaw09.VarsBack -/
def m_law09_VarsBack_k3  (b : (List Int)) : Option Bool :=
  bnd (m_vars_Read b) fun r0_7 =>
  if (decide (r0_7.2.2 ≠ (0 : Int))) = true then
    bnd (m_law09_works ) fun r0_8 =>
    some r0_8
  else
    bnd (m_vars_Put r0_7.1) fun r0_9 =>
    if (capB (r0_9.length + (r0_7.2.1).length)) = true then 
      bnd (m_ref02_Same (r0_9 ++ r0_7.2.1) b) fun r0_10 =>
      if r0_10 = true then
        bnd (m_law09_works ) fun r0_11 =>
        some r0_11
      else
        some false
     else none
def m_law09_VarsBack_k2  (b : (List Int)) (v49 : Bool) : Option Bool :=
  if v49 = true then
    some false
  else
    m_law09_VarsBack_k3 b
def m_law09_VarsBack_k1  (v : TVars) (b : (List Int)) (v19 : Bool) : Option Bool :=
  if v19 = true then
    bnd (m_law09_works ) fun r0_1 =>
    some r0_1
  else
    bnd (m_ref09_Check v) fun r0_2 =>
    if (decide (r0_2 = (0 : Int))) = true then
      bnd (m_vars_Put v) fun r0_3 =>
      if (capB (r0_3).length) = true then 
        if (capB ((r0_3).length + (b).length)) = true then 
          bnd (m_vars_Read (r0_3 ++ b)) fun r0_4 =>
          if (decide (r0_4.2.2 ≠ (0 : Int))) = true then
            m_law09_VarsBack_k2 b true
          else
            bnd (m_ref09_Same v r0_4.1) fun r0_5 =>
            if r0_5 = true then
              bnd (m_ref02_Same r0_4.2.1 b) fun r0_6 =>
              m_law09_VarsBack_k2 b (!r0_6)
            else
              m_law09_VarsBack_k2 b true
         else none
       else none
    else
      m_law09_VarsBack_k3 b
def m_law09_VarsBack  (v : TVars) (b : (List Int)) : Option Bool :=
  bnd (m_law09_light v) fun r0 =>
  if r0 = true then
    m_law09_VarsBack_k1 v b (decide ((3000 : Int) < (b.length : Int)))
  else
    m_law09_VarsBack_k1 v b true
end Go.Proofs.Ytjhnlgelcfplaaa.R
