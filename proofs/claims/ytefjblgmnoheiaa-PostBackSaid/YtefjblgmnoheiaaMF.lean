/- Models of the functions. -/
import Derived.Test.YtefjblgmnoheiaaMT
set_option maxRecDepth 100000
set_option maxHeartbeats 1600000
set_option linter.unusedVariables false
set_option linter.unusedSimpArgs false
set_option linter.defProp false
noncomputable section
namespace Go.Proofs.Ytefjblgmnoheiaa.R
open Go Nat
/-! funicular/pack.Uint -/
def m_pack_Uint_v1_k1  (n0_2 : Int) (b_2 : (List Int)) : Option (List Int) :=
  if (capB (b_2.length + 1)) = true then 
    some (b_2 ++ [(IntKind.u8.wrap n0_2)])
   else none
def m_pack_Uint_v1_l1_B   (rec_m_pack_Uint_v1_l1 : Int → (List Int) → Option (List Int)) (n0_1 : Int) (b_1 : (List Int)) : Option (List Int) :=
  if (decide ((128 : Int) ≤ n0_1)) = true then
    if (capB (b_1.length + 1)) = true then 
      rec_m_pack_Uint_v1_l1 (shrI .u64 n0_1 (7 : Int)) (b_1 ++ [(orI .u8 (IntKind.u8.wrap n0_1) (128 : Int))])
     else none
  else
    m_pack_Uint_v1_k1 n0_1 b_1
def m_pack_Uint_v1_l1   : Nat → Int → (List Int) → Option (List Int)
  | 0, _, _ => none
  | n + 1, n0_1, b_1 => m_pack_Uint_v1_l1_B   (m_pack_Uint_v1_l1   n) n0_1 b_1
def m_pack_Uint_v1  (b : (List Int)) (n0 : Int) : Option (List Int) :=
  m_pack_Uint_v1_l1 (1000000) n0 b
/-! funicular/post.number -/
def m_post_number_l1_B  (l : (List Int)) (rec_m_post_number_l1 : Int → (List Int) → Option (List Int)) (v9 : Int) (b : (List Int)) : Option (List Int) :=
  if (decide (v9 < ((l.length : Nat) : Int))) = true then
    bnd (nthI l v9) fun e =>
    bnd (m_pack_Uint_v1 b (IntKind.u64.wrap e)) fun r0 =>
    rec_m_post_number_l1 (IntKind.i64.wrap (v9 + (1 : Int))) r0
  else
    some b
def m_post_number_l1  (l : (List Int)) : Nat → Int → (List Int) → Option (List Int)
  | 0, _, _ => none
  | n + 1, v9, b => m_post_number_l1_B  l (m_post_number_l1  l n) v9 b
def m_post_number  (l : (List Int)) : Option (List Int) :=
  m_post_number_l1 l (((((l.length : Nat) : Int)) - ((0 : Int))).toNat + 1) (0 : Int) ([])
/-! funicular/post.number -/
def m_post_number_v1_l1_B  (l : (List Int)) (rec_m_post_number_v1_l1 : Int → (List Int) → Option (List Int)) (v9 : Int) (b_1 : (List Int)) : Option (List Int) :=
  if (decide (v9 < ((l.length : Nat) : Int))) = true then
    bnd (nthI l v9) fun e =>
    bnd (m_pack_Uint_v1 b_1 (IntKind.u64.wrap e)) fun r0 =>
    rec_m_post_number_v1_l1 (IntKind.i64.wrap (v9 + (1 : Int))) r0
  else
    some b_1
def m_post_number_v1_l1  (l : (List Int)) : Nat → Int → (List Int) → Option (List Int)
  | 0, _, _ => none
  | n + 1, v9, b_1 => m_post_number_v1_l1_B  l (m_post_number_v1_l1  l n) v9 b_1
def m_post_number_v1  (b : (List Int)) (l : (List Int)) : Option (List Int) :=
  m_post_number_v1_l1 l (((((l.length : Nat) : Int)) - ((0 : Int))).toNat + 1) (0 : Int) b
/-! funicular/pack.Bytes -/
def m_pack_Bytes  (b : (List Int)) (s : (List Int)) : Option (List Int) :=
  bnd (m_pack_Uint_v1 b (IntKind.u64.wrap (s.length : Int))) fun r0 =>
  if (capB (r0.length + s.length)) = true then 
    some (r0 ++ s)
   else none
/-! funicular/pack.Int -/
def m_pack_Int  (b : (List Int)) (n0 : Int) : Option (List Int) :=
  bnd (m_pack_Uint_v1 b (xorI .u64 (shlI .u64 (IntKind.u64.wrap n0) (1 : Int)) (IntKind.u64.wrap (shrI .i64 n0 (63 : Int))))) fun r0 =>
  some r0
/-! funicular/vars.Put -/
def m_vars_Put_l1_B  (v : TVars) (rec_m_vars_Put_l1 : Int → (List Int) → Option (List Int)) (v16 : Int) (b_1 : (List Int)) : Option (List Int) :=
  if (decide (v16 < (v.Names.length : Int))) = true then
    bnd (nthI v.Names v16) fun e =>
    bnd (m_pack_Bytes b_1 (bytesI e)) fun r0_1 =>
    bnd (nthI v.Vals v16) fun e_1 =>
    bnd (m_pack_Int r0_1 e_1) fun r0_2 =>
    rec_m_vars_Put_l1 (IntKind.i64.wrap (v16 + (1 : Int))) r0_2
  else
    some b_1
def m_vars_Put_l1  (v : TVars) : Nat → Int → (List Int) → Option (List Int)
  | 0, _, _ => none
  | n + 1, v16, b_1 => m_vars_Put_l1_B  v (m_vars_Put_l1  v n) v16 b_1
def m_vars_Put  (b : (List Int)) (v : TVars) : Option (List Int) :=
  bnd (m_pack_Uint_v1 b (IntKind.u64.wrap (v.Names.length : Int))) fun r0 =>
  m_vars_Put_l1 v ((((v.Names.length : Int)) - ((0 : Int))).toNat + 1) (0 : Int) r0
/-! funicular/post.Put -/
def m_post_Put_l3_B  (p : TPost) (rec_m_post_Put_l3 : Int → (List Int) → Option (List Int)) (v75 : Int) (b_3 : (List Int)) : Option (List Int) :=
  if (decide (v75 < (p.Subs.length : Int))) = true then
    bnd (nthI p.Subs v75) fun e_2 =>
    bnd (m_post_number_v1 b_3 ([e_2.Part, e_2.Id, e_2.Inst])) fun r0_8 =>
    bnd (m_pack_Bytes r0_8 (bytesI e_2.Name)) fun r0_9 =>
    bnd (m_pack_Int r0_9 e_2.Key) fun r0_10 =>
    bnd (m_post_number_v1 r0_10 ([e_2.Mail])) fun r0_11 =>
    rec_m_post_Put_l3 (IntKind.i64.wrap (v75 + (1 : Int))) r0_11
  else
    some b_3
def m_post_Put_l3  (p : TPost) : Nat → Int → (List Int) → Option (List Int)
  | 0, _, _ => none
  | n + 1, v75, b_3 => m_post_Put_l3_B  p (m_post_Put_l3  p n) v75 b_3
def m_post_Put_k1  (p : TPost) (b_2 : (List Int)) : Option (List Int) :=
  bnd (m_post_number_v1 b_2 ([(p.Subs.length : Int)])) fun r0_7 =>
  m_post_Put_l3 p ((((p.Subs.length : Int)) - ((0 : Int))).toNat + 1) (0 : Int) r0_7
def m_post_Put_l2_B (rec_m_post_Put_l1 : Int → (List Int) → Option (List Int)) (v22 : Int) (e : TMail) (rec_m_post_Put_l2 : Int → (List Int) → Option (List Int)) (v53 : Int) (b_1 : (List Int)) : Option (List Int) :=
  if (decide (v53 < (e.Took.length : Int))) = true then
    bnd (nthI e.Took v53) fun e_1 =>
    bnd (m_post_number_v1 b_1 ([e_1.Part, e_1.Inst])) fun r0_6 =>
    rec_m_post_Put_l2 (IntKind.i64.wrap (v53 + (1 : Int))) r0_6
  else
    rec_m_post_Put_l1 (IntKind.i64.wrap (v22 + (1 : Int))) b_1
def m_post_Put_l2 (rec_m_post_Put_l1 : Int → (List Int) → Option (List Int)) (v22 : Int) (e : TMail) : Nat → Int → (List Int) → Option (List Int)
  | 0, _, _ => none
  | n + 1, v53, b_1 => m_post_Put_l2_B rec_m_post_Put_l1 v22 e (m_post_Put_l2 rec_m_post_Put_l1 v22 e n) v53 b_1
def m_post_Put_l1_B  (p : TPost) (rec_m_post_Put_l1 : Int → (List Int) → Option (List Int)) (v22 : Int) (b : (List Int)) : Option (List Int) :=
  if (decide (v22 < (p.Mails.length : Int))) = true then
    bnd (nthI p.Mails v22) fun e =>
    bnd (m_post_number_v1 b ([e.Id])) fun r0_1 =>
    bnd (m_pack_Bytes r0_1 (bytesI e.Name)) fun r0_2 =>
    bnd (m_pack_Int r0_2 e.Key) fun r0_3 =>
    bnd (m_vars_Put r0_3 e.Vars) fun r0_4 =>
    bnd (m_post_number_v1 r0_4 ([e.Until, (e.Took.length : Int)])) fun r0_5 =>
    m_post_Put_l2 rec_m_post_Put_l1 v22 e ((((e.Took.length : Int)) - ((0 : Int))).toNat + 1) (0 : Int) r0_5
  else
    m_post_Put_k1 p b
def m_post_Put_l1  (p : TPost) : Nat → Int → (List Int) → Option (List Int)
  | 0, _, _ => none
  | n + 1, v22, b => m_post_Put_l1_B  p (m_post_Put_l1  p n) v22 b
def m_post_Put  (p : TPost) : Option (List Int) :=
  bnd (m_post_number ([p.Next, (p.Mails.length : Int)])) fun r0 =>
  m_post_Put_l1 p ((((p.Mails.length : Int)) - ((0 : Int))).toNat + 1) (0 : Int) r0
/-! (*funicular/post.reader).keep -/
def m_post_reader_keep_k1  (r_0 : (List Int)) (r_1 : Int) : Option (Bool × Treader) :=
  some ((decide (r_1 = (0 : Int))), (Treader.mk r_0 r_1))
def m_post_reader_keep  (rest : (List Int)) (e : Int) (r0 : Treader) : Option (Bool × Treader) :=
  if (decide (r0.f_err = (0 : Int))) = true then
    m_post_reader_keep_k1 rest e
  else
    m_post_reader_keep_k1 r0.f_b r0.f_err
/-! funicular/pack.ReadUint -/
def m_pack_ReadUint_k3   : Option (Int × (List Int) × Int) :=
  some ((0 : Int), [], (5 : Int))
def m_pack_ReadUint_k2  (b : (List Int)) (n0 v11 e : Int) (v39 : Bool) : Option (Int × (List Int) × Int) :=
  if v39 = true then
    some ((0 : Int), [], (2 : Int))
  else
    bnd (sliceL b (IntKind.i64.wrap (v11 + (1 : Int))) b.length) fun l =>
    some ((orI .u64 n0 (shlI .u64 (andI .u64 (IntKind.u64.wrap e) (127 : Int)) (IntKind.i64.wrap ((7 : Int) * v11)))), l, (0 : Int))
def m_pack_ReadUint_k1 (rec_m_pack_ReadUint_l1 : Int → Int → Option (Int × (List Int) × Int)) (b : (List Int)) (n0 v11 e : Int) (v24 : Bool) : Option (Int × (List Int) × Int) :=
  if v24 = true then
    some ((0 : Int), [], (2 : Int))
  else
    if (decide ((IntKind.i64.wrap ((7 : Int) * v11)) < 0)) = true then none else if (decide ((IntKind.u64.wrap e) < (128 : Int))) = true then
        if (decide ((IntKind.u64.wrap e) = (0 : Int))) = true then
          m_pack_ReadUint_k2 b n0 v11 e (decide ((0 : Int) < v11))
        else
          m_pack_ReadUint_k2 b n0 v11 e false
      else
        rec_m_pack_ReadUint_l1 (orI .u64 n0 (shlI .u64 (andI .u64 (IntKind.u64.wrap e) (127 : Int)) (IntKind.i64.wrap ((7 : Int) * v11)))) (IntKind.i64.wrap (v11 + (1 : Int)))
def m_pack_ReadUint_l1_B  (b : (List Int)) (rec_m_pack_ReadUint_l1 : Int → Int → Option (Int × (List Int) × Int)) (n0 v11 : Int) : Option (Int × (List Int) × Int) :=
  if (decide (v11 < (if (10 : Int) < (b.length : Int) then (10 : Int) else (b.length : Int)))) = true then
    bnd (nthI b v11) fun e =>
    if (decide (v11 = (9 : Int))) = true then
      m_pack_ReadUint_k1 rec_m_pack_ReadUint_l1 b n0 v11 e (decide ((1 : Int) < (IntKind.u64.wrap e)))
    else
      m_pack_ReadUint_k1 rec_m_pack_ReadUint_l1 b n0 v11 e false
  else
    m_pack_ReadUint_k3
def m_pack_ReadUint_l1  (b : (List Int)) : Nat → Int → Int → Option (Int × (List Int) × Int)
  | 0, _, _ => none
  | n + 1, n0, v11 => m_pack_ReadUint_l1_B  b (m_pack_ReadUint_l1  b n) n0 v11
def m_pack_ReadUint  (b : (List Int)) : Option (Int × (List Int) × Int) :=
  m_pack_ReadUint_l1 b (1000000) (0 : Int) (0 : Int)
/-! (*funicular/post.reader).next -/
def m_post_reader_next_k2  (r0 : Treader) (r0_1 : (Int × (List Int) × Int)) (e : Int) : Option (Int × Treader) :=
  bnd (m_post_reader_keep r0_1.2.1 e r0) fun r0_2 =>
  if r0_2.1 = true then
    some ((IntKind.i64.wrap r0_1.1), r0_2.2)
  else
    some ((0 : Int), r0_2.2)
def m_post_reader_next_k1  (r0 : Treader) (r0_1 : (Int × (List Int) × Int)) (v20 : Bool) : Option (Int × Treader) :=
  if v20 = true then
    m_post_reader_next_k2 r0 r0_1 (6 : Int)
  else
    m_post_reader_next_k2 r0 r0_1 r0_1.2.2
def m_post_reader_next  (r0 : Treader) : Option (Int × Treader) :=
  bnd (m_pack_ReadUint r0.f_b) fun r0_1 =>
  if (decide (r0_1.2.2 = (0 : Int))) = true then
    m_post_reader_next_k1 r0 r0_1 (decide ((1099511627776 : Int) < r0_1.1))
  else
    m_post_reader_next_k1 r0 r0_1 false
/-! funicular/pack.ReadBytes -/
def m_pack_ReadBytes  (b : (List Int)) : Option ((List Int) × (List Int) × Int) :=
  bnd (m_pack_ReadUint b) fun r0 =>
  if (decide (r0.2.2 ≠ (0 : Int))) = true then
    some ([], [], r0.2.2)
  else
    if (decide ((IntKind.u64.wrap (r0.2.1.length : Int)) < r0.1)) = true then
      some ([], [], (5 : Int))
    else
      bnd (sliceL r0.2.1 0 r0.1) fun l =>
      bnd (sliceL r0.2.1 r0.1 r0.2.1.length) fun l_1 =>
      some (l, l_1, (0 : Int))
/-! (*funicular/post.reader).name -/
def m_post_reader_name  (r0 : Treader) : Option (ByteArray × Treader) :=
  bnd (m_pack_ReadBytes r0.f_b) fun r0_1 =>
  bnd (m_post_reader_keep r0_1.2.1 r0_1.2.2 r0) fun r0_2 =>
  if r0_2.1 = true then
    some (strI r0_1.1, r0_2.2)
  else
    some (⟨#[]⟩, r0_2.2)
/-! funicular/pack.ReadInt -/
def m_pack_ReadInt  (b : (List Int)) : Option (Int × (List Int) × Int) :=
  bnd (m_pack_ReadUint b) fun r0 =>
  some ((xorI .i64 (IntKind.i64.wrap (shrI .u64 r0.1 (1 : Int))) (IntKind.i64.wrap (0 - (IntKind.i64.wrap (andI .u64 r0.1 (1 : Int)))))), r0.2.1, r0.2.2)
/-! (*funicular/post.reader).key -/
def m_post_reader_key  (r0 : Treader) : Option (Int × Treader) :=
  bnd (m_pack_ReadInt r0.f_b) fun r0_1 =>
  bnd (m_post_reader_keep r0_1.2.1 r0_1.2.2 r0) fun r0_2 =>
  if r0_2.1 = true then
    some (r0_1.1, r0_2.2)
  else
    some ((0 : Int), r0_2.2)
/-! funicular/pack.Name -/
def m_pack_Name_k3  (s : ByteArray) : Option Bool :=
  if (decide ((1 : Int) ≤ (s.size : Int))) = true then
    some (decide ((s.size : Int) ≤ (32 : Int)))
  else
    some false
def m_pack_Name_k2 (rec_m_pack_Name_l1 : Int → Option Bool) (v9 : Int) (v33 : Bool) : Option Bool :=
  if v33 = true then
    some false
  else
    rec_m_pack_Name_l1 (IntKind.i64.wrap (v9 + (1 : Int)))
def m_pack_Name_k1 (rec_m_pack_Name_l1 : Int → Option Bool) (v9 e : Int) (letter : Bool) : Option Bool :=
  if letter = true then
    m_pack_Name_k2 rec_m_pack_Name_l1 v9 false
  else
    if (decide (v9 = (0 : Int))) = true then
      m_pack_Name_k2 rec_m_pack_Name_l1 v9 true
    else
      if (decide (e < (48 : Int))) = true then
        m_pack_Name_k2 rec_m_pack_Name_l1 v9 true
      else
        m_pack_Name_k2 rec_m_pack_Name_l1 v9 (decide ((57 : Int) < e))
def m_pack_Name_l1_B  (s : ByteArray) (rec_m_pack_Name_l1 : Int → Option Bool) (v9 : Int) : Option Bool :=
  if (decide (v9 < ((bytesI s).length : Int))) = true then
    bnd (nthI (bytesI s) v9) fun e =>
    if (decide ((97 : Int) ≤ e)) = true then
      m_pack_Name_k1 rec_m_pack_Name_l1 v9 e (decide (e ≤ (122 : Int)))
    else
      m_pack_Name_k1 rec_m_pack_Name_l1 v9 e false
  else
    m_pack_Name_k3 s
def m_pack_Name_l1  (s : ByteArray) : Nat → Int → Option Bool
  | 0, _ => none
  | n + 1, v9 => m_pack_Name_l1_B  s (m_pack_Name_l1  s n) v9
def m_pack_Name  (s : ByteArray) : Option Bool :=
  m_pack_Name_l1 s (((((bytesI s).length : Int)) - ((0 : Int))).toNat + 1) (0 : Int)
/-! funicular/vars.Check -/
def m_vars_Check_k2 (rec_m_vars_Check_l1 : Int → Option Int) (v21 : Int) (v48 : Bool) : Option Int :=
  if v48 = true then
    some (1 : Int)
  else
    rec_m_vars_Check_l1 (IntKind.i64.wrap (v21 + (1 : Int)))
def m_vars_Check_k1 (rec_m_vars_Check_l1 : Int → Option Int) (v : TVars) (v21 : Int) (e : ByteArray) (v36 : Bool) : Option Int :=
  if v36 = true then
    some (1 : Int)
  else
    if (decide ((0 : Int) < v21)) = true then
      bnd (nthI v.Names (IntKind.i64.wrap (v21 - (1 : Int)))) fun e_1 =>
      m_vars_Check_k2 rec_m_vars_Check_l1 v21 (!(ltS e_1 e))
    else
      m_vars_Check_k2 rec_m_vars_Check_l1 v21 false
def m_vars_Check_l1_B  (v : TVars) (rec_m_vars_Check_l1 : Int → Option Int) (v21 : Int) : Option Int :=
  if (decide (v21 < (v.Names.length : Int))) = true then
    bnd (nthI v.Names v21) fun e =>
    bnd (m_pack_Name e) fun r0 =>
    if r0 = true then
      if (eqS e (⟨#[121, 101, 115]⟩)) = true then
        m_vars_Check_k1 rec_m_vars_Check_l1 v v21 e true
      else
        m_vars_Check_k1 rec_m_vars_Check_l1 v v21 e (eqS e (⟨#[110, 111]⟩))
    else
      m_vars_Check_k1 rec_m_vars_Check_l1 v v21 e true
  else
    some (0 : Int)
def m_vars_Check_l1  (v : TVars) : Nat → Int → Option Int
  | 0, _ => none
  | n + 1, v21 => m_vars_Check_l1_B  v (m_vars_Check_l1  v n) v21
def m_vars_Check  (v : TVars) : Option Int :=
  if (decide ((v.Names.length : Int) ≠ (v.Vals.length : Int))) = true then
    some (1 : Int)
  else
    if (decide ((64 : Int) < (v.Names.length : Int))) = true then
      some (6 : Int)
    else
      m_vars_Check_l1 v ((((v.Names.length : Int)) - ((0 : Int))).toNat + 1) (0 : Int)
/-! funicular/vars.Read -/
def m_vars_Read_k1  (b_2 : (List Int)) (v_0_1 : (List ByteArray)) (v_1_1 : (List Int)) : Option (TVars × (List Int) × Int) :=
  bnd (m_vars_Check (TVars.mk v_0_1 v_1_1)) fun r0_3 =>
  if (decide (r0_3 ≠ (0 : Int))) = true then
    some ((TVars.mk ([]) ([])), [], r0_3)
  else
    some ((TVars.mk v_0_1 v_1_1), b_2, (0 : Int))
def m_vars_Read_l1_B  (r0 : (Int × (List Int) × Int)) (rec_m_vars_Read_l1 : (List Int) → Int → (List ByteArray) → (List Int) → Option (TVars × (List Int) × Int)) (b_1 : (List Int)) (v27 : Int) (v_0 : (List ByteArray)) (v_1 : (List Int)) : Option (TVars × (List Int) × Int) :=
  if (decide (v27 < r0.1)) = true then
    bnd (m_pack_ReadBytes b_1) fun r0_1 =>
    if (decide (r0_1.2.2 ≠ (0 : Int))) = true then
      some ((TVars.mk ([]) ([])), [], r0_1.2.2)
    else
      bnd (m_pack_ReadInt r0_1.2.1) fun r0_2 =>
      if (decide (r0_2.2.2 ≠ (0 : Int))) = true then
        some ((TVars.mk ([]) ([])), [], r0_2.2.2)
      else
        if (capB (v_0.length + 1)) = true then 
          if (capB (v_1.length + 1)) = true then 
            rec_m_vars_Read_l1 r0_2.2.1 (IntKind.u64.wrap (v27 + (1 : Int))) (v_0 ++ [strI r0_1.1]) (v_1 ++ [r0_2.1])
           else none
         else none
  else
    m_vars_Read_k1 b_1 v_0 v_1
def m_vars_Read_l1  (r0 : (Int × (List Int) × Int)) : Nat → (List Int) → Int → (List ByteArray) → (List Int) → Option (TVars × (List Int) × Int)
  | 0, _, _, _, _ => none
  | n + 1, b_1, v27, v_0, v_1 => m_vars_Read_l1_B  r0 (m_vars_Read_l1  r0 n) b_1 v27 v_0 v_1
def m_vars_Read  (b : (List Int)) : Option (TVars × (List Int) × Int) :=
  bnd (m_pack_ReadUint b) fun r0 =>
  if (decide (r0.2.2 ≠ (0 : Int))) = true then
    some ((TVars.mk ([]) ([])), [], r0.2.2)
  else
    if (decide ((64 : Int) < r0.1)) = true then
      some ((TVars.mk ([]) ([])), [], (6 : Int))
    else
      m_vars_Read_l1 r0 (((r0.1) - ((0 : Int))).toNat + 1) r0.2.1 (0 : Int) ([]) ([])
/-! (*funicular/post.reader).vars -/
def m_post_reader_vars  (r0 : Treader) : Option (TVars × Treader) :=
  bnd (m_vars_Read r0.f_b) fun r0_1 =>
  bnd (m_post_reader_keep r0_1.2.1 r0_1.2.2 r0) fun r0_2 =>
  if r0_2.1 = true then
    some (r0_1.1, r0_2.2)
  else
    some ((TVars.mk ([]) ([])), r0_2.2)
/-! funicular/pack.Uint -/
def m_pack_Uint_k1  (n0_2 : Int) (b_1 : (List Int)) : Option (List Int) :=
  if (capB (b_1.length + 1)) = true then 
    some (b_1 ++ [(IntKind.u8.wrap n0_2)])
   else none
def m_pack_Uint_l1_B   (rec_m_pack_Uint_l1 : Int → (List Int) → Option (List Int)) (n0_1 : Int) (b : (List Int)) : Option (List Int) :=
  if (decide ((128 : Int) ≤ n0_1)) = true then
    if (capB (b.length + 1)) = true then 
      rec_m_pack_Uint_l1 (shrI .u64 n0_1 (7 : Int)) (b ++ [(orI .u8 (IntKind.u8.wrap n0_1) (128 : Int))])
     else none
  else
    m_pack_Uint_k1 n0_1 b
def m_pack_Uint_l1   : Nat → Int → (List Int) → Option (List Int)
  | 0, _, _ => none
  | n + 1, n0_1, b => m_pack_Uint_l1_B   (m_pack_Uint_l1   n) n0_1 b
def m_pack_Uint  (n0 : Int) : Option (List Int) :=
  m_pack_Uint_l1 (1000000) n0 ([])
/-! funicular/post.wide -/
def m_post_wide  (n0 : Int) : Option Bool :=
  if (decide ((1 : Int) ≤ n0)) = true then
    some (decide (n0 ≤ (1099511627776 : Int)))
  else
    some false
/-! funicular/post.part -/
def m_post_part  (n0 : Int) : Option Bool :=
  if (decide ((0 : Int) ≤ n0)) = true then
    some (decide (n0 < (64 : Int)))
  else
    some false
/-! slices.Index[[]funicular/api.Who,funicular/api.Who] -/
def m_slices_Index_api_Who_api_Who_l1_B  (s : (List TWho)) (v : TWho) (rec_m_slices_Index_api_Who_api_Who_l1 : Int → Option Int) (v8 : Int) : Option Int :=
  if (decide (v8 < (s.length : Int))) = true then
    bnd (nthI s v8) fun e =>
    if ((decide (v.Part = e.Part)) && (decide (v.Inst = e.Inst))) = true then
      some v8
    else
      rec_m_slices_Index_api_Who_api_Who_l1 (IntKind.i64.wrap (v8 + (1 : Int)))
  else
    some (-1 : Int)
def m_slices_Index_api_Who_api_Who_l1  (s : (List TWho)) (v : TWho) : Nat → Int → Option Int
  | 0, _ => none
  | n + 1, v8 => m_slices_Index_api_Who_api_Who_l1_B  s v (m_slices_Index_api_Who_api_Who_l1  s v n) v8
def m_slices_Index_api_Who_api_Who  (s : (List TWho)) (v : TWho) : Option Int :=
  m_slices_Index_api_Who_api_Who_l1 s v ((((s.length : Int)) - ((0 : Int))).toNat + 1) (0 : Int)
/-! slices.Contains[[]funicular/api.Who,funicular/api.Who] -/
def m_slices_Contains_api_Who_api_Who  (s : (List TWho)) (v : TWho) : Option Bool :=
  bnd (m_slices_Index_api_Who_api_Who s v) fun r0 =>
  some (decide ((0 : Int) ≤ r0))
/-! funicular/post.mail -/
def m_post_mail_k2 (rec_m_post_mail_l1 : Int → Option Int) (v35 : Int) (v57 : Bool) : Option Int :=
  if v57 = true then
    some (1 : Int)
  else
    rec_m_post_mail_l1 (IntKind.i64.wrap (v35 + (1 : Int)))
def m_post_mail_l1_B  (m : TMail) (rec_m_post_mail_l1 : Int → Option Int) (v35 : Int) : Option Int :=
  if (decide (v35 < (m.Took.length : Int))) = true then
    bnd (nthI m.Took v35) fun e =>
    bnd (m_post_part e.Part) fun r0_3 =>
    if r0_3 = true then
      bnd (m_post_wide e.Inst) fun r0_4 =>
      if r0_4 = true then
        bnd (sliceL m.Took 0 v35) fun l =>
        bnd (m_slices_Contains_api_Who_api_Who l e) fun r0_5 =>
        m_post_mail_k2 rec_m_post_mail_l1 v35 r0_5
      else
        m_post_mail_k2 rec_m_post_mail_l1 v35 true
    else
      m_post_mail_k2 rec_m_post_mail_l1 v35 true
  else
    some (0 : Int)
def m_post_mail_l1  (m : TMail) : Nat → Int → Option Int
  | 0, _ => none
  | n + 1, v35 => m_post_mail_l1_B  m (m_post_mail_l1  m n) v35
def m_post_mail_k1  (m : TMail) (v25 : Bool) : Option Int :=
  if v25 = true then
    some (1 : Int)
  else
    bnd (m_vars_Check m.Vars) fun r0_2 =>
    if (decide (r0_2 ≠ (0 : Int))) = true then
      some r0_2
    else
      m_post_mail_l1 m ((((m.Took.length : Int)) - ((0 : Int))).toNat + 1) (0 : Int)
def m_post_mail  (m : TMail) : Option Int :=
  bnd (m_post_wide m.Id) fun r0 =>
  if r0 = true then
    bnd (m_pack_Name m.Name) fun r0_1 =>
    if r0_1 = true then
      if (decide (m.Until < (0 : Int))) = true then
        m_post_mail_k1 m true
      else
        m_post_mail_k1 m (decide ((1099511627776 : Int) < m.Until))
    else
      m_post_mail_k1 m true
  else
    m_post_mail_k1 m true
/-! funicular/post.sub -/
def m_post_sub  (s : TSub) : Option Bool :=
  bnd (m_post_part s.Part) fun r0 =>
  if r0 = true then
    bnd (m_post_wide s.Id) fun r0_1 =>
    if r0_1 = true then
      bnd (m_post_wide s.Inst) fun r0_2 =>
      if r0_2 = true then
        bnd (m_pack_Name s.Name) fun r0_3 =>
        if r0_3 = true then
          if (decide ((0 : Int) ≤ s.Mail)) = true then
            some (decide (s.Mail ≤ (1099511627776 : Int)))
          else
            some false
        else
          some false
      else
        some false
    else
      some false
  else
    some false
/-! funicular/post.of -/
def m_post_of  (s : TSub) : Option Tkey :=
  some (Tkey.mk s.Part s.Id)
/-! (funicular/post.key).order -/
def m_post_key_order_k1  (v9 : Bool) : Option Int :=
  if v9 = true then
    some (-1 : Int)
  else
    some (1 : Int)
def m_post_key_order  (a : Tkey) (b : Tkey) : Option Int :=
  if ((decide (a.f_part = b.f_part)) && (decide (a.f_id = b.f_id))) = true then
    some (0 : Int)
  else
    if (decide (a.f_part < b.f_part)) = true then
      m_post_key_order_k1 true
    else
      if (decide (a.f_part = b.f_part)) = true then
        m_post_key_order_k1 (decide (a.f_id < b.f_id))
      else
        m_post_key_order_k1 false
/-! funicular/post.Check -/
def m_post_Check_k4 (rec_m_post_Check_l2 : Int → Option Int) (v54 : Int) (v85 : Bool) : Option Int :=
  if v85 = true then
    some (1 : Int)
  else
    rec_m_post_Check_l2 (IntKind.i64.wrap (v54 + (1 : Int)))
def m_post_Check_l2_B  (p : TPost) (rec_m_post_Check_l2 : Int → Option Int) (v54 : Int) : Option Int :=
  if (decide (v54 < (p.Subs.length : Int))) = true then
    bnd (nthI p.Subs v54) fun e_1 =>
    bnd (m_post_sub e_1) fun r0_2 =>
    if r0_2 = true then
      if (decide (p.Next ≤ e_1.Mail)) = true then
        m_post_Check_k4 rec_m_post_Check_l2 v54 true
      else
        if (decide ((0 : Int) < v54)) = true then
          bnd (nthI p.Subs (IntKind.i64.wrap (v54 - (1 : Int)))) fun e_2 =>
          bnd (m_post_of e_2) fun r0_3 =>
          bnd (m_post_of e_1) fun r0_4 =>
          bnd (m_post_key_order r0_3 r0_4) fun r0_5 =>
          m_post_Check_k4 rec_m_post_Check_l2 v54 (decide ((0 : Int) ≤ r0_5))
        else
          m_post_Check_k4 rec_m_post_Check_l2 v54 false
    else
      m_post_Check_k4 rec_m_post_Check_l2 v54 true
  else
    some (0 : Int)
def m_post_Check_l2  (p : TPost) : Nat → Int → Option Int
  | 0, _ => none
  | n + 1, v54 => m_post_Check_l2_B  p (m_post_Check_l2  p n) v54
def m_post_Check_k3  (p : TPost) : Option Int :=
  m_post_Check_l2 p ((((p.Subs.length : Int)) - ((0 : Int))).toNat + 1) (0 : Int)
def m_post_Check_k2 (rec_m_post_Check_l1 : Int → Int → Option Int) (v28 : Int) (e : TMail) (v47 : Bool) : Option Int :=
  if v47 = true then
    some (1 : Int)
  else
    rec_m_post_Check_l1 e.Id (IntKind.i64.wrap (v28 + (1 : Int)))
def m_post_Check_l1_B  (p : TPost) (rec_m_post_Check_l1 : Int → Int → Option Int) (last v28 : Int) : Option Int :=
  if (decide (v28 < (p.Mails.length : Int))) = true then
    bnd (nthI p.Mails v28) fun e =>
    bnd (m_post_mail e) fun r0_1 =>
    if (decide (r0_1 ≠ (0 : Int))) = true then
      some r0_1
    else
      if (decide (e.Id ≤ last)) = true then
        m_post_Check_k2 rec_m_post_Check_l1 v28 e true
      else
        m_post_Check_k2 rec_m_post_Check_l1 v28 e (decide (p.Next ≤ e.Id))
  else
    m_post_Check_k3 p
def m_post_Check_l1  (p : TPost) : Nat → Int → Int → Option Int
  | 0, _, _ => none
  | n + 1, last, v28 => m_post_Check_l1_B  p (m_post_Check_l1  p n) last v28
def m_post_Check_k1  (p : TPost) (v14 : Bool) : Option Int :=
  if v14 = true then
    some (6 : Int)
  else
    m_post_Check_l1 p ((((p.Mails.length : Int)) - ((0 : Int))).toNat + 1) (0 : Int) (0 : Int)
def m_post_Check  (p : TPost) : Option Int :=
  bnd (m_post_wide p.Next) fun r0 =>
  if r0 = true then
    if (decide ((4096 : Int) < (p.Mails.length : Int))) = true then
      m_post_Check_k1 p true
    else
      m_post_Check_k1 p (decide ((4096 : Int) < (p.Subs.length : Int)))
  else
    some (1 : Int)
/-! funicular/funicularref22.in -/
def m_ref22_in  (n0 : Int) (from0 : Int) (to0 : Int) : Option Bool :=
  if (decide (from0 ≤ n0)) = true then
    some (decide (n0 ≤ to0))
  else
    some false
/-! funicular/funicularref02.Name -/
def m_ref02_Name_k4 (rec_m_ref02_Name_l1 : Int → Option Bool) (i : Int) (v50 : Bool) : Option Bool :=
  if v50 = true then
    some false
  else
    rec_m_ref02_Name_l1 (IntKind.i64.wrap (i + (1 : Int)))
def m_ref02_Name_k3 (rec_m_ref02_Name_l1 : Int → Option Bool) (i : Int) (digit letter : Bool) : Option Bool :=
  if digit = true then
    m_ref02_Name_k4 rec_m_ref02_Name_l1 i false
  else
    m_ref02_Name_k4 rec_m_ref02_Name_l1 i (!letter)
def m_ref02_Name_k2 (rec_m_ref02_Name_l1 : Int → Option Bool) (s : ByteArray) (i : Int) (digit : Bool) : Option Bool :=
  bnd (nthS s i) fun c_2 =>
  if (decide ((97 : Int) ≤ c_2)) = true then
    m_ref02_Name_k3 rec_m_ref02_Name_l1 i digit (decide (c_2 ≤ (122 : Int)))
  else
    m_ref02_Name_k3 rec_m_ref02_Name_l1 i digit false
def m_ref02_Name_l1_B  (s : ByteArray) (rec_m_ref02_Name_l1 : Int → Option Bool) (i : Int) : Option Bool :=
  if (decide (i < (s.size : Int))) = true then
    bnd (nthS s i) fun c_1 =>
    if (decide ((48 : Int) ≤ c_1)) = true then
      m_ref02_Name_k2 rec_m_ref02_Name_l1 s i (decide (c_1 ≤ (57 : Int)))
    else
      m_ref02_Name_k2 rec_m_ref02_Name_l1 s i false
  else
    some true
def m_ref02_Name_l1  (s : ByteArray) : Nat → Int → Option Bool
  | 0, _ => none
  | n + 1, i => m_ref02_Name_l1_B  s (m_ref02_Name_l1  s n) i
def m_ref02_Name_k1  (s : ByteArray) (v18 : Bool) : Option Bool :=
  if v18 = true then
    some false
  else
    m_ref02_Name_l1 s ((((s.size : Int)) - ((0 : Int))).toNat + 1) (0 : Int)
def m_ref02_Name  (s : ByteArray) : Option Bool :=
  if (decide ((s.size : Int) = (0 : Int))) = true then
    m_ref02_Name_k1 s true
  else
    if (decide ((32 : Int) < (s.size : Int))) = true then
      m_ref02_Name_k1 s true
    else
      bnd (nthS s (0 : Int)) fun c =>
      m_ref02_Name_k1 s (decide (c < (97 : Int)))
/-! funicular/funicularref09.Check -/
def m_ref09_Check_k1 (rec_m_ref09_Check_l1 : Int → Option Int) (i : Int) (v53 : Bool) : Option Int :=
  if v53 = true then
    some (1 : Int)
  else
    rec_m_ref09_Check_l1 (IntKind.i64.wrap (i + (1 : Int)))
def m_ref09_Check_l1_B  (v : TVars) (rec_m_ref09_Check_l1 : Int → Option Int) (i : Int) : Option Int :=
  if (decide (i < (v.Names.length : Int))) = true then
    bnd (nthI v.Names i) fun e =>
    bnd (m_ref02_Name e) fun r0 =>
    if r0 = true then
      if (eqS e (⟨#[121, 101, 115]⟩)) = true then
        m_ref09_Check_k1 rec_m_ref09_Check_l1 i true
      else
        if (eqS e (⟨#[110, 111]⟩)) = true then
          m_ref09_Check_k1 rec_m_ref09_Check_l1 i true
        else
          if (decide ((0 : Int) < i)) = true then
            bnd (nthI v.Names (IntKind.i64.wrap (i - (1 : Int)))) fun e_1 =>
            m_ref09_Check_k1 rec_m_ref09_Check_l1 i (!(ltS e_1 e))
          else
            m_ref09_Check_k1 rec_m_ref09_Check_l1 i false
    else
      m_ref09_Check_k1 rec_m_ref09_Check_l1 i true
  else
    some (0 : Int)
def m_ref09_Check_l1  (v : TVars) : Nat → Int → Option Int
  | 0, _ => none
  | n + 1, i => m_ref09_Check_l1_B  v (m_ref09_Check_l1  v n) i
def m_ref09_Check  (v : TVars) : Option Int :=
  if (decide ((v.Names.length : Int) ≠ (v.Vals.length : Int))) = true then
    some (1 : Int)
  else
    if (decide ((64 : Int) < (v.Names.length : Int))) = true then
      some (6 : Int)
    else
      m_ref09_Check_l1 v ((((v.Names.length : Int)) - ((0 : Int))).toNat + 1) (0 : Int)
/-! funicular/funicularref22.took -/
def m_ref22_took_k1 (rec_m_ref22_took_l1 : Int → Option Bool) (i : Int) (v29 : Bool) : Option Bool :=
  if v29 = true then
    some true
  else
    rec_m_ref22_took_l1 (IntKind.i64.wrap (i + (1 : Int)))
def m_ref22_took_l1_B  (l : (List TWho)) (part inst : Int) (rec_m_ref22_took_l1 : Int → Option Bool) (i : Int) : Option Bool :=
  if (decide (i < (l.length : Int))) = true then
    bnd (nthI l i) fun e =>
    if (decide (e.Part = part)) = true then
      m_ref22_took_k1 rec_m_ref22_took_l1 i (decide (e.Inst = inst))
    else
      m_ref22_took_k1 rec_m_ref22_took_l1 i false
  else
    some false
def m_ref22_took_l1  (l : (List TWho)) (part inst : Int) : Nat → Int → Option Bool
  | 0, _ => none
  | n + 1, i => m_ref22_took_l1_B  l part inst (m_ref22_took_l1  l part inst n) i
def m_ref22_took  (l : (List TWho)) (part : Int) (inst : Int) : Option Bool :=
  m_ref22_took_l1 l part inst ((((l.length : Int)) - ((0 : Int))).toNat + 1) (0 : Int)
/-! funicular/funicularref22.Mail -/
def m_ref22_Mail_k2 (rec_m_ref22_Mail_l1 : Int → Option Int) (i : Int) (v60 : Bool) : Option Int :=
  if v60 = true then
    some (1 : Int)
  else
    rec_m_ref22_Mail_l1 (IntKind.i64.wrap (i + (1 : Int)))
def m_ref22_Mail_l1_B  (m : TMail) (rec_m_ref22_Mail_l1 : Int → Option Int) (i : Int) : Option Int :=
  if (decide (i < (m.Took.length : Int))) = true then
    bnd (nthI m.Took i) fun e =>
    bnd (m_ref22_in e.Part (0 : Int) (63 : Int)) fun r0_4 =>
    if r0_4 = true then
      bnd (m_ref22_in e.Inst (1 : Int) (1099511627776 : Int)) fun r0_5 =>
      if r0_5 = true then
        bnd (sliceL m.Took 0 i) fun l =>
        bnd (m_ref22_took l e.Part e.Inst) fun r0_6 =>
        m_ref22_Mail_k2 rec_m_ref22_Mail_l1 i r0_6
      else
        m_ref22_Mail_k2 rec_m_ref22_Mail_l1 i true
    else
      m_ref22_Mail_k2 rec_m_ref22_Mail_l1 i true
  else
    some (0 : Int)
def m_ref22_Mail_l1  (m : TMail) : Nat → Int → Option Int
  | 0, _ => none
  | n + 1, i => m_ref22_Mail_l1_B  m (m_ref22_Mail_l1  m n) i
def m_ref22_Mail_k1  (m : TMail) (v21 : Bool) : Option Int :=
  if v21 = true then
    some (1 : Int)
  else
    bnd (m_ref09_Check m.Vars) fun r0_3 =>
    if (decide (r0_3 ≠ (0 : Int))) = true then
      some r0_3
    else
      m_ref22_Mail_l1 m ((((m.Took.length : Int)) - ((0 : Int))).toNat + 1) (0 : Int)
def m_ref22_Mail  (m : TMail) : Option Int :=
  bnd (m_ref22_in m.Id (1 : Int) (1099511627776 : Int)) fun r0 =>
  if r0 = true then
    bnd (m_ref02_Name m.Name) fun r0_1 =>
    if r0_1 = true then
      bnd (m_ref22_in m.Until (0 : Int) (1099511627776 : Int)) fun r0_2 =>
      m_ref22_Mail_k1 m (!r0_2)
    else
      m_ref22_Mail_k1 m true
  else
    m_ref22_Mail_k1 m true
/-! funicular/funicularref22.Sub -/
def m_ref22_Sub  (s : TSub) : Option Bool :=
  bnd (m_ref22_in s.Part (0 : Int) (63 : Int)) fun r0 =>
  if r0 = true then
    bnd (m_ref22_in s.Id (1 : Int) (1099511627776 : Int)) fun r0_1 =>
    if r0_1 = true then
      bnd (m_ref22_in s.Inst (1 : Int) (1099511627776 : Int)) fun r0_2 =>
      if r0_2 = true then
        bnd (m_ref02_Name s.Name) fun r0_3 =>
        if r0_3 = true then
          bnd (m_ref22_in s.Mail (0 : Int) (1099511627776 : Int)) fun r0_4 =>
          some r0_4
        else
          some false
      else
        some false
    else
      some false
  else
    some false
/-! funicular/funicularref22.ahead -/
def m_ref22_ahead  (a : TSub) (b : TSub) : Option Bool :=
  if (decide (a.Part < b.Part)) = true then
    some true
  else
    if (decide (a.Part = b.Part)) = true then
      some (decide (a.Id < b.Id))
    else
      some false
/-! funicular/funicularref22.Check -/
def m_ref22_Check_k4 (rec_m_ref22_Check_l2 : Int → Option Int) (i_1 : Int) (v108 : Bool) : Option Int :=
  if v108 = true then
    some (1 : Int)
  else
    rec_m_ref22_Check_l2 (IntKind.i64.wrap (i_1 + (1 : Int)))
def m_ref22_Check_l2_B  (p : TPost) (rec_m_ref22_Check_l2 : Int → Option Int) (i_1 : Int) : Option Int :=
  if (decide (i_1 < (p.Subs.length : Int))) = true then
    bnd (nthI p.Subs i_1) fun e_2 =>
    bnd (m_ref22_Sub e_2) fun r0_2 =>
    if r0_2 = true then
      if (decide (p.Next ≤ e_2.Mail)) = true then
        m_ref22_Check_k4 rec_m_ref22_Check_l2 i_1 true
      else
        if (decide ((0 : Int) < i_1)) = true then
          bnd (nthI p.Subs (IntKind.i64.wrap (i_1 - (1 : Int)))) fun e_3 =>
          bnd (m_ref22_ahead e_3 e_2) fun r0_3 =>
          m_ref22_Check_k4 rec_m_ref22_Check_l2 i_1 (!r0_3)
        else
          m_ref22_Check_k4 rec_m_ref22_Check_l2 i_1 false
    else
      m_ref22_Check_k4 rec_m_ref22_Check_l2 i_1 true
  else
    some (0 : Int)
def m_ref22_Check_l2  (p : TPost) : Nat → Int → Option Int
  | 0, _ => none
  | n + 1, i_1 => m_ref22_Check_l2_B  p (m_ref22_Check_l2  p n) i_1
def m_ref22_Check_k3  (p : TPost) : Option Int :=
  m_ref22_Check_l2 p ((((p.Subs.length : Int)) - ((0 : Int))).toNat + 1) (0 : Int)
def m_ref22_Check_k2 (rec_m_ref22_Check_l1 : Int → Option Int) (i : Int) (v64 : Bool) : Option Int :=
  if v64 = true then
    some (1 : Int)
  else
    rec_m_ref22_Check_l1 (IntKind.i64.wrap (i + (1 : Int)))
def m_ref22_Check_l1_B  (p : TPost) (rec_m_ref22_Check_l1 : Int → Option Int) (i : Int) : Option Int :=
  if (decide (i < (p.Mails.length : Int))) = true then
    bnd (nthI p.Mails i) fun e =>
    bnd (m_ref22_Mail e) fun r0_1 =>
    if (decide (r0_1 ≠ (0 : Int))) = true then
      some r0_1
    else
      if (decide (p.Next ≤ e.Id)) = true then
        m_ref22_Check_k2 rec_m_ref22_Check_l1 i true
      else
        if (decide ((0 : Int) < i)) = true then
          bnd (nthI p.Mails (IntKind.i64.wrap (i - (1 : Int)))) fun e_1 =>
          m_ref22_Check_k2 rec_m_ref22_Check_l1 i (decide (e.Id ≤ e_1.Id))
        else
          m_ref22_Check_k2 rec_m_ref22_Check_l1 i false
  else
    m_ref22_Check_k3 p
def m_ref22_Check_l1  (p : TPost) : Nat → Int → Option Int
  | 0, _ => none
  | n + 1, i => m_ref22_Check_l1_B  p (m_ref22_Check_l1  p n) i
def m_ref22_Check_k1  (p : TPost) (v19 : Bool) : Option Int :=
  if v19 = true then
    some (6 : Int)
  else
    m_ref22_Check_l1 p ((((p.Mails.length : Int)) - ((0 : Int))).toNat + 1) (0 : Int)
def m_ref22_Check  (p : TPost) : Option Int :=
  bnd (m_ref22_in p.Next (1 : Int) (1099511627776 : Int)) fun r0 =>
  if r0 = true then
    if (decide ((4096 : Int) < (p.Mails.length : Int))) = true then
      m_ref22_Check_k1 p true
    else
      m_ref22_Check_k1 p (decide ((4096 : Int) < (p.Subs.length : Int)))
  else
    some (1 : Int)
/-! funicular/funicularref08.Texts -/
def m_ref08_Texts_l1_B  (a b : (List ByteArray)) (rec_m_ref08_Texts_l1 : Int → Option Bool) (i : Int) : Option Bool :=
  if (decide (i < (a.length : Int))) = true then
    bnd (nthI a i) fun e =>
    bnd (nthI b i) fun e_1 =>
    if (eqS e e_1) = true then
      rec_m_ref08_Texts_l1 (IntKind.i64.wrap (i + (1 : Int)))
    else
      some false
  else
    some true
def m_ref08_Texts_l1  (a b : (List ByteArray)) : Nat → Int → Option Bool
  | 0, _ => none
  | n + 1, i => m_ref08_Texts_l1_B  a b (m_ref08_Texts_l1  a b n) i
def m_ref08_Texts  (a : (List ByteArray)) (b : (List ByteArray)) : Option Bool :=
  if (decide ((a.length : Int) ≠ (b.length : Int))) = true then
    some false
  else
    m_ref08_Texts_l1 a b ((((a.length : Int)) - ((0 : Int))).toNat + 1) (0 : Int)
/-! funicular/funicularref09.Same -/
def m_ref09_Same_l1_B  (a b : TVars) (rec_m_ref09_Same_l1 : Int → Option Bool) (i : Int) : Option Bool :=
  if (decide (i < (a.Vals.length : Int))) = true then
    bnd (nthI a.Vals i) fun e =>
    bnd (nthI b.Vals i) fun e_1 =>
    if (decide (e ≠ e_1)) = true then
      some false
    else
      rec_m_ref09_Same_l1 (IntKind.i64.wrap (i + (1 : Int)))
  else
    some true
def m_ref09_Same_l1  (a b : TVars) : Nat → Int → Option Bool
  | 0, _ => none
  | n + 1, i => m_ref09_Same_l1_B  a b (m_ref09_Same_l1  a b n) i
def m_ref09_Same_k1  (a b : TVars) (v20 : Bool) : Option Bool :=
  if v20 = true then
    some false
  else
    m_ref09_Same_l1 a b ((((a.Vals.length : Int)) - ((0 : Int))).toNat + 1) (0 : Int)
def m_ref09_Same  (a : TVars) (b : TVars) : Option Bool :=
  bnd (m_ref08_Texts a.Names b.Names) fun r0 =>
  if r0 = true then
    m_ref09_Same_k1 a b (decide ((a.Vals.length : Int) ≠ (b.Vals.length : Int)))
  else
    m_ref09_Same_k1 a b true
/-! funicular/funicularref22.sameMail -/
def m_ref22_sameMail_l1_B  (a b : TMail) (rec_m_ref22_sameMail_l1 : Int → Option Bool) (i : Int) : Option Bool :=
  if (decide (i < (a.Took.length : Int))) = true then
    bnd (nthI a.Took i) fun e =>
    bnd (nthI b.Took i) fun e_1 =>
    if ((decide (e.Part = e_1.Part)) && (decide (e.Inst = e_1.Inst))) = true then
      rec_m_ref22_sameMail_l1 (IntKind.i64.wrap (i + (1 : Int)))
    else
      some false
  else
    some true
def m_ref22_sameMail_l1  (a b : TMail) : Nat → Int → Option Bool
  | 0, _ => none
  | n + 1, i => m_ref22_sameMail_l1_B  a b (m_ref22_sameMail_l1  a b n) i
def m_ref22_sameMail_k1  (a b : TMail) (v48 : Bool) : Option Bool :=
  if v48 = true then
    some false
  else
    m_ref22_sameMail_l1 a b ((((a.Took.length : Int)) - ((0 : Int))).toNat + 1) (0 : Int)
def m_ref22_sameMail  (a : TMail) (b : TMail) : Option Bool :=
  if (decide (a.Id ≠ b.Id)) = true then
    m_ref22_sameMail_k1 a b true
  else
    if (eqS a.Name b.Name) = true then
      if (decide (a.Key ≠ b.Key)) = true then
        m_ref22_sameMail_k1 a b true
      else
        if (decide (a.Until ≠ b.Until)) = true then
          m_ref22_sameMail_k1 a b true
        else
          bnd (m_ref09_Same a.Vars b.Vars) fun r0 =>
          if r0 = true then
            m_ref22_sameMail_k1 a b (decide ((a.Took.length : Int) ≠ (b.Took.length : Int)))
          else
            m_ref22_sameMail_k1 a b true
    else
      m_ref22_sameMail_k1 a b true
/-! funicular/funicularref22.Same -/
def m_ref22_Same_l2_B  (a b : TPost) (rec_m_ref22_Same_l2 : Int → Option Bool) (i_1 : Int) : Option Bool :=
  if (decide (i_1 < (a.Subs.length : Int))) = true then
    bnd (nthI a.Subs i_1) fun e_2 =>
    bnd (nthI b.Subs i_1) fun e_3 =>
    if ((decide (e_2.Part = e_3.Part)) && ((decide (e_2.Id = e_3.Id)) && ((decide (e_2.Inst = e_3.Inst)) && ((eqS e_2.Name e_3.Name) && ((decide (e_2.Key = e_3.Key)) && (decide (e_2.Mail = e_3.Mail))))))) = true then
      rec_m_ref22_Same_l2 (IntKind.i64.wrap (i_1 + (1 : Int)))
    else
      some false
  else
    some true
def m_ref22_Same_l2  (a b : TPost) : Nat → Int → Option Bool
  | 0, _ => none
  | n + 1, i_1 => m_ref22_Same_l2_B  a b (m_ref22_Same_l2  a b n) i_1
def m_ref22_Same_k2  (a b : TPost) : Option Bool :=
  m_ref22_Same_l2 a b ((((a.Subs.length : Int)) - ((0 : Int))).toNat + 1) (0 : Int)
def m_ref22_Same_l1_B  (a b : TPost) (rec_m_ref22_Same_l1 : Int → Option Bool) (i : Int) : Option Bool :=
  if (decide (i < (a.Mails.length : Int))) = true then
    bnd (nthI a.Mails i) fun e =>
    bnd (nthI b.Mails i) fun e_1 =>
    bnd (m_ref22_sameMail e e_1) fun r0 =>
    if r0 = true then
      rec_m_ref22_Same_l1 (IntKind.i64.wrap (i + (1 : Int)))
    else
      some false
  else
    m_ref22_Same_k2 a b
def m_ref22_Same_l1  (a b : TPost) : Nat → Int → Option Bool
  | 0, _ => none
  | n + 1, i => m_ref22_Same_l1_B  a b (m_ref22_Same_l1  a b n) i
def m_ref22_Same_k1  (a b : TPost) (v29 : Bool) : Option Bool :=
  if v29 = true then
    some false
  else
    m_ref22_Same_l1 a b ((((a.Mails.length : Int)) - ((0 : Int))).toNat + 1) (0 : Int)
def m_ref22_Same  (a : TPost) (b : TPost) : Option Bool :=
  if (decide (a.Next ≠ b.Next)) = true then
    m_ref22_Same_k1 a b true
  else
    if (decide ((a.Mails.length : Int) ≠ (b.Mails.length : Int))) = true then
      m_ref22_Same_k1 a b true
    else
      m_ref22_Same_k1 a b (decide ((a.Subs.length : Int) ≠ (b.Subs.length : Int)))
/-! funicular/funicularref22.Weight -/
def m_ref22_Weight_k5 (rec_m_ref22_Weight_l2 : Int → Int → Option Int) (i_1 n0_4 : Int) : Option Int :=
  rec_m_ref22_Weight_l2 n0_4 (IntKind.i64.wrap (i_1 + (1 : Int)))
def m_ref22_Weight_k4 (rec_m_ref22_Weight_l3 : Int → Int → Option Int) (rec_m_ref22_Weight_l2 : Int → Int → Option Int) (i_1 : Int) (e_1 : TMail) (n0_3 k : Int) (v83 : Bool) : Option Int :=
  if v83 = true then
    bnd (nthI e_1.Vars.Names k) fun e_2 =>
    rec_m_ref22_Weight_l3 (IntKind.i64.wrap (n0_3 + (IntKind.i64.wrap ((e_2.size : Int).tdiv (40 : Int))))) (IntKind.i64.wrap (k + (1 : Int)))
  else
    m_ref22_Weight_k5 rec_m_ref22_Weight_l2 i_1 n0_3
def m_ref22_Weight_l3_B (rec_m_ref22_Weight_l2 : Int → Int → Option Int) (top i_1 : Int) (e_1 : TMail) (rec_m_ref22_Weight_l3 : Int → Int → Option Int) (n0_3 k : Int) : Option Int :=
  if (decide (k < (e_1.Vars.Names.length : Int))) = true then
    m_ref22_Weight_k4 rec_m_ref22_Weight_l3 rec_m_ref22_Weight_l2 i_1 e_1 n0_3 k (decide (n0_3 ≤ top))
  else
    m_ref22_Weight_k4 rec_m_ref22_Weight_l3 rec_m_ref22_Weight_l2 i_1 e_1 n0_3 k false
def m_ref22_Weight_l3 (rec_m_ref22_Weight_l2 : Int → Int → Option Int) (top i_1 : Int) (e_1 : TMail) : Nat → Int → Int → Option Int
  | 0, _, _ => none
  | n + 1, n0_3, k => m_ref22_Weight_l3_B rec_m_ref22_Weight_l2 top i_1 e_1 (m_ref22_Weight_l3 rec_m_ref22_Weight_l2 top i_1 e_1 n) n0_3 k
def m_ref22_Weight_k3 (rec_m_ref22_Weight_l2 : Int → Int → Option Int) (p : TPost) (top n0_2 i_1 : Int) (v44 : Bool) : Option Int :=
  if v44 = true then
    bnd (nthI p.Mails i_1) fun e_1 =>
    m_ref22_Weight_l3 rec_m_ref22_Weight_l2 top i_1 e_1 ((((e_1.Vars.Names.length : Int)) - ((0 : Int))).toNat + 1) (IntKind.i64.wrap ((IntKind.i64.wrap ((IntKind.i64.wrap ((IntKind.i64.wrap ((IntKind.i64.wrap (n0_2 + (1 : Int))) + (IntKind.i64.wrap ((e_1.Name.size : Int).tdiv (40 : Int))))) + (e_1.Took.length : Int))) + (e_1.Vars.Names.length : Int))) + (e_1.Vars.Vals.length : Int))) (0 : Int)
  else
    some n0_2
def m_ref22_Weight_l2_B  (p : TPost) (top : Int) (rec_m_ref22_Weight_l2 : Int → Int → Option Int) (n0_2 i_1 : Int) : Option Int :=
  if (decide (i_1 < (p.Mails.length : Int))) = true then
    m_ref22_Weight_k3 rec_m_ref22_Weight_l2 p top n0_2 i_1 (decide (n0_2 ≤ top))
  else
    m_ref22_Weight_k3 rec_m_ref22_Weight_l2 p top n0_2 i_1 false
def m_ref22_Weight_l2  (p : TPost) (top : Int) : Nat → Int → Int → Option Int
  | 0, _, _ => none
  | n + 1, n0_2, i_1 => m_ref22_Weight_l2_B  p top (m_ref22_Weight_l2  p top n) n0_2 i_1
def m_ref22_Weight_k2  (p : TPost) (top n0_1 : Int) : Option Int :=
  m_ref22_Weight_l2 p top ((((p.Mails.length : Int)) - ((0 : Int))).toNat + 1) n0_1 (0 : Int)
def m_ref22_Weight_k1 (rec_m_ref22_Weight_l1 : Int → Int → Option Int) (p : TPost) (top n0 i : Int) (v22 : Bool) : Option Int :=
  if v22 = true then
    bnd (nthI p.Subs i) fun e =>
    rec_m_ref22_Weight_l1 (IntKind.i64.wrap (n0 + (IntKind.i64.wrap ((e.Name.size : Int).tdiv (40 : Int))))) (IntKind.i64.wrap (i + (1 : Int)))
  else
    m_ref22_Weight_k2 p top n0
def m_ref22_Weight_l1_B  (p : TPost) (top : Int) (rec_m_ref22_Weight_l1 : Int → Int → Option Int) (n0 i : Int) : Option Int :=
  if (decide (i < (p.Subs.length : Int))) = true then
    m_ref22_Weight_k1 rec_m_ref22_Weight_l1 p top n0 i (decide (n0 ≤ top))
  else
    m_ref22_Weight_k1 rec_m_ref22_Weight_l1 p top n0 i false
def m_ref22_Weight_l1  (p : TPost) (top : Int) : Nat → Int → Int → Option Int
  | 0, _, _ => none
  | n + 1, n0, i => m_ref22_Weight_l1_B  p top (m_ref22_Weight_l1  p top n) n0 i
def m_ref22_Weight  (p : TPost) (top : Int) : Option Int :=
  m_ref22_Weight_l1 p top ((((p.Subs.length : Int)) - ((0 : Int))).toNat + 1) (p.Subs.length : Int) (0 : Int)
/-! funicular/funicularlaw22.light -/
def m_law22_light  (p : TPost) : Option Bool :=
  bnd (m_ref22_Weight p (200 : Int)) fun r0 =>
  some (decide (r0 ≤ (200 : Int)))
/-! funicular/funicularlaw22.may -/
def m_law22_may  (p : TPost) : Option Bool :=
  bnd (m_law22_light p) fun r0 =>
  if r0 = true then
    bnd (m_ref22_Check p) fun r0_1 =>
    some (decide (r0_1 = (0 : Int)))
  else
    some false
/-! funicular/post.Read -/
def m_post_Read_k7  (r0 : (Int × Treader)) (p_1_1 : (List TMail)) (r_0_5 : (List Int)) (p_2_1 : (List TSub)) (r_1_6 : Int) : Option (TPost × (List Int) × Int) :=
  if (decide (r_1_6 ≠ (0 : Int))) = true then
    some ((TPost.mk (0 : Int) ([]) ([])), [], r_1_6)
  else
    some ((TPost.mk r0.1 p_1_1 p_2_1), r_0_5, (0 : Int))
def m_post_Read_k6  (r0 : (Int × Treader)) (p_1_1 : (List TMail)) (r_0_5 : (List Int)) (r_1_5 : Int) (p_2_1 : (List TSub)) : Option (TPost × (List Int) × Int) :=
  if (decide (r_1_5 = (0 : Int))) = true then
    bnd (m_post_Check (TPost.mk r0.1 p_1_1 p_2_1)) fun r0_17 =>
    m_post_Read_k7 r0 p_1_1 r_0_5 p_2_1 r0_17
  else
    m_post_Read_k7 r0 p_1_1 r_0_5 p_2_1 r_1_5
def m_post_Read_k5 (rec_m_post_Read_l3 : Int → (List Int) → Int → (List TSub) → Option (TPost × (List Int) × Int)) (r0 : (Int × Treader)) (p_1_1 : (List TMail)) (n0_1 : Int) (r_0_4 : (List Int)) (r_1_4 : Int) (p_2 : (List TSub)) (v80 : Bool) : Option (TPost × (List Int) × Int) :=
  if v80 = true then
    bnd (m_post_reader_next (Treader.mk r_0_4 r_1_4)) fun r0_11 =>
    bnd (m_post_reader_next r0_11.2) fun r0_12 =>
    bnd (m_post_reader_next r0_12.2) fun r0_13 =>
    bnd (m_post_reader_name r0_13.2) fun r0_14 =>
    bnd (m_post_reader_key r0_14.2) fun r0_15 =>
    bnd (m_post_reader_next r0_15.2) fun r0_16 =>
    if (capB (p_2.length + 1)) = true then 
      rec_m_post_Read_l3 (IntKind.i64.wrap (n0_1 - (1 : Int))) r0_16.2.f_b r0_16.2.f_err (p_2 ++ [(TSub.mk r0_11.1 r0_12.1 r0_13.1 r0_14.1 r0_15.1 r0_16.1)])
     else none
  else
    m_post_Read_k6 r0 p_1_1 r_0_4 r_1_4 p_2
def m_post_Read_l3_B  (r0 : (Int × Treader)) (p_1_1 : (List TMail)) (rec_m_post_Read_l3 : Int → (List Int) → Int → (List TSub) → Option (TPost × (List Int) × Int)) (n0_1 : Int) (r_0_4 : (List Int)) (r_1_4 : Int) (p_2 : (List TSub)) : Option (TPost × (List Int) × Int) :=
  if (decide ((0 : Int) < n0_1)) = true then
    m_post_Read_k5 rec_m_post_Read_l3 r0 p_1_1 n0_1 r_0_4 r_1_4 p_2 (decide (r_1_4 = (0 : Int)))
  else
    m_post_Read_k5 rec_m_post_Read_l3 r0 p_1_1 n0_1 r_0_4 r_1_4 p_2 false
def m_post_Read_l3  (r0 : (Int × Treader)) (p_1_1 : (List TMail)) : Nat → Int → (List Int) → Int → (List TSub) → Option (TPost × (List Int) × Int)
  | 0, _, _, _, _ => none
  | n + 1, n0_1, r_0_4, r_1_4, p_2 => m_post_Read_l3_B  r0 p_1_1 (m_post_Read_l3  r0 p_1_1 n) n0_1 r_0_4 r_1_4 p_2
def m_post_Read_k4  (r0 : (Int × Treader)) (r_0_3 : (List Int)) (r_1_3 : Int) (p_1_1 : (List TMail)) : Option (TPost × (List Int) × Int) :=
  bnd (m_post_reader_next (Treader.mk r_0_3 r_1_3)) fun r0_10 =>
  m_post_Read_l3 r0 p_1_1 (1000000) r0_10.1 r0_10.2.f_b r0_10.2.f_err ([])
def m_post_Read_k3 (rec_m_post_Read_l1 : Int → (List Int) → Int → (List TMail) → Option (TPost × (List Int) × Int)) (n0 : Int) (p_1 : (List TMail)) (r0_2 : (Int × Treader)) (r0_3 : (ByteArray × Treader)) (r0_4 : (Int × Treader)) (r0_5 : (TVars × Treader)) (r0_6 : (Int × Treader)) (r_0_2 : (List Int)) (r_1_2 : Int) (m_60_1 : (List TWho)) : Option (TPost × (List Int) × Int) :=
  if (capB (p_1.length + 1)) = true then 
    rec_m_post_Read_l1 (IntKind.i64.wrap (n0 - (1 : Int))) r_0_2 r_1_2 (p_1 ++ [(TMail.mk r0_2.1 r0_3.1 r0_4.1 r0_5.1 r0_6.1 m_60_1)])
   else none
def m_post_Read_k2 (rec_m_post_Read_l2 : Int → (List Int) → Int → (List TWho) → Option (TPost × (List Int) × Int)) (rec_m_post_Read_l1 : Int → (List Int) → Int → (List TMail) → Option (TPost × (List Int) × Int)) (n0 : Int) (p_1 : (List TMail)) (r0_2 : (Int × Treader)) (r0_3 : (ByteArray × Treader)) (r0_4 : (Int × Treader)) (r0_5 : (TVars × Treader)) (r0_6 : (Int × Treader)) (k : Int) (r_0_1 : (List Int)) (r_1_1 : Int) (m_60 : (List TWho)) (v51 : Bool) : Option (TPost × (List Int) × Int) :=
  if v51 = true then
    bnd (m_post_reader_next (Treader.mk r_0_1 r_1_1)) fun r0_8 =>
    bnd (m_post_reader_next r0_8.2) fun r0_9 =>
    if (capB (m_60.length + 1)) = true then 
      rec_m_post_Read_l2 (IntKind.i64.wrap (k - (1 : Int))) r0_9.2.f_b r0_9.2.f_err (m_60 ++ [(TWho.mk r0_8.1 r0_9.1)])
     else none
  else
    m_post_Read_k3 rec_m_post_Read_l1 n0 p_1 r0_2 r0_3 r0_4 r0_5 r0_6 r_0_1 r_1_1 m_60
def m_post_Read_l2_B (rec_m_post_Read_l1 : Int → (List Int) → Int → (List TMail) → Option (TPost × (List Int) × Int)) (n0 : Int) (p_1 : (List TMail)) (r0_2 : (Int × Treader)) (r0_3 : (ByteArray × Treader)) (r0_4 : (Int × Treader)) (r0_5 : (TVars × Treader)) (r0_6 : (Int × Treader)) (rec_m_post_Read_l2 : Int → (List Int) → Int → (List TWho) → Option (TPost × (List Int) × Int)) (k : Int) (r_0_1 : (List Int)) (r_1_1 : Int) (m_60 : (List TWho)) : Option (TPost × (List Int) × Int) :=
  if (decide ((0 : Int) < k)) = true then
    m_post_Read_k2 rec_m_post_Read_l2 rec_m_post_Read_l1 n0 p_1 r0_2 r0_3 r0_4 r0_5 r0_6 k r_0_1 r_1_1 m_60 (decide (r_1_1 = (0 : Int)))
  else
    m_post_Read_k2 rec_m_post_Read_l2 rec_m_post_Read_l1 n0 p_1 r0_2 r0_3 r0_4 r0_5 r0_6 k r_0_1 r_1_1 m_60 false
def m_post_Read_l2 (rec_m_post_Read_l1 : Int → (List Int) → Int → (List TMail) → Option (TPost × (List Int) × Int)) (n0 : Int) (p_1 : (List TMail)) (r0_2 : (Int × Treader)) (r0_3 : (ByteArray × Treader)) (r0_4 : (Int × Treader)) (r0_5 : (TVars × Treader)) (r0_6 : (Int × Treader)) : Nat → Int → (List Int) → Int → (List TWho) → Option (TPost × (List Int) × Int)
  | 0, _, _, _, _ => none
  | n + 1, k, r_0_1, r_1_1, m_60 => m_post_Read_l2_B rec_m_post_Read_l1 n0 p_1 r0_2 r0_3 r0_4 r0_5 r0_6 (m_post_Read_l2 rec_m_post_Read_l1 n0 p_1 r0_2 r0_3 r0_4 r0_5 r0_6 n) k r_0_1 r_1_1 m_60
def m_post_Read_k1 (rec_m_post_Read_l1 : Int → (List Int) → Int → (List TMail) → Option (TPost × (List Int) × Int)) (r0 : (Int × Treader)) (n0 : Int) (r_0 : (List Int)) (r_1 : Int) (p_1 : (List TMail)) (v27 : Bool) : Option (TPost × (List Int) × Int) :=
  if v27 = true then
    bnd (m_post_reader_next (Treader.mk r_0 r_1)) fun r0_2 =>
    bnd (m_post_reader_name r0_2.2) fun r0_3 =>
    bnd (m_post_reader_key r0_3.2) fun r0_4 =>
    bnd (m_post_reader_vars r0_4.2) fun r0_5 =>
    bnd (m_post_reader_next r0_5.2) fun r0_6 =>
    bnd (m_post_reader_next r0_6.2) fun r0_7 =>
    m_post_Read_l2 rec_m_post_Read_l1 n0 p_1 r0_2 r0_3 r0_4 r0_5 r0_6 (1000000) r0_7.1 r0_7.2.f_b r0_7.2.f_err ([])
  else
    m_post_Read_k4 r0 r_0 r_1 p_1
def m_post_Read_l1_B  (r0 : (Int × Treader)) (rec_m_post_Read_l1 : Int → (List Int) → Int → (List TMail) → Option (TPost × (List Int) × Int)) (n0 : Int) (r_0 : (List Int)) (r_1 : Int) (p_1 : (List TMail)) : Option (TPost × (List Int) × Int) :=
  if (decide ((0 : Int) < n0)) = true then
    m_post_Read_k1 rec_m_post_Read_l1 r0 n0 r_0 r_1 p_1 (decide (r_1 = (0 : Int)))
  else
    m_post_Read_k1 rec_m_post_Read_l1 r0 n0 r_0 r_1 p_1 false
def m_post_Read_l1  (r0 : (Int × Treader)) : Nat → Int → (List Int) → Int → (List TMail) → Option (TPost × (List Int) × Int)
  | 0, _, _, _, _ => none
  | n + 1, n0, r_0, r_1, p_1 => m_post_Read_l1_B  r0 (m_post_Read_l1  r0 n) n0 r_0 r_1 p_1
def m_post_Read  (b : (List Int)) : Option (TPost × (List Int) × Int) :=
  bnd (m_post_reader_next (Treader.mk b (0 : Int))) fun r0 =>
  bnd (m_post_reader_next r0.2) fun r0_1 =>
  m_post_Read_l1 r0 (1000000) r0_1.1 r0_1.2.f_b r0_1.2.f_err ([])
/-! funicular/funicularref02.Same -/
def m_ref02_Same  (a : (List Int)) (b : (List Int)) : Option Bool :=
  some (eqS (strI a) (strI b))
/-! funicular/funicularlaw22.works: reckoned by the kernel -/
def m_law22_works : Option Bool := some true
/-! funicular/funicularlaw22.PostBack -/
def m_law22_PostBack_k2  (b : (List Int)) : Option Bool :=
  bnd (m_post_Read b) fun r0_6 =>
  if (decide (r0_6.2.2 ≠ (0 : Int))) = true then
    bnd (m_law22_works ) fun r0_7 =>
    some r0_7
  else
    bnd (m_post_Put r0_6.1) fun r0_8 =>
    if (capB (r0_8.length + (r0_6.2.1).length)) = true then 
      bnd (m_ref02_Same (r0_8 ++ r0_6.2.1) b) fun r0_9 =>
      if r0_9 = true then
        bnd (m_law22_works ) fun r0_10 =>
        some r0_10
      else
        some false
     else none
def m_law22_PostBack_k1  (b : (List Int)) (v39 : Bool) : Option Bool :=
  if v39 = true then
    some false
  else
    m_law22_PostBack_k2 b
def m_law22_PostBack  (p : TPost) (b : (List Int)) : Option Bool :=
  if (decide ((3000 : Int) < (b.length : Int))) = true then
    bnd (m_law22_works ) fun r0 =>
    some r0
  else
    bnd (m_law22_may p) fun r0_1 =>
    if r0_1 = true then
      bnd (m_post_Put p) fun r0_2 =>
      if (capB (r0_2.length + b.length)) = true then 
        bnd (m_post_Read (r0_2 ++ b)) fun r0_3 =>
        if (decide (r0_3.2.2 ≠ (0 : Int))) = true then
          m_law22_PostBack_k1 b true
        else
          bnd (m_ref22_Same r0_3.1 p) fun r0_4 =>
          if r0_4 = true then
            bnd (m_ref02_Same r0_3.2.1 b) fun r0_5 =>
            m_law22_PostBack_k1 b (!r0_5)
          else
            m_law22_PostBack_k1 b true
       else none
    else
      m_law22_PostBack_k2 b
end Go.Proofs.Ytefjblgmnoheiaa.R
