/- Models of the functions. -/
import Derived.Test.YtefjblgmnoheiaaMT
set_option maxRecDepth 100000
set_option maxHeartbeats 1600000
set_option linter.unusedVariables false
set_option linter.unusedSimpArgs false
set_option linter.defProp false
noncomputable section
namespace Go.Proofs.Ytefjblgmnoheiaa.R
open Go Nat
/-! funicular/vars.Copy -/
def m_vars_Copy  (v : TVars) : Option TVars :=
  if (capB (v.Names).length) = true then 
    if (capB (v.Vals).length) = true then 
      some v
     else none
   else none
/-! funicular/post.Copy -/
def m_post_Copy_l1_B  (p : TPost) (rec_m_post_Copy_l1 : Int → (List TMail) → Option TPost) (v16 : Int) (p_1 : (List TMail)) : Option TPost :=
  if (decide (v16 < (((p.Mails).length : Nat) : Int))) = true then
    bnd (nthI p_1 v16) fun e =>
    bnd (m_vars_Copy e.Vars) fun r0 =>
    if (capB (e.Took).length) = true then 
      rec_m_post_Copy_l1 (IntKind.i64.wrap (v16 + (1 : Int))) (setI (setI p_1 v16 (TMail.mk e.Id e.Name e.Key r0 e.Until e.Took)) v16 (TMail.mk e.Id e.Name e.Key r0 e.Until e.Took))
     else none
  else
    some (TPost.mk p.Next p_1 p.Subs)
def m_post_Copy_l1  (p : TPost) : Nat → Int → (List TMail) → Option TPost
  | 0, _, _ => none
  | n + 1, v16, p_1 => m_post_Copy_l1_B  p (m_post_Copy_l1  p n) v16 p_1
def m_post_Copy  (p : TPost) : Option TPost :=
  if (capB (p.Subs).length) = true then 
    if (capB (p.Mails).length) = true then 
      m_post_Copy_l1 p ((((((p.Mails).length : Nat) : Int)) - ((0 : Int))).toNat + 1) (0 : Int) p.Mails
     else none
   else none
/-! funicular/post.give -/
/-! funicular/post.give -/
def m_post_give_v1  (s : Int) (m : TMail) (b2 : (List TSub)) : Option (THit × TMail × (List TSub)) :=
  bnd (nthI b2 s) fun e =>
  if (capB ((m.Took).length + 1)) = true then 
    bnd (m_vars_Copy m.Vars) fun r0 =>
    some ((THit.mk e.Part e.Id m.Id r0), (TMail.mk m.Id m.Name m.Key m.Vars m.Until (m.Took ++ [(TWho.mk e.Part e.Inst)])), (setI b2 s (TSub.mk e.Part e.Id e.Inst e.Name e.Key m.Id)))
   else none
/-! funicular/post.give -/
def m_post_give_v2  (m : Int) (s : TSub) (b0 : (List TMail)) : Option (THit × TSub × (List TMail)) :=
  bnd (nthI b0 m) fun e =>
  if (capB ((e.Took).length + 1)) = true then 
    bnd (m_vars_Copy e.Vars) fun r0 =>
    some ((THit.mk s.Part s.Id e.Id r0), (TSub.mk s.Part s.Id s.Inst s.Name s.Key e.Id), (setI b0 m (TMail.mk e.Id e.Name e.Key e.Vars e.Until (e.Took ++ [(TWho.mk s.Part s.Inst)]))))
   else none
/-! funicular/post.Expire$1 -/
def m_post_Expire_1  (m : TMail) (b0 : Int) : Option Bool :=
  some (decide (m.Until ≤ b0))
/-! slices.IndexFunc[[]funicular/api.Mail,funicular/api.Mail] -/
def m_slices_IndexFunc_api_Mail_api_Mail_l1_B  (s : (List TMail)) (b1 : Int) (rec_m_slices_IndexFunc_api_Mail_api_Mail_l1 : Int → Option Int) (v8 : Int) : Option Int :=
  if (decide (v8 < ((s.length : Nat) : Int))) = true then
    bnd (nthI s v8) fun e =>
    bnd (m_post_Expire_1 e b1) fun r0 =>
    if r0 = true then
      some v8
    else
      rec_m_slices_IndexFunc_api_Mail_api_Mail_l1 (IntKind.i64.wrap (v8 + (1 : Int)))
  else
    some (-1 : Int)
def m_slices_IndexFunc_api_Mail_api_Mail_l1  (s : (List TMail)) (b1 : Int) : Nat → Int → Option Int
  | 0, _ => none
  | n + 1, v8 => m_slices_IndexFunc_api_Mail_api_Mail_l1_B  s b1 (m_slices_IndexFunc_api_Mail_api_Mail_l1  s b1 n) v8
def m_slices_IndexFunc_api_Mail_api_Mail  (s : (List TMail)) (b1 : Int) : Option Int :=
  m_slices_IndexFunc_api_Mail_api_Mail_l1 s b1 (((((s.length : Nat) : Int)) - ((0 : Int))).toNat + 1) (0 : Int)
/-! slices.DeleteFunc[[]funicular/api.Mail,funicular/api.Mail] -/
def m_slices_DeleteFunc_api_Mail_api_Mail_k2  (i_2 : Int) (s_3 : (List TMail)) : Option (List TMail) :=
  bnd (sliceL s_3 i_2 s_3.length) fun l =>
  bnd (sliceL (clrI s_3 i_2.toNat (TMail.mk (0 : Int) (⟨#[]⟩) (0 : Int) (TVars.mk ([]) ([])) (0 : Int) ([]))) 0 i_2) fun l_1 =>
  some l_1
def m_slices_DeleteFunc_api_Mail_api_Mail_k1 (rec_m_slices_DeleteFunc_api_Mail_api_Mail_l1 : Int → Int → (List TMail) → Option (List TMail)) (j i_1 : Int) (s_2 : (List TMail)) : Option (List TMail) :=
  rec_m_slices_DeleteFunc_api_Mail_api_Mail_l1 i_1 (IntKind.i64.wrap (j + (1 : Int))) s_2
def m_slices_DeleteFunc_api_Mail_api_Mail_l1_B  (b1 : Int) (rec_m_slices_DeleteFunc_api_Mail_api_Mail_l1 : Int → Int → (List TMail) → Option (List TMail)) (i j : Int) (s_1 : (List TMail)) : Option (List TMail) :=
  if (decide (j < ((s_1.length : Nat) : Int))) = true then
    bnd (nthI s_1 j) fun e =>
    bnd (m_post_Expire_1 e b1) fun r0_1 =>
    if r0_1 = true then
      m_slices_DeleteFunc_api_Mail_api_Mail_k1 rec_m_slices_DeleteFunc_api_Mail_api_Mail_l1 j i s_1
    else
      bnd (nthI s_1 i) fun e_1 =>
      m_slices_DeleteFunc_api_Mail_api_Mail_k1 rec_m_slices_DeleteFunc_api_Mail_api_Mail_l1 j (IntKind.i64.wrap (i + (1 : Int))) (setI s_1 i e)
  else
    m_slices_DeleteFunc_api_Mail_api_Mail_k2 i s_1
def m_slices_DeleteFunc_api_Mail_api_Mail_l1  (b1 : Int) : Nat → Int → Int → (List TMail) → Option (List TMail)
  | 0, _, _, _ => none
  | n + 1, i, j, s_1 => m_slices_DeleteFunc_api_Mail_api_Mail_l1_B  b1 (m_slices_DeleteFunc_api_Mail_api_Mail_l1  b1 n) i j s_1
def m_slices_DeleteFunc_api_Mail_api_Mail  (s : (List TMail)) (b1 : Int) : Option (List TMail) :=
  bnd (m_slices_IndexFunc_api_Mail_api_Mail s b1) fun r0 =>
  if (decide (r0 = (-1 : Int))) = true then
    some s
  else
    m_slices_DeleteFunc_api_Mail_api_Mail_l1 b1 (1000000) r0 (IntKind.i64.wrap (r0 + (1 : Int))) s
/-! funicular/post.of -/
def m_post_of  (s : TSub) : Option Tkey :=
  some (Tkey.mk s.Part s.Id)
/-! (funicular/post.key).order -/
def m_post_key_order_k1  (v9 : Bool) : Option Int :=
  if v9 = true then
    some (-1 : Int)
  else
    some (1 : Int)
def m_post_key_order  (a : Tkey) (b : Tkey) : Option Int :=
  if ((decide (a.f_part = b.f_part)) && (decide (a.f_id = b.f_id))) = true then
    some (0 : Int)
  else
    if (decide (a.f_part < b.f_part)) = true then
      m_post_key_order_k1 true
    else
      if (decide (a.f_part = b.f_part)) = true then
        m_post_key_order_k1 (decide (a.f_id < b.f_id))
      else
        m_post_key_order_k1 false
/-! funicular/post.find$1 -/
def m_post_find_1  (s : TSub) (k : Tkey) : Option Int :=
  bnd (m_post_of s) fun r0 =>
  bnd (m_post_key_order r0 k) fun r0_1 =>
  some r0_1
/-! slices.BinarySearchFunc[[]funicular/api.Sub,funicular/api.Sub,funicular/post.key] -/
def m_slices_BinarySearchFunc_api_Sub_api_Sub_post_key_k1  (x0 : (List TSub)) (target : Tkey) (i_1 : Int) : Option (Int × Bool) :=
  if (decide (i_1 < (x0.length : Int))) = true then
    bnd (nthI x0 i_1) fun e_1 =>
    bnd (m_post_find_1 e_1 target) fun r0_1 =>
    some (i_1, (decide (r0_1 = (0 : Int))))
  else
    some (i_1, false)
def m_slices_BinarySearchFunc_api_Sub_api_Sub_post_key_l1_B  (x0 : (List TSub)) (target : Tkey) (rec_m_slices_BinarySearchFunc_api_Sub_api_Sub_post_key_l1 : Int → Int → Option (Int × Bool)) (i j : Int) : Option (Int × Bool) :=
  if (decide (i < j)) = true then
    bnd (nthI x0 (IntKind.i64.wrap (shrI .u64 (IntKind.u64.wrap (IntKind.i64.wrap (i + j))) (1 : Int)))) fun e =>
    bnd (m_post_find_1 e target) fun r0 =>
    if (decide (r0 < (0 : Int))) = true then
      rec_m_slices_BinarySearchFunc_api_Sub_api_Sub_post_key_l1 (IntKind.i64.wrap ((IntKind.i64.wrap (shrI .u64 (IntKind.u64.wrap (IntKind.i64.wrap (i + j))) (1 : Int))) + (1 : Int))) j
    else
      rec_m_slices_BinarySearchFunc_api_Sub_api_Sub_post_key_l1 i (IntKind.i64.wrap (shrI .u64 (IntKind.u64.wrap (IntKind.i64.wrap (i + j))) (1 : Int)))
  else
    m_slices_BinarySearchFunc_api_Sub_api_Sub_post_key_k1 x0 target i
def m_slices_BinarySearchFunc_api_Sub_api_Sub_post_key_l1  (x0 : (List TSub)) (target : Tkey) : Nat → Int → Int → Option (Int × Bool)
  | 0, _, _ => none
  | n + 1, i, j => m_slices_BinarySearchFunc_api_Sub_api_Sub_post_key_l1_B  x0 target (m_slices_BinarySearchFunc_api_Sub_api_Sub_post_key_l1  x0 target n) i j
def m_slices_BinarySearchFunc_api_Sub_api_Sub_post_key  (x0 : (List TSub)) (target : Tkey) : Option (Int × Bool) :=
  m_slices_BinarySearchFunc_api_Sub_api_Sub_post_key_l1 x0 target (1000000) (0 : Int) (x0.length : Int)
/-! funicular/post.wide -/
def m_post_wide  (n0 : Int) : Option Bool :=
  if (decide ((1 : Int) ≤ n0)) = true then
    some (decide (n0 ≤ (1099511627776 : Int)))
  else
    some false
/-! funicular/pack.Name -/
def m_pack_Name_k3  (s : ByteArray) : Option Bool :=
  if (decide ((1 : Int) ≤ (s.size : Int))) = true then
    some (decide ((s.size : Int) ≤ (32 : Int)))
  else
    some false
def m_pack_Name_k2 (rec_m_pack_Name_l1 : Int → Option Bool) (v9 : Int) (v33 : Bool) : Option Bool :=
  if v33 = true then
    some false
  else
    rec_m_pack_Name_l1 (IntKind.i64.wrap (v9 + (1 : Int)))
def m_pack_Name_k1 (rec_m_pack_Name_l1 : Int → Option Bool) (v9 e : Int) (letter : Bool) : Option Bool :=
  if letter = true then
    m_pack_Name_k2 rec_m_pack_Name_l1 v9 false
  else
    if (decide (v9 = (0 : Int))) = true then
      m_pack_Name_k2 rec_m_pack_Name_l1 v9 true
    else
      if (decide (e < (48 : Int))) = true then
        m_pack_Name_k2 rec_m_pack_Name_l1 v9 true
      else
        m_pack_Name_k2 rec_m_pack_Name_l1 v9 (decide ((57 : Int) < e))
def m_pack_Name_l1_B  (s : ByteArray) (rec_m_pack_Name_l1 : Int → Option Bool) (v9 : Int) : Option Bool :=
  if (decide (v9 < ((bytesI s).length : Int))) = true then
    bnd (nthI (bytesI s) v9) fun e =>
    if (decide ((97 : Int) ≤ e)) = true then
      m_pack_Name_k1 rec_m_pack_Name_l1 v9 e (decide (e ≤ (122 : Int)))
    else
      m_pack_Name_k1 rec_m_pack_Name_l1 v9 e false
  else
    m_pack_Name_k3 s
def m_pack_Name_l1  (s : ByteArray) : Nat → Int → Option Bool
  | 0, _ => none
  | n + 1, v9 => m_pack_Name_l1_B  s (m_pack_Name_l1  s n) v9
def m_pack_Name  (s : ByteArray) : Option Bool :=
  m_pack_Name_l1 s (((((bytesI s).length : Int)) - ((0 : Int))).toNat + 1) (0 : Int)
/-! funicular/vars.Check -/
def m_vars_Check_k2 (rec_m_vars_Check_l1 : Int → Option Int) (v21 : Int) (v48 : Bool) : Option Int :=
  if v48 = true then
    some (1 : Int)
  else
    rec_m_vars_Check_l1 (IntKind.i64.wrap (v21 + (1 : Int)))
def m_vars_Check_k1 (rec_m_vars_Check_l1 : Int → Option Int) (v : TVars) (v21 : Int) (e : ByteArray) (v36 : Bool) : Option Int :=
  if v36 = true then
    some (1 : Int)
  else
    if (decide ((0 : Int) < v21)) = true then
      bnd (nthI v.Names (IntKind.i64.wrap (v21 - (1 : Int)))) fun e_1 =>
      m_vars_Check_k2 rec_m_vars_Check_l1 v21 (!(ltS e_1 e))
    else
      m_vars_Check_k2 rec_m_vars_Check_l1 v21 false
def m_vars_Check_l1_B  (v : TVars) (rec_m_vars_Check_l1 : Int → Option Int) (v21 : Int) : Option Int :=
  if (decide (v21 < (v.Names.length : Int))) = true then
    bnd (nthI v.Names v21) fun e =>
    bnd (m_pack_Name e) fun r0 =>
    if r0 = true then
      if (eqS e (⟨#[121, 101, 115]⟩)) = true then
        m_vars_Check_k1 rec_m_vars_Check_l1 v v21 e true
      else
        m_vars_Check_k1 rec_m_vars_Check_l1 v v21 e (eqS e (⟨#[110, 111]⟩))
    else
      m_vars_Check_k1 rec_m_vars_Check_l1 v v21 e true
  else
    some (0 : Int)
def m_vars_Check_l1  (v : TVars) : Nat → Int → Option Int
  | 0, _ => none
  | n + 1, v21 => m_vars_Check_l1_B  v (m_vars_Check_l1  v n) v21
def m_vars_Check  (v : TVars) : Option Int :=
  if (decide ((v.Names.length : Int) ≠ (v.Vals.length : Int))) = true then
    some (1 : Int)
  else
    if (decide ((64 : Int) < (v.Names.length : Int))) = true then
      some (6 : Int)
    else
      m_vars_Check_l1 v ((((v.Names.length : Int)) - ((0 : Int))).toNat + 1) (0 : Int)
/-! funicular/post.part -/
def m_post_part  (n0 : Int) : Option Bool :=
  if (decide ((0 : Int) ≤ n0)) = true then
    some (decide (n0 < (64 : Int)))
  else
    some false
/-! slices.Index[[]funicular/api.Who,funicular/api.Who] -/
def m_slices_Index_api_Who_api_Who_l1_B  (s : (List TWho)) (v : TWho) (rec_m_slices_Index_api_Who_api_Who_l1 : Int → Option Int) (v8 : Int) : Option Int :=
  if (decide (v8 < (s.length : Int))) = true then
    bnd (nthI s v8) fun e =>
    if ((decide (v.Part = e.Part)) && (decide (v.Inst = e.Inst))) = true then
      some v8
    else
      rec_m_slices_Index_api_Who_api_Who_l1 (IntKind.i64.wrap (v8 + (1 : Int)))
  else
    some (-1 : Int)
def m_slices_Index_api_Who_api_Who_l1  (s : (List TWho)) (v : TWho) : Nat → Int → Option Int
  | 0, _ => none
  | n + 1, v8 => m_slices_Index_api_Who_api_Who_l1_B  s v (m_slices_Index_api_Who_api_Who_l1  s v n) v8
def m_slices_Index_api_Who_api_Who  (s : (List TWho)) (v : TWho) : Option Int :=
  m_slices_Index_api_Who_api_Who_l1 s v ((((s.length : Int)) - ((0 : Int))).toNat + 1) (0 : Int)
/-! slices.Contains[[]funicular/api.Who,funicular/api.Who] -/
def m_slices_Contains_api_Who_api_Who  (s : (List TWho)) (v : TWho) : Option Bool :=
  bnd (m_slices_Index_api_Who_api_Who s v) fun r0 =>
  some (decide ((0 : Int) ≤ r0))
/-! funicular/post.mail -/
def m_post_mail_k2 (rec_m_post_mail_l1 : Int → Option Int) (v35 : Int) (v57 : Bool) : Option Int :=
  if v57 = true then
    some (1 : Int)
  else
    rec_m_post_mail_l1 (IntKind.i64.wrap (v35 + (1 : Int)))
def m_post_mail_l1_B  (m : TMail) (rec_m_post_mail_l1 : Int → Option Int) (v35 : Int) : Option Int :=
  if (decide (v35 < (m.Took.length : Int))) = true then
    bnd (nthI m.Took v35) fun e =>
    bnd (m_post_part e.Part) fun r0_3 =>
    if r0_3 = true then
      bnd (m_post_wide e.Inst) fun r0_4 =>
      if r0_4 = true then
        bnd (sliceL m.Took 0 v35) fun l =>
        bnd (m_slices_Contains_api_Who_api_Who l e) fun r0_5 =>
        m_post_mail_k2 rec_m_post_mail_l1 v35 r0_5
      else
        m_post_mail_k2 rec_m_post_mail_l1 v35 true
    else
      m_post_mail_k2 rec_m_post_mail_l1 v35 true
  else
    some (0 : Int)
def m_post_mail_l1  (m : TMail) : Nat → Int → Option Int
  | 0, _ => none
  | n + 1, v35 => m_post_mail_l1_B  m (m_post_mail_l1  m n) v35
def m_post_mail_k1  (m : TMail) (v25 : Bool) : Option Int :=
  if v25 = true then
    some (1 : Int)
  else
    bnd (m_vars_Check m.Vars) fun r0_2 =>
    if (decide (r0_2 ≠ (0 : Int))) = true then
      some r0_2
    else
      m_post_mail_l1 m ((((m.Took.length : Int)) - ((0 : Int))).toNat + 1) (0 : Int)
def m_post_mail  (m : TMail) : Option Int :=
  bnd (m_post_wide m.Id) fun r0 =>
  if r0 = true then
    bnd (m_pack_Name m.Name) fun r0_1 =>
    if r0_1 = true then
      if (decide (m.Until < (0 : Int))) = true then
        m_post_mail_k1 m true
      else
        m_post_mail_k1 m (decide ((1099511627776 : Int) < m.Until))
    else
      m_post_mail_k1 m true
  else
    m_post_mail_k1 m true
/-! funicular/post.sub -/
def m_post_sub  (s : TSub) : Option Bool :=
  bnd (m_post_part s.Part) fun r0 =>
  if r0 = true then
    bnd (m_post_wide s.Id) fun r0_1 =>
    if r0_1 = true then
      bnd (m_post_wide s.Inst) fun r0_2 =>
      if r0_2 = true then
        bnd (m_pack_Name s.Name) fun r0_3 =>
        if r0_3 = true then
          if (decide ((0 : Int) ≤ s.Mail)) = true then
            some (decide (s.Mail ≤ (1099511627776 : Int)))
          else
            some false
        else
          some false
      else
        some false
    else
      some false
  else
    some false
/-! funicular/post.Check -/
def m_post_Check_k4 (rec_m_post_Check_l2 : Int → Option Int) (v54 : Int) (v85 : Bool) : Option Int :=
  if v85 = true then
    some (1 : Int)
  else
    rec_m_post_Check_l2 (IntKind.i64.wrap (v54 + (1 : Int)))
def m_post_Check_l2_B  (p : TPost) (rec_m_post_Check_l2 : Int → Option Int) (v54 : Int) : Option Int :=
  if (decide (v54 < (p.Subs.length : Int))) = true then
    bnd (nthI p.Subs v54) fun e_1 =>
    bnd (m_post_sub e_1) fun r0_2 =>
    if r0_2 = true then
      if (decide (p.Next ≤ e_1.Mail)) = true then
        m_post_Check_k4 rec_m_post_Check_l2 v54 true
      else
        if (decide ((0 : Int) < v54)) = true then
          bnd (nthI p.Subs (IntKind.i64.wrap (v54 - (1 : Int)))) fun e_2 =>
          bnd (m_post_of e_2) fun r0_3 =>
          bnd (m_post_of e_1) fun r0_4 =>
          bnd (m_post_key_order r0_3 r0_4) fun r0_5 =>
          m_post_Check_k4 rec_m_post_Check_l2 v54 (decide ((0 : Int) ≤ r0_5))
        else
          m_post_Check_k4 rec_m_post_Check_l2 v54 false
    else
      m_post_Check_k4 rec_m_post_Check_l2 v54 true
  else
    some (0 : Int)
def m_post_Check_l2  (p : TPost) : Nat → Int → Option Int
  | 0, _ => none
  | n + 1, v54 => m_post_Check_l2_B  p (m_post_Check_l2  p n) v54
def m_post_Check_k3  (p : TPost) : Option Int :=
  m_post_Check_l2 p ((((p.Subs.length : Int)) - ((0 : Int))).toNat + 1) (0 : Int)
def m_post_Check_k2 (rec_m_post_Check_l1 : Int → Int → Option Int) (v28 : Int) (e : TMail) (v47 : Bool) : Option Int :=
  if v47 = true then
    some (1 : Int)
  else
    rec_m_post_Check_l1 e.Id (IntKind.i64.wrap (v28 + (1 : Int)))
def m_post_Check_l1_B  (p : TPost) (rec_m_post_Check_l1 : Int → Int → Option Int) (last v28 : Int) : Option Int :=
  if (decide (v28 < (p.Mails.length : Int))) = true then
    bnd (nthI p.Mails v28) fun e =>
    bnd (m_post_mail e) fun r0_1 =>
    if (decide (r0_1 ≠ (0 : Int))) = true then
      some r0_1
    else
      if (decide (e.Id ≤ last)) = true then
        m_post_Check_k2 rec_m_post_Check_l1 v28 e true
      else
        m_post_Check_k2 rec_m_post_Check_l1 v28 e (decide (p.Next ≤ e.Id))
  else
    m_post_Check_k3 p
def m_post_Check_l1  (p : TPost) : Nat → Int → Int → Option Int
  | 0, _, _ => none
  | n + 1, last, v28 => m_post_Check_l1_B  p (m_post_Check_l1  p n) last v28
def m_post_Check_k1  (p : TPost) (v14 : Bool) : Option Int :=
  if v14 = true then
    some (6 : Int)
  else
    m_post_Check_l1 p ((((p.Mails.length : Int)) - ((0 : Int))).toNat + 1) (0 : Int) (0 : Int)
def m_post_Check  (p : TPost) : Option Int :=
  bnd (m_post_wide p.Next) fun r0 =>
  if r0 = true then
    if (decide ((4096 : Int) < (p.Mails.length : Int))) = true then
      m_post_Check_k1 p true
    else
      m_post_Check_k1 p (decide ((4096 : Int) < (p.Subs.length : Int)))
  else
    some (1 : Int)
/-! funicular/funicularref22.in -/
/-! funicular/funicularref02.Name -/
/-! funicular/funicularref09.Check -/
/-! funicular/funicularref22.took -/
/-! funicular/funicularref22.Mail -/
/-! funicular/funicularref22.Sub -/
/-! funicular/funicularref22.ahead -/
/-! funicular/funicularref22.Check -/
/-! funicular/funicularref08.Texts -/
/-! funicular/funicularref09.Same -/
/-! funicular/funicularref22.sameMail -/
/-! funicular/funicularref22.Same -/
/-! funicular/funicularref22.Weight -/
/-! funicular/funicularlaw22.light -/
/-! funicular/funicularlaw22.may -/
/-! funicular/post.Publish$1 -/
def m_post_Publish_1  (e : Int) : Option (TPost × Int × (List THit) × Int) :=
  some ((TPost.mk (0 : Int) ([]) ([])), (0 : Int), [], e)
/-! funicular/post.suits -/
def m_post_suits  (m : TMail) (s : TSub) : Option Bool :=
  if (decide (s.Mail = (0 : Int))) = true then
    if (eqS s.Name m.Name) = true then
      if (decide (s.Key = m.Key)) = true then
        bnd (m_slices_Contains_api_Who_api_Who m.Took (TWho.mk s.Part s.Inst)) fun r0 =>
        some (!r0)
      else
        some false
    else
      some false
  else
    some false
/-! funicular/post.Publish -/
def m_post_Publish_k4  (r0_6 : TPost) (out_2_1 : (List TSub)) (m_00_1 : Int) (hits_1 : (List THit)) (out_1 : (List TMail)) : Option (TPost × Int × (List THit) × Int) :=
  some ((TPost.mk (IntKind.i64.wrap (r0_6.Next + (1 : Int))) out_1 out_2_1), m_00_1, hits_1, (0 : Int))
def m_post_Publish_k3  (keep : Int) (r0_6 : TPost) (out_2_1 : (List TSub)) (m_00_1 : Int) (m_10_1 : ByteArray) (m_20_1 : Int) (m_30_1 : (List ByteArray)) (m_40_1 : (List Int)) (m_50_1 : Int) (m_60_1 : (List TWho)) (hits_1 : (List THit)) : Option (TPost × Int × (List THit) × Int) :=
  if (decide ((0 : Int) < keep)) = true then
    if (capB ((r0_6.Mails).length + 1)) = true then 
      m_post_Publish_k4 r0_6 out_2_1 m_00_1 hits_1 (r0_6.Mails ++ [(TMail.mk m_00_1 m_10_1 m_20_1 (TVars.mk m_30_1 m_40_1) m_50_1 m_60_1)])
     else none
  else
    m_post_Publish_k4 r0_6 out_2_1 m_00_1 hits_1 r0_6.Mails
def m_post_Publish_l1_B  (keep : Int) (r0_6 : TPost) (rec_m_post_Publish_l1 : Int → (List TSub) → Int → ByteArray → Int → (List ByteArray) → (List Int) → Int → (List TWho) → (List THit) → Option (TPost × Int × (List THit) × Int)) (v105 : Int) (out_2 : (List TSub)) (m_00 : Int) (m_10 : ByteArray) (m_20 : Int) (m_30 : (List ByteArray)) (m_40 : (List Int)) (m_50 : Int) (m_60 : (List TWho)) (hits : (List THit)) : Option (TPost × Int × (List THit) × Int) :=
  if (decide (v105 < (((r0_6.Subs).length : Nat) : Int))) = true then
    bnd (nthI out_2 v105) fun e =>
    bnd (m_post_suits (TMail.mk m_00 m_10 m_20 (TVars.mk m_30 m_40) m_50 m_60) e) fun r0_8 =>
    if r0_8 = true then
      bnd (m_post_give_v1 v105 (TMail.mk m_00 m_10 m_20 (TVars.mk m_30 m_40) m_50 m_60) out_2) fun r0_9 =>
      if (decide ((r0_9.2.2).length = (out_2).length)) = true then 
        if (capB (hits.length + 1)) = true then 
          rec_m_post_Publish_l1 (IntKind.i64.wrap (v105 + (1 : Int))) r0_9.2.2 r0_9.2.1.Id r0_9.2.1.Name r0_9.2.1.Key r0_9.2.1.Vars.Names r0_9.2.1.Vars.Vals r0_9.2.1.Until r0_9.2.1.Took (hits ++ [r0_9.1])
         else none
       else none
    else
      rec_m_post_Publish_l1 (IntKind.i64.wrap (v105 + (1 : Int))) out_2 m_00 m_10 m_20 m_30 m_40 m_50 m_60 hits
  else
    m_post_Publish_k3 keep r0_6 out_2 m_00 m_10 m_20 m_30 m_40 m_50 m_60 hits
def m_post_Publish_l1  (keep : Int) (r0_6 : TPost) : Nat → Int → (List TSub) → Int → ByteArray → Int → (List ByteArray) → (List Int) → Int → (List TWho) → (List THit) → Option (TPost × Int × (List THit) × Int)
  | 0, _, _, _, _, _, _, _, _, _, _ => none
  | n + 1, v105, out_2, m_00, m_10, m_20, m_30, m_40, m_50, m_60, hits => m_post_Publish_l1_B  keep r0_6 (m_post_Publish_l1  keep r0_6 n) v105 out_2 m_00 m_10 m_20 m_30 m_40 m_50 m_60 hits
def m_post_Publish_k2  (p : TPost) (name : ByteArray) (k : Int) (v : TVars) (now keep : Int) (v79 : Bool) : Option (TPost × Int × (List THit) × Int) :=
  if v79 = true then
    bnd (m_post_Publish_1 (14 : Int)) fun r0_5 =>
    some (r0_5.1, r0_5.2.1, r0_5.2.2.1, r0_5.2.2.2)
  else
    bnd (m_post_Copy p) fun r0_6 =>
    bnd (m_vars_Copy v) fun r0_7 =>
    m_post_Publish_l1 keep r0_6 ((((((r0_6.Subs).length : Nat) : Int)) - ((0 : Int))).toNat + 1) (0 : Int) r0_6.Subs p.Next name k r0_7.Names r0_7.Vals (IntKind.i64.wrap (now + keep)) ([]) ([])
def m_post_Publish_k1  (p : TPost) (name : ByteArray) (k : Int) (v : TVars) (now keep : Int) (v33 : Bool) : Option (TPost × Int × (List THit) × Int) :=
  if v33 = true then
    bnd (m_post_Publish_1 (2 : Int)) fun r0_1 =>
    some (r0_1.1, r0_1.2.1, r0_1.2.2.1, r0_1.2.2.2)
  else
    bnd (m_vars_Check v) fun r0_3 =>
    if (decide (r0_3 ≠ (0 : Int))) = true then
      bnd (m_post_Publish_1 r0_3) fun r0_4 =>
      some (r0_4.1, r0_4.2.1, r0_4.2.2.1, r0_4.2.2.2)
    else
      if (decide ((1099511627776 : Int) ≤ p.Next)) = true then
        m_post_Publish_k2 p name k v now keep true
      else
        if (decide ((0 : Int) < keep)) = true then
          m_post_Publish_k2 p name k v now keep (decide ((4096 : Int) ≤ (p.Mails.length : Int)))
        else
          m_post_Publish_k2 p name k v now keep false
def m_post_Publish  (p : TPost) (name : ByteArray) (k : Int) (v : TVars) (now : Int) (keep : Int) : Option (TPost × Int × (List THit) × Int) :=
  bnd (m_pack_Name name) fun r0 =>
  if r0 = true then
    if (decide (now < (0 : Int))) = true then
      m_post_Publish_k1 p name k v now keep true
    else
      if (decide ((1099511627776 : Int) < now)) = true then
        m_post_Publish_k1 p name k v now keep true
      else
        if (decide (keep < (0 : Int))) = true then
          m_post_Publish_k1 p name k v now keep true
        else
          m_post_Publish_k1 p name k v now keep (decide ((IntKind.i64.wrap ((1099511627776 : Int) - now)) < keep))
  else
    bnd (m_post_Publish_1 (1 : Int)) fun r0_2 =>
    some (r0_2.1, r0_2.2.1, r0_2.2.2.1, r0_2.2.2.2)
/-! funicular/funicularref22.suits -/
/-! funicular/funicularref22.hit -/
/-! funicular/funicularref22.and -/
/-! funicular/funicularref22.Publish -/
/-! funicular/funicularref22.Hits -/
/-! funicular/post.find -/
def m_post_find  (p : TPost) (k : Tkey) : Option (Int × Bool) :=
  bnd (m_slices_BinarySearchFunc_api_Sub_api_Sub_post_key p.Subs k) fun r0 =>
  some (r0.1, r0.2)
/-! funicular/post.Open -/
def m_post_Open_k2  (r0_2 : (Int × Bool)) (r0_3 : TPost) (s_0 s_1 s_2 : Int) (s_3 : ByteArray) (s_4 s_5 : Int) (out_1 : (List TMail)) (hits : (List THit)) : Option (TPost × (List THit) × Int) :=
  if (decide ((0 : Int) ≤ r0_2.1)) = true then 
    if (decide (r0_2.1 ≤ ((r0_3.Subs).length : Int))) = true then 
      if (capB ((r0_3.Subs).length + 1)) = true then 
        some ((TPost.mk r0_3.Next out_1 (insI r0_3.Subs r0_2.1 (TSub.mk s_0 s_1 s_2 s_3 s_4 s_5))), hits, (0 : Int))
       else none
     else none
   else none
def m_post_Open_l1_B  (s : TSub) (r0_2 : (Int × Bool)) (r0_3 : TPost) (rec_m_post_Open_l1 : Int → Option (TPost × (List THit) × Int)) (v43 : Int) : Option (TPost × (List THit) × Int) :=
  if (decide (v43 < (((r0_3.Mails).length : Nat) : Int))) = true then
    bnd (nthI r0_3.Mails v43) fun e =>
    bnd (m_post_suits e s) fun r0_4 =>
    if r0_4 = true then
      bnd (m_post_give_v2 v43 s r0_3.Mails) fun r0_5 =>
      if (decide ((r0_5.2.2).length = (r0_3.Mails).length)) = true then 
        m_post_Open_k2 r0_2 r0_3 r0_5.2.1.Part r0_5.2.1.Id r0_5.2.1.Inst r0_5.2.1.Name r0_5.2.1.Key r0_5.2.1.Mail r0_5.2.2 ([r0_5.1])
       else none
    else
      rec_m_post_Open_l1 (IntKind.i64.wrap (v43 + (1 : Int)))
  else
    m_post_Open_k2 r0_2 r0_3 s.Part s.Id s.Inst s.Name s.Key s.Mail r0_3.Mails ([])
def m_post_Open_l1  (s : TSub) (r0_2 : (Int × Bool)) (r0_3 : TPost) : Nat → Int → Option (TPost × (List THit) × Int)
  | 0, _ => none
  | n + 1, v43 => m_post_Open_l1_B  s r0_2 r0_3 (m_post_Open_l1  s r0_2 r0_3 n) v43
def m_post_Open_k1  (p : TPost) (s : TSub) (v20 : Bool) : Option (TPost × (List THit) × Int) :=
  if v20 = true then
    some ((TPost.mk (0 : Int) ([]) ([])), [], (1 : Int))
  else
    bnd (m_post_of s) fun r0_1 =>
    bnd (m_post_find p r0_1) fun r0_2 =>
    if r0_2.2 = true then
      some ((TPost.mk (0 : Int) ([]) ([])), [], (10 : Int))
    else
      if (decide ((4096 : Int) ≤ (p.Subs.length : Int))) = true then
        some ((TPost.mk (0 : Int) ([]) ([])), [], (14 : Int))
      else
        bnd (m_post_Copy p) fun r0_3 =>
        m_post_Open_l1 s r0_2 r0_3 ((((((r0_3.Mails).length : Nat) : Int)) - ((0 : Int))).toNat + 1) (0 : Int)
def m_post_Open  (p : TPost) (s : TSub) : Option (TPost × (List THit) × Int) :=
  bnd (m_post_sub s) fun r0 =>
  if r0 = true then
    m_post_Open_k1 p s (decide (s.Mail ≠ (0 : Int)))
  else
    m_post_Open_k1 p s true
/-! (funicular/funicularlaw22.Op).Sub -/
def m_law22_Op_Sub  (o : TOp) : Option TSub :=
  some (TSub.mk o.Part o.Id o.Inst o.Name o.Key (0 : Int))
/-! funicular/funicularref22.Find -/
def m_ref22_Find_k1 (rec_m_ref22_Find_l1 : Int → Option Int) (i : Int) (v32 : Bool) : Option Int :=
  if v32 = true then
    some i
  else
    rec_m_ref22_Find_l1 (IntKind.i64.wrap (i + (1 : Int)))
def m_ref22_Find_l1_B  (p : TPost) (part id : Int) (rec_m_ref22_Find_l1 : Int → Option Int) (i : Int) : Option Int :=
  if (decide (i < (p.Subs.length : Int))) = true then
    bnd (nthI p.Subs i) fun e =>
    if (decide (e.Part = part)) = true then
      m_ref22_Find_k1 rec_m_ref22_Find_l1 i (decide (e.Id = id))
    else
      m_ref22_Find_k1 rec_m_ref22_Find_l1 i false
  else
    some (-1 : Int)
def m_ref22_Find_l1  (p : TPost) (part id : Int) : Nat → Int → Option Int
  | 0, _ => none
  | n + 1, i => m_ref22_Find_l1_B  p part id (m_ref22_Find_l1  p part id n) i
def m_ref22_Find  (p : TPost) (part : Int) (id : Int) : Option Int :=
  m_ref22_Find_l1 p part id ((((p.Subs.length : Int)) - ((0 : Int))).toNat + 1) (0 : Int)
/-! funicular/funicularref22.Open -/
/-! funicular/post.Close -/
def m_post_Close  (p : TPost) (part : Int) (id : Int) : Option (TPost × Int) :=
  bnd (m_post_find p (Tkey.mk part id)) fun r0 =>
  if r0.2 = true then
    bnd (m_post_Copy p) fun r0_1 =>
    if (decide ((0 : Int) ≤ r0.1)) = true then 
      if (decide (r0.1 < (IntKind.i64.wrap (r0.1 + (1 : Int))))) = true then 
        if (decide ((IntKind.i64.wrap (r0.1 + (1 : Int))) ≤ ((r0_1.Subs).length : Int))) = true then 
          if (capB ((r0_1.Subs).length)) = true then 
            some ((TPost.mk r0_1.Next r0_1.Mails (delI r0_1.Subs r0.1 (IntKind.i64.wrap (r0.1 + (1 : Int))))), (0 : Int))
           else none
         else none
       else none
     else none
  else
    some ((TPost.mk (0 : Int) ([]) ([])), (9 : Int))
/-! funicular/funicularref22.Close -/
/-! funicular/post.Expire -/
def m_post_Expire  (p : TPost) (now : Int) : Option TPost :=
  bnd (m_post_Copy p) fun r0 =>
  bnd (m_slices_DeleteFunc_api_Mail_api_Mail r0.Mails now) fun r0_1 =>
  some (TPost.mk r0.Next r0_1 r0.Subs)
/-! funicular/funicularref22.Expire -/
/-! funicular/funicularlaw22.lightOps -/
def m_law22_lightOps_k1 (rec_m_law22_lightOps_l1 : Int → Option Bool) (i : Int) (v39 : Bool) : Option Bool :=
  if v39 = true then
    some false
  else
    rec_m_law22_lightOps_l1 (IntKind.i64.wrap (i + (1 : Int)))
def m_law22_lightOps_l1_B  (l : (List TOp)) (rec_m_law22_lightOps_l1 : Int → Option Bool) (i : Int) : Option Bool :=
  if (decide (i < (l.length : Int))) = true then
    bnd (nthI l i) fun e =>
    if (decide ((20 : Int) < (e.Vars.Names.length : Int))) = true then
      m_law22_lightOps_k1 rec_m_law22_lightOps_l1 i true
    else
      if (decide ((20 : Int) < (e.Vars.Vals.length : Int))) = true then
        m_law22_lightOps_k1 rec_m_law22_lightOps_l1 i true
      else
        m_law22_lightOps_k1 rec_m_law22_lightOps_l1 i (decide ((100 : Int) < (e.Name.size : Int)))
  else
    some true
def m_law22_lightOps_l1  (l : (List TOp)) : Nat → Int → Option Bool
  | 0, _ => none
  | n + 1, i => m_law22_lightOps_l1_B  l (m_law22_lightOps_l1  l n) i
def m_law22_lightOps  (l : (List TOp)) : Option Bool :=
  if (decide ((60 : Int) < (l.length : Int))) = true then
    some false
  else
    m_law22_lightOps_l1 l ((((l.length : Int)) - ((0 : Int))).toNat + 1) (0 : Int)
/-! funicular/post.New -/
def m_post_New   : Option TPost :=
  some (TPost.mk (1 : Int) ([]) ([]))
/-! funicular/funicularlaw22.step -/
def m_law22_step_k1  (p : TPost) : Option (TPost × (List THit)) :=
  some (p, [])
def m_law22_step  (p : TPost) (o : TOp) : Option (TPost × (List THit)) :=
  if (decide (o.Kind = (0 : Int))) = true then
    bnd (m_post_Publish p o.Name o.Key o.Vars o.Now o.Keep) fun r0 =>
    if (decide (r0.2.2.2 = (0 : Int))) = true then
      some (r0.1, r0.2.2.1)
    else
      m_law22_step_k1 p
  else
    if (decide (o.Kind = (1 : Int))) = true then
      bnd (m_law22_Op_Sub o) fun r0_1 =>
      bnd (m_post_Open p r0_1) fun r0_2 =>
      if (decide (r0_2.2.2 = (0 : Int))) = true then
        some (r0_2.1, r0_2.2.1)
      else
        m_law22_step_k1 p
    else
      if (decide (o.Kind = (2 : Int))) = true then
        bnd (m_post_Close p o.Part o.Id) fun r0_3 =>
        if (decide (r0_3.2 = (0 : Int))) = true then
          some (r0_3.1, [])
        else
          m_law22_step_k1 p
      else
        if (decide (o.Kind = (3 : Int))) = true then
          bnd (m_post_Expire p o.Now) fun r0_4 =>
          some (r0_4, [])
        else
          m_law22_step_k1 p
/-! funicular/funicularlaw22.works: reckoned by the kernel -/
def m_law22_works : Option Bool := some true
/-! funicular/funicularlaw22.PostDoes -/
/-! funicular/funicularlaw22.PostOnce -/
def m_law22_PostOnce_k5   : Option Bool :=
  bnd (m_law22_works ) fun r0_7 =>
  some r0_7
def m_law22_PostOnce_k4 (rec_m_law22_PostOnce_l1 : Int → Int → (List TMail) → (List TSub) → (List Int) → (List TWho) → Option Bool) (i : Int) (r0_3 : (TPost × (List THit))) (mails_2 : (List Int)) (whos_2 : (List TWho)) : Option Bool :=
  rec_m_law22_PostOnce_l1 (IntKind.i64.wrap (i + (1 : Int))) r0_3.1.Next r0_3.1.Mails r0_3.1.Subs mails_2 whos_2
def m_law22_PostOnce_k3 (rec_m_law22_PostOnce_l2 : Int → (List Int) → (List TWho) → Option Bool) (r0_3 : (TPost × (List THit))) (k : Int) (mails_1 : (List Int)) (whos_1 : (List TWho)) (e_4 : THit) (e_5 : TSub) : Option Bool :=
  bnd (nthI r0_3.2 k) fun e_9 =>
  if (capB (mails_1.length + 1)) = true then 
    if (capB (whos_1.length + 1)) = true then 
      rec_m_law22_PostOnce_l2 (IntKind.i64.wrap (k + (1 : Int))) (mails_1 ++ [e_9.Mail]) (whos_1 ++ [(TWho.mk e_4.Part e_5.Inst)])
     else none
   else none
def m_law22_PostOnce_k2 (rec_m_law22_PostOnce_l3 : Int → Option Bool) (j : Int) (v131 : Bool) : Option Bool :=
  if v131 = true then
    some false
  else
    rec_m_law22_PostOnce_l3 (IntKind.i64.wrap (j + (1 : Int)))
def m_law22_PostOnce_l3_B (rec_m_law22_PostOnce_l2 : Int → (List Int) → (List TWho) → Option Bool) (r0_3 : (TPost × (List THit))) (k : Int) (mails_1 : (List Int)) (whos_1 : (List TWho)) (e_4 : THit) (e_5 : TSub) (rec_m_law22_PostOnce_l3 : Int → Option Bool) (j : Int) : Option Bool :=
  if (decide (j < ((mails_1.length : Nat) : Int))) = true then
    bnd (nthI mails_1 j) fun e_6 =>
    bnd (nthI r0_3.2 k) fun e_7 =>
    if (decide (e_6 = e_7.Mail)) = true then
      bnd (nthI whos_1 j) fun e_8 =>
      m_law22_PostOnce_k2 rec_m_law22_PostOnce_l3 j (((decide (e_8.Part = e_4.Part)) && (decide (e_8.Inst = e_5.Inst))))
    else
      m_law22_PostOnce_k2 rec_m_law22_PostOnce_l3 j false
  else
    m_law22_PostOnce_k3 rec_m_law22_PostOnce_l2 r0_3 k mails_1 whos_1 e_4 e_5
def m_law22_PostOnce_l3 (rec_m_law22_PostOnce_l2 : Int → (List Int) → (List TWho) → Option Bool) (r0_3 : (TPost × (List THit))) (k : Int) (mails_1 : (List Int)) (whos_1 : (List TWho)) (e_4 : THit) (e_5 : TSub) : Nat → Int → Option Bool
  | 0, _ => none
  | n + 1, j => m_law22_PostOnce_l3_B rec_m_law22_PostOnce_l2 r0_3 k mails_1 whos_1 e_4 e_5 (m_law22_PostOnce_l3 rec_m_law22_PostOnce_l2 r0_3 k mails_1 whos_1 e_4 e_5 n) j
def m_law22_PostOnce_k1 (rec_m_law22_PostOnce_l2 : Int → (List Int) → (List TWho) → Option Bool) (r0_3 : (TPost × (List THit))) (k : Int) (mails_1 : (List Int)) (whos_1 : (List TWho)) (r0_5 : Int) (v95 : Bool) : Option Bool :=
  if v95 = true then
    some false
  else
    bnd (nthI r0_3.2 k) fun e_4 =>
    bnd (nthI r0_3.1.Subs r0_5) fun e_5 =>
    m_law22_PostOnce_l3 rec_m_law22_PostOnce_l2 r0_3 k mails_1 whos_1 e_4 e_5 (((((mails_1.length : Nat) : Int)) - ((0 : Int))).toNat + 1) (0 : Int)
def m_law22_PostOnce_l2_B (rec_m_law22_PostOnce_l1 : Int → Int → (List TMail) → (List TSub) → (List Int) → (List TWho) → Option Bool) (i p_0 : Int) (p_1 : (List TMail)) (p_2 : (List TSub)) (r0_3 : (TPost × (List THit))) (rec_m_law22_PostOnce_l2 : Int → (List Int) → (List TWho) → Option Bool) (k : Int) (mails_1 : (List Int)) (whos_1 : (List TWho)) : Option Bool :=
  if (decide (k < (r0_3.2.length : Int))) = true then
    bnd (nthI r0_3.2 k) fun e_1 =>
    bnd (m_ref22_Find r0_3.1 e_1.Part e_1.Sub) fun r0_5 =>
    bnd (m_ref22_Find (TPost.mk p_0 p_1 p_2) e_1.Part e_1.Sub) fun r0_6 =>
    if (decide (r0_5 < (0 : Int))) = true then
      m_law22_PostOnce_k1 rec_m_law22_PostOnce_l2 r0_3 k mails_1 whos_1 r0_5 true
    else
      bnd (nthI r0_3.1.Subs r0_5) fun e_2 =>
      if (decide (e_2.Mail ≠ e_1.Mail)) = true then
        m_law22_PostOnce_k1 rec_m_law22_PostOnce_l2 r0_3 k mails_1 whos_1 r0_5 true
      else
        if (decide ((0 : Int) ≤ r0_6)) = true then
          bnd (nthI p_2 r0_6) fun e_3 =>
          m_law22_PostOnce_k1 rec_m_law22_PostOnce_l2 r0_3 k mails_1 whos_1 r0_5 (decide (e_3.Mail ≠ (0 : Int)))
        else
          m_law22_PostOnce_k1 rec_m_law22_PostOnce_l2 r0_3 k mails_1 whos_1 r0_5 false
  else
    m_law22_PostOnce_k4 rec_m_law22_PostOnce_l1 i r0_3 mails_1 whos_1
def m_law22_PostOnce_l2 (rec_m_law22_PostOnce_l1 : Int → Int → (List TMail) → (List TSub) → (List Int) → (List TWho) → Option Bool) (i p_0 : Int) (p_1 : (List TMail)) (p_2 : (List TSub)) (r0_3 : (TPost × (List THit))) : Nat → Int → (List Int) → (List TWho) → Option Bool
  | 0, _, _, _ => none
  | n + 1, k, mails_1, whos_1 => m_law22_PostOnce_l2_B rec_m_law22_PostOnce_l1 i p_0 p_1 p_2 r0_3 (m_law22_PostOnce_l2 rec_m_law22_PostOnce_l1 i p_0 p_1 p_2 r0_3 n) k mails_1 whos_1
def m_law22_PostOnce_l1_B  (l : (List TOp)) (rec_m_law22_PostOnce_l1 : Int → Int → (List TMail) → (List TSub) → (List Int) → (List TWho) → Option Bool) (i p_0 : Int) (p_1 : (List TMail)) (p_2 : (List TSub)) (mails : (List Int)) (whos : (List TWho)) : Option Bool :=
  if (decide (i < (l.length : Int))) = true then
    bnd (nthI l i) fun e =>
    bnd (m_law22_step (TPost.mk p_0 p_1 p_2) e) fun r0_3 =>
    bnd (m_post_Check r0_3.1) fun r0_4 =>
    if (decide (r0_4 ≠ (0 : Int))) = true then
      some false
    else
      m_law22_PostOnce_l2 rec_m_law22_PostOnce_l1 i p_0 p_1 p_2 r0_3 ((((r0_3.2.length : Int)) - ((0 : Int))).toNat + 1) (0 : Int) mails whos
  else
    m_law22_PostOnce_k5
def m_law22_PostOnce_l1  (l : (List TOp)) : Nat → Int → Int → (List TMail) → (List TSub) → (List Int) → (List TWho) → Option Bool
  | 0, _, _, _, _, _, _ => none
  | n + 1, i, p_0, p_1, p_2, mails, whos => m_law22_PostOnce_l1_B  l (m_law22_PostOnce_l1  l n) i p_0 p_1 p_2 mails whos
def m_law22_PostOnce  (l : (List TOp)) : Option Bool :=
  bnd (m_law22_lightOps l) fun r0 =>
  if r0 = true then
    bnd (m_post_New ) fun r0_2 =>
    m_law22_PostOnce_l1 l ((((l.length : Int)) - ((0 : Int))).toNat + 1) (0 : Int) r0_2.Next r0_2.Mails r0_2.Subs ([]) ([])
  else
    bnd (m_law22_works ) fun r0_1 =>
    some r0_1
/-! funicular/funicularlaw22.PostMeets -/
end Go.Proofs.Ytefjblgmnoheiaa.R
