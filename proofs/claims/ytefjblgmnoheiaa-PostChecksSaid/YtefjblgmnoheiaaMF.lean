/- Models of the functions. -/
import Derived.Test.YtefjblgmnoheiaaMT
set_option maxRecDepth 100000
set_option maxHeartbeats 1600000
set_option linter.unusedVariables false
set_option linter.unusedSimpArgs false
set_option linter.defProp false
noncomputable section
namespace Go.Proofs.Ytefjblgmnoheiaa.R
open Go Nat
/-! funicular/vars.Copy -/
def m_vars_Copy  (v : TVars) : Option TVars :=
  if (capB (v.Names).length) = true then 
    if (capB (v.Vals).length) = true then 
      some v
     else none
   else none
/-! funicular/post.Copy -/
def m_post_Copy_l1_B  (p : TPost) (rec_m_post_Copy_l1 : Int → (List TMail) → Option TPost) (v16 : Int) (p_1 : (List TMail)) : Option TPost :=
  if (decide (v16 < (((p.Mails).length : Nat) : Int))) = true then
    bnd (nthI p_1 v16) fun e =>
    bnd (m_vars_Copy e.Vars) fun r0 =>
    if (capB (e.Took).length) = true then 
      rec_m_post_Copy_l1 (IntKind.i64.wrap (v16 + (1 : Int))) (setI (setI p_1 v16 (TMail.mk e.Id e.Name e.Key r0 e.Until e.Took)) v16 (TMail.mk e.Id e.Name e.Key r0 e.Until e.Took))
     else none
  else
    some (TPost.mk p.Next p_1 p.Subs)
def m_post_Copy_l1  (p : TPost) : Nat → Int → (List TMail) → Option TPost
  | 0, _, _ => none
  | n + 1, v16, p_1 => m_post_Copy_l1_B  p (m_post_Copy_l1  p n) v16 p_1
def m_post_Copy  (p : TPost) : Option TPost :=
  if (capB (p.Subs).length) = true then 
    if (capB (p.Mails).length) = true then 
      m_post_Copy_l1 p ((((((p.Mails).length : Nat) : Int)) - ((0 : Int))).toNat + 1) (0 : Int) p.Mails
     else none
   else none
/-! slices.Equal[[]string,string] -/
def m_slices_Equal_string_string_l1_B  (s1 s2 : (List ByteArray)) (rec_m_slices_Equal_string_string_l1 : Int → Option Bool) (v13 : Int) : Option Bool :=
  if (decide (v13 < (s1.length : Int))) = true then
    bnd (nthI s1 v13) fun e =>
    bnd (nthI s2 v13) fun e_1 =>
    if (eqS e e_1) = true then
      rec_m_slices_Equal_string_string_l1 (IntKind.i64.wrap (v13 + (1 : Int)))
    else
      some false
  else
    some true
def m_slices_Equal_string_string_l1  (s1 s2 : (List ByteArray)) : Nat → Int → Option Bool
  | 0, _ => none
  | n + 1, v13 => m_slices_Equal_string_string_l1_B  s1 s2 (m_slices_Equal_string_string_l1  s1 s2 n) v13
def m_slices_Equal_string_string  (s1 : (List ByteArray)) (s2 : (List ByteArray)) : Option Bool :=
  if (decide ((s1.length : Int) ≠ (s2.length : Int))) = true then
    some false
  else
    m_slices_Equal_string_string_l1 s1 s2 ((((s1.length : Int)) - ((0 : Int))).toNat + 1) (0 : Int)
/-! slices.Equal[[]int64,int64] -/
def m_slices_Equal_int64_int64_l1_B  (s1 s2 : (List Int)) (rec_m_slices_Equal_int64_int64_l1 : Int → Option Bool) (v13 : Int) : Option Bool :=
  if (decide (v13 < (s1.length : Int))) = true then
    bnd (nthI s1 v13) fun e =>
    bnd (nthI s2 v13) fun e_1 =>
    if (decide (e ≠ e_1)) = true then
      some false
    else
      rec_m_slices_Equal_int64_int64_l1 (IntKind.i64.wrap (v13 + (1 : Int)))
  else
    some true
def m_slices_Equal_int64_int64_l1  (s1 s2 : (List Int)) : Nat → Int → Option Bool
  | 0, _ => none
  | n + 1, v13 => m_slices_Equal_int64_int64_l1_B  s1 s2 (m_slices_Equal_int64_int64_l1  s1 s2 n) v13
def m_slices_Equal_int64_int64  (s1 : (List Int)) (s2 : (List Int)) : Option Bool :=
  if (decide ((s1.length : Int) ≠ (s2.length : Int))) = true then
    some false
  else
    m_slices_Equal_int64_int64_l1 s1 s2 ((((s1.length : Int)) - ((0 : Int))).toNat + 1) (0 : Int)
/-! funicular/vars.Same -/
def m_vars_Same  (a : TVars) (b : TVars) : Option Bool :=
  bnd (m_slices_Equal_string_string a.Names b.Names) fun r0 =>
  if r0 = true then
    bnd (m_slices_Equal_int64_int64 a.Vals b.Vals) fun r0_1 =>
    some r0_1
  else
    some false
/-! slices.Equal[[]funicular/api.Who,funicular/api.Who] -/
def m_slices_Equal_api_Who_api_Who_l1_B  (s1 s2 : (List TWho)) (rec_m_slices_Equal_api_Who_api_Who_l1 : Int → Option Bool) (v13 : Int) : Option Bool :=
  if (decide (v13 < (s1.length : Int))) = true then
    bnd (nthI s1 v13) fun e =>
    bnd (nthI s2 v13) fun e_1 =>
    if ((decide (e.Part = e_1.Part)) && (decide (e.Inst = e_1.Inst))) = true then
      rec_m_slices_Equal_api_Who_api_Who_l1 (IntKind.i64.wrap (v13 + (1 : Int)))
    else
      some false
  else
    some true
def m_slices_Equal_api_Who_api_Who_l1  (s1 s2 : (List TWho)) : Nat → Int → Option Bool
  | 0, _ => none
  | n + 1, v13 => m_slices_Equal_api_Who_api_Who_l1_B  s1 s2 (m_slices_Equal_api_Who_api_Who_l1  s1 s2 n) v13
def m_slices_Equal_api_Who_api_Who  (s1 : (List TWho)) (s2 : (List TWho)) : Option Bool :=
  if (decide ((s1.length : Int) ≠ (s2.length : Int))) = true then
    some false
  else
    m_slices_Equal_api_Who_api_Who_l1 s1 s2 ((((s1.length : Int)) - ((0 : Int))).toNat + 1) (0 : Int)
/-! funicular/post.Same$1 -/
def m_post_Same_1  (x0 : TMail) (y : TMail) : Option Bool :=
  if (decide (x0.Id = y.Id)) = true then
    if (eqS x0.Name y.Name) = true then
      if (decide (x0.Key = y.Key)) = true then
        if (decide (x0.Until = y.Until)) = true then
          bnd (m_vars_Same x0.Vars y.Vars) fun r0 =>
          if r0 = true then
            bnd (m_slices_Equal_api_Who_api_Who x0.Took y.Took) fun r0_1 =>
            some r0_1
          else
            some false
        else
          some false
      else
        some false
    else
      some false
  else
    some false
/-! slices.EqualFunc[[]funicular/api.Mail,[]funicular/api.Mail,funicular/api.Mail,funicular/api.Mail] -/
def m_slices_EqualFunc_api_Mail_api_Mail_api_Mail_api_Mail_l1_B  (s1 s2 : (List TMail)) (rec_m_slices_EqualFunc_api_Mail_api_Mail_api_Mail_api_Mail_l1 : Int → Option Bool) (v17 : Int) : Option Bool :=
  if (decide (v17 < (s1.length : Int))) = true then
    bnd (nthI s1 v17) fun e =>
    bnd (nthI s2 v17) fun e_1 =>
    bnd (m_post_Same_1 e e_1) fun r0 =>
    if r0 = true then
      rec_m_slices_EqualFunc_api_Mail_api_Mail_api_Mail_api_Mail_l1 (IntKind.i64.wrap (v17 + (1 : Int)))
    else
      some false
  else
    some true
def m_slices_EqualFunc_api_Mail_api_Mail_api_Mail_api_Mail_l1  (s1 s2 : (List TMail)) : Nat → Int → Option Bool
  | 0, _ => none
  | n + 1, v17 => m_slices_EqualFunc_api_Mail_api_Mail_api_Mail_api_Mail_l1_B  s1 s2 (m_slices_EqualFunc_api_Mail_api_Mail_api_Mail_api_Mail_l1  s1 s2 n) v17
def m_slices_EqualFunc_api_Mail_api_Mail_api_Mail_api_Mail  (s1 : (List TMail)) (s2 : (List TMail)) : Option Bool :=
  if (decide ((s1.length : Int) ≠ (s2.length : Int))) = true then
    some false
  else
    m_slices_EqualFunc_api_Mail_api_Mail_api_Mail_api_Mail_l1 s1 s2 ((((s1.length : Int)) - ((0 : Int))).toNat + 1) (0 : Int)
/-! funicular/post.wide -/
def m_post_wide  (n0 : Int) : Option Bool :=
  if (decide ((1 : Int) ≤ n0)) = true then
    some (decide (n0 ≤ (1099511627776 : Int)))
  else
    some false
/-! funicular/pack.Name -/
def m_pack_Name_k3  (s : ByteArray) : Option Bool :=
  if (decide ((1 : Int) ≤ (s.size : Int))) = true then
    some (decide ((s.size : Int) ≤ (32 : Int)))
  else
    some false
def m_pack_Name_k2 (rec_m_pack_Name_l1 : Int → Option Bool) (v9 : Int) (v33 : Bool) : Option Bool :=
  if v33 = true then
    some false
  else
    rec_m_pack_Name_l1 (IntKind.i64.wrap (v9 + (1 : Int)))
def m_pack_Name_k1 (rec_m_pack_Name_l1 : Int → Option Bool) (v9 e : Int) (letter : Bool) : Option Bool :=
  if letter = true then
    m_pack_Name_k2 rec_m_pack_Name_l1 v9 false
  else
    if (decide (v9 = (0 : Int))) = true then
      m_pack_Name_k2 rec_m_pack_Name_l1 v9 true
    else
      if (decide (e < (48 : Int))) = true then
        m_pack_Name_k2 rec_m_pack_Name_l1 v9 true
      else
        m_pack_Name_k2 rec_m_pack_Name_l1 v9 (decide ((57 : Int) < e))
def m_pack_Name_l1_B  (s : ByteArray) (rec_m_pack_Name_l1 : Int → Option Bool) (v9 : Int) : Option Bool :=
  if (decide (v9 < ((bytesI s).length : Int))) = true then
    bnd (nthI (bytesI s) v9) fun e =>
    if (decide ((97 : Int) ≤ e)) = true then
      m_pack_Name_k1 rec_m_pack_Name_l1 v9 e (decide (e ≤ (122 : Int)))
    else
      m_pack_Name_k1 rec_m_pack_Name_l1 v9 e false
  else
    m_pack_Name_k3 s
def m_pack_Name_l1  (s : ByteArray) : Nat → Int → Option Bool
  | 0, _ => none
  | n + 1, v9 => m_pack_Name_l1_B  s (m_pack_Name_l1  s n) v9
def m_pack_Name  (s : ByteArray) : Option Bool :=
  m_pack_Name_l1 s (((((bytesI s).length : Int)) - ((0 : Int))).toNat + 1) (0 : Int)
/-! funicular/vars.Check -/
def m_vars_Check_k2 (rec_m_vars_Check_l1 : Int → Option Int) (v21 : Int) (v48 : Bool) : Option Int :=
  if v48 = true then
    some (1 : Int)
  else
    rec_m_vars_Check_l1 (IntKind.i64.wrap (v21 + (1 : Int)))
def m_vars_Check_k1 (rec_m_vars_Check_l1 : Int → Option Int) (v : TVars) (v21 : Int) (e : ByteArray) (v36 : Bool) : Option Int :=
  if v36 = true then
    some (1 : Int)
  else
    if (decide ((0 : Int) < v21)) = true then
      bnd (nthI v.Names (IntKind.i64.wrap (v21 - (1 : Int)))) fun e_1 =>
      m_vars_Check_k2 rec_m_vars_Check_l1 v21 (!(ltS e_1 e))
    else
      m_vars_Check_k2 rec_m_vars_Check_l1 v21 false
def m_vars_Check_l1_B  (v : TVars) (rec_m_vars_Check_l1 : Int → Option Int) (v21 : Int) : Option Int :=
  if (decide (v21 < (v.Names.length : Int))) = true then
    bnd (nthI v.Names v21) fun e =>
    bnd (m_pack_Name e) fun r0 =>
    if r0 = true then
      if (eqS e (⟨#[121, 101, 115]⟩)) = true then
        m_vars_Check_k1 rec_m_vars_Check_l1 v v21 e true
      else
        m_vars_Check_k1 rec_m_vars_Check_l1 v v21 e (eqS e (⟨#[110, 111]⟩))
    else
      m_vars_Check_k1 rec_m_vars_Check_l1 v v21 e true
  else
    some (0 : Int)
def m_vars_Check_l1  (v : TVars) : Nat → Int → Option Int
  | 0, _ => none
  | n + 1, v21 => m_vars_Check_l1_B  v (m_vars_Check_l1  v n) v21
def m_vars_Check  (v : TVars) : Option Int :=
  if (decide ((v.Names.length : Int) ≠ (v.Vals.length : Int))) = true then
    some (1 : Int)
  else
    if (decide ((64 : Int) < (v.Names.length : Int))) = true then
      some (6 : Int)
    else
      m_vars_Check_l1 v ((((v.Names.length : Int)) - ((0 : Int))).toNat + 1) (0 : Int)
/-! funicular/post.part -/
def m_post_part  (n0 : Int) : Option Bool :=
  if (decide ((0 : Int) ≤ n0)) = true then
    some (decide (n0 < (64 : Int)))
  else
    some false
/-! slices.Index[[]funicular/api.Who,funicular/api.Who] -/
def m_slices_Index_api_Who_api_Who_l1_B  (s : (List TWho)) (v : TWho) (rec_m_slices_Index_api_Who_api_Who_l1 : Int → Option Int) (v8 : Int) : Option Int :=
  if (decide (v8 < (s.length : Int))) = true then
    bnd (nthI s v8) fun e =>
    if ((decide (v.Part = e.Part)) && (decide (v.Inst = e.Inst))) = true then
      some v8
    else
      rec_m_slices_Index_api_Who_api_Who_l1 (IntKind.i64.wrap (v8 + (1 : Int)))
  else
    some (-1 : Int)
def m_slices_Index_api_Who_api_Who_l1  (s : (List TWho)) (v : TWho) : Nat → Int → Option Int
  | 0, _ => none
  | n + 1, v8 => m_slices_Index_api_Who_api_Who_l1_B  s v (m_slices_Index_api_Who_api_Who_l1  s v n) v8
def m_slices_Index_api_Who_api_Who  (s : (List TWho)) (v : TWho) : Option Int :=
  m_slices_Index_api_Who_api_Who_l1 s v ((((s.length : Int)) - ((0 : Int))).toNat + 1) (0 : Int)
/-! slices.Contains[[]funicular/api.Who,funicular/api.Who] -/
def m_slices_Contains_api_Who_api_Who  (s : (List TWho)) (v : TWho) : Option Bool :=
  bnd (m_slices_Index_api_Who_api_Who s v) fun r0 =>
  some (decide ((0 : Int) ≤ r0))
/-! funicular/post.mail -/
def m_post_mail_k2 (rec_m_post_mail_l1 : Int → Option Int) (v35 : Int) (v57 : Bool) : Option Int :=
  if v57 = true then
    some (1 : Int)
  else
    rec_m_post_mail_l1 (IntKind.i64.wrap (v35 + (1 : Int)))
def m_post_mail_l1_B  (m : TMail) (rec_m_post_mail_l1 : Int → Option Int) (v35 : Int) : Option Int :=
  if (decide (v35 < (m.Took.length : Int))) = true then
    bnd (nthI m.Took v35) fun e =>
    bnd (m_post_part e.Part) fun r0_3 =>
    if r0_3 = true then
      bnd (m_post_wide e.Inst) fun r0_4 =>
      if r0_4 = true then
        bnd (sliceL m.Took 0 v35) fun l =>
        bnd (m_slices_Contains_api_Who_api_Who l e) fun r0_5 =>
        m_post_mail_k2 rec_m_post_mail_l1 v35 r0_5
      else
        m_post_mail_k2 rec_m_post_mail_l1 v35 true
    else
      m_post_mail_k2 rec_m_post_mail_l1 v35 true
  else
    some (0 : Int)
def m_post_mail_l1  (m : TMail) : Nat → Int → Option Int
  | 0, _ => none
  | n + 1, v35 => m_post_mail_l1_B  m (m_post_mail_l1  m n) v35
def m_post_mail_k1  (m : TMail) (v25 : Bool) : Option Int :=
  if v25 = true then
    some (1 : Int)
  else
    bnd (m_vars_Check m.Vars) fun r0_2 =>
    if (decide (r0_2 ≠ (0 : Int))) = true then
      some r0_2
    else
      m_post_mail_l1 m ((((m.Took.length : Int)) - ((0 : Int))).toNat + 1) (0 : Int)
def m_post_mail  (m : TMail) : Option Int :=
  bnd (m_post_wide m.Id) fun r0 =>
  if r0 = true then
    bnd (m_pack_Name m.Name) fun r0_1 =>
    if r0_1 = true then
      if (decide (m.Until < (0 : Int))) = true then
        m_post_mail_k1 m true
      else
        m_post_mail_k1 m (decide ((1099511627776 : Int) < m.Until))
    else
      m_post_mail_k1 m true
  else
    m_post_mail_k1 m true
/-! funicular/post.sub -/
def m_post_sub  (s : TSub) : Option Bool :=
  bnd (m_post_part s.Part) fun r0 =>
  if r0 = true then
    bnd (m_post_wide s.Id) fun r0_1 =>
    if r0_1 = true then
      bnd (m_post_wide s.Inst) fun r0_2 =>
      if r0_2 = true then
        bnd (m_pack_Name s.Name) fun r0_3 =>
        if r0_3 = true then
          if (decide ((0 : Int) ≤ s.Mail)) = true then
            some (decide (s.Mail ≤ (1099511627776 : Int)))
          else
            some false
        else
          some false
      else
        some false
    else
      some false
  else
    some false
/-! funicular/post.of -/
def m_post_of  (s : TSub) : Option Tkey :=
  some (Tkey.mk s.Part s.Id)
/-! (funicular/post.key).order -/
def m_post_key_order_k1  (v9 : Bool) : Option Int :=
  if v9 = true then
    some (-1 : Int)
  else
    some (1 : Int)
def m_post_key_order  (a : Tkey) (b : Tkey) : Option Int :=
  if ((decide (a.f_part = b.f_part)) && (decide (a.f_id = b.f_id))) = true then
    some (0 : Int)
  else
    if (decide (a.f_part < b.f_part)) = true then
      m_post_key_order_k1 true
    else
      if (decide (a.f_part = b.f_part)) = true then
        m_post_key_order_k1 (decide (a.f_id < b.f_id))
      else
        m_post_key_order_k1 false
/-! funicular/post.Check -/
def m_post_Check_k4 (rec_m_post_Check_l2 : Int → Option Int) (v54 : Int) (v85 : Bool) : Option Int :=
  if v85 = true then
    some (1 : Int)
  else
    rec_m_post_Check_l2 (IntKind.i64.wrap (v54 + (1 : Int)))
def m_post_Check_l2_B  (p : TPost) (rec_m_post_Check_l2 : Int → Option Int) (v54 : Int) : Option Int :=
  if (decide (v54 < (p.Subs.length : Int))) = true then
    bnd (nthI p.Subs v54) fun e_1 =>
    bnd (m_post_sub e_1) fun r0_2 =>
    if r0_2 = true then
      if (decide (p.Next ≤ e_1.Mail)) = true then
        m_post_Check_k4 rec_m_post_Check_l2 v54 true
      else
        if (decide ((0 : Int) < v54)) = true then
          bnd (nthI p.Subs (IntKind.i64.wrap (v54 - (1 : Int)))) fun e_2 =>
          bnd (m_post_of e_2) fun r0_3 =>
          bnd (m_post_of e_1) fun r0_4 =>
          bnd (m_post_key_order r0_3 r0_4) fun r0_5 =>
          m_post_Check_k4 rec_m_post_Check_l2 v54 (decide ((0 : Int) ≤ r0_5))
        else
          m_post_Check_k4 rec_m_post_Check_l2 v54 false
    else
      m_post_Check_k4 rec_m_post_Check_l2 v54 true
  else
    some (0 : Int)
def m_post_Check_l2  (p : TPost) : Nat → Int → Option Int
  | 0, _ => none
  | n + 1, v54 => m_post_Check_l2_B  p (m_post_Check_l2  p n) v54
def m_post_Check_k3  (p : TPost) : Option Int :=
  m_post_Check_l2 p ((((p.Subs.length : Int)) - ((0 : Int))).toNat + 1) (0 : Int)
def m_post_Check_k2 (rec_m_post_Check_l1 : Int → Int → Option Int) (v28 : Int) (e : TMail) (v47 : Bool) : Option Int :=
  if v47 = true then
    some (1 : Int)
  else
    rec_m_post_Check_l1 e.Id (IntKind.i64.wrap (v28 + (1 : Int)))
def m_post_Check_l1_B  (p : TPost) (rec_m_post_Check_l1 : Int → Int → Option Int) (last v28 : Int) : Option Int :=
  if (decide (v28 < (p.Mails.length : Int))) = true then
    bnd (nthI p.Mails v28) fun e =>
    bnd (m_post_mail e) fun r0_1 =>
    if (decide (r0_1 ≠ (0 : Int))) = true then
      some r0_1
    else
      if (decide (e.Id ≤ last)) = true then
        m_post_Check_k2 rec_m_post_Check_l1 v28 e true
      else
        m_post_Check_k2 rec_m_post_Check_l1 v28 e (decide (p.Next ≤ e.Id))
  else
    m_post_Check_k3 p
def m_post_Check_l1  (p : TPost) : Nat → Int → Int → Option Int
  | 0, _, _ => none
  | n + 1, last, v28 => m_post_Check_l1_B  p (m_post_Check_l1  p n) last v28
def m_post_Check_k1  (p : TPost) (v14 : Bool) : Option Int :=
  if v14 = true then
    some (6 : Int)
  else
    m_post_Check_l1 p ((((p.Mails.length : Int)) - ((0 : Int))).toNat + 1) (0 : Int) (0 : Int)
def m_post_Check  (p : TPost) : Option Int :=
  bnd (m_post_wide p.Next) fun r0 =>
  if r0 = true then
    if (decide ((4096 : Int) < (p.Mails.length : Int))) = true then
      m_post_Check_k1 p true
    else
      m_post_Check_k1 p (decide ((4096 : Int) < (p.Subs.length : Int)))
  else
    some (1 : Int)
/-! funicular/funicularref22.in -/
def m_ref22_in  (n0 : Int) (from0 : Int) (to0 : Int) : Option Bool :=
  if (decide (from0 ≤ n0)) = true then
    some (decide (n0 ≤ to0))
  else
    some false
/-! funicular/funicularref02.Name -/
def m_ref02_Name_k4 (rec_m_ref02_Name_l1 : Int → Option Bool) (i : Int) (v50 : Bool) : Option Bool :=
  if v50 = true then
    some false
  else
    rec_m_ref02_Name_l1 (IntKind.i64.wrap (i + (1 : Int)))
def m_ref02_Name_k3 (rec_m_ref02_Name_l1 : Int → Option Bool) (i : Int) (digit letter : Bool) : Option Bool :=
  if digit = true then
    m_ref02_Name_k4 rec_m_ref02_Name_l1 i false
  else
    m_ref02_Name_k4 rec_m_ref02_Name_l1 i (!letter)
def m_ref02_Name_k2 (rec_m_ref02_Name_l1 : Int → Option Bool) (s : ByteArray) (i : Int) (digit : Bool) : Option Bool :=
  bnd (nthS s i) fun c_2 =>
  if (decide ((97 : Int) ≤ c_2)) = true then
    m_ref02_Name_k3 rec_m_ref02_Name_l1 i digit (decide (c_2 ≤ (122 : Int)))
  else
    m_ref02_Name_k3 rec_m_ref02_Name_l1 i digit false
def m_ref02_Name_l1_B  (s : ByteArray) (rec_m_ref02_Name_l1 : Int → Option Bool) (i : Int) : Option Bool :=
  if (decide (i < (s.size : Int))) = true then
    bnd (nthS s i) fun c_1 =>
    if (decide ((48 : Int) ≤ c_1)) = true then
      m_ref02_Name_k2 rec_m_ref02_Name_l1 s i (decide (c_1 ≤ (57 : Int)))
    else
      m_ref02_Name_k2 rec_m_ref02_Name_l1 s i false
  else
    some true
def m_ref02_Name_l1  (s : ByteArray) : Nat → Int → Option Bool
  | 0, _ => none
  | n + 1, i => m_ref02_Name_l1_B  s (m_ref02_Name_l1  s n) i
def m_ref02_Name_k1  (s : ByteArray) (v18 : Bool) : Option Bool :=
  if v18 = true then
    some false
  else
    m_ref02_Name_l1 s ((((s.size : Int)) - ((0 : Int))).toNat + 1) (0 : Int)
def m_ref02_Name  (s : ByteArray) : Option Bool :=
  if (decide ((s.size : Int) = (0 : Int))) = true then
    m_ref02_Name_k1 s true
  else
    if (decide ((32 : Int) < (s.size : Int))) = true then
      m_ref02_Name_k1 s true
    else
      bnd (nthS s (0 : Int)) fun c =>
      m_ref02_Name_k1 s (decide (c < (97 : Int)))
/-! funicular/funicularref09.Check -/
def m_ref09_Check_k1 (rec_m_ref09_Check_l1 : Int → Option Int) (i : Int) (v53 : Bool) : Option Int :=
  if v53 = true then
    some (1 : Int)
  else
    rec_m_ref09_Check_l1 (IntKind.i64.wrap (i + (1 : Int)))
def m_ref09_Check_l1_B  (v : TVars) (rec_m_ref09_Check_l1 : Int → Option Int) (i : Int) : Option Int :=
  if (decide (i < (v.Names.length : Int))) = true then
    bnd (nthI v.Names i) fun e =>
    bnd (m_ref02_Name e) fun r0 =>
    if r0 = true then
      if (eqS e (⟨#[121, 101, 115]⟩)) = true then
        m_ref09_Check_k1 rec_m_ref09_Check_l1 i true
      else
        if (eqS e (⟨#[110, 111]⟩)) = true then
          m_ref09_Check_k1 rec_m_ref09_Check_l1 i true
        else
          if (decide ((0 : Int) < i)) = true then
            bnd (nthI v.Names (IntKind.i64.wrap (i - (1 : Int)))) fun e_1 =>
            m_ref09_Check_k1 rec_m_ref09_Check_l1 i (!(ltS e_1 e))
          else
            m_ref09_Check_k1 rec_m_ref09_Check_l1 i false
    else
      m_ref09_Check_k1 rec_m_ref09_Check_l1 i true
  else
    some (0 : Int)
def m_ref09_Check_l1  (v : TVars) : Nat → Int → Option Int
  | 0, _ => none
  | n + 1, i => m_ref09_Check_l1_B  v (m_ref09_Check_l1  v n) i
def m_ref09_Check  (v : TVars) : Option Int :=
  if (decide ((v.Names.length : Int) ≠ (v.Vals.length : Int))) = true then
    some (1 : Int)
  else
    if (decide ((64 : Int) < (v.Names.length : Int))) = true then
      some (6 : Int)
    else
      m_ref09_Check_l1 v ((((v.Names.length : Int)) - ((0 : Int))).toNat + 1) (0 : Int)
/-! funicular/funicularref22.took -/
def m_ref22_took_k1 (rec_m_ref22_took_l1 : Int → Option Bool) (i : Int) (v29 : Bool) : Option Bool :=
  if v29 = true then
    some true
  else
    rec_m_ref22_took_l1 (IntKind.i64.wrap (i + (1 : Int)))
def m_ref22_took_l1_B  (l : (List TWho)) (part inst : Int) (rec_m_ref22_took_l1 : Int → Option Bool) (i : Int) : Option Bool :=
  if (decide (i < (l.length : Int))) = true then
    bnd (nthI l i) fun e =>
    if (decide (e.Part = part)) = true then
      m_ref22_took_k1 rec_m_ref22_took_l1 i (decide (e.Inst = inst))
    else
      m_ref22_took_k1 rec_m_ref22_took_l1 i false
  else
    some false
def m_ref22_took_l1  (l : (List TWho)) (part inst : Int) : Nat → Int → Option Bool
  | 0, _ => none
  | n + 1, i => m_ref22_took_l1_B  l part inst (m_ref22_took_l1  l part inst n) i
def m_ref22_took  (l : (List TWho)) (part : Int) (inst : Int) : Option Bool :=
  m_ref22_took_l1 l part inst ((((l.length : Int)) - ((0 : Int))).toNat + 1) (0 : Int)
/-! funicular/funicularref22.Mail -/
def m_ref22_Mail_k2 (rec_m_ref22_Mail_l1 : Int → Option Int) (i : Int) (v60 : Bool) : Option Int :=
  if v60 = true then
    some (1 : Int)
  else
    rec_m_ref22_Mail_l1 (IntKind.i64.wrap (i + (1 : Int)))
def m_ref22_Mail_l1_B  (m : TMail) (rec_m_ref22_Mail_l1 : Int → Option Int) (i : Int) : Option Int :=
  if (decide (i < (m.Took.length : Int))) = true then
    bnd (nthI m.Took i) fun e =>
    bnd (m_ref22_in e.Part (0 : Int) (63 : Int)) fun r0_4 =>
    if r0_4 = true then
      bnd (m_ref22_in e.Inst (1 : Int) (1099511627776 : Int)) fun r0_5 =>
      if r0_5 = true then
        bnd (sliceL m.Took 0 i) fun l =>
        bnd (m_ref22_took l e.Part e.Inst) fun r0_6 =>
        m_ref22_Mail_k2 rec_m_ref22_Mail_l1 i r0_6
      else
        m_ref22_Mail_k2 rec_m_ref22_Mail_l1 i true
    else
      m_ref22_Mail_k2 rec_m_ref22_Mail_l1 i true
  else
    some (0 : Int)
def m_ref22_Mail_l1  (m : TMail) : Nat → Int → Option Int
  | 0, _ => none
  | n + 1, i => m_ref22_Mail_l1_B  m (m_ref22_Mail_l1  m n) i
def m_ref22_Mail_k1  (m : TMail) (v21 : Bool) : Option Int :=
  if v21 = true then
    some (1 : Int)
  else
    bnd (m_ref09_Check m.Vars) fun r0_3 =>
    if (decide (r0_3 ≠ (0 : Int))) = true then
      some r0_3
    else
      m_ref22_Mail_l1 m ((((m.Took.length : Int)) - ((0 : Int))).toNat + 1) (0 : Int)
def m_ref22_Mail  (m : TMail) : Option Int :=
  bnd (m_ref22_in m.Id (1 : Int) (1099511627776 : Int)) fun r0 =>
  if r0 = true then
    bnd (m_ref02_Name m.Name) fun r0_1 =>
    if r0_1 = true then
      bnd (m_ref22_in m.Until (0 : Int) (1099511627776 : Int)) fun r0_2 =>
      m_ref22_Mail_k1 m (!r0_2)
    else
      m_ref22_Mail_k1 m true
  else
    m_ref22_Mail_k1 m true
/-! funicular/funicularref22.Sub -/
def m_ref22_Sub  (s : TSub) : Option Bool :=
  bnd (m_ref22_in s.Part (0 : Int) (63 : Int)) fun r0 =>
  if r0 = true then
    bnd (m_ref22_in s.Id (1 : Int) (1099511627776 : Int)) fun r0_1 =>
    if r0_1 = true then
      bnd (m_ref22_in s.Inst (1 : Int) (1099511627776 : Int)) fun r0_2 =>
      if r0_2 = true then
        bnd (m_ref02_Name s.Name) fun r0_3 =>
        if r0_3 = true then
          bnd (m_ref22_in s.Mail (0 : Int) (1099511627776 : Int)) fun r0_4 =>
          some r0_4
        else
          some false
      else
        some false
    else
      some false
  else
    some false
/-! funicular/funicularref22.ahead -/
def m_ref22_ahead  (a : TSub) (b : TSub) : Option Bool :=
  if (decide (a.Part < b.Part)) = true then
    some true
  else
    if (decide (a.Part = b.Part)) = true then
      some (decide (a.Id < b.Id))
    else
      some false
/-! funicular/funicularref22.Check -/
def m_ref22_Check_k4 (rec_m_ref22_Check_l2 : Int → Option Int) (i_1 : Int) (v108 : Bool) : Option Int :=
  if v108 = true then
    some (1 : Int)
  else
    rec_m_ref22_Check_l2 (IntKind.i64.wrap (i_1 + (1 : Int)))
def m_ref22_Check_l2_B  (p : TPost) (rec_m_ref22_Check_l2 : Int → Option Int) (i_1 : Int) : Option Int :=
  if (decide (i_1 < (p.Subs.length : Int))) = true then
    bnd (nthI p.Subs i_1) fun e_2 =>
    bnd (m_ref22_Sub e_2) fun r0_2 =>
    if r0_2 = true then
      if (decide (p.Next ≤ e_2.Mail)) = true then
        m_ref22_Check_k4 rec_m_ref22_Check_l2 i_1 true
      else
        if (decide ((0 : Int) < i_1)) = true then
          bnd (nthI p.Subs (IntKind.i64.wrap (i_1 - (1 : Int)))) fun e_3 =>
          bnd (m_ref22_ahead e_3 e_2) fun r0_3 =>
          m_ref22_Check_k4 rec_m_ref22_Check_l2 i_1 (!r0_3)
        else
          m_ref22_Check_k4 rec_m_ref22_Check_l2 i_1 false
    else
      m_ref22_Check_k4 rec_m_ref22_Check_l2 i_1 true
  else
    some (0 : Int)
def m_ref22_Check_l2  (p : TPost) : Nat → Int → Option Int
  | 0, _ => none
  | n + 1, i_1 => m_ref22_Check_l2_B  p (m_ref22_Check_l2  p n) i_1
def m_ref22_Check_k3  (p : TPost) : Option Int :=
  m_ref22_Check_l2 p ((((p.Subs.length : Int)) - ((0 : Int))).toNat + 1) (0 : Int)
def m_ref22_Check_k2 (rec_m_ref22_Check_l1 : Int → Option Int) (i : Int) (v64 : Bool) : Option Int :=
  if v64 = true then
    some (1 : Int)
  else
    rec_m_ref22_Check_l1 (IntKind.i64.wrap (i + (1 : Int)))
def m_ref22_Check_l1_B  (p : TPost) (rec_m_ref22_Check_l1 : Int → Option Int) (i : Int) : Option Int :=
  if (decide (i < (p.Mails.length : Int))) = true then
    bnd (nthI p.Mails i) fun e =>
    bnd (m_ref22_Mail e) fun r0_1 =>
    if (decide (r0_1 ≠ (0 : Int))) = true then
      some r0_1
    else
      if (decide (p.Next ≤ e.Id)) = true then
        m_ref22_Check_k2 rec_m_ref22_Check_l1 i true
      else
        if (decide ((0 : Int) < i)) = true then
          bnd (nthI p.Mails (IntKind.i64.wrap (i - (1 : Int)))) fun e_1 =>
          m_ref22_Check_k2 rec_m_ref22_Check_l1 i (decide (e.Id ≤ e_1.Id))
        else
          m_ref22_Check_k2 rec_m_ref22_Check_l1 i false
  else
    m_ref22_Check_k3 p
def m_ref22_Check_l1  (p : TPost) : Nat → Int → Option Int
  | 0, _ => none
  | n + 1, i => m_ref22_Check_l1_B  p (m_ref22_Check_l1  p n) i
def m_ref22_Check_k1  (p : TPost) (v19 : Bool) : Option Int :=
  if v19 = true then
    some (6 : Int)
  else
    m_ref22_Check_l1 p ((((p.Mails.length : Int)) - ((0 : Int))).toNat + 1) (0 : Int)
def m_ref22_Check  (p : TPost) : Option Int :=
  bnd (m_ref22_in p.Next (1 : Int) (1099511627776 : Int)) fun r0 =>
  if r0 = true then
    if (decide ((4096 : Int) < (p.Mails.length : Int))) = true then
      m_ref22_Check_k1 p true
    else
      m_ref22_Check_k1 p (decide ((4096 : Int) < (p.Subs.length : Int)))
  else
    some (1 : Int)
/-! slices.Equal[[]funicular/api.Sub,funicular/api.Sub] -/
def m_slices_Equal_api_Sub_api_Sub_l1_B  (s1 s2 : (List TSub)) (rec_m_slices_Equal_api_Sub_api_Sub_l1 : Int → Option Bool) (v13 : Int) : Option Bool :=
  if (decide (v13 < (s1.length : Int))) = true then
    bnd (nthI s1 v13) fun e =>
    bnd (nthI s2 v13) fun e_1 =>
    if ((decide (e.Part = e_1.Part)) && ((decide (e.Id = e_1.Id)) && ((decide (e.Inst = e_1.Inst)) && ((eqS e.Name e_1.Name) && ((decide (e.Key = e_1.Key)) && (decide (e.Mail = e_1.Mail))))))) = true then
      rec_m_slices_Equal_api_Sub_api_Sub_l1 (IntKind.i64.wrap (v13 + (1 : Int)))
    else
      some false
  else
    some true
def m_slices_Equal_api_Sub_api_Sub_l1  (s1 s2 : (List TSub)) : Nat → Int → Option Bool
  | 0, _ => none
  | n + 1, v13 => m_slices_Equal_api_Sub_api_Sub_l1_B  s1 s2 (m_slices_Equal_api_Sub_api_Sub_l1  s1 s2 n) v13
def m_slices_Equal_api_Sub_api_Sub  (s1 : (List TSub)) (s2 : (List TSub)) : Option Bool :=
  if (decide ((s1.length : Int) ≠ (s2.length : Int))) = true then
    some false
  else
    m_slices_Equal_api_Sub_api_Sub_l1 s1 s2 ((((s1.length : Int)) - ((0 : Int))).toNat + 1) (0 : Int)
/-! funicular/post.Same -/
def m_post_Same  (a : TPost) (b : TPost) : Option Bool :=
  if (decide (a.Next = b.Next)) = true then
    bnd (m_slices_Equal_api_Sub_api_Sub a.Subs b.Subs) fun r0 =>
    if r0 = true then
      bnd (m_slices_EqualFunc_api_Mail_api_Mail_api_Mail_api_Mail a.Mails b.Mails) fun r0_1 =>
      some r0_1
    else
      some false
  else
    some false
/-! funicular/funicularref08.Texts -/
def m_ref08_Texts_l1_B  (a b : (List ByteArray)) (rec_m_ref08_Texts_l1 : Int → Option Bool) (i : Int) : Option Bool :=
  if (decide (i < (a.length : Int))) = true then
    bnd (nthI a i) fun e =>
    bnd (nthI b i) fun e_1 =>
    if (eqS e e_1) = true then
      rec_m_ref08_Texts_l1 (IntKind.i64.wrap (i + (1 : Int)))
    else
      some false
  else
    some true
def m_ref08_Texts_l1  (a b : (List ByteArray)) : Nat → Int → Option Bool
  | 0, _ => none
  | n + 1, i => m_ref08_Texts_l1_B  a b (m_ref08_Texts_l1  a b n) i
def m_ref08_Texts  (a : (List ByteArray)) (b : (List ByteArray)) : Option Bool :=
  if (decide ((a.length : Int) ≠ (b.length : Int))) = true then
    some false
  else
    m_ref08_Texts_l1 a b ((((a.length : Int)) - ((0 : Int))).toNat + 1) (0 : Int)
/-! funicular/funicularref09.Same -/
def m_ref09_Same_l1_B  (a b : TVars) (rec_m_ref09_Same_l1 : Int → Option Bool) (i : Int) : Option Bool :=
  if (decide (i < (a.Vals.length : Int))) = true then
    bnd (nthI a.Vals i) fun e =>
    bnd (nthI b.Vals i) fun e_1 =>
    if (decide (e ≠ e_1)) = true then
      some false
    else
      rec_m_ref09_Same_l1 (IntKind.i64.wrap (i + (1 : Int)))
  else
    some true
def m_ref09_Same_l1  (a b : TVars) : Nat → Int → Option Bool
  | 0, _ => none
  | n + 1, i => m_ref09_Same_l1_B  a b (m_ref09_Same_l1  a b n) i
def m_ref09_Same_k1  (a b : TVars) (v20 : Bool) : Option Bool :=
  if v20 = true then
    some false
  else
    m_ref09_Same_l1 a b ((((a.Vals.length : Int)) - ((0 : Int))).toNat + 1) (0 : Int)
def m_ref09_Same  (a : TVars) (b : TVars) : Option Bool :=
  bnd (m_ref08_Texts a.Names b.Names) fun r0 =>
  if r0 = true then
    m_ref09_Same_k1 a b (decide ((a.Vals.length : Int) ≠ (b.Vals.length : Int)))
  else
    m_ref09_Same_k1 a b true
/-! funicular/funicularref22.sameMail -/
def m_ref22_sameMail_l1_B  (a b : TMail) (rec_m_ref22_sameMail_l1 : Int → Option Bool) (i : Int) : Option Bool :=
  if (decide (i < (a.Took.length : Int))) = true then
    bnd (nthI a.Took i) fun e =>
    bnd (nthI b.Took i) fun e_1 =>
    if ((decide (e.Part = e_1.Part)) && (decide (e.Inst = e_1.Inst))) = true then
      rec_m_ref22_sameMail_l1 (IntKind.i64.wrap (i + (1 : Int)))
    else
      some false
  else
    some true
def m_ref22_sameMail_l1  (a b : TMail) : Nat → Int → Option Bool
  | 0, _ => none
  | n + 1, i => m_ref22_sameMail_l1_B  a b (m_ref22_sameMail_l1  a b n) i
def m_ref22_sameMail_k1  (a b : TMail) (v48 : Bool) : Option Bool :=
  if v48 = true then
    some false
  else
    m_ref22_sameMail_l1 a b ((((a.Took.length : Int)) - ((0 : Int))).toNat + 1) (0 : Int)
def m_ref22_sameMail  (a : TMail) (b : TMail) : Option Bool :=
  if (decide (a.Id ≠ b.Id)) = true then
    m_ref22_sameMail_k1 a b true
  else
    if (eqS a.Name b.Name) = true then
      if (decide (a.Key ≠ b.Key)) = true then
        m_ref22_sameMail_k1 a b true
      else
        if (decide (a.Until ≠ b.Until)) = true then
          m_ref22_sameMail_k1 a b true
        else
          bnd (m_ref09_Same a.Vars b.Vars) fun r0 =>
          if r0 = true then
            m_ref22_sameMail_k1 a b (decide ((a.Took.length : Int) ≠ (b.Took.length : Int)))
          else
            m_ref22_sameMail_k1 a b true
    else
      m_ref22_sameMail_k1 a b true
/-! funicular/funicularref22.Same -/
def m_ref22_Same_l2_B  (a b : TPost) (rec_m_ref22_Same_l2 : Int → Option Bool) (i_1 : Int) : Option Bool :=
  if (decide (i_1 < (a.Subs.length : Int))) = true then
    bnd (nthI a.Subs i_1) fun e_2 =>
    bnd (nthI b.Subs i_1) fun e_3 =>
    if ((decide (e_2.Part = e_3.Part)) && ((decide (e_2.Id = e_3.Id)) && ((decide (e_2.Inst = e_3.Inst)) && ((eqS e_2.Name e_3.Name) && ((decide (e_2.Key = e_3.Key)) && (decide (e_2.Mail = e_3.Mail))))))) = true then
      rec_m_ref22_Same_l2 (IntKind.i64.wrap (i_1 + (1 : Int)))
    else
      some false
  else
    some true
def m_ref22_Same_l2  (a b : TPost) : Nat → Int → Option Bool
  | 0, _ => none
  | n + 1, i_1 => m_ref22_Same_l2_B  a b (m_ref22_Same_l2  a b n) i_1
def m_ref22_Same_k2  (a b : TPost) : Option Bool :=
  m_ref22_Same_l2 a b ((((a.Subs.length : Int)) - ((0 : Int))).toNat + 1) (0 : Int)
def m_ref22_Same_l1_B  (a b : TPost) (rec_m_ref22_Same_l1 : Int → Option Bool) (i : Int) : Option Bool :=
  if (decide (i < (a.Mails.length : Int))) = true then
    bnd (nthI a.Mails i) fun e =>
    bnd (nthI b.Mails i) fun e_1 =>
    bnd (m_ref22_sameMail e e_1) fun r0 =>
    if r0 = true then
      rec_m_ref22_Same_l1 (IntKind.i64.wrap (i + (1 : Int)))
    else
      some false
  else
    m_ref22_Same_k2 a b
def m_ref22_Same_l1  (a b : TPost) : Nat → Int → Option Bool
  | 0, _ => none
  | n + 1, i => m_ref22_Same_l1_B  a b (m_ref22_Same_l1  a b n) i
def m_ref22_Same_k1  (a b : TPost) (v29 : Bool) : Option Bool :=
  if v29 = true then
    some false
  else
    m_ref22_Same_l1 a b ((((a.Mails.length : Int)) - ((0 : Int))).toNat + 1) (0 : Int)
def m_ref22_Same  (a : TPost) (b : TPost) : Option Bool :=
  if (decide (a.Next ≠ b.Next)) = true then
    m_ref22_Same_k1 a b true
  else
    if (decide ((a.Mails.length : Int) ≠ (b.Mails.length : Int))) = true then
      m_ref22_Same_k1 a b true
    else
      m_ref22_Same_k1 a b (decide ((a.Subs.length : Int) ≠ (b.Subs.length : Int)))
/-! funicular/funicularref22.Weight -/
def m_ref22_Weight_k5 (rec_m_ref22_Weight_l2 : Int → Int → Option Int) (i_1 n0_4 : Int) : Option Int :=
  rec_m_ref22_Weight_l2 n0_4 (IntKind.i64.wrap (i_1 + (1 : Int)))
def m_ref22_Weight_k4 (rec_m_ref22_Weight_l3 : Int → Int → Option Int) (rec_m_ref22_Weight_l2 : Int → Int → Option Int) (i_1 : Int) (e_1 : TMail) (n0_3 k : Int) (v83 : Bool) : Option Int :=
  if v83 = true then
    bnd (nthI e_1.Vars.Names k) fun e_2 =>
    rec_m_ref22_Weight_l3 (IntKind.i64.wrap (n0_3 + (IntKind.i64.wrap ((e_2.size : Int).tdiv (40 : Int))))) (IntKind.i64.wrap (k + (1 : Int)))
  else
    m_ref22_Weight_k5 rec_m_ref22_Weight_l2 i_1 n0_3
def m_ref22_Weight_l3_B (rec_m_ref22_Weight_l2 : Int → Int → Option Int) (top i_1 : Int) (e_1 : TMail) (rec_m_ref22_Weight_l3 : Int → Int → Option Int) (n0_3 k : Int) : Option Int :=
  if (decide (k < (e_1.Vars.Names.length : Int))) = true then
    m_ref22_Weight_k4 rec_m_ref22_Weight_l3 rec_m_ref22_Weight_l2 i_1 e_1 n0_3 k (decide (n0_3 ≤ top))
  else
    m_ref22_Weight_k4 rec_m_ref22_Weight_l3 rec_m_ref22_Weight_l2 i_1 e_1 n0_3 k false
def m_ref22_Weight_l3 (rec_m_ref22_Weight_l2 : Int → Int → Option Int) (top i_1 : Int) (e_1 : TMail) : Nat → Int → Int → Option Int
  | 0, _, _ => none
  | n + 1, n0_3, k => m_ref22_Weight_l3_B rec_m_ref22_Weight_l2 top i_1 e_1 (m_ref22_Weight_l3 rec_m_ref22_Weight_l2 top i_1 e_1 n) n0_3 k
def m_ref22_Weight_k3 (rec_m_ref22_Weight_l2 : Int → Int → Option Int) (p : TPost) (top n0_2 i_1 : Int) (v44 : Bool) : Option Int :=
  if v44 = true then
    bnd (nthI p.Mails i_1) fun e_1 =>
    m_ref22_Weight_l3 rec_m_ref22_Weight_l2 top i_1 e_1 ((((e_1.Vars.Names.length : Int)) - ((0 : Int))).toNat + 1) (IntKind.i64.wrap ((IntKind.i64.wrap ((IntKind.i64.wrap ((IntKind.i64.wrap ((IntKind.i64.wrap (n0_2 + (1 : Int))) + (IntKind.i64.wrap ((e_1.Name.size : Int).tdiv (40 : Int))))) + (e_1.Took.length : Int))) + (e_1.Vars.Names.length : Int))) + (e_1.Vars.Vals.length : Int))) (0 : Int)
  else
    some n0_2
def m_ref22_Weight_l2_B  (p : TPost) (top : Int) (rec_m_ref22_Weight_l2 : Int → Int → Option Int) (n0_2 i_1 : Int) : Option Int :=
  if (decide (i_1 < (p.Mails.length : Int))) = true then
    m_ref22_Weight_k3 rec_m_ref22_Weight_l2 p top n0_2 i_1 (decide (n0_2 ≤ top))
  else
    m_ref22_Weight_k3 rec_m_ref22_Weight_l2 p top n0_2 i_1 false
def m_ref22_Weight_l2  (p : TPost) (top : Int) : Nat → Int → Int → Option Int
  | 0, _, _ => none
  | n + 1, n0_2, i_1 => m_ref22_Weight_l2_B  p top (m_ref22_Weight_l2  p top n) n0_2 i_1
def m_ref22_Weight_k2  (p : TPost) (top n0_1 : Int) : Option Int :=
  m_ref22_Weight_l2 p top ((((p.Mails.length : Int)) - ((0 : Int))).toNat + 1) n0_1 (0 : Int)
def m_ref22_Weight_k1 (rec_m_ref22_Weight_l1 : Int → Int → Option Int) (p : TPost) (top n0 i : Int) (v22 : Bool) : Option Int :=
  if v22 = true then
    bnd (nthI p.Subs i) fun e =>
    rec_m_ref22_Weight_l1 (IntKind.i64.wrap (n0 + (IntKind.i64.wrap ((e.Name.size : Int).tdiv (40 : Int))))) (IntKind.i64.wrap (i + (1 : Int)))
  else
    m_ref22_Weight_k2 p top n0
def m_ref22_Weight_l1_B  (p : TPost) (top : Int) (rec_m_ref22_Weight_l1 : Int → Int → Option Int) (n0 i : Int) : Option Int :=
  if (decide (i < (p.Subs.length : Int))) = true then
    m_ref22_Weight_k1 rec_m_ref22_Weight_l1 p top n0 i (decide (n0 ≤ top))
  else
    m_ref22_Weight_k1 rec_m_ref22_Weight_l1 p top n0 i false
def m_ref22_Weight_l1  (p : TPost) (top : Int) : Nat → Int → Int → Option Int
  | 0, _, _ => none
  | n + 1, n0, i => m_ref22_Weight_l1_B  p top (m_ref22_Weight_l1  p top n) n0 i
def m_ref22_Weight  (p : TPost) (top : Int) : Option Int :=
  m_ref22_Weight_l1 p top ((((p.Subs.length : Int)) - ((0 : Int))).toNat + 1) (p.Subs.length : Int) (0 : Int)
/-! funicular/funicularlaw22.light -/
def m_law22_light  (p : TPost) : Option Bool :=
  bnd (m_ref22_Weight p (200 : Int)) fun r0 =>
  some (decide (r0 ≤ (200 : Int)))
/-! funicular/funicularlaw22.works: reckoned by the kernel -/
def m_law22_works : Option Bool := some true
/-! funicular/funicularlaw22.PostChecks -/
def m_law22_PostChecks_k1  (p q : TPost) (v12 : Bool) : Option Bool :=
  if v12 = true then
    bnd (m_law22_works ) fun r0_2 =>
    some r0_2
  else
    bnd (m_post_Check p) fun r0_3 =>
    bnd (m_ref22_Check p) fun r0_4 =>
    if (decide (r0_3 = r0_4)) = true then
      bnd (m_post_Same p q) fun r0_5 =>
      bnd (m_ref22_Same p q) fun r0_6 =>
      if (r0_5 == r0_6) = true then
        bnd (m_post_Copy p) fun r0_7 =>
        bnd (m_ref22_Same r0_7 p) fun r0_8 =>
        if r0_8 = true then
          bnd (m_law22_works ) fun r0_9 =>
          some r0_9
        else
          some false
      else
        some false
    else
      some false
def m_law22_PostChecks  (p : TPost) (q : TPost) : Option Bool :=
  bnd (m_law22_light p) fun r0 =>
  if r0 = true then
    bnd (m_law22_light q) fun r0_1 =>
    m_law22_PostChecks_k1 p q (!r0_1)
  else
    m_law22_PostChecks_k1 p q true
end Go.Proofs.Ytefjblgmnoheiaa.R
