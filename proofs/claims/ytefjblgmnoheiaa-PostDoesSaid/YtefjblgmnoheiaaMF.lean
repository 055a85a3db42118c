/- Models of the functions. -/
import Derived.Test.YtefjblgmnoheiaaMT
set_option maxRecDepth 100000
set_option maxHeartbeats 1600000
set_option linter.unusedVariables false
set_option linter.unusedSimpArgs false
set_option linter.defProp false
noncomputable section
namespace Go.Proofs.Ytefjblgmnoheiaa.R
open Go Nat
/-! funicular/vars.Copy -/
def m_vars_Copy  (v : TVars) : Option TVars :=
  if (capB (v.Names).length) = true then 
    if (capB (v.Vals).length) = true then 
      some v
     else none
   else none
/-! funicular/post.Copy -/
def m_post_Copy_l1_B  (p : TPost) (rec_m_post_Copy_l1 : Int → (List TMail) → Option TPost) (v16 : Int) (p_1 : (List TMail)) : Option TPost :=
  if (decide (v16 < (((p.Mails).length : Nat) : Int))) = true then
    bnd (nthI p_1 v16) fun e =>
    bnd (m_vars_Copy e.Vars) fun r0 =>
    if (capB (e.Took).length) = true then 
      rec_m_post_Copy_l1 (IntKind.i64.wrap (v16 + (1 : Int))) (setI (setI p_1 v16 (TMail.mk e.Id e.Name e.Key r0 e.Until e.Took)) v16 (TMail.mk e.Id e.Name e.Key r0 e.Until e.Took))
     else none
  else
    some (TPost.mk p.Next p_1 p.Subs)
def m_post_Copy_l1  (p : TPost) : Nat → Int → (List TMail) → Option TPost
  | 0, _, _ => none
  | n + 1, v16, p_1 => m_post_Copy_l1_B  p (m_post_Copy_l1  p n) v16 p_1
def m_post_Copy  (p : TPost) : Option TPost :=
  if (capB (p.Subs).length) = true then 
    if (capB (p.Mails).length) = true then 
      m_post_Copy_l1 p ((((((p.Mails).length : Nat) : Int)) - ((0 : Int))).toNat + 1) (0 : Int) p.Mails
     else none
   else none
/-! funicular/post.give -/
/-! funicular/post.give -/
def m_post_give_v1  (s : Int) (m : TMail) (b2 : (List TSub)) : Option (THit × TMail × (List TSub)) :=
  bnd (nthI b2 s) fun e =>
  if (capB ((m.Took).length + 1)) = true then 
    bnd (m_vars_Copy m.Vars) fun r0 =>
    some ((THit.mk e.Part e.Id m.Id r0), (TMail.mk m.Id m.Name m.Key m.Vars m.Until (m.Took ++ [(TWho.mk e.Part e.Inst)])), (setI b2 s (TSub.mk e.Part e.Id e.Inst e.Name e.Key m.Id)))
   else none
/-! funicular/post.give -/
def m_post_give_v2  (m : Int) (s : TSub) (b0 : (List TMail)) : Option (THit × TSub × (List TMail)) :=
  bnd (nthI b0 m) fun e =>
  if (capB ((e.Took).length + 1)) = true then 
    bnd (m_vars_Copy e.Vars) fun r0 =>
    some ((THit.mk s.Part s.Id e.Id r0), (TSub.mk s.Part s.Id s.Inst s.Name s.Key e.Id), (setI b0 m (TMail.mk e.Id e.Name e.Key e.Vars e.Until (e.Took ++ [(TWho.mk s.Part s.Inst)]))))
   else none
/-! funicular/post.Expire$1 -/
def m_post_Expire_1  (m : TMail) (b0 : Int) : Option Bool :=
  some (decide (m.Until ≤ b0))
/-! slices.IndexFunc[[]funicular/api.Mail,funicular/api.Mail] -/
def m_slices_IndexFunc_api_Mail_api_Mail_l1_B  (s : (List TMail)) (b1 : Int) (rec_m_slices_IndexFunc_api_Mail_api_Mail_l1 : Int → Option Int) (v8 : Int) : Option Int :=
  if (decide (v8 < ((s.length : Nat) : Int))) = true then
    bnd (nthI s v8) fun e =>
    bnd (m_post_Expire_1 e b1) fun r0 =>
    if r0 = true then
      some v8
    else
      rec_m_slices_IndexFunc_api_Mail_api_Mail_l1 (IntKind.i64.wrap (v8 + (1 : Int)))
  else
    some (-1 : Int)
def m_slices_IndexFunc_api_Mail_api_Mail_l1  (s : (List TMail)) (b1 : Int) : Nat → Int → Option Int
  | 0, _ => none
  | n + 1, v8 => m_slices_IndexFunc_api_Mail_api_Mail_l1_B  s b1 (m_slices_IndexFunc_api_Mail_api_Mail_l1  s b1 n) v8
def m_slices_IndexFunc_api_Mail_api_Mail  (s : (List TMail)) (b1 : Int) : Option Int :=
  m_slices_IndexFunc_api_Mail_api_Mail_l1 s b1 (((((s.length : Nat) : Int)) - ((0 : Int))).toNat + 1) (0 : Int)
/-! slices.DeleteFunc[[]funicular/api.Mail,funicular/api.Mail] -/
def m_slices_DeleteFunc_api_Mail_api_Mail_k2  (i_2 : Int) (s_3 : (List TMail)) : Option (List TMail) :=
  bnd (sliceL s_3 i_2 s_3.length) fun l =>
  bnd (sliceL (clrI s_3 i_2.toNat (TMail.mk (0 : Int) (⟨#[]⟩) (0 : Int) (TVars.mk ([]) ([])) (0 : Int) ([]))) 0 i_2) fun l_1 =>
  some l_1
def m_slices_DeleteFunc_api_Mail_api_Mail_k1 (rec_m_slices_DeleteFunc_api_Mail_api_Mail_l1 : Int → Int → (List TMail) → Option (List TMail)) (j i_1 : Int) (s_2 : (List TMail)) : Option (List TMail) :=
  rec_m_slices_DeleteFunc_api_Mail_api_Mail_l1 i_1 (IntKind.i64.wrap (j + (1 : Int))) s_2
def m_slices_DeleteFunc_api_Mail_api_Mail_l1_B  (b1 : Int) (rec_m_slices_DeleteFunc_api_Mail_api_Mail_l1 : Int → Int → (List TMail) → Option (List TMail)) (i j : Int) (s_1 : (List TMail)) : Option (List TMail) :=
  if (decide (j < ((s_1.length : Nat) : Int))) = true then
    bnd (nthI s_1 j) fun e =>
    bnd (m_post_Expire_1 e b1) fun r0_1 =>
    if r0_1 = true then
      m_slices_DeleteFunc_api_Mail_api_Mail_k1 rec_m_slices_DeleteFunc_api_Mail_api_Mail_l1 j i s_1
    else
      bnd (nthI s_1 i) fun e_1 =>
      m_slices_DeleteFunc_api_Mail_api_Mail_k1 rec_m_slices_DeleteFunc_api_Mail_api_Mail_l1 j (IntKind.i64.wrap (i + (1 : Int))) (setI s_1 i e)
  else
    m_slices_DeleteFunc_api_Mail_api_Mail_k2 i s_1
def m_slices_DeleteFunc_api_Mail_api_Mail_l1  (b1 : Int) : Nat → Int → Int → (List TMail) → Option (List TMail)
  | 0, _, _, _ => none
  | n + 1, i, j, s_1 => m_slices_DeleteFunc_api_Mail_api_Mail_l1_B  b1 (m_slices_DeleteFunc_api_Mail_api_Mail_l1  b1 n) i j s_1
def m_slices_DeleteFunc_api_Mail_api_Mail  (s : (List TMail)) (b1 : Int) : Option (List TMail) :=
  bnd (m_slices_IndexFunc_api_Mail_api_Mail s b1) fun r0 =>
  if (decide (r0 = (-1 : Int))) = true then
    some s
  else
    m_slices_DeleteFunc_api_Mail_api_Mail_l1 b1 (1000000) r0 (IntKind.i64.wrap (r0 + (1 : Int))) s
/-! funicular/post.of -/
def m_post_of  (s : TSub) : Option Tkey :=
  some (Tkey.mk s.Part s.Id)
/-! (funicular/post.key).order -/
def m_post_key_order_k1  (v9 : Bool) : Option Int :=
  if v9 = true then
    some (-1 : Int)
  else
    some (1 : Int)
def m_post_key_order  (a : Tkey) (b : Tkey) : Option Int :=
  if ((decide (a.f_part = b.f_part)) && (decide (a.f_id = b.f_id))) = true then
    some (0 : Int)
  else
    if (decide (a.f_part < b.f_part)) = true then
      m_post_key_order_k1 true
    else
      if (decide (a.f_part = b.f_part)) = true then
        m_post_key_order_k1 (decide (a.f_id < b.f_id))
      else
        m_post_key_order_k1 false
/-! funicular/post.find$1 -/
def m_post_find_1  (s : TSub) (k : Tkey) : Option Int :=
  bnd (m_post_of s) fun r0 =>
  bnd (m_post_key_order r0 k) fun r0_1 =>
  some r0_1
/-! slices.BinarySearchFunc[[]funicular/api.Sub,funicular/api.Sub,funicular/post.key] -/
def m_slices_BinarySearchFunc_api_Sub_api_Sub_post_key_k1  (x0 : (List TSub)) (target : Tkey) (i_1 : Int) : Option (Int × Bool) :=
  if (decide (i_1 < (x0.length : Int))) = true then
    bnd (nthI x0 i_1) fun e_1 =>
    bnd (m_post_find_1 e_1 target) fun r0_1 =>
    some (i_1, (decide (r0_1 = (0 : Int))))
  else
    some (i_1, false)
def m_slices_BinarySearchFunc_api_Sub_api_Sub_post_key_l1_B  (x0 : (List TSub)) (target : Tkey) (rec_m_slices_BinarySearchFunc_api_Sub_api_Sub_post_key_l1 : Int → Int → Option (Int × Bool)) (i j : Int) : Option (Int × Bool) :=
  if (decide (i < j)) = true then
    bnd (nthI x0 (IntKind.i64.wrap (shrI .u64 (IntKind.u64.wrap (IntKind.i64.wrap (i + j))) (1 : Int)))) fun e =>
    bnd (m_post_find_1 e target) fun r0 =>
    if (decide (r0 < (0 : Int))) = true then
      rec_m_slices_BinarySearchFunc_api_Sub_api_Sub_post_key_l1 (IntKind.i64.wrap ((IntKind.i64.wrap (shrI .u64 (IntKind.u64.wrap (IntKind.i64.wrap (i + j))) (1 : Int))) + (1 : Int))) j
    else
      rec_m_slices_BinarySearchFunc_api_Sub_api_Sub_post_key_l1 i (IntKind.i64.wrap (shrI .u64 (IntKind.u64.wrap (IntKind.i64.wrap (i + j))) (1 : Int)))
  else
    m_slices_BinarySearchFunc_api_Sub_api_Sub_post_key_k1 x0 target i
def m_slices_BinarySearchFunc_api_Sub_api_Sub_post_key_l1  (x0 : (List TSub)) (target : Tkey) : Nat → Int → Int → Option (Int × Bool)
  | 0, _, _ => none
  | n + 1, i, j => m_slices_BinarySearchFunc_api_Sub_api_Sub_post_key_l1_B  x0 target (m_slices_BinarySearchFunc_api_Sub_api_Sub_post_key_l1  x0 target n) i j
def m_slices_BinarySearchFunc_api_Sub_api_Sub_post_key  (x0 : (List TSub)) (target : Tkey) : Option (Int × Bool) :=
  m_slices_BinarySearchFunc_api_Sub_api_Sub_post_key_l1 x0 target (1000000) (0 : Int) (x0.length : Int)
/-! funicular/funicularref22.in -/
def m_ref22_in  (n0 : Int) (from0 : Int) (to0 : Int) : Option Bool :=
  if (decide (from0 ≤ n0)) = true then
    some (decide (n0 ≤ to0))
  else
    some false
/-! funicular/funicularref02.Name -/
def m_ref02_Name_k4 (rec_m_ref02_Name_l1 : Int → Option Bool) (i : Int) (v50 : Bool) : Option Bool :=
  if v50 = true then
    some false
  else
    rec_m_ref02_Name_l1 (IntKind.i64.wrap (i + (1 : Int)))
def m_ref02_Name_k3 (rec_m_ref02_Name_l1 : Int → Option Bool) (i : Int) (digit letter : Bool) : Option Bool :=
  if digit = true then
    m_ref02_Name_k4 rec_m_ref02_Name_l1 i false
  else
    m_ref02_Name_k4 rec_m_ref02_Name_l1 i (!letter)
def m_ref02_Name_k2 (rec_m_ref02_Name_l1 : Int → Option Bool) (s : ByteArray) (i : Int) (digit : Bool) : Option Bool :=
  bnd (nthS s i) fun c_2 =>
  if (decide ((97 : Int) ≤ c_2)) = true then
    m_ref02_Name_k3 rec_m_ref02_Name_l1 i digit (decide (c_2 ≤ (122 : Int)))
  else
    m_ref02_Name_k3 rec_m_ref02_Name_l1 i digit false
def m_ref02_Name_l1_B  (s : ByteArray) (rec_m_ref02_Name_l1 : Int → Option Bool) (i : Int) : Option Bool :=
  if (decide (i < (s.size : Int))) = true then
    bnd (nthS s i) fun c_1 =>
    if (decide ((48 : Int) ≤ c_1)) = true then
      m_ref02_Name_k2 rec_m_ref02_Name_l1 s i (decide (c_1 ≤ (57 : Int)))
    else
      m_ref02_Name_k2 rec_m_ref02_Name_l1 s i false
  else
    some true
def m_ref02_Name_l1  (s : ByteArray) : Nat → Int → Option Bool
  | 0, _ => none
  | n + 1, i => m_ref02_Name_l1_B  s (m_ref02_Name_l1  s n) i
def m_ref02_Name_k1  (s : ByteArray) (v18 : Bool) : Option Bool :=
  if v18 = true then
    some false
  else
    m_ref02_Name_l1 s ((((s.size : Int)) - ((0 : Int))).toNat + 1) (0 : Int)
def m_ref02_Name  (s : ByteArray) : Option Bool :=
  if (decide ((s.size : Int) = (0 : Int))) = true then
    m_ref02_Name_k1 s true
  else
    if (decide ((32 : Int) < (s.size : Int))) = true then
      m_ref02_Name_k1 s true
    else
      bnd (nthS s (0 : Int)) fun c =>
      m_ref02_Name_k1 s (decide (c < (97 : Int)))
/-! funicular/funicularref09.Check -/
def m_ref09_Check_k1 (rec_m_ref09_Check_l1 : Int → Option Int) (i : Int) (v53 : Bool) : Option Int :=
  if v53 = true then
    some (1 : Int)
  else
    rec_m_ref09_Check_l1 (IntKind.i64.wrap (i + (1 : Int)))
def m_ref09_Check_l1_B  (v : TVars) (rec_m_ref09_Check_l1 : Int → Option Int) (i : Int) : Option Int :=
  if (decide (i < (v.Names.length : Int))) = true then
    bnd (nthI v.Names i) fun e =>
    bnd (m_ref02_Name e) fun r0 =>
    if r0 = true then
      if (eqS e (⟨#[121, 101, 115]⟩)) = true then
        m_ref09_Check_k1 rec_m_ref09_Check_l1 i true
      else
        if (eqS e (⟨#[110, 111]⟩)) = true then
          m_ref09_Check_k1 rec_m_ref09_Check_l1 i true
        else
          if (decide ((0 : Int) < i)) = true then
            bnd (nthI v.Names (IntKind.i64.wrap (i - (1 : Int)))) fun e_1 =>
            m_ref09_Check_k1 rec_m_ref09_Check_l1 i (!(ltS e_1 e))
          else
            m_ref09_Check_k1 rec_m_ref09_Check_l1 i false
    else
      m_ref09_Check_k1 rec_m_ref09_Check_l1 i true
  else
    some (0 : Int)
def m_ref09_Check_l1  (v : TVars) : Nat → Int → Option Int
  | 0, _ => none
  | n + 1, i => m_ref09_Check_l1_B  v (m_ref09_Check_l1  v n) i
def m_ref09_Check  (v : TVars) : Option Int :=
  if (decide ((v.Names.length : Int) ≠ (v.Vals.length : Int))) = true then
    some (1 : Int)
  else
    if (decide ((64 : Int) < (v.Names.length : Int))) = true then
      some (6 : Int)
    else
      m_ref09_Check_l1 v ((((v.Names.length : Int)) - ((0 : Int))).toNat + 1) (0 : Int)
/-! funicular/funicularref22.took -/
def m_ref22_took_k1 (rec_m_ref22_took_l1 : Int → Option Bool) (i : Int) (v29 : Bool) : Option Bool :=
  if v29 = true then
    some true
  else
    rec_m_ref22_took_l1 (IntKind.i64.wrap (i + (1 : Int)))
def m_ref22_took_l1_B  (l : (List TWho)) (part inst : Int) (rec_m_ref22_took_l1 : Int → Option Bool) (i : Int) : Option Bool :=
  if (decide (i < (l.length : Int))) = true then
    bnd (nthI l i) fun e =>
    if (decide (e.Part = part)) = true then
      m_ref22_took_k1 rec_m_ref22_took_l1 i (decide (e.Inst = inst))
    else
      m_ref22_took_k1 rec_m_ref22_took_l1 i false
  else
    some false
def m_ref22_took_l1  (l : (List TWho)) (part inst : Int) : Nat → Int → Option Bool
  | 0, _ => none
  | n + 1, i => m_ref22_took_l1_B  l part inst (m_ref22_took_l1  l part inst n) i
def m_ref22_took  (l : (List TWho)) (part : Int) (inst : Int) : Option Bool :=
  m_ref22_took_l1 l part inst ((((l.length : Int)) - ((0 : Int))).toNat + 1) (0 : Int)
/-! funicular/funicularref22.Mail -/
def m_ref22_Mail_k2 (rec_m_ref22_Mail_l1 : Int → Option Int) (i : Int) (v60 : Bool) : Option Int :=
  if v60 = true then
    some (1 : Int)
  else
    rec_m_ref22_Mail_l1 (IntKind.i64.wrap (i + (1 : Int)))
def m_ref22_Mail_l1_B  (m : TMail) (rec_m_ref22_Mail_l1 : Int → Option Int) (i : Int) : Option Int :=
  if (decide (i < (m.Took.length : Int))) = true then
    bnd (nthI m.Took i) fun e =>
    bnd (m_ref22_in e.Part (0 : Int) (63 : Int)) fun r0_4 =>
    if r0_4 = true then
      bnd (m_ref22_in e.Inst (1 : Int) (1099511627776 : Int)) fun r0_5 =>
      if r0_5 = true then
        bnd (sliceL m.Took 0 i) fun l =>
        bnd (m_ref22_took l e.Part e.Inst) fun r0_6 =>
        m_ref22_Mail_k2 rec_m_ref22_Mail_l1 i r0_6
      else
        m_ref22_Mail_k2 rec_m_ref22_Mail_l1 i true
    else
      m_ref22_Mail_k2 rec_m_ref22_Mail_l1 i true
  else
    some (0 : Int)
def m_ref22_Mail_l1  (m : TMail) : Nat → Int → Option Int
  | 0, _ => none
  | n + 1, i => m_ref22_Mail_l1_B  m (m_ref22_Mail_l1  m n) i
def m_ref22_Mail_k1  (m : TMail) (v21 : Bool) : Option Int :=
  if v21 = true then
    some (1 : Int)
  else
    bnd (m_ref09_Check m.Vars) fun r0_3 =>
    if (decide (r0_3 ≠ (0 : Int))) = true then
      some r0_3
    else
      m_ref22_Mail_l1 m ((((m.Took.length : Int)) - ((0 : Int))).toNat + 1) (0 : Int)
def m_ref22_Mail  (m : TMail) : Option Int :=
  bnd (m_ref22_in m.Id (1 : Int) (1099511627776 : Int)) fun r0 =>
  if r0 = true then
    bnd (m_ref02_Name m.Name) fun r0_1 =>
    if r0_1 = true then
      bnd (m_ref22_in m.Until (0 : Int) (1099511627776 : Int)) fun r0_2 =>
      m_ref22_Mail_k1 m (!r0_2)
    else
      m_ref22_Mail_k1 m true
  else
    m_ref22_Mail_k1 m true
/-! funicular/funicularref22.Sub -/
def m_ref22_Sub  (s : TSub) : Option Bool :=
  bnd (m_ref22_in s.Part (0 : Int) (63 : Int)) fun r0 =>
  if r0 = true then
    bnd (m_ref22_in s.Id (1 : Int) (1099511627776 : Int)) fun r0_1 =>
    if r0_1 = true then
      bnd (m_ref22_in s.Inst (1 : Int) (1099511627776 : Int)) fun r0_2 =>
      if r0_2 = true then
        bnd (m_ref02_Name s.Name) fun r0_3 =>
        if r0_3 = true then
          bnd (m_ref22_in s.Mail (0 : Int) (1099511627776 : Int)) fun r0_4 =>
          some r0_4
        else
          some false
      else
        some false
    else
      some false
  else
    some false
/-! funicular/funicularref22.ahead -/
def m_ref22_ahead  (a : TSub) (b : TSub) : Option Bool :=
  if (decide (a.Part < b.Part)) = true then
    some true
  else
    if (decide (a.Part = b.Part)) = true then
      some (decide (a.Id < b.Id))
    else
      some false
/-! funicular/funicularref22.Check -/
def m_ref22_Check_k4 (rec_m_ref22_Check_l2 : Int → Option Int) (i_1 : Int) (v108 : Bool) : Option Int :=
  if v108 = true then
    some (1 : Int)
  else
    rec_m_ref22_Check_l2 (IntKind.i64.wrap (i_1 + (1 : Int)))
def m_ref22_Check_l2_B  (p : TPost) (rec_m_ref22_Check_l2 : Int → Option Int) (i_1 : Int) : Option Int :=
  if (decide (i_1 < (p.Subs.length : Int))) = true then
    bnd (nthI p.Subs i_1) fun e_2 =>
    bnd (m_ref22_Sub e_2) fun r0_2 =>
    if r0_2 = true then
      if (decide (p.Next ≤ e_2.Mail)) = true then
        m_ref22_Check_k4 rec_m_ref22_Check_l2 i_1 true
      else
        if (decide ((0 : Int) < i_1)) = true then
          bnd (nthI p.Subs (IntKind.i64.wrap (i_1 - (1 : Int)))) fun e_3 =>
          bnd (m_ref22_ahead e_3 e_2) fun r0_3 =>
          m_ref22_Check_k4 rec_m_ref22_Check_l2 i_1 (!r0_3)
        else
          m_ref22_Check_k4 rec_m_ref22_Check_l2 i_1 false
    else
      m_ref22_Check_k4 rec_m_ref22_Check_l2 i_1 true
  else
    some (0 : Int)
def m_ref22_Check_l2  (p : TPost) : Nat → Int → Option Int
  | 0, _ => none
  | n + 1, i_1 => m_ref22_Check_l2_B  p (m_ref22_Check_l2  p n) i_1
def m_ref22_Check_k3  (p : TPost) : Option Int :=
  m_ref22_Check_l2 p ((((p.Subs.length : Int)) - ((0 : Int))).toNat + 1) (0 : Int)
def m_ref22_Check_k2 (rec_m_ref22_Check_l1 : Int → Option Int) (i : Int) (v64 : Bool) : Option Int :=
  if v64 = true then
    some (1 : Int)
  else
    rec_m_ref22_Check_l1 (IntKind.i64.wrap (i + (1 : Int)))
def m_ref22_Check_l1_B  (p : TPost) (rec_m_ref22_Check_l1 : Int → Option Int) (i : Int) : Option Int :=
  if (decide (i < (p.Mails.length : Int))) = true then
    bnd (nthI p.Mails i) fun e =>
    bnd (m_ref22_Mail e) fun r0_1 =>
    if (decide (r0_1 ≠ (0 : Int))) = true then
      some r0_1
    else
      if (decide (p.Next ≤ e.Id)) = true then
        m_ref22_Check_k2 rec_m_ref22_Check_l1 i true
      else
        if (decide ((0 : Int) < i)) = true then
          bnd (nthI p.Mails (IntKind.i64.wrap (i - (1 : Int)))) fun e_1 =>
          m_ref22_Check_k2 rec_m_ref22_Check_l1 i (decide (e.Id ≤ e_1.Id))
        else
          m_ref22_Check_k2 rec_m_ref22_Check_l1 i false
  else
    m_ref22_Check_k3 p
def m_ref22_Check_l1  (p : TPost) : Nat → Int → Option Int
  | 0, _ => none
  | n + 1, i => m_ref22_Check_l1_B  p (m_ref22_Check_l1  p n) i
def m_ref22_Check_k1  (p : TPost) (v19 : Bool) : Option Int :=
  if v19 = true then
    some (6 : Int)
  else
    m_ref22_Check_l1 p ((((p.Mails.length : Int)) - ((0 : Int))).toNat + 1) (0 : Int)
def m_ref22_Check  (p : TPost) : Option Int :=
  bnd (m_ref22_in p.Next (1 : Int) (1099511627776 : Int)) fun r0 =>
  if r0 = true then
    if (decide ((4096 : Int) < (p.Mails.length : Int))) = true then
      m_ref22_Check_k1 p true
    else
      m_ref22_Check_k1 p (decide ((4096 : Int) < (p.Subs.length : Int)))
  else
    some (1 : Int)
/-! funicular/funicularref08.Texts -/
def m_ref08_Texts_l1_B  (a b : (List ByteArray)) (rec_m_ref08_Texts_l1 : Int → Option Bool) (i : Int) : Option Bool :=
  if (decide (i < (a.length : Int))) = true then
    bnd (nthI a i) fun e =>
    bnd (nthI b i) fun e_1 =>
    if (eqS e e_1) = true then
      rec_m_ref08_Texts_l1 (IntKind.i64.wrap (i + (1 : Int)))
    else
      some false
  else
    some true
def m_ref08_Texts_l1  (a b : (List ByteArray)) : Nat → Int → Option Bool
  | 0, _ => none
  | n + 1, i => m_ref08_Texts_l1_B  a b (m_ref08_Texts_l1  a b n) i
def m_ref08_Texts  (a : (List ByteArray)) (b : (List ByteArray)) : Option Bool :=
  if (decide ((a.length : Int) ≠ (b.length : Int))) = true then
    some false
  else
    m_ref08_Texts_l1 a b ((((a.length : Int)) - ((0 : Int))).toNat + 1) (0 : Int)
/-! funicular/funicularref09.Same -/
def m_ref09_Same_l1_B  (a b : TVars) (rec_m_ref09_Same_l1 : Int → Option Bool) (i : Int) : Option Bool :=
  if (decide (i < (a.Vals.length : Int))) = true then
    bnd (nthI a.Vals i) fun e =>
    bnd (nthI b.Vals i) fun e_1 =>
    if (decide (e ≠ e_1)) = true then
      some false
    else
      rec_m_ref09_Same_l1 (IntKind.i64.wrap (i + (1 : Int)))
  else
    some true
def m_ref09_Same_l1  (a b : TVars) : Nat → Int → Option Bool
  | 0, _ => none
  | n + 1, i => m_ref09_Same_l1_B  a b (m_ref09_Same_l1  a b n) i
def m_ref09_Same_k1  (a b : TVars) (v20 : Bool) : Option Bool :=
  if v20 = true then
    some false
  else
    m_ref09_Same_l1 a b ((((a.Vals.length : Int)) - ((0 : Int))).toNat + 1) (0 : Int)
def m_ref09_Same  (a : TVars) (b : TVars) : Option Bool :=
  bnd (m_ref08_Texts a.Names b.Names) fun r0 =>
  if r0 = true then
    m_ref09_Same_k1 a b (decide ((a.Vals.length : Int) ≠ (b.Vals.length : Int)))
  else
    m_ref09_Same_k1 a b true
/-! funicular/funicularref22.sameMail -/
def m_ref22_sameMail_l1_B  (a b : TMail) (rec_m_ref22_sameMail_l1 : Int → Option Bool) (i : Int) : Option Bool :=
  if (decide (i < (a.Took.length : Int))) = true then
    bnd (nthI a.Took i) fun e =>
    bnd (nthI b.Took i) fun e_1 =>
    if ((decide (e.Part = e_1.Part)) && (decide (e.Inst = e_1.Inst))) = true then
      rec_m_ref22_sameMail_l1 (IntKind.i64.wrap (i + (1 : Int)))
    else
      some false
  else
    some true
def m_ref22_sameMail_l1  (a b : TMail) : Nat → Int → Option Bool
  | 0, _ => none
  | n + 1, i => m_ref22_sameMail_l1_B  a b (m_ref22_sameMail_l1  a b n) i
def m_ref22_sameMail_k1  (a b : TMail) (v48 : Bool) : Option Bool :=
  if v48 = true then
    some false
  else
    m_ref22_sameMail_l1 a b ((((a.Took.length : Int)) - ((0 : Int))).toNat + 1) (0 : Int)
def m_ref22_sameMail  (a : TMail) (b : TMail) : Option Bool :=
  if (decide (a.Id ≠ b.Id)) = true then
    m_ref22_sameMail_k1 a b true
  else
    if (eqS a.Name b.Name) = true then
      if (decide (a.Key ≠ b.Key)) = true then
        m_ref22_sameMail_k1 a b true
      else
        if (decide (a.Until ≠ b.Until)) = true then
          m_ref22_sameMail_k1 a b true
        else
          bnd (m_ref09_Same a.Vars b.Vars) fun r0 =>
          if r0 = true then
            m_ref22_sameMail_k1 a b (decide ((a.Took.length : Int) ≠ (b.Took.length : Int)))
          else
            m_ref22_sameMail_k1 a b true
    else
      m_ref22_sameMail_k1 a b true
/-! funicular/funicularref22.Same -/
def m_ref22_Same_l2_B  (a b : TPost) (rec_m_ref22_Same_l2 : Int → Option Bool) (i_1 : Int) : Option Bool :=
  if (decide (i_1 < (a.Subs.length : Int))) = true then
    bnd (nthI a.Subs i_1) fun e_2 =>
    bnd (nthI b.Subs i_1) fun e_3 =>
    if ((decide (e_2.Part = e_3.Part)) && ((decide (e_2.Id = e_3.Id)) && ((decide (e_2.Inst = e_3.Inst)) && ((eqS e_2.Name e_3.Name) && ((decide (e_2.Key = e_3.Key)) && (decide (e_2.Mail = e_3.Mail))))))) = true then
      rec_m_ref22_Same_l2 (IntKind.i64.wrap (i_1 + (1 : Int)))
    else
      some false
  else
    some true
def m_ref22_Same_l2  (a b : TPost) : Nat → Int → Option Bool
  | 0, _ => none
  | n + 1, i_1 => m_ref22_Same_l2_B  a b (m_ref22_Same_l2  a b n) i_1
def m_ref22_Same_k2  (a b : TPost) : Option Bool :=
  m_ref22_Same_l2 a b ((((a.Subs.length : Int)) - ((0 : Int))).toNat + 1) (0 : Int)
def m_ref22_Same_l1_B  (a b : TPost) (rec_m_ref22_Same_l1 : Int → Option Bool) (i : Int) : Option Bool :=
  if (decide (i < (a.Mails.length : Int))) = true then
    bnd (nthI a.Mails i) fun e =>
    bnd (nthI b.Mails i) fun e_1 =>
    bnd (m_ref22_sameMail e e_1) fun r0 =>
    if r0 = true then
      rec_m_ref22_Same_l1 (IntKind.i64.wrap (i + (1 : Int)))
    else
      some false
  else
    m_ref22_Same_k2 a b
def m_ref22_Same_l1  (a b : TPost) : Nat → Int → Option Bool
  | 0, _ => none
  | n + 1, i => m_ref22_Same_l1_B  a b (m_ref22_Same_l1  a b n) i
def m_ref22_Same_k1  (a b : TPost) (v29 : Bool) : Option Bool :=
  if v29 = true then
    some false
  else
    m_ref22_Same_l1 a b ((((a.Mails.length : Int)) - ((0 : Int))).toNat + 1) (0 : Int)
def m_ref22_Same  (a : TPost) (b : TPost) : Option Bool :=
  if (decide (a.Next ≠ b.Next)) = true then
    m_ref22_Same_k1 a b true
  else
    if (decide ((a.Mails.length : Int) ≠ (b.Mails.length : Int))) = true then
      m_ref22_Same_k1 a b true
    else
      m_ref22_Same_k1 a b (decide ((a.Subs.length : Int) ≠ (b.Subs.length : Int)))
/-! funicular/funicularref22.Weight -/
def m_ref22_Weight_k5 (rec_m_ref22_Weight_l2 : Int → Int → Option Int) (i_1 n0_4 : Int) : Option Int :=
  rec_m_ref22_Weight_l2 n0_4 (IntKind.i64.wrap (i_1 + (1 : Int)))
def m_ref22_Weight_k4 (rec_m_ref22_Weight_l3 : Int → Int → Option Int) (rec_m_ref22_Weight_l2 : Int → Int → Option Int) (i_1 : Int) (e_1 : TMail) (n0_3 k : Int) (v83 : Bool) : Option Int :=
  if v83 = true then
    bnd (nthI e_1.Vars.Names k) fun e_2 =>
    rec_m_ref22_Weight_l3 (IntKind.i64.wrap (n0_3 + (IntKind.i64.wrap ((e_2.size : Int).tdiv (40 : Int))))) (IntKind.i64.wrap (k + (1 : Int)))
  else
    m_ref22_Weight_k5 rec_m_ref22_Weight_l2 i_1 n0_3
def m_ref22_Weight_l3_B (rec_m_ref22_Weight_l2 : Int → Int → Option Int) (top i_1 : Int) (e_1 : TMail) (rec_m_ref22_Weight_l3 : Int → Int → Option Int) (n0_3 k : Int) : Option Int :=
  if (decide (k < (e_1.Vars.Names.length : Int))) = true then
    m_ref22_Weight_k4 rec_m_ref22_Weight_l3 rec_m_ref22_Weight_l2 i_1 e_1 n0_3 k (decide (n0_3 ≤ top))
  else
    m_ref22_Weight_k4 rec_m_ref22_Weight_l3 rec_m_ref22_Weight_l2 i_1 e_1 n0_3 k false
def m_ref22_Weight_l3 (rec_m_ref22_Weight_l2 : Int → Int → Option Int) (top i_1 : Int) (e_1 : TMail) : Nat → Int → Int → Option Int
  | 0, _, _ => none
  | n + 1, n0_3, k => m_ref22_Weight_l3_B rec_m_ref22_Weight_l2 top i_1 e_1 (m_ref22_Weight_l3 rec_m_ref22_Weight_l2 top i_1 e_1 n) n0_3 k
def m_ref22_Weight_k3 (rec_m_ref22_Weight_l2 : Int → Int → Option Int) (p : TPost) (top n0_2 i_1 : Int) (v44 : Bool) : Option Int :=
  if v44 = true then
    bnd (nthI p.Mails i_1) fun e_1 =>
    m_ref22_Weight_l3 rec_m_ref22_Weight_l2 top i_1 e_1 ((((e_1.Vars.Names.length : Int)) - ((0 : Int))).toNat + 1) (IntKind.i64.wrap ((IntKind.i64.wrap ((IntKind.i64.wrap ((IntKind.i64.wrap ((IntKind.i64.wrap (n0_2 + (1 : Int))) + (IntKind.i64.wrap ((e_1.Name.size : Int).tdiv (40 : Int))))) + (e_1.Took.length : Int))) + (e_1.Vars.Names.length : Int))) + (e_1.Vars.Vals.length : Int))) (0 : Int)
  else
    some n0_2
def m_ref22_Weight_l2_B  (p : TPost) (top : Int) (rec_m_ref22_Weight_l2 : Int → Int → Option Int) (n0_2 i_1 : Int) : Option Int :=
  if (decide (i_1 < (p.Mails.length : Int))) = true then
    m_ref22_Weight_k3 rec_m_ref22_Weight_l2 p top n0_2 i_1 (decide (n0_2 ≤ top))
  else
    m_ref22_Weight_k3 rec_m_ref22_Weight_l2 p top n0_2 i_1 false
def m_ref22_Weight_l2  (p : TPost) (top : Int) : Nat → Int → Int → Option Int
  | 0, _, _ => none
  | n + 1, n0_2, i_1 => m_ref22_Weight_l2_B  p top (m_ref22_Weight_l2  p top n) n0_2 i_1
def m_ref22_Weight_k2  (p : TPost) (top n0_1 : Int) : Option Int :=
  m_ref22_Weight_l2 p top ((((p.Mails.length : Int)) - ((0 : Int))).toNat + 1) n0_1 (0 : Int)
def m_ref22_Weight_k1 (rec_m_ref22_Weight_l1 : Int → Int → Option Int) (p : TPost) (top n0 i : Int) (v22 : Bool) : Option Int :=
  if v22 = true then
    bnd (nthI p.Subs i) fun e =>
    rec_m_ref22_Weight_l1 (IntKind.i64.wrap (n0 + (IntKind.i64.wrap ((e.Name.size : Int).tdiv (40 : Int))))) (IntKind.i64.wrap (i + (1 : Int)))
  else
    m_ref22_Weight_k2 p top n0
def m_ref22_Weight_l1_B  (p : TPost) (top : Int) (rec_m_ref22_Weight_l1 : Int → Int → Option Int) (n0 i : Int) : Option Int :=
  if (decide (i < (p.Subs.length : Int))) = true then
    m_ref22_Weight_k1 rec_m_ref22_Weight_l1 p top n0 i (decide (n0 ≤ top))
  else
    m_ref22_Weight_k1 rec_m_ref22_Weight_l1 p top n0 i false
def m_ref22_Weight_l1  (p : TPost) (top : Int) : Nat → Int → Int → Option Int
  | 0, _, _ => none
  | n + 1, n0, i => m_ref22_Weight_l1_B  p top (m_ref22_Weight_l1  p top n) n0 i
def m_ref22_Weight  (p : TPost) (top : Int) : Option Int :=
  m_ref22_Weight_l1 p top ((((p.Subs.length : Int)) - ((0 : Int))).toNat + 1) (p.Subs.length : Int) (0 : Int)
/-! funicular/funicularlaw22.light -/
def m_law22_light  (p : TPost) : Option Bool :=
  bnd (m_ref22_Weight p (200 : Int)) fun r0 =>
  some (decide (r0 ≤ (200 : Int)))
/-! funicular/funicularlaw22.may -/
def m_law22_may  (p : TPost) : Option Bool :=
  bnd (m_law22_light p) fun r0 =>
  if r0 = true then
    bnd (m_ref22_Check p) fun r0_1 =>
    some (decide (r0_1 = (0 : Int)))
  else
    some false
/-! funicular/post.Publish$1 -/
def m_post_Publish_1  (e : Int) : Option (TPost × Int × (List THit) × Int) :=
  some ((TPost.mk (0 : Int) ([]) ([])), (0 : Int), [], e)
/-! funicular/pack.Name -/
def m_pack_Name_k3  (s : ByteArray) : Option Bool :=
  if (decide ((1 : Int) ≤ (s.size : Int))) = true then
    some (decide ((s.size : Int) ≤ (32 : Int)))
  else
    some false
def m_pack_Name_k2 (rec_m_pack_Name_l1 : Int → Option Bool) (v9 : Int) (v33 : Bool) : Option Bool :=
  if v33 = true then
    some false
  else
    rec_m_pack_Name_l1 (IntKind.i64.wrap (v9 + (1 : Int)))
def m_pack_Name_k1 (rec_m_pack_Name_l1 : Int → Option Bool) (v9 e : Int) (letter : Bool) : Option Bool :=
  if letter = true then
    m_pack_Name_k2 rec_m_pack_Name_l1 v9 false
  else
    if (decide (v9 = (0 : Int))) = true then
      m_pack_Name_k2 rec_m_pack_Name_l1 v9 true
    else
      if (decide (e < (48 : Int))) = true then
        m_pack_Name_k2 rec_m_pack_Name_l1 v9 true
      else
        m_pack_Name_k2 rec_m_pack_Name_l1 v9 (decide ((57 : Int) < e))
def m_pack_Name_l1_B  (s : ByteArray) (rec_m_pack_Name_l1 : Int → Option Bool) (v9 : Int) : Option Bool :=
  if (decide (v9 < ((bytesI s).length : Int))) = true then
    bnd (nthI (bytesI s) v9) fun e =>
    if (decide ((97 : Int) ≤ e)) = true then
      m_pack_Name_k1 rec_m_pack_Name_l1 v9 e (decide (e ≤ (122 : Int)))
    else
      m_pack_Name_k1 rec_m_pack_Name_l1 v9 e false
  else
    m_pack_Name_k3 s
def m_pack_Name_l1  (s : ByteArray) : Nat → Int → Option Bool
  | 0, _ => none
  | n + 1, v9 => m_pack_Name_l1_B  s (m_pack_Name_l1  s n) v9
def m_pack_Name  (s : ByteArray) : Option Bool :=
  m_pack_Name_l1 s (((((bytesI s).length : Int)) - ((0 : Int))).toNat + 1) (0 : Int)
/-! funicular/vars.Check -/
def m_vars_Check_k2 (rec_m_vars_Check_l1 : Int → Option Int) (v21 : Int) (v48 : Bool) : Option Int :=
  if v48 = true then
    some (1 : Int)
  else
    rec_m_vars_Check_l1 (IntKind.i64.wrap (v21 + (1 : Int)))
def m_vars_Check_k1 (rec_m_vars_Check_l1 : Int → Option Int) (v : TVars) (v21 : Int) (e : ByteArray) (v36 : Bool) : Option Int :=
  if v36 = true then
    some (1 : Int)
  else
    if (decide ((0 : Int) < v21)) = true then
      bnd (nthI v.Names (IntKind.i64.wrap (v21 - (1 : Int)))) fun e_1 =>
      m_vars_Check_k2 rec_m_vars_Check_l1 v21 (!(ltS e_1 e))
    else
      m_vars_Check_k2 rec_m_vars_Check_l1 v21 false
def m_vars_Check_l1_B  (v : TVars) (rec_m_vars_Check_l1 : Int → Option Int) (v21 : Int) : Option Int :=
  if (decide (v21 < (v.Names.length : Int))) = true then
    bnd (nthI v.Names v21) fun e =>
    bnd (m_pack_Name e) fun r0 =>
    if r0 = true then
      if (eqS e (⟨#[121, 101, 115]⟩)) = true then
        m_vars_Check_k1 rec_m_vars_Check_l1 v v21 e true
      else
        m_vars_Check_k1 rec_m_vars_Check_l1 v v21 e (eqS e (⟨#[110, 111]⟩))
    else
      m_vars_Check_k1 rec_m_vars_Check_l1 v v21 e true
  else
    some (0 : Int)
def m_vars_Check_l1  (v : TVars) : Nat → Int → Option Int
  | 0, _ => none
  | n + 1, v21 => m_vars_Check_l1_B  v (m_vars_Check_l1  v n) v21
def m_vars_Check  (v : TVars) : Option Int :=
  if (decide ((v.Names.length : Int) ≠ (v.Vals.length : Int))) = true then
    some (1 : Int)
  else
    if (decide ((64 : Int) < (v.Names.length : Int))) = true then
      some (6 : Int)
    else
      m_vars_Check_l1 v ((((v.Names.length : Int)) - ((0 : Int))).toNat + 1) (0 : Int)
/-! slices.Index[[]funicular/api.Who,funicular/api.Who] -/
def m_slices_Index_api_Who_api_Who_l1_B  (s : (List TWho)) (v : TWho) (rec_m_slices_Index_api_Who_api_Who_l1 : Int → Option Int) (v8 : Int) : Option Int :=
  if (decide (v8 < (s.length : Int))) = true then
    bnd (nthI s v8) fun e =>
    if ((decide (v.Part = e.Part)) && (decide (v.Inst = e.Inst))) = true then
      some v8
    else
      rec_m_slices_Index_api_Who_api_Who_l1 (IntKind.i64.wrap (v8 + (1 : Int)))
  else
    some (-1 : Int)
def m_slices_Index_api_Who_api_Who_l1  (s : (List TWho)) (v : TWho) : Nat → Int → Option Int
  | 0, _ => none
  | n + 1, v8 => m_slices_Index_api_Who_api_Who_l1_B  s v (m_slices_Index_api_Who_api_Who_l1  s v n) v8
def m_slices_Index_api_Who_api_Who  (s : (List TWho)) (v : TWho) : Option Int :=
  m_slices_Index_api_Who_api_Who_l1 s v ((((s.length : Int)) - ((0 : Int))).toNat + 1) (0 : Int)
/-! slices.Contains[[]funicular/api.Who,funicular/api.Who] -/
def m_slices_Contains_api_Who_api_Who  (s : (List TWho)) (v : TWho) : Option Bool :=
  bnd (m_slices_Index_api_Who_api_Who s v) fun r0 =>
  some (decide ((0 : Int) ≤ r0))
/-! funicular/post.suits -/
def m_post_suits  (m : TMail) (s : TSub) : Option Bool :=
  if (decide (s.Mail = (0 : Int))) = true then
    if (eqS s.Name m.Name) = true then
      if (decide (s.Key = m.Key)) = true then
        bnd (m_slices_Contains_api_Who_api_Who m.Took (TWho.mk s.Part s.Inst)) fun r0 =>
        some (!r0)
      else
        some false
    else
      some false
  else
    some false
/-! funicular/post.Publish -/
def m_post_Publish_k4  (r0_6 : TPost) (out_2_1 : (List TSub)) (m_00_1 : Int) (hits_1 : (List THit)) (out_1 : (List TMail)) : Option (TPost × Int × (List THit) × Int) :=
  some ((TPost.mk (IntKind.i64.wrap (r0_6.Next + (1 : Int))) out_1 out_2_1), m_00_1, hits_1, (0 : Int))
def m_post_Publish_k3  (keep : Int) (r0_6 : TPost) (out_2_1 : (List TSub)) (m_00_1 : Int) (m_10_1 : ByteArray) (m_20_1 : Int) (m_30_1 : (List ByteArray)) (m_40_1 : (List Int)) (m_50_1 : Int) (m_60_1 : (List TWho)) (hits_1 : (List THit)) : Option (TPost × Int × (List THit) × Int) :=
  if (decide ((0 : Int) < keep)) = true then
    if (capB ((r0_6.Mails).length + 1)) = true then 
      m_post_Publish_k4 r0_6 out_2_1 m_00_1 hits_1 (r0_6.Mails ++ [(TMail.mk m_00_1 m_10_1 m_20_1 (TVars.mk m_30_1 m_40_1) m_50_1 m_60_1)])
     else none
  else
    m_post_Publish_k4 r0_6 out_2_1 m_00_1 hits_1 r0_6.Mails
def m_post_Publish_l1_B  (keep : Int) (r0_6 : TPost) (rec_m_post_Publish_l1 : Int → (List TSub) → Int → ByteArray → Int → (List ByteArray) → (List Int) → Int → (List TWho) → (List THit) → Option (TPost × Int × (List THit) × Int)) (v105 : Int) (out_2 : (List TSub)) (m_00 : Int) (m_10 : ByteArray) (m_20 : Int) (m_30 : (List ByteArray)) (m_40 : (List Int)) (m_50 : Int) (m_60 : (List TWho)) (hits : (List THit)) : Option (TPost × Int × (List THit) × Int) :=
  if (decide (v105 < (((r0_6.Subs).length : Nat) : Int))) = true then
    bnd (nthI out_2 v105) fun e =>
    bnd (m_post_suits (TMail.mk m_00 m_10 m_20 (TVars.mk m_30 m_40) m_50 m_60) e) fun r0_8 =>
    if r0_8 = true then
      bnd (m_post_give_v1 v105 (TMail.mk m_00 m_10 m_20 (TVars.mk m_30 m_40) m_50 m_60) out_2) fun r0_9 =>
      if (decide ((r0_9.2.2).length = (out_2).length)) = true then 
        if (capB (hits.length + 1)) = true then 
          rec_m_post_Publish_l1 (IntKind.i64.wrap (v105 + (1 : Int))) r0_9.2.2 r0_9.2.1.Id r0_9.2.1.Name r0_9.2.1.Key r0_9.2.1.Vars.Names r0_9.2.1.Vars.Vals r0_9.2.1.Until r0_9.2.1.Took (hits ++ [r0_9.1])
         else none
       else none
    else
      rec_m_post_Publish_l1 (IntKind.i64.wrap (v105 + (1 : Int))) out_2 m_00 m_10 m_20 m_30 m_40 m_50 m_60 hits
  else
    m_post_Publish_k3 keep r0_6 out_2 m_00 m_10 m_20 m_30 m_40 m_50 m_60 hits
def m_post_Publish_l1  (keep : Int) (r0_6 : TPost) : Nat → Int → (List TSub) → Int → ByteArray → Int → (List ByteArray) → (List Int) → Int → (List TWho) → (List THit) → Option (TPost × Int × (List THit) × Int)
  | 0, _, _, _, _, _, _, _, _, _, _ => none
  | n + 1, v105, out_2, m_00, m_10, m_20, m_30, m_40, m_50, m_60, hits => m_post_Publish_l1_B  keep r0_6 (m_post_Publish_l1  keep r0_6 n) v105 out_2 m_00 m_10 m_20 m_30 m_40 m_50 m_60 hits
def m_post_Publish_k2  (p : TPost) (name : ByteArray) (k : Int) (v : TVars) (now keep : Int) (v79 : Bool) : Option (TPost × Int × (List THit) × Int) :=
  if v79 = true then
    bnd (m_post_Publish_1 (14 : Int)) fun r0_5 =>
    some (r0_5.1, r0_5.2.1, r0_5.2.2.1, r0_5.2.2.2)
  else
    bnd (m_post_Copy p) fun r0_6 =>
    bnd (m_vars_Copy v) fun r0_7 =>
    m_post_Publish_l1 keep r0_6 ((((((r0_6.Subs).length : Nat) : Int)) - ((0 : Int))).toNat + 1) (0 : Int) r0_6.Subs p.Next name k r0_7.Names r0_7.Vals (IntKind.i64.wrap (now + keep)) ([]) ([])
def m_post_Publish_k1  (p : TPost) (name : ByteArray) (k : Int) (v : TVars) (now keep : Int) (v33 : Bool) : Option (TPost × Int × (List THit) × Int) :=
  if v33 = true then
    bnd (m_post_Publish_1 (2 : Int)) fun r0_1 =>
    some (r0_1.1, r0_1.2.1, r0_1.2.2.1, r0_1.2.2.2)
  else
    bnd (m_vars_Check v) fun r0_3 =>
    if (decide (r0_3 ≠ (0 : Int))) = true then
      bnd (m_post_Publish_1 r0_3) fun r0_4 =>
      some (r0_4.1, r0_4.2.1, r0_4.2.2.1, r0_4.2.2.2)
    else
      if (decide ((1099511627776 : Int) ≤ p.Next)) = true then
        m_post_Publish_k2 p name k v now keep true
      else
        if (decide ((0 : Int) < keep)) = true then
          m_post_Publish_k2 p name k v now keep (decide ((4096 : Int) ≤ (p.Mails.length : Int)))
        else
          m_post_Publish_k2 p name k v now keep false
def m_post_Publish  (p : TPost) (name : ByteArray) (k : Int) (v : TVars) (now : Int) (keep : Int) : Option (TPost × Int × (List THit) × Int) :=
  bnd (m_pack_Name name) fun r0 =>
  if r0 = true then
    if (decide (now < (0 : Int))) = true then
      m_post_Publish_k1 p name k v now keep true
    else
      if (decide ((1099511627776 : Int) < now)) = true then
        m_post_Publish_k1 p name k v now keep true
      else
        if (decide (keep < (0 : Int))) = true then
          m_post_Publish_k1 p name k v now keep true
        else
          m_post_Publish_k1 p name k v now keep (decide ((IntKind.i64.wrap ((1099511627776 : Int) - now)) < keep))
  else
    bnd (m_post_Publish_1 (1 : Int)) fun r0_2 =>
    some (r0_2.1, r0_2.2.1, r0_2.2.2.1, r0_2.2.2.2)
/-! funicular/funicularref22.suits -/
def m_ref22_suits  (m : TMail) (s : TSub) : Option Bool :=
  if (decide (s.Mail = (0 : Int))) = true then
    if (eqS m.Name s.Name) = true then
      if (decide (m.Key = s.Key)) = true then
        bnd (m_ref22_took m.Took s.Part s.Inst) fun r0 =>
        some (!r0)
      else
        some false
    else
      some false
  else
    some false
/-! funicular/funicularref22.hit -/
def m_ref22_hit  (m : TMail) (s : TSub) : Option THit :=
  some (THit.mk s.Part s.Id m.Id m.Vars)
/-! funicular/funicularref22.and -/
def m_ref22_and  (m : TMail) (s : TSub) : Option TMail :=
  if (capB (m.Took).length) = true then 
    if (capB ((m.Took).length + 1)) = true then 
      some (TMail.mk m.Id m.Name m.Key m.Vars m.Until (m.Took ++ [(TWho.mk s.Part s.Inst)]))
     else none
   else none
/-! funicular/funicularref22.Publish -/
def m_ref22_Publish_k5  (p : TPost) (out_2_1 : (List TSub)) (hits_2 : (List THit)) (out_1 : (List TMail)) : Option (TPost × Int × (List THit) × Int) :=
  some ((TPost.mk (IntKind.i64.wrap (p.Next + (1 : Int))) out_1 out_2_1), p.Next, hits_2, (0 : Int))
def m_ref22_Publish_k4  (p : TPost) (keep m_00_2 : Int) (m_10_2 : ByteArray) (m_20_2 : Int) (m_30_2 : (List ByteArray)) (m_40_2 : (List Int)) (m_50_2 : Int) (m_60_2 : (List TWho)) (out_2_1 : (List TSub)) (hits_2 : (List THit)) : Option (TPost × Int × (List THit) × Int) :=
  if (capB (p.Mails).length) = true then 
    if (decide ((0 : Int) < keep)) = true then
      if (capB ((p.Mails).length + 1)) = true then 
        m_ref22_Publish_k5 p out_2_1 hits_2 (p.Mails ++ [(TMail.mk m_00_2 m_10_2 m_20_2 (TVars.mk m_30_2 m_40_2) m_50_2 m_60_2)])
       else none
    else
      m_ref22_Publish_k5 p out_2_1 hits_2 p.Mails
   else none
def m_ref22_Publish_k3 (rec_m_ref22_Publish_l1 : Int → Int → ByteArray → Int → (List ByteArray) → (List Int) → Int → (List TWho) → (List TSub) → (List THit) → Option (TPost × Int × (List THit) × Int)) (i : Int) (out_2 : (List TSub)) (e : TSub) (m_00_1 : Int) (m_10_1 : ByteArray) (m_20_1 : Int) (m_30_1 : (List ByteArray)) (m_40_1 : (List Int)) (m_50_1 : Int) (m_60_1 : (List TWho)) (hits_1 : (List THit)) (s_5 : Int) : Option (TPost × Int × (List THit) × Int) :=
  if (capB (out_2.length + 1)) = true then 
    rec_m_ref22_Publish_l1 (IntKind.i64.wrap (i + (1 : Int))) m_00_1 m_10_1 m_20_1 m_30_1 m_40_1 m_50_1 m_60_1 (out_2 ++ [(TSub.mk e.Part e.Id e.Inst e.Name e.Key s_5)]) hits_1
   else none
def m_ref22_Publish_l1_B  (p : TPost) (keep : Int) (rec_m_ref22_Publish_l1 : Int → Int → ByteArray → Int → (List ByteArray) → (List Int) → Int → (List TWho) → (List TSub) → (List THit) → Option (TPost × Int × (List THit) × Int)) (i m_00 : Int) (m_10 : ByteArray) (m_20 : Int) (m_30 : (List ByteArray)) (m_40 : (List Int)) (m_50 : Int) (m_60 : (List TWho)) (out_2 : (List TSub)) (hits : (List THit)) : Option (TPost × Int × (List THit) × Int) :=
  if (decide (i < (p.Subs.length : Int))) = true then
    bnd (nthI p.Subs i) fun e =>
    bnd (m_ref22_suits (TMail.mk m_00 m_10 m_20 (TVars.mk m_30 m_40) m_50 m_60) e) fun r0_3 =>
    if r0_3 = true then
      bnd (m_ref22_hit (TMail.mk m_00 m_10 m_20 (TVars.mk m_30 m_40) m_50 m_60) e) fun r0_4 =>
      if (capB (hits.length + 1)) = true then 
        bnd (m_ref22_and (TMail.mk m_00 m_10 m_20 (TVars.mk m_30 m_40) m_50 m_60) e) fun r0_5 =>
        m_ref22_Publish_k3 rec_m_ref22_Publish_l1 i out_2 e r0_5.Id r0_5.Name r0_5.Key r0_5.Vars.Names r0_5.Vars.Vals r0_5.Until r0_5.Took (hits ++ [r0_4]) r0_5.Id
       else none
    else
      m_ref22_Publish_k3 rec_m_ref22_Publish_l1 i out_2 e m_00 m_10 m_20 m_30 m_40 m_50 m_60 hits e.Mail
  else
    m_ref22_Publish_k4 p keep m_00 m_10 m_20 m_30 m_40 m_50 m_60 out_2 hits
def m_ref22_Publish_l1  (p : TPost) (keep : Int) : Nat → Int → Int → ByteArray → Int → (List ByteArray) → (List Int) → Int → (List TWho) → (List TSub) → (List THit) → Option (TPost × Int × (List THit) × Int)
  | 0, _, _, _, _, _, _, _, _, _, _ => none
  | n + 1, i, m_00, m_10, m_20, m_30, m_40, m_50, m_60, out_2, hits => m_ref22_Publish_l1_B  p keep (m_ref22_Publish_l1  p keep n) i m_00 m_10 m_20 m_30 m_40 m_50 m_60 out_2 hits
def m_ref22_Publish_k2  (p : TPost) (name : ByteArray) (key : Int) (v : TVars) (now keep : Int) (v58 : Bool) : Option (TPost × Int × (List THit) × Int) :=
  if v58 = true then
    some ((TPost.mk (0 : Int) ([]) ([])), (0 : Int), [], (14 : Int))
  else
    m_ref22_Publish_l1 p keep ((((p.Subs.length : Int)) - ((0 : Int))).toNat + 1) (0 : Int) p.Next name key v.Names v.Vals (IntKind.i64.wrap (now + keep)) ([]) ([]) ([])
def m_ref22_Publish_k1  (p : TPost) (name : ByteArray) (key : Int) (v : TVars) (now keep : Int) (v38 : Bool) : Option (TPost × Int × (List THit) × Int) :=
  if v38 = true then
    some ((TPost.mk (0 : Int) ([]) ([])), (0 : Int), [], (2 : Int))
  else
    bnd (m_ref09_Check v) fun r0_2 =>
    if (decide (r0_2 ≠ (0 : Int))) = true then
      some ((TPost.mk (0 : Int) ([]) ([])), (0 : Int), [], r0_2)
    else
      if (decide ((1099511627776 : Int) ≤ p.Next)) = true then
        m_ref22_Publish_k2 p name key v now keep true
      else
        if (decide ((0 : Int) < keep)) = true then
          m_ref22_Publish_k2 p name key v now keep (decide ((4096 : Int) ≤ (p.Mails.length : Int)))
        else
          m_ref22_Publish_k2 p name key v now keep false
def m_ref22_Publish  (p : TPost) (name : ByteArray) (key : Int) (v : TVars) (now : Int) (keep : Int) : Option (TPost × Int × (List THit) × Int) :=
  bnd (m_ref02_Name name) fun r0 =>
  if r0 = true then
    bnd (m_ref22_in now (0 : Int) (1099511627776 : Int)) fun r0_1 =>
    if r0_1 = true then
      if (decide (keep < (0 : Int))) = true then
        m_ref22_Publish_k1 p name key v now keep true
      else
        m_ref22_Publish_k1 p name key v now keep (decide ((IntKind.i64.wrap ((1099511627776 : Int) - now)) < keep))
    else
      m_ref22_Publish_k1 p name key v now keep true
  else
    some ((TPost.mk (0 : Int) ([]) ([])), (0 : Int), [], (1 : Int))
/-! funicular/funicularref22.Hits -/
def m_ref22_Hits_k1 (rec_m_ref22_Hits_l1 : Int → Option Bool) (i : Int) (v67 : Bool) : Option Bool :=
  if v67 = true then
    some false
  else
    rec_m_ref22_Hits_l1 (IntKind.i64.wrap (i + (1 : Int)))
def m_ref22_Hits_l1_B  (a b : (List THit)) (rec_m_ref22_Hits_l1 : Int → Option Bool) (i : Int) : Option Bool :=
  if (decide (i < (a.length : Int))) = true then
    bnd (nthI a i) fun e =>
    bnd (nthI b i) fun e_1 =>
    if (decide (e.Part ≠ e_1.Part)) = true then
      m_ref22_Hits_k1 rec_m_ref22_Hits_l1 i true
    else
      if (decide (e.Sub ≠ e_1.Sub)) = true then
        m_ref22_Hits_k1 rec_m_ref22_Hits_l1 i true
      else
        if (decide (e.Mail ≠ e_1.Mail)) = true then
          m_ref22_Hits_k1 rec_m_ref22_Hits_l1 i true
        else
          bnd (m_ref09_Same e.Vars e_1.Vars) fun r0 =>
          m_ref22_Hits_k1 rec_m_ref22_Hits_l1 i (!r0)
  else
    some true
def m_ref22_Hits_l1  (a b : (List THit)) : Nat → Int → Option Bool
  | 0, _ => none
  | n + 1, i => m_ref22_Hits_l1_B  a b (m_ref22_Hits_l1  a b n) i
def m_ref22_Hits  (a : (List THit)) (b : (List THit)) : Option Bool :=
  if (decide ((a.length : Int) ≠ (b.length : Int))) = true then
    some false
  else
    m_ref22_Hits_l1 a b ((((a.length : Int)) - ((0 : Int))).toNat + 1) (0 : Int)
/-! funicular/post.wide -/
def m_post_wide  (n0 : Int) : Option Bool :=
  if (decide ((1 : Int) ≤ n0)) = true then
    some (decide (n0 ≤ (1099511627776 : Int)))
  else
    some false
/-! funicular/post.part -/
def m_post_part  (n0 : Int) : Option Bool :=
  if (decide ((0 : Int) ≤ n0)) = true then
    some (decide (n0 < (64 : Int)))
  else
    some false
/-! funicular/post.sub -/
def m_post_sub  (s : TSub) : Option Bool :=
  bnd (m_post_part s.Part) fun r0 =>
  if r0 = true then
    bnd (m_post_wide s.Id) fun r0_1 =>
    if r0_1 = true then
      bnd (m_post_wide s.Inst) fun r0_2 =>
      if r0_2 = true then
        bnd (m_pack_Name s.Name) fun r0_3 =>
        if r0_3 = true then
          if (decide ((0 : Int) ≤ s.Mail)) = true then
            some (decide (s.Mail ≤ (1099511627776 : Int)))
          else
            some false
        else
          some false
      else
        some false
    else
      some false
  else
    some false
/-! funicular/post.find -/
def m_post_find  (p : TPost) (k : Tkey) : Option (Int × Bool) :=
  bnd (m_slices_BinarySearchFunc_api_Sub_api_Sub_post_key p.Subs k) fun r0 =>
  some (r0.1, r0.2)
/-! funicular/post.Open -/
def m_post_Open_k2  (r0_2 : (Int × Bool)) (r0_3 : TPost) (s_0 s_1 s_2 : Int) (s_3 : ByteArray) (s_4 s_5 : Int) (out_1 : (List TMail)) (hits : (List THit)) : Option (TPost × (List THit) × Int) :=
  if (decide ((0 : Int) ≤ r0_2.1)) = true then 
    if (decide (r0_2.1 ≤ ((r0_3.Subs).length : Int))) = true then 
      if (capB ((r0_3.Subs).length + 1)) = true then 
        some ((TPost.mk r0_3.Next out_1 (insI r0_3.Subs r0_2.1 (TSub.mk s_0 s_1 s_2 s_3 s_4 s_5))), hits, (0 : Int))
       else none
     else none
   else none
def m_post_Open_l1_B  (s : TSub) (r0_2 : (Int × Bool)) (r0_3 : TPost) (rec_m_post_Open_l1 : Int → Option (TPost × (List THit) × Int)) (v43 : Int) : Option (TPost × (List THit) × Int) :=
  if (decide (v43 < (((r0_3.Mails).length : Nat) : Int))) = true then
    bnd (nthI r0_3.Mails v43) fun e =>
    bnd (m_post_suits e s) fun r0_4 =>
    if r0_4 = true then
      bnd (m_post_give_v2 v43 s r0_3.Mails) fun r0_5 =>
      if (decide ((r0_5.2.2).length = (r0_3.Mails).length)) = true then 
        m_post_Open_k2 r0_2 r0_3 r0_5.2.1.Part r0_5.2.1.Id r0_5.2.1.Inst r0_5.2.1.Name r0_5.2.1.Key r0_5.2.1.Mail r0_5.2.2 ([r0_5.1])
       else none
    else
      rec_m_post_Open_l1 (IntKind.i64.wrap (v43 + (1 : Int)))
  else
    m_post_Open_k2 r0_2 r0_3 s.Part s.Id s.Inst s.Name s.Key s.Mail r0_3.Mails ([])
def m_post_Open_l1  (s : TSub) (r0_2 : (Int × Bool)) (r0_3 : TPost) : Nat → Int → Option (TPost × (List THit) × Int)
  | 0, _ => none
  | n + 1, v43 => m_post_Open_l1_B  s r0_2 r0_3 (m_post_Open_l1  s r0_2 r0_3 n) v43
def m_post_Open_k1  (p : TPost) (s : TSub) (v20 : Bool) : Option (TPost × (List THit) × Int) :=
  if v20 = true then
    some ((TPost.mk (0 : Int) ([]) ([])), [], (1 : Int))
  else
    bnd (m_post_of s) fun r0_1 =>
    bnd (m_post_find p r0_1) fun r0_2 =>
    if r0_2.2 = true then
      some ((TPost.mk (0 : Int) ([]) ([])), [], (10 : Int))
    else
      if (decide ((4096 : Int) ≤ (p.Subs.length : Int))) = true then
        some ((TPost.mk (0 : Int) ([]) ([])), [], (14 : Int))
      else
        bnd (m_post_Copy p) fun r0_3 =>
        m_post_Open_l1 s r0_2 r0_3 ((((((r0_3.Mails).length : Nat) : Int)) - ((0 : Int))).toNat + 1) (0 : Int)
def m_post_Open  (p : TPost) (s : TSub) : Option (TPost × (List THit) × Int) :=
  bnd (m_post_sub s) fun r0 =>
  if r0 = true then
    m_post_Open_k1 p s (decide (s.Mail ≠ (0 : Int)))
  else
    m_post_Open_k1 p s true
/-! (funicular/funicularlaw22.Op).Sub -/
def m_law22_Op_Sub  (o : TOp) : Option TSub :=
  some (TSub.mk o.Part o.Id o.Inst o.Name o.Key (0 : Int))
/-! funicular/funicularref22.Find -/
def m_ref22_Find_k1 (rec_m_ref22_Find_l1 : Int → Option Int) (i : Int) (v32 : Bool) : Option Int :=
  if v32 = true then
    some i
  else
    rec_m_ref22_Find_l1 (IntKind.i64.wrap (i + (1 : Int)))
def m_ref22_Find_l1_B  (p : TPost) (part id : Int) (rec_m_ref22_Find_l1 : Int → Option Int) (i : Int) : Option Int :=
  if (decide (i < (p.Subs.length : Int))) = true then
    bnd (nthI p.Subs i) fun e =>
    if (decide (e.Part = part)) = true then
      m_ref22_Find_k1 rec_m_ref22_Find_l1 i (decide (e.Id = id))
    else
      m_ref22_Find_k1 rec_m_ref22_Find_l1 i false
  else
    some (-1 : Int)
def m_ref22_Find_l1  (p : TPost) (part id : Int) : Nat → Int → Option Int
  | 0, _ => none
  | n + 1, i => m_ref22_Find_l1_B  p part id (m_ref22_Find_l1  p part id n) i
def m_ref22_Find  (p : TPost) (part : Int) (id : Int) : Option Int :=
  m_ref22_Find_l1 p part id ((((p.Subs.length : Int)) - ((0 : Int))).toNat + 1) (0 : Int)
/-! funicular/funicularref22.Open -/
def m_ref22_Open_k7  (p : TPost) (out_1_1 : (List TMail)) (hits_2 : (List THit)) (out_2_3 : (List TSub)) : Option (TPost × (List THit) × Int) :=
  some ((TPost.mk p.Next out_1_1 out_2_3), hits_2, (0 : Int))
def m_ref22_Open_k6  (p : TPost) (s : TSub) (out_1_1 : (List TMail)) (hits_2 : (List THit)) (mine_5_2 : Int) (done_3 : Bool) (out_2_2 : (List TSub)) : Option (TPost × (List THit) × Int) :=
  if done_3 = true then
    m_ref22_Open_k7 p out_1_1 hits_2 out_2_2
  else
    if (capB (out_2_2.length + 1)) = true then 
      m_ref22_Open_k7 p out_1_1 hits_2 (out_2_2 ++ [(TSub.mk s.Part s.Id s.Inst s.Name s.Key mine_5_2)])
     else none
def m_ref22_Open_k5 (rec_m_ref22_Open_l2 : Bool → Int → (List TSub) → Option (TPost × (List THit) × Int)) (p : TPost) (i_1 : Int) (done_2 : Bool) (out_2_1 : (List TSub)) : Option (TPost × (List THit) × Int) :=
  bnd (nthI p.Subs i_1) fun e_2 =>
  if (capB (out_2_1.length + 1)) = true then 
    rec_m_ref22_Open_l2 done_2 (IntKind.i64.wrap (i_1 + (1 : Int))) (out_2_1 ++ [e_2])
   else none
def m_ref22_Open_k4 (rec_m_ref22_Open_l2 : Bool → Int → (List TSub) → Option (TPost × (List THit) × Int)) (p : TPost) (s : TSub) (mine_5_2 i_1 : Int) (out_2 : (List TSub)) (done_1 v90 : Bool) : Option (TPost × (List THit) × Int) :=
  if v90 = true then
    if (capB (out_2.length + 1)) = true then 
      m_ref22_Open_k5 rec_m_ref22_Open_l2 p i_1 true (out_2 ++ [(TSub.mk s.Part s.Id s.Inst s.Name s.Key mine_5_2)])
     else none
  else
    m_ref22_Open_k5 rec_m_ref22_Open_l2 p i_1 done_1 out_2
def m_ref22_Open_l2_B  (p : TPost) (s : TSub) (out_1_1 : (List TMail)) (hits_2 : (List THit)) (mine_5_2 : Int) (rec_m_ref22_Open_l2 : Bool → Int → (List TSub) → Option (TPost × (List THit) × Int)) (done : Bool) (i_1 : Int) (out_2 : (List TSub)) : Option (TPost × (List THit) × Int) :=
  if (decide (i_1 < (p.Subs.length : Int))) = true then
    if done = true then
      m_ref22_Open_k4 rec_m_ref22_Open_l2 p s mine_5_2 i_1 out_2 true false
    else
      bnd (nthI p.Subs i_1) fun e_1 =>
      bnd (m_ref22_ahead (TSub.mk s.Part s.Id s.Inst s.Name s.Key mine_5_2) e_1) fun r0_5 =>
      m_ref22_Open_k4 rec_m_ref22_Open_l2 p s mine_5_2 i_1 out_2 false r0_5
  else
    m_ref22_Open_k6 p s out_1_1 hits_2 mine_5_2 done out_2
def m_ref22_Open_l2  (p : TPost) (s : TSub) (out_1_1 : (List TMail)) (hits_2 : (List THit)) (mine_5_2 : Int) : Nat → Bool → Int → (List TSub) → Option (TPost × (List THit) × Int)
  | 0, _, _, _ => none
  | n + 1, done, i_1, out_2 => m_ref22_Open_l2_B  p s out_1_1 hits_2 mine_5_2 (m_ref22_Open_l2  p s out_1_1 hits_2 mine_5_2 n) done i_1 out_2
def m_ref22_Open_k3  (p : TPost) (s : TSub) (out_1_1 : (List TMail)) (hits_2 : (List THit)) (mine_5_2 : Int) : Option (TPost × (List THit) × Int) :=
  m_ref22_Open_l2 p s out_1_1 hits_2 mine_5_2 ((((p.Subs.length : Int)) - ((0 : Int))).toNat + 1) false (0 : Int) ([])
def m_ref22_Open_k2 (rec_m_ref22_Open_l1 : Int → (List TMail) → (List THit) → Int → Option (TPost × (List THit) × Int)) (i : Int) (out_1 : (List TMail)) (hits_1 : (List THit)) (mine_5_1 m_00 : Int) (m_10 : ByteArray) (m_20 : Int) (m_30 : (List ByteArray)) (m_40 : (List Int)) (m_50 : Int) (m_60 : (List TWho)) : Option (TPost × (List THit) × Int) :=
  if (capB (out_1.length + 1)) = true then 
    rec_m_ref22_Open_l1 (IntKind.i64.wrap (i + (1 : Int))) (out_1 ++ [(TMail.mk m_00 m_10 m_20 (TVars.mk m_30 m_40) m_50 m_60)]) hits_1 mine_5_1
   else none
def m_ref22_Open_l1_B  (p : TPost) (s : TSub) (rec_m_ref22_Open_l1 : Int → (List TMail) → (List THit) → Int → Option (TPost × (List THit) × Int)) (i : Int) (out_1 : (List TMail)) (hits : (List THit)) (mine_5 : Int) : Option (TPost × (List THit) × Int) :=
  if (decide (i < (p.Mails.length : Int))) = true then
    bnd (nthI p.Mails i) fun e =>
    bnd (m_ref22_suits e (TSub.mk s.Part s.Id s.Inst s.Name s.Key mine_5)) fun r0_2 =>
    if r0_2 = true then
      bnd (m_ref22_hit e (TSub.mk s.Part s.Id s.Inst s.Name s.Key mine_5)) fun r0_3 =>
      if (capB (hits.length + 1)) = true then 
        bnd (m_ref22_and e (TSub.mk s.Part s.Id s.Inst s.Name s.Key mine_5)) fun r0_4 =>
        m_ref22_Open_k2 rec_m_ref22_Open_l1 i out_1 (hits ++ [r0_3]) r0_4.Id r0_4.Id r0_4.Name r0_4.Key r0_4.Vars.Names r0_4.Vars.Vals r0_4.Until r0_4.Took
       else none
    else
      m_ref22_Open_k2 rec_m_ref22_Open_l1 i out_1 hits mine_5 e.Id e.Name e.Key e.Vars.Names e.Vars.Vals e.Until e.Took
  else
    m_ref22_Open_k3 p s out_1 hits mine_5
def m_ref22_Open_l1  (p : TPost) (s : TSub) : Nat → Int → (List TMail) → (List THit) → Int → Option (TPost × (List THit) × Int)
  | 0, _, _, _, _ => none
  | n + 1, i, out_1, hits, mine_5 => m_ref22_Open_l1_B  p s (m_ref22_Open_l1  p s n) i out_1 hits mine_5
def m_ref22_Open_k1  (p : TPost) (s : TSub) (v21 : Bool) : Option (TPost × (List THit) × Int) :=
  if v21 = true then
    some ((TPost.mk (0 : Int) ([]) ([])), [], (1 : Int))
  else
    bnd (m_ref22_Find p s.Part s.Id) fun r0_1 =>
    if (decide ((0 : Int) ≤ r0_1)) = true then
      some ((TPost.mk (0 : Int) ([]) ([])), [], (10 : Int))
    else
      if (decide ((4096 : Int) ≤ (p.Subs.length : Int))) = true then
        some ((TPost.mk (0 : Int) ([]) ([])), [], (14 : Int))
      else
        m_ref22_Open_l1 p s ((((p.Mails.length : Int)) - ((0 : Int))).toNat + 1) (0 : Int) ([]) ([]) s.Mail
def m_ref22_Open  (p : TPost) (s : TSub) : Option (TPost × (List THit) × Int) :=
  bnd (m_ref22_Sub s) fun r0 =>
  if r0 = true then
    m_ref22_Open_k1 p s (decide (s.Mail ≠ (0 : Int)))
  else
    m_ref22_Open_k1 p s true
/-! funicular/post.Close -/
def m_post_Close  (p : TPost) (part : Int) (id : Int) : Option (TPost × Int) :=
  bnd (m_post_find p (Tkey.mk part id)) fun r0 =>
  if r0.2 = true then
    bnd (m_post_Copy p) fun r0_1 =>
    if (decide ((0 : Int) ≤ r0.1)) = true then 
      if (decide (r0.1 < (IntKind.i64.wrap (r0.1 + (1 : Int))))) = true then 
        if (decide ((IntKind.i64.wrap (r0.1 + (1 : Int))) ≤ ((r0_1.Subs).length : Int))) = true then 
          if (capB ((r0_1.Subs).length)) = true then 
            some ((TPost.mk r0_1.Next r0_1.Mails (delI r0_1.Subs r0.1 (IntKind.i64.wrap (r0.1 + (1 : Int))))), (0 : Int))
           else none
         else none
       else none
     else none
  else
    some ((TPost.mk (0 : Int) ([]) ([])), (9 : Int))
/-! funicular/funicularref22.Close -/
def m_ref22_Close_k2  (p : TPost) (out_2_2 : (List TSub)) : Option (TPost × Int) :=
  some ((TPost.mk p.Next p.Mails out_2_2), (0 : Int))
def m_ref22_Close_k1 (rec_m_ref22_Close_l1 : Int → (List TSub) → Option (TPost × Int)) (i : Int) (out_2_1 : (List TSub)) : Option (TPost × Int) :=
  rec_m_ref22_Close_l1 (IntKind.i64.wrap (i + (1 : Int))) out_2_1
def m_ref22_Close_l1_B  (p : TPost) (r0 : Int) (rec_m_ref22_Close_l1 : Int → (List TSub) → Option (TPost × Int)) (i : Int) (out_2 : (List TSub)) : Option (TPost × Int) :=
  if (decide (i < (p.Subs.length : Int))) = true then
    if (decide (i ≠ r0)) = true then
      bnd (nthI p.Subs i) fun e =>
      if (capB (out_2.length + 1)) = true then 
        m_ref22_Close_k1 rec_m_ref22_Close_l1 i (out_2 ++ [e])
       else none
    else
      m_ref22_Close_k1 rec_m_ref22_Close_l1 i out_2
  else
    m_ref22_Close_k2 p out_2
def m_ref22_Close_l1  (p : TPost) (r0 : Int) : Nat → Int → (List TSub) → Option (TPost × Int)
  | 0, _, _ => none
  | n + 1, i, out_2 => m_ref22_Close_l1_B  p r0 (m_ref22_Close_l1  p r0 n) i out_2
def m_ref22_Close  (p : TPost) (part : Int) (id : Int) : Option (TPost × Int) :=
  bnd (m_ref22_Find p part id) fun r0 =>
  if (decide (r0 < (0 : Int))) = true then
    some ((TPost.mk (0 : Int) ([]) ([])), (9 : Int))
  else
    m_ref22_Close_l1 p r0 ((((p.Subs.length : Int)) - ((0 : Int))).toNat + 1) (0 : Int) ([])
/-! funicular/post.Expire -/
def m_post_Expire  (p : TPost) (now : Int) : Option TPost :=
  bnd (m_post_Copy p) fun r0 =>
  bnd (m_slices_DeleteFunc_api_Mail_api_Mail r0.Mails now) fun r0_1 =>
  some (TPost.mk r0.Next r0_1 r0.Subs)
/-! funicular/funicularref22.Expire -/
def m_ref22_Expire_k1 (rec_m_ref22_Expire_l1 : Int → (List TMail) → Option TPost) (i : Int) (out_1_1 : (List TMail)) : Option TPost :=
  rec_m_ref22_Expire_l1 (IntKind.i64.wrap (i + (1 : Int))) out_1_1
def m_ref22_Expire_l1_B  (p : TPost) (now : Int) (rec_m_ref22_Expire_l1 : Int → (List TMail) → Option TPost) (i : Int) (out_1 : (List TMail)) : Option TPost :=
  if (decide (i < (p.Mails.length : Int))) = true then
    bnd (nthI p.Mails i) fun e =>
    if (decide (now < e.Until)) = true then
      if (capB (out_1.length + 1)) = true then 
        m_ref22_Expire_k1 rec_m_ref22_Expire_l1 i (out_1 ++ [e])
       else none
    else
      m_ref22_Expire_k1 rec_m_ref22_Expire_l1 i out_1
  else
    some (TPost.mk p.Next out_1 p.Subs)
def m_ref22_Expire_l1  (p : TPost) (now : Int) : Nat → Int → (List TMail) → Option TPost
  | 0, _, _ => none
  | n + 1, i, out_1 => m_ref22_Expire_l1_B  p now (m_ref22_Expire_l1  p now n) i out_1
def m_ref22_Expire  (p : TPost) (now : Int) : Option TPost :=
  m_ref22_Expire_l1 p now ((((p.Mails.length : Int)) - ((0 : Int))).toNat + 1) (0 : Int) ([])
/-! funicular/funicularlaw22.works: reckoned by the kernel -/
def m_law22_works : Option Bool := some true
/-! funicular/funicularlaw22.PostDoes -/
def m_law22_PostDoes_k3  (p : TPost) (o : TOp) (v121 : Bool) : Option Bool :=
  if v121 = true then
    some false
  else
    bnd (m_post_Close p o.Part o.Id) fun r0_11 =>
    bnd (m_ref22_Close p o.Part o.Id) fun r0_12 =>
    if (decide (r0_11.2 = r0_12.2)) = true then
      bnd (m_ref22_Same r0_11.1 r0_12.1) fun r0_13 =>
      if r0_13 = true then
        bnd (m_post_Expire p o.Now) fun r0_14 =>
        bnd (m_ref22_Expire p o.Now) fun r0_15 =>
        bnd (m_ref22_Same r0_14 r0_15) fun r0_16 =>
        if r0_16 = true then
          bnd (m_law22_works ) fun r0_17 =>
          some r0_17
        else
          some false
      else
        some false
    else
      some false
def m_law22_PostDoes_k2  (p : TPost) (o : TOp) (v90 : Bool) : Option Bool :=
  if v90 = true then
    some false
  else
    bnd (m_law22_Op_Sub o) fun r0_6 =>
    bnd (m_post_Open p r0_6) fun r0_7 =>
    bnd (m_ref22_Open p r0_6) fun r0_8 =>
    if (decide (r0_7.2.2 ≠ r0_8.2.2)) = true then
      m_law22_PostDoes_k3 p o true
    else
      bnd (m_ref22_Hits r0_7.2.1 r0_8.2.1) fun r0_9 =>
      if r0_9 = true then
        bnd (m_ref22_Same r0_7.1 r0_8.1) fun r0_10 =>
        m_law22_PostDoes_k3 p o (!r0_10)
      else
        m_law22_PostDoes_k3 p o true
def m_law22_PostDoes_k1  (p : TPost) (o : TOp) (v35 : Bool) : Option Bool :=
  if v35 = true then
    bnd (m_law22_works ) fun r0_1 =>
    some r0_1
  else
    bnd (m_post_Publish p o.Name o.Key o.Vars o.Now o.Keep) fun r0_2 =>
    bnd (m_ref22_Publish p o.Name o.Key o.Vars o.Now o.Keep) fun r0_3 =>
    if (decide (r0_2.2.2.2 ≠ r0_3.2.2.2)) = true then
      m_law22_PostDoes_k2 p o true
    else
      if (decide (r0_2.2.1 ≠ r0_3.2.1)) = true then
        m_law22_PostDoes_k2 p o true
      else
        bnd (m_ref22_Hits r0_2.2.2.1 r0_3.2.2.1) fun r0_4 =>
        if r0_4 = true then
          bnd (m_ref22_Same r0_2.1 r0_3.1) fun r0_5 =>
          m_law22_PostDoes_k2 p o (!r0_5)
        else
          m_law22_PostDoes_k2 p o true
def m_law22_PostDoes  (p : TPost) (o : TOp) : Option Bool :=
  bnd (m_law22_may p) fun r0 =>
  if r0 = true then
    if (decide ((100 : Int) < (o.Vars.Names.length : Int))) = true then
      m_law22_PostDoes_k1 p o true
    else
      if (decide ((100 : Int) < (o.Vars.Vals.length : Int))) = true then
        m_law22_PostDoes_k1 p o true
      else
        m_law22_PostDoes_k1 p o (decide ((100 : Int) < (o.Name.size : Int)))
  else
    m_law22_PostDoes_k1 p o true
end Go.Proofs.Ytefjblgmnoheiaa.R
