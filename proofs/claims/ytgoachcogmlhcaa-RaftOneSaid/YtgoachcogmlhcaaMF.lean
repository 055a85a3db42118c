/- Models of the functions. -/
import Derived.Test.YtgoachcogmlhcaaMT
set_option maxRecDepth 100000
set_option maxHeartbeats 1600000
set_option linter.unusedVariables false
set_option linter.unusedSimpArgs false
set_option linter.defProp false
noncomputable section
namespace Go.Proofs.Ytgoachcogmlhcaa.R
open Go Nat
def m_logs_copied_l1_B  (l : (List TEntry)) (rec_m_logs_copied_l1 : Int → (List TEntry) → Option (List TEntry)) (v8 : Int) (out : (List TEntry)) : Option (List TEntry) :=
  if (decide (v8 < (l.length : Int))) = true then
    bnd (nthI l v8) fun e =>
    if (capB (e.Data).length) = true then 
      if (capB (out.length + 1)) = true then 
        rec_m_logs_copied_l1 (IntKind.i64.wrap (v8 + (1 : Int))) (out ++ [e])
       else none
     else none
  else
    some out
def m_logs_copied_l1  (l : (List TEntry)) : Nat → Int → (List TEntry) → Option (List TEntry)
  | 0, _, _ => none
  | n + 1, v8, out => m_logs_copied_l1_B  l (m_logs_copied_l1  l n) v8 out
def m_logs_copied  (l : (List TEntry)) : Option (List TEntry) :=
  m_logs_copied_l1 l ((((l.length : Int)) - ((0 : Int))).toNat + 1) (0 : Int) ([])
def m_logs_Copy  (l : TLog) : Option TLog :=
  bnd (m_logs_copied l.Entries) fun r0 =>
  some (TLog.mk l.Base l.BaseTerm r0)
def m_raft_Copy  (r0 : TRaft) : Option TRaft :=
  bnd (m_logs_Copy r0.Log) fun r0_1 =>
  if (capB (r0.Snap).length) = true then 
    if (capB (r0.Granted).length) = true then 
      if (capB (r0.Next).length) = true then 
        if (capB (r0.Match).length) = true then 
          some (TRaft.mk r0.Id r0.N r0.Term r0.Vote r0.Role r0.Lead r0_1 r0.Commit r0.Snap r0.Granted r0.Next r0.Match r0.Clock r0.Wait)
         else none
       else none
     else none
   else none
def m_raft_at  (r0 : TRaft) : Option Tmember :=
  bnd (m_raft_Copy r0) fun r0_1 =>
  some (Tmember.mk r0_1 ([]))
def m_raft_member_send  (to0 : Int) (x0 : TMsg) (m : Tmember) : Option Tmember :=
  if (capB ((m.f_out).length + 1)) = true then 
    some (Tmember.mk m.Raft (m.f_out ++ [(TMsg.mk x0.Kind x0.Group m.Raft.Id to0 x0.Term x0.At x0.AtTerm x0.Commit x0.Ok x0.Entries x0.Data)]))
   else none
def m_logs_Last  (l : TLog) : Option Int :=
  some (IntKind.i64.wrap (l.Base + (l.Entries.length : Int)))
def m_logs_Term_k1  (l : TLog) (at0 : Int) (v13 : Bool) : Option (Int × Bool) :=
  if v13 = true then
    some ((0 : Int), false)
  else
    bnd (nthI l.Entries (IntKind.i64.wrap ((IntKind.i64.wrap (at0 - l.Base)) - (1 : Int)))) fun e =>
    some (e.Term, true)
def m_logs_Term  (l : TLog) (at0 : Int) : Option (Int × Bool) :=
  if (decide (at0 = l.Base)) = true then
    some (l.BaseTerm, true)
  else
    if (decide (at0 < l.Base)) = true then
      m_logs_Term_k1 l at0 true
    else
      bnd (m_logs_Last l) fun r0 =>
      m_logs_Term_k1 l at0 (decide (r0 < at0))
def m_logs_From_k1  (l : TLog) (at0 most : Int) (v21 : Bool) : Option (List TEntry) :=
  if v21 = true then
    some ([])
  else
    bnd (sliceL l.Entries (IntKind.i64.wrap ((IntKind.i64.wrap (at0 - l.Base)) - (1 : Int))) l.Entries.length) fun l_1 =>
    bnd (sliceL l_1 0 (if (l_1.length : Int) < most then (l_1.length : Int) else most)) fun l_2 =>
    bnd (m_logs_copied l_2) fun r0_1 =>
    some r0_1
def m_logs_From  (l : TLog) (at0 : Int) (most : Int) : Option (List TEntry) :=
  if (decide (at0 ≤ l.Base)) = true then
    m_logs_From_k1 l at0 most true
  else
    bnd (m_logs_Last l) fun r0 =>
    if (decide (r0 < at0)) = true then
      m_logs_From_k1 l at0 most true
    else
      m_logs_From_k1 l at0 most (decide (most ≤ (0 : Int)))
def m_raft_member_tell_v1_k1  (to0 : Int) (m : Tmember) (x_0 x_5 x_6 : Int) (x_9 : (List TEntry)) (x_10 : (List Int)) : Option Tmember :=
  bnd (m_raft_member_send to0 (TMsg.mk x_0 (0 : Int) (0 : Int) (0 : Int) m.Raft.Term x_5 x_6 m.Raft.Commit false x_9 x_10) m) fun r0_2 =>
  some r0_2
def m_raft_member_tell_v1  (to0 : Int) (m : Tmember) : Option Tmember :=
  bnd (nthI m.Raft.Next (IntKind.i64.wrap (to0 - (1 : Int)))) fun e =>
  if (decide (e ≤ m.Raft.Log.Base)) = true then
    if (capB (m.Raft.Snap).length) = true then 
      m_raft_member_tell_v1_k1 to0 m (7 : Int) m.Raft.Log.Base m.Raft.Log.BaseTerm ([]) m.Raft.Snap
     else none
  else
    bnd (m_logs_Term m.Raft.Log (IntKind.i64.wrap (e - (1 : Int)))) fun r0 =>
    bnd (m_logs_From m.Raft.Log e (8 : Int)) fun r0_1 =>
    m_raft_member_tell_v1_k1 to0 m (5 : Int) (IntKind.i64.wrap (e - (1 : Int))) r0.1 r0_1 ([])
def m_raft_member_all_k1 (rec_m_raft_member_all_l1 : Int → Int → Int → Int → Int → Int → Int → Int → Int → (List TEntry) → Int → Int → Int → (List Int) → (List Bool) → (List Int) → (List Int) → (List TMsg) → Option Tmember) (to0 m_00_1 m_10_1 m_20_1 m_30_1 m_40_1 m_50_1 m_60_1 m_70_1 : Int) (m_80_1 : (List TEntry)) (m_90_1 m_140_1 m_150_1 : Int) (m_100_1 : (List Int)) (m_110_1 : (List Bool)) (m_120_1 m_130_1 : (List Int)) (m_160_1 : (List TMsg)) : Option Tmember :=
  rec_m_raft_member_all_l1 (IntKind.i64.wrap (to0 + (1 : Int))) m_00_1 m_10_1 m_20_1 m_30_1 m_40_1 m_50_1 m_60_1 m_70_1 m_80_1 m_90_1 m_140_1 m_150_1 m_100_1 m_110_1 m_120_1 m_130_1 m_160_1
def m_raft_member_all_l1_B   (rec_m_raft_member_all_l1 : Int → Int → Int → Int → Int → Int → Int → Int → Int → (List TEntry) → Int → Int → Int → (List Int) → (List Bool) → (List Int) → (List Int) → (List TMsg) → Option Tmember) (to0 m_00 m_10 m_20 m_30 m_40 m_50 m_60 m_70 : Int) (m_80 : (List TEntry)) (m_90 m_140 m_150 : Int) (m_100 : (List Int)) (m_110 : (List Bool)) (m_120 m_130 : (List Int)) (m_160 : (List TMsg)) : Option Tmember :=
  if (decide (to0 ≤ m_10)) = true then
    if (decide (to0 ≠ m_00)) = true then
      bnd (m_raft_member_tell_v1 to0 (Tmember.mk (TRaft.mk m_00 m_10 m_20 m_30 m_40 m_50 (TLog.mk m_60 m_70 m_80) m_90 m_100 m_110 m_120 m_130 m_140 m_150) m_160)) fun r0 =>
      m_raft_member_all_k1 rec_m_raft_member_all_l1 to0 r0.Raft.Id r0.Raft.N r0.Raft.Term r0.Raft.Vote r0.Raft.Role r0.Raft.Lead r0.Raft.Log.Base r0.Raft.Log.BaseTerm r0.Raft.Log.Entries r0.Raft.Commit r0.Raft.Clock r0.Raft.Wait r0.Raft.Snap r0.Raft.Granted r0.Raft.Next r0.Raft.Match r0.f_out
    else
      m_raft_member_all_k1 rec_m_raft_member_all_l1 to0 m_00 m_10 m_20 m_30 m_40 m_50 m_60 m_70 m_80 m_90 m_140 m_150 m_100 m_110 m_120 m_130 m_160
  else
    some (Tmember.mk (TRaft.mk m_00 m_10 m_20 m_30 m_40 m_50 (TLog.mk m_60 m_70 m_80) m_90 m_100 m_110 m_120 m_130 m_140 m_150) m_160)
def m_raft_member_all_l1   : Nat → Int → Int → Int → Int → Int → Int → Int → Int → Int → (List TEntry) → Int → Int → Int → (List Int) → (List Bool) → (List Int) → (List Int) → (List TMsg) → Option Tmember
  | 0, _, _, _, _, _, _, _, _, _, _, _, _, _, _, _, _, _, _ => none
  | n + 1, to0, m_00, m_10, m_20, m_30, m_40, m_50, m_60, m_70, m_80, m_90, m_140, m_150, m_100, m_110, m_120, m_130, m_160 => m_raft_member_all_l1_B   (m_raft_member_all_l1   n) to0 m_00 m_10 m_20 m_30 m_40 m_50 m_60 m_70 m_80 m_90 m_140 m_150 m_100 m_110 m_120 m_130 m_160
def m_raft_member_all  (m : Tmember) : Option Tmember :=
  m_raft_member_all_l1 (1000000) (1 : Int) m.Raft.Id m.Raft.N m.Raft.Term m.Raft.Vote m.Raft.Role m.Raft.Lead m.Raft.Log.Base m.Raft.Log.BaseTerm m.Raft.Log.Entries m.Raft.Commit m.Raft.Clock m.Raft.Wait m.Raft.Snap m.Raft.Granted m.Raft.Next m.Raft.Match m.f_out
def m_raft_member_all_v1_k1 (rec_m_raft_member_all_v1_l1 : Int → Int → Int → Int → Int → Int → Int → Int → Int → (List TEntry) → Int → Int → Int → (List Int) → (List Bool) → (List Int) → (List Int) → (List TMsg) → Option Tmember) (to0 m_00_1 m_10_1 m_20_1 m_30_1 m_40_1 m_50_1 m_60_1 m_70_1 : Int) (m_80_1 : (List TEntry)) (m_90_1 m_140_1 m_150_1 : Int) (m_100_1 : (List Int)) (m_110_1 : (List Bool)) (m_120_1 m_130_1 : (List Int)) (m_160_1 : (List TMsg)) : Option Tmember :=
  rec_m_raft_member_all_v1_l1 (IntKind.i64.wrap (to0 + (1 : Int))) m_00_1 m_10_1 m_20_1 m_30_1 m_40_1 m_50_1 m_60_1 m_70_1 m_80_1 m_90_1 m_140_1 m_150_1 m_100_1 m_110_1 m_120_1 m_130_1 m_160_1
def m_raft_member_all_v1_l1_B   (rec_m_raft_member_all_v1_l1 : Int → Int → Int → Int → Int → Int → Int → Int → Int → (List TEntry) → Int → Int → Int → (List Int) → (List Bool) → (List Int) → (List Int) → (List TMsg) → Option Tmember) (to0 m_00 m_10 m_20 m_30 m_40 m_50 m_60 m_70 : Int) (m_80 : (List TEntry)) (m_90 m_140 m_150 : Int) (m_100 : (List Int)) (m_110 : (List Bool)) (m_120 m_130 : (List Int)) (m_160 : (List TMsg)) : Option Tmember :=
  if (decide (to0 ≤ m_10)) = true then
    if (decide (to0 ≠ m_00)) = true then
      bnd (m_raft_member_tell_v1 to0 (Tmember.mk (TRaft.mk m_00 m_10 m_20 m_30 m_40 m_50 (TLog.mk m_60 m_70 m_80) m_90 m_100 m_110 m_120 m_130 m_140 m_150) m_160)) fun r0 =>
      m_raft_member_all_v1_k1 rec_m_raft_member_all_v1_l1 to0 r0.Raft.Id r0.Raft.N r0.Raft.Term r0.Raft.Vote r0.Raft.Role r0.Raft.Lead r0.Raft.Log.Base r0.Raft.Log.BaseTerm r0.Raft.Log.Entries r0.Raft.Commit r0.Raft.Clock r0.Raft.Wait r0.Raft.Snap r0.Raft.Granted r0.Raft.Next r0.Raft.Match r0.f_out
    else
      m_raft_member_all_v1_k1 rec_m_raft_member_all_v1_l1 to0 m_00 m_10 m_20 m_30 m_40 m_50 m_60 m_70 m_80 m_90 m_140 m_150 m_100 m_110 m_120 m_130 m_160
  else
    some (Tmember.mk (TRaft.mk m_00 m_10 m_20 m_30 m_40 m_50 (TLog.mk m_60 m_70 m_80) m_90 m_100 m_110 m_120 m_130 m_140 m_150) m_160)
def m_raft_member_all_v1_l1   : Nat → Int → Int → Int → Int → Int → Int → Int → Int → Int → (List TEntry) → Int → Int → Int → (List Int) → (List Bool) → (List Int) → (List Int) → (List TMsg) → Option Tmember
  | 0, _, _, _, _, _, _, _, _, _, _, _, _, _, _, _, _, _, _ => none
  | n + 1, to0, m_00, m_10, m_20, m_30, m_40, m_50, m_60, m_70, m_80, m_90, m_140, m_150, m_100, m_110, m_120, m_130, m_160 => m_raft_member_all_v1_l1_B   (m_raft_member_all_v1_l1   n) to0 m_00 m_10 m_20 m_30 m_40 m_50 m_60 m_70 m_80 m_90 m_140 m_150 m_100 m_110 m_120 m_130 m_160
def m_raft_member_all_v1  (m : Tmember) : Option Tmember :=
  m_raft_member_all_v1_l1 (1000000) (1 : Int) m.Raft.Id m.Raft.N m.Raft.Term m.Raft.Vote m.Raft.Role m.Raft.Lead m.Raft.Log.Base m.Raft.Log.BaseTerm m.Raft.Log.Entries m.Raft.Commit m.Raft.Clock m.Raft.Wait m.Raft.Snap m.Raft.Granted m.Raft.Next m.Raft.Match m.f_out
def m_raft_member_send_v2  (to0 : Int) (x0 : TMsg) (m : Tmember) : Option Tmember :=
  if (capB ((m.f_out).length + 1)) = true then 
    some (Tmember.mk m.Raft (m.f_out ++ [(TMsg.mk x0.Kind x0.Group m.Raft.Id to0 x0.Term x0.At x0.AtTerm x0.Commit x0.Ok ([]) ([]))]))
   else none
def m_logs_LastTerm  (l : TLog) : Option Int :=
  bnd (m_logs_Last l) fun r0 =>
  bnd (m_logs_Term l r0) fun r0_1 =>
  some r0_1.1
def m_raft_member_stand_1  (to0 : Int) (b1 : Tmember) : Option Tmember :=
  bnd (m_logs_Last b1.Raft.Log) fun r0 =>
  bnd (m_logs_LastTerm b1.Raft.Log) fun r0_1 =>
  bnd (m_raft_member_send_v2 to0 (TMsg.mk (3 : Int) (0 : Int) (0 : Int) (0 : Int) b1.Raft.Term r0 r0_1 (0 : Int) false ([]) ([])) b1) fun r0_2 =>
  some r0_2
def m_raft_member_all_v2_k1 (rec_m_raft_member_all_v2_l1 : Int → Int → Int → Int → Int → Int → Int → Int → Int → Int → Int → Int → (List TEntry) → (List Int) → (List Bool) → (List Int) → (List Int) → (List TMsg) → Option Tmember) (to0 m_00_1 m_10_1 m_20_1 m_30_1 m_40_1 m_50_1 m_60_1 m_70_1 m_90_1 m_140_1 m_150_1 : Int) (m_80_1 : (List TEntry)) (m_100_1 : (List Int)) (m_110_1 : (List Bool)) (m_120_1 m_130_1 : (List Int)) (m_160_1 : (List TMsg)) : Option Tmember :=
  rec_m_raft_member_all_v2_l1 (IntKind.i64.wrap (to0 + (1 : Int))) m_00_1 m_10_1 m_20_1 m_30_1 m_40_1 m_50_1 m_60_1 m_70_1 m_90_1 m_140_1 m_150_1 m_80_1 m_100_1 m_110_1 m_120_1 m_130_1 m_160_1
def m_raft_member_all_v2_l1_B   (rec_m_raft_member_all_v2_l1 : Int → Int → Int → Int → Int → Int → Int → Int → Int → Int → Int → Int → (List TEntry) → (List Int) → (List Bool) → (List Int) → (List Int) → (List TMsg) → Option Tmember) (to0 m_00 m_10 m_20 m_30 m_40 m_50 m_60 m_70 m_90 m_140 m_150 : Int) (m_80 : (List TEntry)) (m_100 : (List Int)) (m_110 : (List Bool)) (m_120 m_130 : (List Int)) (m_160 : (List TMsg)) : Option Tmember :=
  if (decide (to0 ≤ m_10)) = true then
    if (decide (to0 ≠ m_00)) = true then
      bnd (m_raft_member_stand_1 to0 (Tmember.mk (TRaft.mk m_00 m_10 m_20 m_30 m_40 m_50 (TLog.mk m_60 m_70 m_80) m_90 m_100 m_110 m_120 m_130 m_140 m_150) m_160)) fun r0 =>
      m_raft_member_all_v2_k1 rec_m_raft_member_all_v2_l1 to0 r0.Raft.Id r0.Raft.N r0.Raft.Term r0.Raft.Vote r0.Raft.Role r0.Raft.Lead r0.Raft.Log.Base r0.Raft.Log.BaseTerm r0.Raft.Commit r0.Raft.Clock r0.Raft.Wait r0.Raft.Log.Entries r0.Raft.Snap r0.Raft.Granted r0.Raft.Next r0.Raft.Match r0.f_out
    else
      m_raft_member_all_v2_k1 rec_m_raft_member_all_v2_l1 to0 m_00 m_10 m_20 m_30 m_40 m_50 m_60 m_70 m_90 m_140 m_150 m_80 m_100 m_110 m_120 m_130 m_160
  else
    some (Tmember.mk (TRaft.mk m_00 m_10 m_20 m_30 m_40 m_50 (TLog.mk m_60 m_70 m_80) m_90 m_100 m_110 m_120 m_130 m_140 m_150) m_160)
def m_raft_member_all_v2_l1   : Nat → Int → Int → Int → Int → Int → Int → Int → Int → Int → Int → Int → Int → (List TEntry) → (List Int) → (List Bool) → (List Int) → (List Int) → (List TMsg) → Option Tmember
  | 0, _, _, _, _, _, _, _, _, _, _, _, _, _, _, _, _, _, _ => none
  | n + 1, to0, m_00, m_10, m_20, m_30, m_40, m_50, m_60, m_70, m_90, m_140, m_150, m_80, m_100, m_110, m_120, m_130, m_160 => m_raft_member_all_v2_l1_B   (m_raft_member_all_v2_l1   n) to0 m_00 m_10 m_20 m_30 m_40 m_50 m_60 m_70 m_90 m_140 m_150 m_80 m_100 m_110 m_120 m_130 m_160
def m_raft_member_all_v2  (m : Tmember) : Option Tmember :=
  m_raft_member_all_v2_l1 (1000000) (1 : Int) m.Raft.Id m.Raft.N m.Raft.Term m.Raft.Vote m.Raft.Role m.Raft.Lead m.Raft.Log.Base m.Raft.Log.BaseTerm m.Raft.Commit m.Raft.Clock m.Raft.Wait m.Raft.Log.Entries m.Raft.Snap m.Raft.Granted m.Raft.Next m.Raft.Match m.f_out
def m_raft_member_ask_1  (to0 : Int) (b1 : Tmember) : Option Tmember :=
  bnd (m_logs_Last b1.Raft.Log) fun r0 =>
  bnd (m_logs_LastTerm b1.Raft.Log) fun r0_1 =>
  bnd (m_raft_member_send_v2 to0 (TMsg.mk (1 : Int) (0 : Int) (0 : Int) (0 : Int) (IntKind.i64.wrap (b1.Raft.Term + (1 : Int))) r0 r0_1 (0 : Int) false ([]) ([])) b1) fun r0_2 =>
  some r0_2
def m_raft_member_all_v3_k1 (rec_m_raft_member_all_v3_l1 : Int → Int → Int → Int → Int → Int → Int → Int → Int → Int → Int → Int → (List TEntry) → (List Int) → (List Bool) → (List Int) → (List Int) → (List TMsg) → Option Tmember) (to0 m_00_1 m_10_1 m_20_1 m_30_1 m_40_1 m_50_1 m_60_1 m_70_1 m_90_1 m_140_1 m_150_1 : Int) (m_80_1 : (List TEntry)) (m_100_1 : (List Int)) (m_110_1 : (List Bool)) (m_120_1 m_130_1 : (List Int)) (m_160_1 : (List TMsg)) : Option Tmember :=
  rec_m_raft_member_all_v3_l1 (IntKind.i64.wrap (to0 + (1 : Int))) m_00_1 m_10_1 m_20_1 m_30_1 m_40_1 m_50_1 m_60_1 m_70_1 m_90_1 m_140_1 m_150_1 m_80_1 m_100_1 m_110_1 m_120_1 m_130_1 m_160_1
def m_raft_member_all_v3_l1_B   (rec_m_raft_member_all_v3_l1 : Int → Int → Int → Int → Int → Int → Int → Int → Int → Int → Int → Int → (List TEntry) → (List Int) → (List Bool) → (List Int) → (List Int) → (List TMsg) → Option Tmember) (to0 m_00 m_10 m_20 m_30 m_40 m_50 m_60 m_70 m_90 m_140 m_150 : Int) (m_80 : (List TEntry)) (m_100 : (List Int)) (m_110 : (List Bool)) (m_120 m_130 : (List Int)) (m_160 : (List TMsg)) : Option Tmember :=
  if (decide (to0 ≤ m_10)) = true then
    if (decide (to0 ≠ m_00)) = true then
      bnd (m_raft_member_ask_1 to0 (Tmember.mk (TRaft.mk m_00 m_10 m_20 m_30 m_40 m_50 (TLog.mk m_60 m_70 m_80) m_90 m_100 m_110 m_120 m_130 m_140 m_150) m_160)) fun r0 =>
      m_raft_member_all_v3_k1 rec_m_raft_member_all_v3_l1 to0 r0.Raft.Id r0.Raft.N r0.Raft.Term r0.Raft.Vote r0.Raft.Role r0.Raft.Lead r0.Raft.Log.Base r0.Raft.Log.BaseTerm r0.Raft.Commit r0.Raft.Clock r0.Raft.Wait r0.Raft.Log.Entries r0.Raft.Snap r0.Raft.Granted r0.Raft.Next r0.Raft.Match r0.f_out
    else
      m_raft_member_all_v3_k1 rec_m_raft_member_all_v3_l1 to0 m_00 m_10 m_20 m_30 m_40 m_50 m_60 m_70 m_90 m_140 m_150 m_80 m_100 m_110 m_120 m_130 m_160
  else
    some (Tmember.mk (TRaft.mk m_00 m_10 m_20 m_30 m_40 m_50 (TLog.mk m_60 m_70 m_80) m_90 m_100 m_110 m_120 m_130 m_140 m_150) m_160)
def m_raft_member_all_v3_l1   : Nat → Int → Int → Int → Int → Int → Int → Int → Int → Int → Int → Int → Int → (List TEntry) → (List Int) → (List Bool) → (List Int) → (List Int) → (List TMsg) → Option Tmember
  | 0, _, _, _, _, _, _, _, _, _, _, _, _, _, _, _, _, _, _ => none
  | n + 1, to0, m_00, m_10, m_20, m_30, m_40, m_50, m_60, m_70, m_90, m_140, m_150, m_80, m_100, m_110, m_120, m_130, m_160 => m_raft_member_all_v3_l1_B   (m_raft_member_all_v3_l1   n) to0 m_00 m_10 m_20 m_30 m_40 m_50 m_60 m_70 m_90 m_140 m_150 m_80 m_100 m_110 m_120 m_130 m_160
def m_raft_member_all_v3  (m : Tmember) : Option Tmember :=
  m_raft_member_all_v3_l1 (1000000) (1 : Int) m.Raft.Id m.Raft.N m.Raft.Term m.Raft.Vote m.Raft.Role m.Raft.Lead m.Raft.Log.Base m.Raft.Log.BaseTerm m.Raft.Commit m.Raft.Clock m.Raft.Wait m.Raft.Log.Entries m.Raft.Snap m.Raft.Granted m.Raft.Next m.Raft.Match m.f_out
def m_raft_member_all_v4_k1 (rec_m_raft_member_all_v4_l1 : Int → Int → Int → Int → Int → Int → Int → Int → Int → (List TEntry) → Int → Int → Int → (List Int) → (List Bool) → (List Int) → (List Int) → (List TMsg) → Option Tmember) (to0 m_00_1 m_10_1 m_20_1 m_30_1 m_40_1 m_50_1 m_60_1 m_70_1 : Int) (m_80_1 : (List TEntry)) (m_90_1 m_140_1 m_150_1 : Int) (m_100_1 : (List Int)) (m_110_1 : (List Bool)) (m_120_1 m_130_1 : (List Int)) (m_160_1 : (List TMsg)) : Option Tmember :=
  rec_m_raft_member_all_v4_l1 (IntKind.i64.wrap (to0 + (1 : Int))) m_00_1 m_10_1 m_20_1 m_30_1 m_40_1 m_50_1 m_60_1 m_70_1 m_80_1 m_90_1 m_140_1 m_150_1 m_100_1 m_110_1 m_120_1 m_130_1 m_160_1
def m_raft_member_all_v4_l1_B   (rec_m_raft_member_all_v4_l1 : Int → Int → Int → Int → Int → Int → Int → Int → Int → (List TEntry) → Int → Int → Int → (List Int) → (List Bool) → (List Int) → (List Int) → (List TMsg) → Option Tmember) (to0 m_00 m_10 m_20 m_30 m_40 m_50 m_60 m_70 : Int) (m_80 : (List TEntry)) (m_90 m_140 m_150 : Int) (m_100 : (List Int)) (m_110 : (List Bool)) (m_120 m_130 : (List Int)) (m_160 : (List TMsg)) : Option Tmember :=
  if (decide (to0 ≤ m_10)) = true then
    if (decide (to0 ≠ m_00)) = true then
      bnd (m_raft_member_tell_v1 to0 (Tmember.mk (TRaft.mk m_00 m_10 m_20 m_30 m_40 m_50 (TLog.mk m_60 m_70 m_80) m_90 m_100 m_110 m_120 m_130 m_140 m_150) m_160)) fun r0 =>
      m_raft_member_all_v4_k1 rec_m_raft_member_all_v4_l1 to0 r0.Raft.Id r0.Raft.N r0.Raft.Term r0.Raft.Vote r0.Raft.Role r0.Raft.Lead r0.Raft.Log.Base r0.Raft.Log.BaseTerm r0.Raft.Log.Entries r0.Raft.Commit r0.Raft.Clock r0.Raft.Wait r0.Raft.Snap r0.Raft.Granted r0.Raft.Next r0.Raft.Match r0.f_out
    else
      m_raft_member_all_v4_k1 rec_m_raft_member_all_v4_l1 to0 m_00 m_10 m_20 m_30 m_40 m_50 m_60 m_70 m_80 m_90 m_140 m_150 m_100 m_110 m_120 m_130 m_160
  else
    some (Tmember.mk (TRaft.mk m_00 m_10 m_20 m_30 m_40 m_50 (TLog.mk m_60 m_70 m_80) m_90 m_100 m_110 m_120 m_130 m_140 m_150) m_160)
def m_raft_member_all_v4_l1   : Nat → Int → Int → Int → Int → Int → Int → Int → Int → Int → (List TEntry) → Int → Int → Int → (List Int) → (List Bool) → (List Int) → (List Int) → (List TMsg) → Option Tmember
  | 0, _, _, _, _, _, _, _, _, _, _, _, _, _, _, _, _, _, _ => none
  | n + 1, to0, m_00, m_10, m_20, m_30, m_40, m_50, m_60, m_70, m_80, m_90, m_140, m_150, m_100, m_110, m_120, m_130, m_160 => m_raft_member_all_v4_l1_B   (m_raft_member_all_v4_l1   n) to0 m_00 m_10 m_20 m_30 m_40 m_50 m_60 m_70 m_80 m_90 m_140 m_150 m_100 m_110 m_120 m_130 m_160
def m_raft_member_all_v4  (m : Tmember) : Option Tmember :=
  m_raft_member_all_v4_l1 (1000000) (1 : Int) m.Raft.Id m.Raft.N m.Raft.Term m.Raft.Vote m.Raft.Role m.Raft.Lead m.Raft.Log.Base m.Raft.Log.BaseTerm m.Raft.Log.Entries m.Raft.Commit m.Raft.Clock m.Raft.Wait m.Raft.Snap m.Raft.Granted m.Raft.Next m.Raft.Match m.f_out
def m_raft_member_tell_k1  (to0 : Int) (m : Tmember) (x_0 x_5 x_6 : Int) (x_9 : (List TEntry)) (x_10 : (List Int)) : Option Tmember :=
  bnd (m_raft_member_send to0 (TMsg.mk x_0 (0 : Int) (0 : Int) (0 : Int) m.Raft.Term x_5 x_6 m.Raft.Commit false x_9 x_10) m) fun r0_2 =>
  some r0_2
def m_raft_member_tell  (to0 : Int) (m : Tmember) : Option Tmember :=
  bnd (nthI m.Raft.Next (IntKind.i64.wrap (to0 - (1 : Int)))) fun e =>
  if (decide (e ≤ m.Raft.Log.Base)) = true then
    if (capB (m.Raft.Snap).length) = true then 
      m_raft_member_tell_k1 to0 m (7 : Int) m.Raft.Log.Base m.Raft.Log.BaseTerm ([]) m.Raft.Snap
     else none
  else
    bnd (m_logs_Term m.Raft.Log (IntKind.i64.wrap (e - (1 : Int)))) fun r0 =>
    bnd (m_logs_From m.Raft.Log e (8 : Int)) fun r0_1 =>
    m_raft_member_tell_k1 to0 m (5 : Int) (IntKind.i64.wrap (e - (1 : Int))) r0.1 r0_1 ([])
def m_raft_member_follow_k1  (lead : Int) (m : Tmember) (m_20 m_30 : Int) : Option Tmember :=
  some (Tmember.mk (TRaft.mk m.Raft.Id m.Raft.N m_20 m_30 (0 : Int) lead m.Raft.Log m.Raft.Commit m.Raft.Snap ([]) ([]) ([]) m.Raft.Clock m.Raft.Wait) m.f_out)
def m_raft_member_follow  (term : Int) (lead : Int) (m : Tmember) : Option Tmember :=
  if (decide (m.Raft.Term < term)) = true then
    m_raft_member_follow_k1 lead m term (0 : Int)
  else
    m_raft_member_follow_k1 lead m m.Raft.Term m.Raft.Vote
def m_quorum_Enough  (n0 : Int) : Option Int :=
  if (decide (n0 < (1 : Int))) = true then
    some (0 : Int)
  else
    some (IntKind.i64.wrap ((IntKind.i64.wrap (n0.tdiv (2 : Int))) + (1 : Int)))
def m_quorum_Won_k1  (l : (List Bool)) (n0_1 : Int) : Option Bool :=
  if (decide ((0 : Int) < (l.length : Int))) = true then
    bnd (m_quorum_Enough (l.length : Int)) fun r0 =>
    some (decide (r0 ≤ n0_1))
  else
    some false
def m_quorum_Won_l1_B  (l : (List Bool)) (rec_m_quorum_Won_l1 : Int → Int → Option Bool) (n0 v8 : Int) : Option Bool :=
  if (decide (v8 < (l.length : Int))) = true then
    bnd (nthI l v8) fun e =>
    if e = true then
      rec_m_quorum_Won_l1 (IntKind.i64.wrap (n0 + (1 : Int))) (IntKind.i64.wrap (v8 + (1 : Int)))
    else
      rec_m_quorum_Won_l1 n0 (IntKind.i64.wrap (v8 + (1 : Int)))
  else
    m_quorum_Won_k1 l n0
def m_quorum_Won_l1  (l : (List Bool)) : Nat → Int → Int → Option Bool
  | 0, _, _ => none
  | n + 1, n0, v8 => m_quorum_Won_l1_B  l (m_quorum_Won_l1  l n) n0 v8
def m_quorum_Won  (l : (List Bool)) : Option Bool :=
  m_quorum_Won_l1 l ((((l.length : Int)) - ((0 : Int))).toNat + 1) (0 : Int) (0 : Int)
def m_raft_member_grant  (who : Int) (m : Tmember) : Option (Bool × Tmember) :=
  bnd (nthI m.Raft.Granted (IntKind.i64.wrap (who - (1 : Int)))) fun e =>
  bnd (m_quorum_Won (setI m.Raft.Granted (IntKind.i64.wrap (who - (1 : Int))) true)) fun r0 =>
  some (r0, (Tmember.mk (TRaft.mk m.Raft.Id m.Raft.N m.Raft.Term m.Raft.Vote m.Raft.Role m.Raft.Lead m.Raft.Log m.Raft.Commit m.Raft.Snap (setI m.Raft.Granted (IntKind.i64.wrap (who - (1 : Int))) true) m.Raft.Next m.Raft.Match m.Raft.Clock m.Raft.Wait) m.f_out))
def m_raft_member_follow_v1_k1  (lead : Int) (m : Tmember) (m_20 m_30 : Int) : Option Tmember :=
  some (Tmember.mk (TRaft.mk m.Raft.Id m.Raft.N m_20 m_30 (0 : Int) lead m.Raft.Log m.Raft.Commit m.Raft.Snap ([]) ([]) ([]) m.Raft.Clock m.Raft.Wait) m.f_out)
def m_raft_member_follow_v1  (term : Int) (lead : Int) (m : Tmember) : Option Tmember :=
  if (decide (m.Raft.Term < term)) = true then
    m_raft_member_follow_v1_k1 lead m term (0 : Int)
  else
    m_raft_member_follow_v1_k1 lead m m.Raft.Term m.Raft.Vote
def m_cmp_isNaN_int  (x0 : Int) : Option Bool :=
  some (decide (x0 ≠ x0))
def m_cmp_Less_int  (x0 : Int) (y : Int) : Option Bool :=
  bnd (m_cmp_isNaN_int x0) fun r0 =>
  if r0 = true then
    bnd (m_cmp_isNaN_int y) fun r0_1 =>
    if r0_1 = true then
      some (decide (x0 < y))
    else
      some true
  else
    some (decide (x0 < y))
def m_slices_insertionSortOrdered_int_k2 (rec_m_slices_insertionSortOrdered_int_l1 : Int → (List Int) → Option (List Int)) (i : Int) (data_3 : (List Int)) : Option (List Int) :=
  rec_m_slices_insertionSortOrdered_int_l1 (IntKind.i64.wrap (i + (1 : Int))) data_3
def m_slices_insertionSortOrdered_int_k1 (rec_m_slices_insertionSortOrdered_int_l2 : Int → (List Int) → Option (List Int)) (rec_m_slices_insertionSortOrdered_int_l1 : Int → (List Int) → Option (List Int)) (i j : Int) (data_2 : (List Int)) (v30 : Bool) : Option (List Int) :=
  if v30 = true then
    bnd (nthI data_2 (IntKind.i64.wrap (j - (1 : Int)))) fun e_2 =>
    bnd (nthI data_2 j) fun e_3 =>
    bnd (nthI (setI data_2 j e_2) (IntKind.i64.wrap (j - (1 : Int)))) fun e_4 =>
    rec_m_slices_insertionSortOrdered_int_l2 (IntKind.i64.wrap (j - (1 : Int))) (setI (setI data_2 j e_2) (IntKind.i64.wrap (j - (1 : Int))) e_3)
  else
    m_slices_insertionSortOrdered_int_k2 rec_m_slices_insertionSortOrdered_int_l1 i data_2
def m_slices_insertionSortOrdered_int_l2_B (rec_m_slices_insertionSortOrdered_int_l1 : Int → (List Int) → Option (List Int)) (a i : Int) (rec_m_slices_insertionSortOrdered_int_l2 : Int → (List Int) → Option (List Int)) (j : Int) (data_2 : (List Int)) : Option (List Int) :=
  if (decide (a < j)) = true then
    bnd (nthI data_2 j) fun e =>
    bnd (nthI data_2 (IntKind.i64.wrap (j - (1 : Int)))) fun e_1 =>
    bnd (m_cmp_Less_int e e_1) fun r0 =>
    m_slices_insertionSortOrdered_int_k1 rec_m_slices_insertionSortOrdered_int_l2 rec_m_slices_insertionSortOrdered_int_l1 i j data_2 r0
  else
    m_slices_insertionSortOrdered_int_k1 rec_m_slices_insertionSortOrdered_int_l2 rec_m_slices_insertionSortOrdered_int_l1 i j data_2 false
def m_slices_insertionSortOrdered_int_l2 (rec_m_slices_insertionSortOrdered_int_l1 : Int → (List Int) → Option (List Int)) (a i : Int) : Nat → Int → (List Int) → Option (List Int)
  | 0, _, _ => none
  | n + 1, j, data_2 => m_slices_insertionSortOrdered_int_l2_B rec_m_slices_insertionSortOrdered_int_l1 a i (m_slices_insertionSortOrdered_int_l2 rec_m_slices_insertionSortOrdered_int_l1 a i n) j data_2
def m_slices_insertionSortOrdered_int_l1_B  (a b : Int) (rec_m_slices_insertionSortOrdered_int_l1 : Int → (List Int) → Option (List Int)) (i : Int) (data_1 : (List Int)) : Option (List Int) :=
  if (decide (i < b)) = true then
    m_slices_insertionSortOrdered_int_l2 rec_m_slices_insertionSortOrdered_int_l1 a i (1000000) i data_1
  else
    some data_1
def m_slices_insertionSortOrdered_int_l1  (a b : Int) : Nat → Int → (List Int) → Option (List Int)
  | 0, _, _ => none
  | n + 1, i, data_1 => m_slices_insertionSortOrdered_int_l1_B  a b (m_slices_insertionSortOrdered_int_l1  a b n) i data_1
def m_slices_insertionSortOrdered_int  (data : (List Int)) (a : Int) (b : Int) : Option (List Int) :=
  m_slices_insertionSortOrdered_int_l1 a b (((b) - ((IntKind.i64.wrap (a + (1 : Int))))).toNat + 1) (IntKind.i64.wrap (a + (1 : Int))) data
def m_slices_pdqsortOrdered_int_l1_B  (data : (List Int)) (a b limit : Int) (rec_m_slices_pdqsortOrdered_int_l1 : Option (List Int))  : Option (List Int) :=
  if (decide ((IntKind.i64.wrap (b - a)) ≤ (12 : Int))) = true then
    bnd (m_slices_insertionSortOrdered_int data a b) fun r0 =>
    if (decide ((r0).length = (data).length)) = true then 
      some r0
     else none
  else
    if (decide (limit = (0 : Int))) = true then none else none
def m_slices_pdqsortOrdered_int_l1  (data : (List Int)) (a b limit : Int) : Nat → Option (List Int)
  | 0 => none
  | n + 1 => m_slices_pdqsortOrdered_int_l1_B  data a b limit (m_slices_pdqsortOrdered_int_l1  data a b limit n) 
def m_slices_pdqsortOrdered_int  (data : (List Int)) (a : Int) (b : Int) (limit : Int) : Option (List Int) :=
  m_slices_pdqsortOrdered_int_l1 data a b limit (1000000)
def m_math_bits_Len64_k3  (x0_3 n0_2 : Int) : Option Int :=
  bnd (nthS (⟨#[0, 1, 2, 2, 3, 3, 3, 3, 4, 4, 4, 4, 4, 4, 4, 4, 5, 5, 5, 5, 5, 5, 5, 5, 5, 5, 5, 5, 5, 5, 5, 5, 6, 6, 6, 6, 6, 6, 6, 6, 6, 6, 6, 6, 6, 6, 6, 6, 6, 6, 6, 6, 6, 6, 6, 6, 6, 6, 6, 6, 6, 6, 6, 6, 7, 7, 7, 7, 7, 7, 7, 7, 7, 7, 7, 7, 7, 7, 7, 7, 7, 7, 7, 7, 7, 7, 7, 7, 7, 7, 7, 7, 7, 7, 7, 7, 7, 7, 7, 7, 7, 7, 7, 7, 7, 7, 7, 7, 7, 7, 7, 7, 7, 7, 7, 7, 7, 7, 7, 7, 7, 7, 7, 7, 7, 7, 7, 7, 8, 8, 8, 8, 8, 8, 8, 8, 8, 8, 8, 8, 8, 8, 8, 8, 8, 8, 8, 8, 8, 8, 8, 8, 8, 8, 8, 8, 8, 8, 8, 8, 8, 8, 8, 8, 8, 8, 8, 8, 8, 8, 8, 8, 8, 8, 8, 8, 8, 8, 8, 8, 8, 8, 8, 8, 8, 8, 8, 8, 8, 8, 8, 8, 8, 8, 8, 8, 8, 8, 8, 8, 8, 8, 8, 8, 8, 8, 8, 8, 8, 8, 8, 8, 8, 8, 8, 8, 8, 8, 8, 8, 8, 8, 8, 8, 8, 8, 8, 8, 8, 8, 8, 8, 8, 8, 8, 8, 8, 8, 8, 8, 8, 8, 8, 8, 8, 8, 8, 8, 8, 8, 8, 8, 8, 8, 8, 8]⟩) (IntKind.u8.wrap x0_3)) fun c =>
  some (IntKind.i64.wrap (n0_2 + (IntKind.i64.wrap c)))
def m_math_bits_Len64_k2  (x0_2 n0_1 : Int) : Option Int :=
  if (decide ((256 : Int) ≤ x0_2)) = true then
    m_math_bits_Len64_k3 (shrI .u64 x0_2 (8 : Int)) (IntKind.i64.wrap (n0_1 + (8 : Int)))
  else
    m_math_bits_Len64_k3 x0_2 n0_1
def m_math_bits_Len64_k1  (x0_1 n0 : Int) : Option Int :=
  if (decide ((65536 : Int) ≤ x0_1)) = true then
    m_math_bits_Len64_k2 (shrI .u64 x0_1 (16 : Int)) (IntKind.i64.wrap (n0 + (16 : Int)))
  else
    m_math_bits_Len64_k2 x0_1 n0
def m_math_bits_Len64  (x0 : Int) : Option Int :=
  if (decide ((4294967296 : Int) ≤ x0)) = true then
    m_math_bits_Len64_k1 (shrI .u64 x0 (32 : Int)) (32 : Int)
  else
    m_math_bits_Len64_k1 x0 (0 : Int)
def m_math_bits_Len  (x0 : Int) : Option Int :=
  bnd (m_math_bits_Len64 x0) fun r0 =>
  some r0
def m_slices_Sort_int_int  (x0 : (List Int)) : Option (List Int) :=
  bnd (m_math_bits_Len (IntKind.u64.wrap ((x0.length : Nat) : Int))) fun r0 =>
  bnd (m_slices_pdqsortOrdered_int x0 (0 : Int) ((x0.length : Nat) : Int) r0) fun r0_1 =>
  if (decide ((r0_1).length = (x0).length)) = true then 
    some r0_1
   else none
def m_quorum_nth_int_k1  (l : (List Int)) (n0 : Int) (v15 : Bool) : Option (Int × Bool) :=
  if v15 = true then
    some ((0 : Int), false)
  else
    if (capB (l).length) = true then 
      bnd (m_slices_Sort_int_int l) fun r0 =>
      if (decide ((r0).length = (l).length)) = true then 
        bnd (nthI r0 (IntKind.i64.wrap ((((l).length : Nat) : Int) - n0))) fun e =>
        some (e, true)
       else none
     else none
def m_quorum_nth_int  (l : (List Int)) (n0 : Int) : Option (Int × Bool) :=
  if (decide (n0 < (1 : Int))) = true then
    m_quorum_nth_int_k1 l n0 true
  else
    m_quorum_nth_int_k1 l n0 (decide ((l.length : Int) < n0))
def m_quorum_Reached  (l : (List Int)) : Option Int :=
  bnd (m_quorum_Enough (l.length : Int)) fun r0 =>
  bnd (m_quorum_nth_int l r0) fun r0_1 =>
  some r0_1.1
def m_raft_member_commit_k1  (m : Tmember) (r0 : Int) (v39 : Bool) : Option Tmember :=
  if v39 = true then
    some (Tmember.mk (TRaft.mk m.Raft.Id m.Raft.N m.Raft.Term m.Raft.Vote m.Raft.Role m.Raft.Lead m.Raft.Log r0 m.Raft.Snap m.Raft.Granted m.Raft.Next m.Raft.Match m.Raft.Clock m.Raft.Wait) m.f_out)
  else
    some m
def m_raft_member_commit  (m : Tmember) : Option Tmember :=
  bnd (m_quorum_Reached m.Raft.Match) fun r0 =>
  bnd (m_logs_Term m.Raft.Log r0) fun r0_1 =>
  if r0_1.2 = true then
    if (decide (m.Raft.Commit < r0)) = true then
      m_raft_member_commit_k1 m r0 (decide (r0_1.1 = m.Raft.Term))
    else
      m_raft_member_commit_k1 m r0 false
  else
    m_raft_member_commit_k1 m r0 false
def m_logs_Behind  (l : TLog) (e : TEntry) : Option TLog :=
  bnd (m_logs_Copy l) fun r0 =>
  if (capB (e.Data).length) = true then 
    if (capB ((r0.Entries).length + 1)) = true then 
      some (TLog.mk r0.Base r0.BaseTerm (r0.Entries ++ [e]))
     else none
   else none
def m_raft_member_append  (m : Tmember) : Option Tmember :=
  bnd (m_logs_Behind m.Raft.Log (TEntry.mk m.Raft.Term ([]))) fun r0 =>
  bnd (m_logs_Last r0) fun r0_1 =>
  bnd (nthI m.Raft.Match (IntKind.i64.wrap (m.Raft.Id - (1 : Int)))) fun e =>
  bnd (m_raft_member_commit (Tmember.mk (TRaft.mk m.Raft.Id m.Raft.N m.Raft.Term m.Raft.Vote m.Raft.Role m.Raft.Lead r0 m.Raft.Commit m.Raft.Snap m.Raft.Granted m.Raft.Next (setI m.Raft.Match (IntKind.i64.wrap (m.Raft.Id - (1 : Int))) r0_1) m.Raft.Clock m.Raft.Wait) m.f_out)) fun r0_2 =>
  bnd (m_raft_member_all_v1 r0_2) fun r0_3 =>
  some r0_3
def m_raft_member_lead_k1  (r0 : Tmember) (m_120_1 : (List Int)) : Option Tmember :=
  bnd (m_raft_member_append (Tmember.mk (TRaft.mk r0.Raft.Id r0.Raft.N r0.Raft.Term r0.Raft.Vote (3 : Int) r0.Raft.Lead r0.Raft.Log r0.Raft.Commit r0.Raft.Snap r0.Raft.Granted m_120_1 (List.replicate r0.Raft.N.toNat (0 : Int)) (0 : Int) r0.Raft.Wait) r0.f_out)) fun r0_2 =>
  some r0_2
def m_raft_member_lead_l1_B  (r0 : Tmember) (rec_m_raft_member_lead_l1 : Int → (List Int) → Option Tmember) (v49 : Int) (m_120 : (List Int)) : Option Tmember :=
  if (decide (v49 < ((r0.Raft.N.toNat : Nat) : Int))) = true then
    bnd (m_logs_Last r0.Raft.Log) fun r0_1 =>
    bnd (nthI m_120 v49) fun e =>
    rec_m_raft_member_lead_l1 (IntKind.i64.wrap (v49 + (1 : Int))) (setI m_120 v49 (IntKind.i64.wrap (r0_1 + (1 : Int))))
  else
    m_raft_member_lead_k1 r0 m_120
def m_raft_member_lead_l1  (r0 : Tmember) : Nat → Int → (List Int) → Option Tmember
  | 0, _, _ => none
  | n + 1, v49, m_120 => m_raft_member_lead_l1_B  r0 (m_raft_member_lead_l1  r0 n) v49 m_120
def m_raft_member_lead  (m : Tmember) : Option Tmember :=
  bnd (m_raft_member_follow_v1 m.Raft.Term m.Raft.Id m) fun r0 =>
  if (mkB r0.Raft.N) = true then 
    m_raft_member_lead_l1 r0 (((((r0.Raft.N.toNat : Nat) : Int)) - ((0 : Int))).toNat + 1) (0 : Int) (List.replicate r0.Raft.N.toNat (0 : Int))
   else none
def m_raft_member_stand  (m : Tmember) : Option Tmember :=
  bnd (m_raft_member_follow_v1 (IntKind.i64.wrap (m.Raft.Term + (1 : Int))) (0 : Int) m) fun r0 =>
  if (mkB r0.Raft.N) = true then 
    bnd (m_raft_member_grant r0.Raft.Id (Tmember.mk (TRaft.mk r0.Raft.Id r0.Raft.N r0.Raft.Term r0.Raft.Id (2 : Int) r0.Raft.Lead r0.Raft.Log r0.Raft.Commit r0.Raft.Snap (List.replicate r0.Raft.N.toNat false) r0.Raft.Next r0.Raft.Match (0 : Int) r0.Raft.Wait) r0.f_out)) fun r0_1 =>
    if r0_1.1 = true then
      bnd (m_raft_member_lead r0_1.2) fun r0_2 =>
      some r0_2
    else
      bnd (m_raft_member_all_v2 r0_1.2) fun r0_3 =>
      some r0_3
   else none
def m_raft_wait  (draw : Int) : Option Int :=
  some (IntKind.i64.wrap ((10 : Int) + (IntKind.i64.wrap ((IntKind.u64.wrap draw).tmod (10 : Int)))))
def m_raft_member_ask  (draw : Int) (m : Tmember) : Option Tmember :=
  bnd (m_raft_member_follow m.Raft.Term (0 : Int) m) fun r0 =>
  bnd (m_raft_wait draw) fun r0_1 =>
  if (mkB r0.Raft.N) = true then 
    bnd (m_raft_member_grant r0.Raft.Id (Tmember.mk (TRaft.mk r0.Raft.Id r0.Raft.N r0.Raft.Term r0.Raft.Vote (1 : Int) r0.Raft.Lead r0.Raft.Log r0.Raft.Commit r0.Raft.Snap (List.replicate r0.Raft.N.toNat false) r0.Raft.Next r0.Raft.Match (0 : Int) r0_1) r0.f_out)) fun r0_2 =>
    if r0_2.1 = true then
      bnd (m_raft_member_stand r0_2.2) fun r0_3 =>
      some r0_3
    else
      bnd (m_raft_member_all_v3 r0_2.2) fun r0_4 =>
      some r0_4
   else none
def m_raft_member_done  (m : Tmember) : Option (TRaft × (List TMsg)) :=
  some (m.Raft, m.f_out)
def m_raft_member_done_v1  (m : Tmember) : Option (TRaft × (List TMsg)) :=
  some (m.Raft, m.f_out)
def m_raft_member_commit_v1_k1  (m : Tmember) (r0 : Int) (v39 : Bool) : Option Tmember :=
  if v39 = true then
    some (Tmember.mk (TRaft.mk m.Raft.Id m.Raft.N m.Raft.Term m.Raft.Vote m.Raft.Role m.Raft.Lead m.Raft.Log r0 m.Raft.Snap m.Raft.Granted m.Raft.Next m.Raft.Match m.Raft.Clock m.Raft.Wait) m.f_out)
  else
    some m
def m_raft_member_commit_v1  (m : Tmember) : Option Tmember :=
  bnd (m_quorum_Reached m.Raft.Match) fun r0 =>
  bnd (m_logs_Term m.Raft.Log r0) fun r0_1 =>
  if r0_1.2 = true then
    if (decide (m.Raft.Commit < r0)) = true then
      m_raft_member_commit_v1_k1 m r0 (decide (r0_1.1 = m.Raft.Term))
    else
      m_raft_member_commit_v1_k1 m r0 false
  else
    m_raft_member_commit_v1_k1 m r0 false
def m_raft_member_append_v1  (data : (List Int)) (m : Tmember) : Option Tmember :=
  bnd (m_logs_Behind m.Raft.Log (TEntry.mk m.Raft.Term data)) fun r0 =>
  bnd (m_logs_Last r0) fun r0_1 =>
  bnd (nthI m.Raft.Match (IntKind.i64.wrap (m.Raft.Id - (1 : Int)))) fun e =>
  bnd (m_raft_member_commit_v1 (Tmember.mk (TRaft.mk m.Raft.Id m.Raft.N m.Raft.Term m.Raft.Vote m.Raft.Role m.Raft.Lead r0 m.Raft.Commit m.Raft.Snap m.Raft.Granted m.Raft.Next (setI m.Raft.Match (IntKind.i64.wrap (m.Raft.Id - (1 : Int))) r0_1) m.Raft.Clock m.Raft.Wait) m.f_out)) fun r0_2 =>
  bnd (m_raft_member_all_v4 r0_2) fun r0_3 =>
  some r0_3
def m_raft_member_send_v3  (to0 : Int) (x0 : TMsg) (m : Tmember) : Option Tmember :=
  if (capB ((m.f_out).length + 1)) = true then 
    some (Tmember.mk m.Raft (m.f_out ++ [(TMsg.mk x0.Kind x0.Group m.Raft.Id to0 x0.Term x0.At x0.AtTerm x0.Commit x0.Ok ([]) ([]))]))
   else none
def m_logs_Newer  (l : TLog) (term : Int) (at0 : Int) : Option Bool :=
  bnd (m_logs_LastTerm l) fun r0 =>
  if (decide (r0 < term)) = true then
    some true
  else
    if (decide (term = r0)) = true then
      bnd (m_logs_Last l) fun r0_1 =>
      some (decide (r0_1 ≤ at0))
    else
      some false
def m_raft_member_asked_k3  (x0 : TMsg) (m : Tmember) (ok_1 : Bool) (term : Int) : Option Tmember :=
  bnd (m_raft_member_send_v3 x0.From (TMsg.mk (2 : Int) (0 : Int) (0 : Int) (0 : Int) term (0 : Int) (0 : Int) (0 : Int) ok_1 ([]) ([])) m) fun r0_1 =>
  some r0_1
def m_raft_member_asked_k2  (x0 : TMsg) (m : Tmember) (ok : Bool) : Option Tmember :=
  if ok = true then
    m_raft_member_asked_k3 x0 m true x0.Term
  else
    m_raft_member_asked_k3 x0 m false m.Raft.Term
def m_raft_member_asked_k1  (x0 : TMsg) (m : Tmember) (free : Bool) : Option Tmember :=
  if (decide (m.Raft.Term < x0.Term)) = true then
    if free = true then
      bnd (m_logs_Newer m.Raft.Log x0.AtTerm x0.At) fun r0 =>
      m_raft_member_asked_k2 x0 m r0
    else
      m_raft_member_asked_k2 x0 m false
  else
    m_raft_member_asked_k2 x0 m false
def m_raft_member_asked  (x0 : TMsg) (m : Tmember) : Option Tmember :=
  if (decide (m.Raft.Role ≠ (3 : Int))) = true then
    if (decide (m.Raft.Lead = (0 : Int))) = true then
      m_raft_member_asked_k1 x0 m true
    else
      m_raft_member_asked_k1 x0 m (decide ((10 : Int) ≤ m.Raft.Clock))
  else
    m_raft_member_asked_k1 x0 m false
def m_raft_member_grant_v1  (who : Int) (m : Tmember) : Option (Bool × Tmember) :=
  bnd (nthI m.Raft.Granted (IntKind.i64.wrap (who - (1 : Int)))) fun e =>
  bnd (m_quorum_Won (setI m.Raft.Granted (IntKind.i64.wrap (who - (1 : Int))) true)) fun r0 =>
  some (r0, (Tmember.mk (TRaft.mk m.Raft.Id m.Raft.N m.Raft.Term m.Raft.Vote m.Raft.Role m.Raft.Lead m.Raft.Log m.Raft.Commit m.Raft.Snap (setI m.Raft.Granted (IntKind.i64.wrap (who - (1 : Int))) true) m.Raft.Next m.Raft.Match m.Raft.Clock m.Raft.Wait) m.f_out))
def m_raft_member_stand_v1  (m : Tmember) : Option Tmember :=
  bnd (m_raft_member_follow (IntKind.i64.wrap (m.Raft.Term + (1 : Int))) (0 : Int) m) fun r0 =>
  if (mkB r0.Raft.N) = true then 
    bnd (m_raft_member_grant r0.Raft.Id (Tmember.mk (TRaft.mk r0.Raft.Id r0.Raft.N r0.Raft.Term r0.Raft.Id (2 : Int) r0.Raft.Lead r0.Raft.Log r0.Raft.Commit r0.Raft.Snap (List.replicate r0.Raft.N.toNat false) r0.Raft.Next r0.Raft.Match (0 : Int) r0.Raft.Wait) r0.f_out)) fun r0_1 =>
    if r0_1.1 = true then
      bnd (m_raft_member_lead r0_1.2) fun r0_2 =>
      some r0_2
    else
      bnd (m_raft_member_all_v2 r0_1.2) fun r0_3 =>
      some r0_3
   else none
def m_raft_member_vote_k2  (x0 : TMsg) (m : Tmember) (ok_1 : Bool) (m_30 m_140 : Int) : Option Tmember :=
  bnd (m_raft_member_send_v3 x0.From (TMsg.mk (4 : Int) (0 : Int) (0 : Int) (0 : Int) m.Raft.Term (0 : Int) (0 : Int) (0 : Int) ok_1 ([]) ([])) (Tmember.mk (TRaft.mk m.Raft.Id m.Raft.N m.Raft.Term m_30 m.Raft.Role m.Raft.Lead m.Raft.Log m.Raft.Commit m.Raft.Snap m.Raft.Granted m.Raft.Next m.Raft.Match m_140 m.Raft.Wait) m.f_out)) fun r0_2 =>
  some r0_2
def m_raft_member_vote_k1  (x0 : TMsg) (m : Tmember) (ok : Bool) : Option Tmember :=
  if ok = true then
    m_raft_member_vote_k2 x0 m true x0.From (0 : Int)
  else
    m_raft_member_vote_k2 x0 m false m.Raft.Vote m.Raft.Clock
def m_raft_member_vote  (x0 : TMsg) (m : Tmember) : Option Tmember :=
  if (decide (x0.Term = m.Raft.Term)) = true then
    if (decide (m.Raft.Role = (0 : Int))) = true then
      if (decide (m.Raft.Vote = (0 : Int))) = true then
        bnd (m_logs_Newer m.Raft.Log x0.AtTerm x0.At) fun r0 =>
        m_raft_member_vote_k1 x0 m r0
      else
        if (decide (m.Raft.Vote = x0.From)) = true then
          bnd (m_logs_Newer m.Raft.Log x0.AtTerm x0.At) fun r0_1 =>
          m_raft_member_vote_k1 x0 m r0_1
        else
          m_raft_member_vote_k1 x0 m false
    else
      m_raft_member_vote_k1 x0 m false
  else
    m_raft_member_vote_k1 x0 m false
def m_raft_member_lead_v1_k1  (r0 : Tmember) (m_120_1 : (List Int)) : Option Tmember :=
  bnd (m_raft_member_append (Tmember.mk (TRaft.mk r0.Raft.Id r0.Raft.N r0.Raft.Term r0.Raft.Vote (3 : Int) r0.Raft.Lead r0.Raft.Log r0.Raft.Commit r0.Raft.Snap r0.Raft.Granted m_120_1 (List.replicate r0.Raft.N.toNat (0 : Int)) (0 : Int) r0.Raft.Wait) r0.f_out)) fun r0_2 =>
  some r0_2
def m_raft_member_lead_v1_l1_B  (r0 : Tmember) (rec_m_raft_member_lead_v1_l1 : Int → (List Int) → Option Tmember) (v49 : Int) (m_120 : (List Int)) : Option Tmember :=
  if (decide (v49 < ((r0.Raft.N.toNat : Nat) : Int))) = true then
    bnd (m_logs_Last r0.Raft.Log) fun r0_1 =>
    bnd (nthI m_120 v49) fun e =>
    rec_m_raft_member_lead_v1_l1 (IntKind.i64.wrap (v49 + (1 : Int))) (setI m_120 v49 (IntKind.i64.wrap (r0_1 + (1 : Int))))
  else
    m_raft_member_lead_v1_k1 r0 m_120
def m_raft_member_lead_v1_l1  (r0 : Tmember) : Nat → Int → (List Int) → Option Tmember
  | 0, _, _ => none
  | n + 1, v49, m_120 => m_raft_member_lead_v1_l1_B  r0 (m_raft_member_lead_v1_l1  r0 n) v49 m_120
def m_raft_member_lead_v1  (m : Tmember) : Option Tmember :=
  bnd (m_raft_member_follow m.Raft.Term m.Raft.Id m) fun r0 =>
  if (mkB r0.Raft.N) = true then 
    m_raft_member_lead_v1_l1 r0 (((((r0.Raft.N.toNat : Nat) : Int)) - ((0 : Int))).toNat + 1) (0 : Int) (List.replicate r0.Raft.N.toNat (0 : Int))
   else none
def m_raft_member_send_v4  (to0 : Int) (x0 : TMsg) (m : Tmember) : Option Tmember :=
  if (capB ((m.f_out).length + 1)) = true then 
    some (Tmember.mk m.Raft (m.f_out ++ [(TMsg.mk x0.Kind x0.Group m.Raft.Id to0 x0.Term x0.At x0.AtTerm x0.Commit x0.Ok ([]) ([]))]))
   else none
def m_raft_member_hear_k1  (x0 : TMsg) (m : Tmember) (v20 : Bool) : Option (Bool × Tmember) :=
  if v20 = true then
    bnd (m_raft_member_send_v3 x0.From (TMsg.mk (6 : Int) (0 : Int) (0 : Int) (0 : Int) m.Raft.Term (0 : Int) (0 : Int) (0 : Int) false ([]) ([])) m) fun r0 =>
    some (false, r0)
  else
    bnd (m_raft_member_follow x0.Term x0.From m) fun r0_1 =>
    some (true, (Tmember.mk (TRaft.mk r0_1.Raft.Id r0_1.Raft.N r0_1.Raft.Term r0_1.Raft.Vote r0_1.Raft.Role r0_1.Raft.Lead r0_1.Raft.Log r0_1.Raft.Commit r0_1.Raft.Snap r0_1.Raft.Granted r0_1.Raft.Next r0_1.Raft.Match (0 : Int) r0_1.Raft.Wait) r0_1.f_out))
def m_raft_member_hear  (x0 : TMsg) (m : Tmember) : Option (Bool × Tmember) :=
  if (decide (x0.Term < m.Raft.Term)) = true then
    m_raft_member_hear_k1 x0 m true
  else
    m_raft_member_hear_k1 x0 m (decide (m.Raft.Role = (3 : Int)))
def m_logs_Put_k5  (at0_1 : Int) (entries_1 : (List TEntry)) (r0_7 : TLog) (out_2_1 : (List TEntry)) : Option (TLog × Int × Bool) :=
  some ((TLog.mk r0_7.Base r0_7.BaseTerm out_2_1), (IntKind.i64.wrap (at0_1 + (entries_1.length : Int))), true)
def m_logs_Put_k4  (at0_1 : Int) (entries_1 : (List TEntry)) (r0_7 : TLog) (v97 : Int) (out_2 : (List TEntry)) : Option (TLog × Int × Bool) :=
  bnd (sliceL entries_1 v97 entries_1.length) fun l_3 =>
  bnd (m_logs_copied l_3) fun r0_8 =>
  if (capB (out_2.length + r0_8.length)) = true then 
    m_logs_Put_k5 at0_1 entries_1 r0_7 (out_2 ++ r0_8)
   else none
def m_logs_Put_l2_B  (l : TLog) (at0_1 : Int) (entries_1 : (List TEntry)) (r0_7 : TLog) (rec_m_logs_Put_l2 : Int → Option (TLog × Int × Bool)) (v97 : Int) : Option (TLog × Int × Bool) :=
  if (decide (v97 < (entries_1.length : Int))) = true then
    bnd (nthI entries_1 v97) fun e =>
    if (decide ((IntKind.i64.wrap ((IntKind.i64.wrap (at0_1 + v97)) - l.Base)) < (((r0_7.Entries).length : Nat) : Int))) = true then
      bnd (nthI r0_7.Entries (IntKind.i64.wrap ((IntKind.i64.wrap (at0_1 + v97)) - l.Base))) fun e_1 =>
      if (decide (e_1.Term = e.Term)) = true then
        rec_m_logs_Put_l2 (IntKind.i64.wrap (v97 + (1 : Int)))
      else
        bnd (sliceL r0_7.Entries 0 (IntKind.i64.wrap ((IntKind.i64.wrap (at0_1 + v97)) - l.Base))) fun l_2 =>
        m_logs_Put_k4 at0_1 entries_1 r0_7 v97 l_2
    else
      m_logs_Put_k4 at0_1 entries_1 r0_7 v97 r0_7.Entries
  else
    m_logs_Put_k5 at0_1 entries_1 r0_7 r0_7.Entries
def m_logs_Put_l2  (l : TLog) (at0_1 : Int) (entries_1 : (List TEntry)) (r0_7 : TLog) : Nat → Int → Option (TLog × Int × Bool)
  | 0, _ => none
  | n + 1, v97 => m_logs_Put_l2_B  l at0_1 entries_1 r0_7 (m_logs_Put_l2  l at0_1 entries_1 r0_7 n) v97
def m_logs_Put_k3  (l : TLog) (hint_1 : Int) : Option (TLog × Int × Bool) :=
  bnd (m_logs_Copy l) fun r0_6 =>
  some (r0_6, (if hint_1 < l.Base then l.Base else hint_1), false)
def m_logs_Put_k2 (rec_m_logs_Put_l1 : Int → Int → Bool → Option (TLog × Int × Bool)) (l : TLog) (hint : Int) (v78 : Bool) : Option (TLog × Int × Bool) :=
  if v78 = true then
    bnd (m_logs_Term l (IntKind.i64.wrap (hint - (1 : Int)))) fun r0_5 =>
    rec_m_logs_Put_l1 (IntKind.i64.wrap (hint - (1 : Int))) r0_5.1 r0_5.2
  else
    m_logs_Put_k3 l hint
def m_logs_Put_l1_B  (l : TLog) (r0_1 : (Int × Bool)) (rec_m_logs_Put_l1 : Int → Int → Bool → Option (TLog × Int × Bool)) (hint t : Int) (ok : Bool) : Option (TLog × Int × Bool) :=
  if ok = true then
    if (decide (t = r0_1.1)) = true then
      m_logs_Put_k2 rec_m_logs_Put_l1 l hint (decide (l.Base < hint))
    else
      m_logs_Put_k2 rec_m_logs_Put_l1 l hint false
  else
    m_logs_Put_k2 rec_m_logs_Put_l1 l hint false
def m_logs_Put_l1  (l : TLog) (r0_1 : (Int × Bool)) : Nat → Int → Int → Bool → Option (TLog × Int × Bool)
  | 0, _, _, _ => none
  | n + 1, hint, t, ok => m_logs_Put_l1_B  l r0_1 (m_logs_Put_l1  l r0_1 n) hint t ok
def m_logs_Put_k1  (l : TLog) (at0_1 term_1 : Int) (entries_1 : (List TEntry)) : Option (TLog × Int × Bool) :=
  bnd (m_logs_Term l at0_1) fun r0_1 =>
  if r0_1.2 = true then
    if (decide (r0_1.1 ≠ term_1)) = true then
      bnd (m_logs_Term l (IntKind.i64.wrap (at0_1 - (1 : Int)))) fun r0_4 =>
      m_logs_Put_l1 l r0_1 (1000000) (IntKind.i64.wrap (at0_1 - (1 : Int))) r0_4.1 r0_4.2
    else
      bnd (m_logs_Copy l) fun r0_7 =>
      m_logs_Put_l2 l at0_1 entries_1 r0_7 ((((entries_1.length : Int)) - ((0 : Int))).toNat + 1) (0 : Int)
  else
    bnd (m_logs_Copy l) fun r0_2 =>
    bnd (m_logs_Last l) fun r0_3 =>
    some (r0_2, r0_3, false)
def m_logs_Put  (l : TLog) (at0 : Int) (term : Int) (entries : (List TEntry)) : Option (TLog × Int × Bool) :=
  if (decide (at0 < l.Base)) = true then
    if (decide ((entries.length : Int) < (IntKind.i64.wrap (l.Base - at0)))) = true then
      bnd (m_logs_Copy l) fun r0 =>
      some (r0, l.Base, true)
    else
      bnd (sliceL entries (IntKind.i64.wrap (l.Base - at0)) entries.length) fun l_1 =>
      m_logs_Put_k1 l l.Base l.BaseTerm l_1
  else
    m_logs_Put_k1 l at0 term entries
def m_raft_member_entries_k1  (x0 : TMsg) (r0 : (Bool × Tmember)) (r0_1 : (TLog × Int × Bool)) (ok : Bool) (m_60 m_70 : Int) (m_80 : (List TEntry)) (m_90 : Int) : Option Tmember :=
  bnd (m_raft_member_send_v4 x0.From (TMsg.mk (6 : Int) (0 : Int) (0 : Int) (0 : Int) r0.2.Raft.Term r0_1.2.1 (0 : Int) (0 : Int) ok ([]) ([])) (Tmember.mk (TRaft.mk r0.2.Raft.Id r0.2.Raft.N r0.2.Raft.Term r0.2.Raft.Vote r0.2.Raft.Role r0.2.Raft.Lead (TLog.mk m_60 m_70 m_80) m_90 r0.2.Raft.Snap r0.2.Raft.Granted r0.2.Raft.Next r0.2.Raft.Match r0.2.Raft.Clock r0.2.Raft.Wait) r0.2.f_out)) fun r0_2 =>
  some r0_2
def m_raft_member_entries  (x0 : TMsg) (m : Tmember) : Option Tmember :=
  bnd (m_raft_member_hear x0 m) fun r0 =>
  if r0.1 = true then
    bnd (m_logs_Put r0.2.Raft.Log x0.At x0.AtTerm x0.Entries) fun r0_1 =>
    if r0_1.2.2 = true then
      m_raft_member_entries_k1 x0 r0 r0_1 true r0_1.1.Base r0_1.1.BaseTerm r0_1.1.Entries (if r0.2.Raft.Commit < (if r0_1.2.1 < x0.Commit then r0_1.2.1 else x0.Commit) then (if r0_1.2.1 < x0.Commit then r0_1.2.1 else x0.Commit) else r0.2.Raft.Commit)
    else
      m_raft_member_entries_k1 x0 r0 r0_1 false r0.2.Raft.Log.Base r0.2.Raft.Log.BaseTerm r0.2.Raft.Log.Entries r0.2.Raft.Commit
  else
    some r0.2
def m_raft_member_commit_v2_k1  (m : Tmember) (r0 : Int) (v39 : Bool) : Option Tmember :=
  if v39 = true then
    some (Tmember.mk (TRaft.mk m.Raft.Id m.Raft.N m.Raft.Term m.Raft.Vote m.Raft.Role m.Raft.Lead m.Raft.Log r0 m.Raft.Snap m.Raft.Granted m.Raft.Next m.Raft.Match m.Raft.Clock m.Raft.Wait) m.f_out)
  else
    some m
def m_raft_member_commit_v2  (m : Tmember) : Option Tmember :=
  bnd (m_quorum_Reached m.Raft.Match) fun r0 =>
  bnd (m_logs_Term m.Raft.Log r0) fun r0_1 =>
  if r0_1.2 = true then
    if (decide (m.Raft.Commit < r0)) = true then
      m_raft_member_commit_v2_k1 m r0 (decide (r0_1.1 = m.Raft.Term))
    else
      m_raft_member_commit_v2_k1 m r0 false
  else
    m_raft_member_commit_v2_k1 m r0 false
def m_raft_member_told_k2  (x0 : TMsg) (m_00 m_10 m_20 m_30 m_40 m_50 m_60 m_70 m_90 m_140 m_150 : Int) (m_100 : (List Int)) (m_110 : (List Bool)) (m_120 m_130 : (List Int)) (m_80 : (List TEntry)) (m_160 : (List TMsg)) : Option Tmember :=
  bnd (m_raft_member_tell x0.From (Tmember.mk (TRaft.mk m_00 m_10 m_20 m_30 m_40 m_50 (TLog.mk m_60 m_70 m_80) m_90 m_100 m_110 m_120 m_130 m_140 m_150) m_160)) fun r0_3 =>
  some r0_3
def m_raft_member_told_k1  (x0 : TMsg) (m : Tmember) (v20 : Bool) : Option Tmember :=
  if v20 = true then
    some m
  else
    if x0.Ok = true then
      bnd (nthI m.Raft.Match (IntKind.i64.wrap (x0.From - (1 : Int)))) fun e =>
      bnd (m_logs_Last m.Raft.Log) fun r0 =>
      bnd (nthI m.Raft.Next (IntKind.i64.wrap (x0.From - (1 : Int)))) fun e_1 =>
      bnd (nthI (setI m.Raft.Match (IntKind.i64.wrap (x0.From - (1 : Int))) (if e < (if r0 < x0.At then r0 else x0.At) then (if r0 < x0.At then r0 else x0.At) else e)) (IntKind.i64.wrap (x0.From - (1 : Int)))) fun e_2 =>
      bnd (m_raft_member_commit_v2 (Tmember.mk (TRaft.mk m.Raft.Id m.Raft.N m.Raft.Term m.Raft.Vote m.Raft.Role m.Raft.Lead m.Raft.Log m.Raft.Commit m.Raft.Snap m.Raft.Granted (setI m.Raft.Next (IntKind.i64.wrap (x0.From - (1 : Int))) (if e_1 < (IntKind.i64.wrap (e_2 + (1 : Int))) then (IntKind.i64.wrap (e_2 + (1 : Int))) else e_1)) (setI m.Raft.Match (IntKind.i64.wrap (x0.From - (1 : Int))) (if e < (if r0 < x0.At then r0 else x0.At) then (if r0 < x0.At then r0 else x0.At) else e)) m.Raft.Clock m.Raft.Wait) m.f_out)) fun r0_1 =>
      bnd (nthI r0_1.Raft.Next (IntKind.i64.wrap (x0.From - (1 : Int)))) fun e_3 =>
      bnd (m_logs_Last r0_1.Raft.Log) fun r0_2 =>
      if (decide (r0_2 < e_3)) = true then
        some r0_1
      else
        m_raft_member_told_k2 x0 r0_1.Raft.Id r0_1.Raft.N r0_1.Raft.Term r0_1.Raft.Vote r0_1.Raft.Role r0_1.Raft.Lead r0_1.Raft.Log.Base r0_1.Raft.Log.BaseTerm r0_1.Raft.Commit r0_1.Raft.Clock r0_1.Raft.Wait r0_1.Raft.Snap r0_1.Raft.Granted r0_1.Raft.Next r0_1.Raft.Match r0_1.Raft.Log.Entries r0_1.f_out
    else
      bnd (nthI m.Raft.Match (IntKind.i64.wrap (x0.From - (1 : Int)))) fun e_4 =>
      bnd (nthI m.Raft.Next (IntKind.i64.wrap (x0.From - (1 : Int)))) fun e_5 =>
      m_raft_member_told_k2 x0 m.Raft.Id m.Raft.N m.Raft.Term m.Raft.Vote m.Raft.Role m.Raft.Lead m.Raft.Log.Base m.Raft.Log.BaseTerm m.Raft.Commit m.Raft.Clock m.Raft.Wait m.Raft.Snap m.Raft.Granted (setI m.Raft.Next (IntKind.i64.wrap (x0.From - (1 : Int))) (if (IntKind.i64.wrap (e_4 + (1 : Int))) < (IntKind.i64.wrap ((if x0.At < (IntKind.i64.wrap (e_5 - (2 : Int))) then x0.At else (IntKind.i64.wrap (e_5 - (2 : Int)))) + (1 : Int))) then (IntKind.i64.wrap ((if x0.At < (IntKind.i64.wrap (e_5 - (2 : Int))) then x0.At else (IntKind.i64.wrap (e_5 - (2 : Int)))) + (1 : Int))) else (IntKind.i64.wrap (e_4 + (1 : Int))))) m.Raft.Match m.Raft.Log.Entries m.f_out
def m_raft_member_told  (x0 : TMsg) (m : Tmember) : Option Tmember :=
  if (decide (x0.Term < m.Raft.Term)) = true then
    m_raft_member_told_k1 x0 m true
  else
    m_raft_member_told_k1 x0 m (decide (m.Raft.Role ≠ (3 : Int)))
def m_logs_Compact  (l : TLog) (at0 : Int) : Option (TLog × Int) :=
  bnd (m_logs_Term l at0) fun r0 =>
  if r0.2 = true then
    bnd (sliceL l.Entries (IntKind.i64.wrap (at0 - l.Base)) l.Entries.length) fun l_1 =>
    bnd (m_logs_copied l_1) fun r0_1 =>
    some ((TLog.mk at0 r0.1 r0_1), (0 : Int))
  else
    some ((TLog.mk (0 : Int) (0 : Int) ([])), (2 : Int))
def m_logs_Reset_k1  (l : TLog) (at0 term : Int) (v22 : Bool) : Option TLog :=
  if v22 = true then
    bnd (m_logs_Compact l at0) fun r0_1 =>
    some r0_1.1
  else
    some (TLog.mk at0 term ([]))
def m_logs_Reset  (l : TLog) (at0 : Int) (term : Int) : Option TLog :=
  bnd (m_logs_Term l at0) fun r0 =>
  if r0.2 = true then
    m_logs_Reset_k1 l at0 term (decide (r0.1 = term))
  else
    m_logs_Reset_k1 l at0 term false
def m_raft_member_snap_k1  (x0 : TMsg) (r0 : (Bool × Tmember)) (m_60 m_70 : Int) (m_80 : (List TEntry)) (m_90 : Int) (m_100 : (List Int)) : Option Tmember :=
  bnd (m_raft_member_send_v4 x0.From (TMsg.mk (6 : Int) (0 : Int) (0 : Int) (0 : Int) r0.2.Raft.Term m_90 (0 : Int) (0 : Int) true ([]) ([])) (Tmember.mk (TRaft.mk r0.2.Raft.Id r0.2.Raft.N r0.2.Raft.Term r0.2.Raft.Vote r0.2.Raft.Role r0.2.Raft.Lead (TLog.mk m_60 m_70 m_80) m_90 m_100 r0.2.Raft.Granted r0.2.Raft.Next r0.2.Raft.Match r0.2.Raft.Clock r0.2.Raft.Wait) r0.2.f_out)) fun r0_2 =>
  some r0_2
def m_raft_member_snap  (x0 : TMsg) (m : Tmember) : Option Tmember :=
  bnd (m_raft_member_hear x0 m) fun r0 =>
  if r0.1 = true then
    if (decide (r0.2.Raft.Commit < x0.At)) = true then
      bnd (m_logs_Reset r0.2.Raft.Log x0.At x0.AtTerm) fun r0_1 =>
      if (capB (x0.Data).length) = true then 
        m_raft_member_snap_k1 x0 r0 r0_1.Base r0_1.BaseTerm r0_1.Entries x0.At x0.Data
       else none
    else
      m_raft_member_snap_k1 x0 r0 r0.2.Raft.Log.Base r0.2.Raft.Log.BaseTerm r0.2.Raft.Log.Entries r0.2.Raft.Commit r0.2.Raft.Snap
  else
    some r0.2
def m_law15_works : Option Bool := some true
def m_raft_New_k1  (id n0 : Int) (v20 : Bool) : Option (TRaft × Int) :=
  if v20 = true then
    some ((TRaft.mk (0 : Int) (0 : Int) (0 : Int) (0 : Int) (0 : Int) (0 : Int) (TLog.mk (0 : Int) (0 : Int) ([])) (0 : Int) ([]) ([]) ([]) ([]) (0 : Int) (0 : Int)), (2 : Int))
  else
    some ((TRaft.mk id n0 (0 : Int) (0 : Int) (0 : Int) (0 : Int) (TLog.mk (0 : Int) (0 : Int) ([])) (0 : Int) ([]) ([]) ([]) ([]) (0 : Int) (IntKind.i64.wrap ((10 : Int) + id))), (0 : Int))
def m_raft_New  (id : Int) (n0 : Int) : Option (TRaft × Int) :=
  if (decide (n0 < (1 : Int))) = true then
    m_raft_New_k1 id n0 true
  else
    if (decide ((7 : Int) < n0)) = true then
      m_raft_New_k1 id n0 true
    else
      if (decide (id < (1 : Int))) = true then
        m_raft_New_k1 id n0 true
      else
        m_raft_New_k1 id n0 (decide (n0 < id))
def m_logs_Check_k2 (rec_m_logs_Check_l1 : Int → Int → Option Int) (v39 : Int) (e : TEntry) (v51 : Bool) : Option Int :=
  if v51 = true then
    some (1 : Int)
  else
    rec_m_logs_Check_l1 e.Term (IntKind.i64.wrap (v39 + (1 : Int)))
def m_logs_Check_l1_B  (l : TLog) (rec_m_logs_Check_l1 : Int → Int → Option Int) (term v39 : Int) : Option Int :=
  if (decide (v39 < (l.Entries.length : Int))) = true then
    bnd (nthI l.Entries v39) fun e =>
    if (decide (e.Term < term)) = true then
      m_logs_Check_k2 rec_m_logs_Check_l1 v39 e true
    else
      m_logs_Check_k2 rec_m_logs_Check_l1 v39 e (decide ((1099511627776 : Int) < e.Term))
  else
    some (0 : Int)
def m_logs_Check_l1  (l : TLog) : Nat → Int → Int → Option Int
  | 0, _, _ => none
  | n + 1, term, v39 => m_logs_Check_l1_B  l (m_logs_Check_l1  l n) term v39
def m_logs_Check_k1  (l : TLog) (v32 : Bool) : Option Int :=
  if v32 = true then
    some (1 : Int)
  else
    m_logs_Check_l1 l ((((l.Entries.length : Int)) - ((0 : Int))).toNat + 1) (if l.BaseTerm < (1 : Int) then (1 : Int) else l.BaseTerm) (0 : Int)
def m_logs_Check  (l : TLog) : Option Int :=
  if (decide (l.Base < (0 : Int))) = true then
    m_logs_Check_k1 l true
  else
    if (decide ((1099511627776 : Int) < l.Base)) = true then
      m_logs_Check_k1 l true
    else
      if (decide (l.BaseTerm < (0 : Int))) = true then
        m_logs_Check_k1 l true
      else
        if (decide ((1099511627776 : Int) < l.BaseTerm)) = true then
          m_logs_Check_k1 l true
        else
          m_logs_Check_k1 l (!(((decide (l.Base = (0 : Int))) == (decide (l.BaseTerm = (0 : Int))))))
def m_raft_Restart_k1  (term vote : Int) (l : TLog) (snap : (List Int)) (r0 : (TRaft × Int)) (v27 : Bool) : Option (TRaft × Int) :=
  if v27 = true then
    some ((TRaft.mk (0 : Int) (0 : Int) (0 : Int) (0 : Int) (0 : Int) (0 : Int) (TLog.mk (0 : Int) (0 : Int) ([])) (0 : Int) ([]) ([]) ([]) ([]) (0 : Int) (0 : Int)), (1 : Int))
  else
    bnd (m_logs_Copy l) fun r0_3 =>
    if (capB (snap).length) = true then 
      some ((TRaft.mk r0.1.Id r0.1.N term vote r0.1.Role r0.1.Lead r0_3 l.Base snap r0.1.Granted r0.1.Next r0.1.Match r0.1.Clock r0.1.Wait), (0 : Int))
     else none
def m_raft_Restart  (id : Int) (n0 : Int) (term : Int) (vote : Int) (l : TLog) (snap : (List Int)) : Option (TRaft × Int) :=
  bnd (m_raft_New id n0) fun r0 =>
  if (decide (r0.2 ≠ (0 : Int))) = true then
    some ((TRaft.mk (0 : Int) (0 : Int) (0 : Int) (0 : Int) (0 : Int) (0 : Int) (TLog.mk (0 : Int) (0 : Int) ([])) (0 : Int) ([]) ([]) ([]) ([]) (0 : Int) (0 : Int)), r0.2)
  else
    if (decide (term < (0 : Int))) = true then
      m_raft_Restart_k1 term vote l snap r0 true
    else
      if (decide ((1099511627776 : Int) < term)) = true then
        m_raft_Restart_k1 term vote l snap r0 true
      else
        if (decide (vote < (0 : Int))) = true then
          m_raft_Restart_k1 term vote l snap r0 true
        else
          if (decide (n0 < vote)) = true then
            m_raft_Restart_k1 term vote l snap r0 true
          else
            bnd (m_logs_LastTerm l) fun r0_1 =>
            if (decide (term < r0_1)) = true then
              m_raft_Restart_k1 term vote l snap r0 true
            else
              bnd (m_logs_Check l) fun r0_2 =>
              m_raft_Restart_k1 term vote l snap r0 (decide (r0_2 ≠ (0 : Int)))
def m_law15_light_l1_B  (l : (List TOp)) (rec_m_law15_light_l1 : Int → Option Bool) (i : Int) : Option Bool :=
  if (decide (i < (l.length : Int))) = true then
    bnd (nthI l i) fun e =>
    if (decide ((20 : Int) < (e.Data.length : Int))) = true then
      some false
    else
      rec_m_law15_light_l1 (IntKind.i64.wrap (i + (1 : Int)))
  else
    some true
def m_law15_light_l1  (l : (List TOp)) : Nat → Int → Option Bool
  | 0, _ => none
  | n + 1, i => m_law15_light_l1_B  l (m_law15_light_l1  l n) i
def m_law15_light  (l : (List TOp)) : Option Bool :=
  if (decide ((250 : Int) < (l.length : Int))) = true then
    some false
  else
    m_law15_light_l1 l ((((l.length : Int)) - ((0 : Int))).toNat + 1) (0 : Int)
def m_law15_Begin_l1_B  (n0 : Int) (rec_m_law15_Begin_l1 : Int → (List TRaft) → Option TWorld) (i : Int) (w_00 : (List TRaft)) : Option TWorld :=
  if (decide (i ≤ n0)) = true then
    bnd (m_raft_New i n0) fun r0 =>
    if (capB (w_00.length + 1)) = true then 
      rec_m_law15_Begin_l1 (IntKind.i64.wrap (i + (1 : Int))) (w_00 ++ [r0.1])
     else none
  else
    some (TWorld.mk w_00 ([]))
def m_law15_Begin_l1  (n0 : Int) : Nat → Int → (List TRaft) → Option TWorld
  | 0, _, _ => none
  | n + 1, i, w_00 => m_law15_Begin_l1_B  n0 (m_law15_Begin_l1  n0 n) i w_00
def m_law15_Begin  (n0 : Int) : Option TWorld :=
  m_law15_Begin_l1 n0 (((n0) - ((1 : Int)) + 1).toNat + 1) (1 : Int) ([])
def m_law15_size  (n0 : Int) : Option Int :=
  some (IntKind.i64.wrap ((1 : Int) + ((IntKind.i64.wrap n0).tmod (5 : Int))))
def m_raft_Tick_k3  (m_00 m_10 m_20 m_30 m_40 m_50 m_60 m_70 : Int) (m_80 : (List TEntry)) (m_90 m_140 m_150 : Int) (m_100 : (List Int)) (m_110 : (List Bool)) (m_120 m_130 : (List Int)) (m_160 : (List TMsg)) : Option (TRaft × (List TMsg)) :=
  bnd (m_raft_member_done (Tmember.mk (TRaft.mk m_00 m_10 m_20 m_30 m_40 m_50 (TLog.mk m_60 m_70 m_80) m_90 m_100 m_110 m_120 m_130 m_140 m_150) m_160)) fun r0_4 =>
  some (r0_4.1, r0_4.2)
def m_raft_Tick_k2  (draw : Int) (r0_1 : Tmember) (v41 : Bool) : Option (TRaft × (List TMsg)) :=
  if v41 = true then
    bnd (m_raft_member_ask draw (Tmember.mk (TRaft.mk r0_1.Raft.Id r0_1.Raft.N r0_1.Raft.Term r0_1.Raft.Vote r0_1.Raft.Role r0_1.Raft.Lead r0_1.Raft.Log r0_1.Raft.Commit r0_1.Raft.Snap r0_1.Raft.Granted r0_1.Raft.Next r0_1.Raft.Match (IntKind.i64.wrap (r0_1.Raft.Clock + (1 : Int))) r0_1.Raft.Wait) r0_1.f_out)) fun r0_3 =>
    m_raft_Tick_k3 r0_3.Raft.Id r0_3.Raft.N r0_3.Raft.Term r0_3.Raft.Vote r0_3.Raft.Role r0_3.Raft.Lead r0_3.Raft.Log.Base r0_3.Raft.Log.BaseTerm r0_3.Raft.Log.Entries r0_3.Raft.Commit r0_3.Raft.Clock r0_3.Raft.Wait r0_3.Raft.Snap r0_3.Raft.Granted r0_3.Raft.Next r0_3.Raft.Match r0_3.f_out
  else
    m_raft_Tick_k3 r0_1.Raft.Id r0_1.Raft.N r0_1.Raft.Term r0_1.Raft.Vote r0_1.Raft.Role r0_1.Raft.Lead r0_1.Raft.Log.Base r0_1.Raft.Log.BaseTerm r0_1.Raft.Log.Entries r0_1.Raft.Commit (IntKind.i64.wrap (r0_1.Raft.Clock + (1 : Int))) r0_1.Raft.Wait r0_1.Raft.Snap r0_1.Raft.Granted r0_1.Raft.Next r0_1.Raft.Match r0_1.f_out
def m_raft_Tick_k1  (draw : Int) (r0_1 : Tmember) (v18 : Bool) : Option (TRaft × (List TMsg)) :=
  if v18 = true then
    bnd (m_raft_member_all (Tmember.mk (TRaft.mk r0_1.Raft.Id r0_1.Raft.N r0_1.Raft.Term r0_1.Raft.Vote r0_1.Raft.Role r0_1.Raft.Lead r0_1.Raft.Log r0_1.Raft.Commit r0_1.Raft.Snap r0_1.Raft.Granted r0_1.Raft.Next r0_1.Raft.Match (0 : Int) r0_1.Raft.Wait) r0_1.f_out)) fun r0_2 =>
    m_raft_Tick_k3 r0_2.Raft.Id r0_2.Raft.N r0_2.Raft.Term r0_2.Raft.Vote r0_2.Raft.Role r0_2.Raft.Lead r0_2.Raft.Log.Base r0_2.Raft.Log.BaseTerm r0_2.Raft.Log.Entries r0_2.Raft.Commit r0_2.Raft.Clock r0_2.Raft.Wait r0_2.Raft.Snap r0_2.Raft.Granted r0_2.Raft.Next r0_2.Raft.Match r0_2.f_out
  else
    if (decide (r0_1.Raft.Role ≠ (3 : Int))) = true then
      m_raft_Tick_k2 draw r0_1 (decide (r0_1.Raft.Wait ≤ (IntKind.i64.wrap (r0_1.Raft.Clock + (1 : Int)))))
    else
      m_raft_Tick_k2 draw r0_1 false
def m_raft_Tick  (r0 : TRaft) (draw : Int) : Option (TRaft × (List TMsg)) :=
  bnd (m_raft_at r0) fun r0_1 =>
  if (decide (r0_1.Raft.Role = (3 : Int))) = true then
    m_raft_Tick_k1 draw r0_1 (decide ((2 : Int) ≤ (IntKind.i64.wrap (r0_1.Raft.Clock + (1 : Int)))))
  else
    m_raft_Tick_k1 draw r0_1 false
def m_raft_Propose  (r0 : TRaft) (data : (List Int)) : Option (TRaft × Int × (List TMsg) × Int) :=
  bnd (m_raft_at r0) fun r0_1 =>
  if (decide (r0_1.Raft.Role ≠ (3 : Int))) = true then
    some (r0_1.Raft, (0 : Int), [], (15 : Int))
  else
    bnd (m_raft_member_append_v1 data r0_1) fun r0_2 =>
    bnd (m_raft_member_done r0_2) fun r0_3 =>
    bnd (m_logs_Last r0_3.1.Log) fun r0_4 =>
    some (r0_3.1, r0_4, r0_3.2, (0 : Int))
def m_raft_Compact_k1  (upto : Int) (snap : (List Int)) (r0_1 : Tmember) (v29 : Bool) : Option (TRaft × Int) :=
  if v29 = true then
    some (r0_1.Raft, (2 : Int))
  else
    bnd (m_logs_Compact r0_1.Raft.Log upto) fun r0_2 =>
    if (decide (r0_2.2 ≠ (0 : Int))) = true then
      some (r0_1.Raft, r0_2.2)
    else
      if (capB (snap).length) = true then 
        some ((TRaft.mk r0_1.Raft.Id r0_1.Raft.N r0_1.Raft.Term r0_1.Raft.Vote r0_1.Raft.Role r0_1.Raft.Lead r0_2.1 r0_1.Raft.Commit snap r0_1.Raft.Granted r0_1.Raft.Next r0_1.Raft.Match r0_1.Raft.Clock r0_1.Raft.Wait), (0 : Int))
       else none
def m_raft_Compact  (r0 : TRaft) (upto : Int) (snap : (List Int)) : Option (TRaft × Int) :=
  bnd (m_raft_at r0) fun r0_1 =>
  if (decide (upto ≤ r0_1.Raft.Log.Base)) = true then
    m_raft_Compact_k1 upto snap r0_1 true
  else
    m_raft_Compact_k1 upto snap r0_1 (decide (r0_1.Raft.Commit < upto))
def m_law15_pick  (k : Int) (n0 : Int) : Option Int :=
  if (decide ((IntKind.u64.wrap n0) = 0)) = true then none else some (IntKind.i64.wrap ((IntKind.u64.wrap k).tmod (IntKind.u64.wrap n0)))
def m_law15_set  (w : TWorld) (i : Int) (r0 : TRaft) (l : (List TMsg)) : Option TWorld :=
  if (capB (w.R).length) = true then 
    bnd (nthI w.R i) fun e =>
    if (capB (w.Net).length) = true then 
      if (capB ((w.Net).length + l.length)) = true then 
        if (decide ((60 : Int) < ((((w.Net).length + l.length) : Nat) : Int))) = true then
          bnd (sliceL (w.Net ++ l) (IntKind.i64.wrap (((((w.Net).length + l.length) : Nat) : Int) - (60 : Int))) (w.Net ++ l).length) fun l_1 =>
          some (TWorld.mk (setI w.R i r0) l_1)
        else
          some (TWorld.mk (setI w.R i r0) (w.Net ++ l))
       else none
     else none
   else none
def m_law15_take_k1  (w : TWorld) (k : Int) (e : TMsg) (out_1 : (List TMsg)) : Option (TWorld × TMsg) :=
  bnd (sliceL w.Net (IntKind.i64.wrap (k + (1 : Int))) w.Net.length) fun l_1 =>
  if (capB (out_1.length + l_1.length)) = true then 
    some ((TWorld.mk w.R (out_1 ++ l_1)), e)
   else none
def m_law15_take  (w : TWorld) (k : Int) (keep : Bool) : Option (TWorld × TMsg) :=
  bnd (nthI w.Net k) fun e =>
  bnd (sliceL w.Net 0 k) fun l =>
  if (capB l.length) = true then 
    if keep = true then
      if (capB (l.length + 1)) = true then 
        m_law15_take_k1 w k e (l ++ [e])
       else none
    else
      m_law15_take_k1 w k e l
   else none
def m_raft_Receive_k6  (m_00_3 m_10_3 m_20_3 m_30_3 m_40_3 m_50_3 m_60_3 m_70_3 : Int) (m_80_3 : (List TEntry)) (m_90_3 m_140_3 m_150_3 : Int) (m_100_3 : (List Int)) (m_110_3 : (List Bool)) (m_120_3 m_130_3 : (List Int)) (m_160_3 : (List TMsg)) : Option (TRaft × (List TMsg)) :=
  bnd (m_raft_member_done (Tmember.mk (TRaft.mk m_00_3 m_10_3 m_20_3 m_30_3 m_40_3 m_50_3 (TLog.mk m_60_3 m_70_3 m_80_3) m_90_3 m_100_3 m_110_3 m_120_3 m_130_3 m_140_3 m_150_3) m_160_3)) fun r0_13 =>
  some (r0_13.1, r0_13.2)
def m_raft_Receive_k5  (v158 : Bool) (m_00_2 m_10_2 m_20_2 m_30_2 m_40_2 m_50_2 m_60_2 m_70_2 m_90_2 m_140_2 m_150_2 : Int) (m_80_2 : (List TEntry)) (m_100_2 : (List Int)) (m_110_2 : (List Bool)) (m_120_2 m_130_2 : (List Int)) (m_160_2 : (List TMsg)) : Option (TRaft × (List TMsg)) :=
  if v158 = true then
    bnd (m_raft_member_lead_v1 (Tmember.mk (TRaft.mk m_00_2 m_10_2 m_20_2 m_30_2 m_40_2 m_50_2 (TLog.mk m_60_2 m_70_2 m_80_2) m_90_2 m_100_2 m_110_2 m_120_2 m_130_2 m_140_2 m_150_2) m_160_2)) fun r0_9 =>
    m_raft_Receive_k6 r0_9.Raft.Id r0_9.Raft.N r0_9.Raft.Term r0_9.Raft.Vote r0_9.Raft.Role r0_9.Raft.Lead r0_9.Raft.Log.Base r0_9.Raft.Log.BaseTerm r0_9.Raft.Log.Entries r0_9.Raft.Commit r0_9.Raft.Clock r0_9.Raft.Wait r0_9.Raft.Snap r0_9.Raft.Granted r0_9.Raft.Next r0_9.Raft.Match r0_9.f_out
  else
    m_raft_Receive_k6 m_00_2 m_10_2 m_20_2 m_30_2 m_40_2 m_50_2 m_60_2 m_70_2 m_80_2 m_90_2 m_140_2 m_150_2 m_100_2 m_110_2 m_120_2 m_130_2 m_160_2
def m_raft_Receive_k4  (v123 : Bool) (m_00_1 m_10_1 m_20_1 m_30_1 m_40_1 m_50_1 m_60_1 m_70_1 m_90_1 m_140_1 m_150_1 : Int) (m_80_1 : (List TEntry)) (m_100_1 : (List Int)) (m_110_1 : (List Bool)) (m_120_1 m_130_1 : (List Int)) (m_160_1 : (List TMsg)) : Option (TRaft × (List TMsg)) :=
  if v123 = true then
    bnd (m_raft_member_stand_v1 (Tmember.mk (TRaft.mk m_00_1 m_10_1 m_20_1 m_30_1 m_40_1 m_50_1 (TLog.mk m_60_1 m_70_1 m_80_1) m_90_1 m_100_1 m_110_1 m_120_1 m_130_1 m_140_1 m_150_1) m_160_1)) fun r0_6 =>
    m_raft_Receive_k6 r0_6.Raft.Id r0_6.Raft.N r0_6.Raft.Term r0_6.Raft.Vote r0_6.Raft.Role r0_6.Raft.Lead r0_6.Raft.Log.Base r0_6.Raft.Log.BaseTerm r0_6.Raft.Log.Entries r0_6.Raft.Commit r0_6.Raft.Clock r0_6.Raft.Wait r0_6.Raft.Snap r0_6.Raft.Granted r0_6.Raft.Next r0_6.Raft.Match r0_6.f_out
  else
    m_raft_Receive_k6 m_00_1 m_10_1 m_20_1 m_30_1 m_40_1 m_50_1 m_60_1 m_70_1 m_80_1 m_90_1 m_140_1 m_150_1 m_100_1 m_110_1 m_120_1 m_130_1 m_160_1
def m_raft_Receive_k3  (x0 : TMsg) (m_00 m_10 m_20 m_30 m_40 m_50 m_60 m_70 m_90 m_140 m_150 : Int) (m_80 : (List TEntry)) (m_100 : (List Int)) (m_110 : (List Bool)) (m_120 m_130 : (List Int)) (m_160 : (List TMsg)) : Option (TRaft × (List TMsg)) :=
  if (decide (x0.Kind = (1 : Int))) = true then
    bnd (m_raft_member_asked x0 (Tmember.mk (TRaft.mk m_00 m_10 m_20 m_30 m_40 m_50 (TLog.mk m_60 m_70 m_80) m_90 m_100 m_110 m_120 m_130 m_140 m_150) m_160)) fun r0_4 =>
    m_raft_Receive_k6 r0_4.Raft.Id r0_4.Raft.N r0_4.Raft.Term r0_4.Raft.Vote r0_4.Raft.Role r0_4.Raft.Lead r0_4.Raft.Log.Base r0_4.Raft.Log.BaseTerm r0_4.Raft.Log.Entries r0_4.Raft.Commit r0_4.Raft.Clock r0_4.Raft.Wait r0_4.Raft.Snap r0_4.Raft.Granted r0_4.Raft.Next r0_4.Raft.Match r0_4.f_out
  else
    if (decide (x0.Kind = (2 : Int))) = true then
      if x0.Ok = true then
        if (decide (m_40 = (1 : Int))) = true then
          if (decide (x0.Term = (IntKind.i64.wrap (m_20 + (1 : Int))))) = true then
            bnd (m_raft_member_grant_v1 x0.From (Tmember.mk (TRaft.mk m_00 m_10 m_20 m_30 m_40 m_50 (TLog.mk m_60 m_70 m_80) m_90 m_100 m_110 m_120 m_130 m_140 m_150) m_160)) fun r0_5 =>
            m_raft_Receive_k4 r0_5.1 r0_5.2.Raft.Id r0_5.2.Raft.N r0_5.2.Raft.Term r0_5.2.Raft.Vote r0_5.2.Raft.Role r0_5.2.Raft.Lead r0_5.2.Raft.Log.Base r0_5.2.Raft.Log.BaseTerm r0_5.2.Raft.Commit r0_5.2.Raft.Clock r0_5.2.Raft.Wait r0_5.2.Raft.Log.Entries r0_5.2.Raft.Snap r0_5.2.Raft.Granted r0_5.2.Raft.Next r0_5.2.Raft.Match r0_5.2.f_out
          else
            m_raft_Receive_k4 false m_00 m_10 m_20 m_30 m_40 m_50 m_60 m_70 m_90 m_140 m_150 m_80 m_100 m_110 m_120 m_130 m_160
        else
          m_raft_Receive_k4 false m_00 m_10 m_20 m_30 m_40 m_50 m_60 m_70 m_90 m_140 m_150 m_80 m_100 m_110 m_120 m_130 m_160
      else
        m_raft_Receive_k4 false m_00 m_10 m_20 m_30 m_40 m_50 m_60 m_70 m_90 m_140 m_150 m_80 m_100 m_110 m_120 m_130 m_160
    else
      if (decide (x0.Kind = (3 : Int))) = true then
        bnd (m_raft_member_vote x0 (Tmember.mk (TRaft.mk m_00 m_10 m_20 m_30 m_40 m_50 (TLog.mk m_60 m_70 m_80) m_90 m_100 m_110 m_120 m_130 m_140 m_150) m_160)) fun r0_7 =>
        m_raft_Receive_k6 r0_7.Raft.Id r0_7.Raft.N r0_7.Raft.Term r0_7.Raft.Vote r0_7.Raft.Role r0_7.Raft.Lead r0_7.Raft.Log.Base r0_7.Raft.Log.BaseTerm r0_7.Raft.Log.Entries r0_7.Raft.Commit r0_7.Raft.Clock r0_7.Raft.Wait r0_7.Raft.Snap r0_7.Raft.Granted r0_7.Raft.Next r0_7.Raft.Match r0_7.f_out
      else
        if (decide (x0.Kind = (4 : Int))) = true then
          if x0.Ok = true then
            if (decide (m_40 = (2 : Int))) = true then
              if (decide (x0.Term = m_20)) = true then
                bnd (m_raft_member_grant_v1 x0.From (Tmember.mk (TRaft.mk m_00 m_10 m_20 m_30 m_40 m_50 (TLog.mk m_60 m_70 m_80) m_90 m_100 m_110 m_120 m_130 m_140 m_150) m_160)) fun r0_8 =>
                m_raft_Receive_k5 r0_8.1 r0_8.2.Raft.Id r0_8.2.Raft.N r0_8.2.Raft.Term r0_8.2.Raft.Vote r0_8.2.Raft.Role r0_8.2.Raft.Lead r0_8.2.Raft.Log.Base r0_8.2.Raft.Log.BaseTerm r0_8.2.Raft.Commit r0_8.2.Raft.Clock r0_8.2.Raft.Wait r0_8.2.Raft.Log.Entries r0_8.2.Raft.Snap r0_8.2.Raft.Granted r0_8.2.Raft.Next r0_8.2.Raft.Match r0_8.2.f_out
              else
                m_raft_Receive_k5 false m_00 m_10 m_20 m_30 m_40 m_50 m_60 m_70 m_90 m_140 m_150 m_80 m_100 m_110 m_120 m_130 m_160
            else
              m_raft_Receive_k5 false m_00 m_10 m_20 m_30 m_40 m_50 m_60 m_70 m_90 m_140 m_150 m_80 m_100 m_110 m_120 m_130 m_160
          else
            m_raft_Receive_k5 false m_00 m_10 m_20 m_30 m_40 m_50 m_60 m_70 m_90 m_140 m_150 m_80 m_100 m_110 m_120 m_130 m_160
        else
          if (decide (x0.Kind = (5 : Int))) = true then
            bnd (m_raft_member_entries x0 (Tmember.mk (TRaft.mk m_00 m_10 m_20 m_30 m_40 m_50 (TLog.mk m_60 m_70 m_80) m_90 m_100 m_110 m_120 m_130 m_140 m_150) m_160)) fun r0_10 =>
            m_raft_Receive_k6 r0_10.Raft.Id r0_10.Raft.N r0_10.Raft.Term r0_10.Raft.Vote r0_10.Raft.Role r0_10.Raft.Lead r0_10.Raft.Log.Base r0_10.Raft.Log.BaseTerm r0_10.Raft.Log.Entries r0_10.Raft.Commit r0_10.Raft.Clock r0_10.Raft.Wait r0_10.Raft.Snap r0_10.Raft.Granted r0_10.Raft.Next r0_10.Raft.Match r0_10.f_out
          else
            if (decide (x0.Kind = (6 : Int))) = true then
              bnd (m_raft_member_told x0 (Tmember.mk (TRaft.mk m_00 m_10 m_20 m_30 m_40 m_50 (TLog.mk m_60 m_70 m_80) m_90 m_100 m_110 m_120 m_130 m_140 m_150) m_160)) fun r0_11 =>
              m_raft_Receive_k6 r0_11.Raft.Id r0_11.Raft.N r0_11.Raft.Term r0_11.Raft.Vote r0_11.Raft.Role r0_11.Raft.Lead r0_11.Raft.Log.Base r0_11.Raft.Log.BaseTerm r0_11.Raft.Log.Entries r0_11.Raft.Commit r0_11.Raft.Clock r0_11.Raft.Wait r0_11.Raft.Snap r0_11.Raft.Granted r0_11.Raft.Next r0_11.Raft.Match r0_11.f_out
            else
              if (decide (x0.Kind = (7 : Int))) = true then
                bnd (m_raft_member_snap x0 (Tmember.mk (TRaft.mk m_00 m_10 m_20 m_30 m_40 m_50 (TLog.mk m_60 m_70 m_80) m_90 m_100 m_110 m_120 m_130 m_140 m_150) m_160)) fun r0_12 =>
                m_raft_Receive_k6 r0_12.Raft.Id r0_12.Raft.N r0_12.Raft.Term r0_12.Raft.Vote r0_12.Raft.Role r0_12.Raft.Lead r0_12.Raft.Log.Base r0_12.Raft.Log.BaseTerm r0_12.Raft.Log.Entries r0_12.Raft.Commit r0_12.Raft.Clock r0_12.Raft.Wait r0_12.Raft.Snap r0_12.Raft.Granted r0_12.Raft.Next r0_12.Raft.Match r0_12.f_out
              else
                m_raft_Receive_k6 m_00 m_10 m_20 m_30 m_40 m_50 m_60 m_70 m_80 m_90 m_140 m_150 m_100 m_110 m_120 m_130 m_160
def m_raft_Receive_k2  (x0 : TMsg) (r0_1 : Tmember) (v83 : Bool) : Option (TRaft × (List TMsg)) :=
  if v83 = true then
    bnd (m_raft_member_follow x0.Term (0 : Int) r0_1) fun r0_3 =>
    m_raft_Receive_k3 x0 r0_3.Raft.Id r0_3.Raft.N r0_3.Raft.Term r0_3.Raft.Vote r0_3.Raft.Role r0_3.Raft.Lead r0_3.Raft.Log.Base r0_3.Raft.Log.BaseTerm r0_3.Raft.Commit r0_3.Raft.Clock r0_3.Raft.Wait r0_3.Raft.Log.Entries r0_3.Raft.Snap r0_3.Raft.Granted r0_3.Raft.Next r0_3.Raft.Match r0_3.f_out
  else
    m_raft_Receive_k3 x0 r0_1.Raft.Id r0_1.Raft.N r0_1.Raft.Term r0_1.Raft.Vote r0_1.Raft.Role r0_1.Raft.Lead r0_1.Raft.Log.Base r0_1.Raft.Log.BaseTerm r0_1.Raft.Commit r0_1.Raft.Clock r0_1.Raft.Wait r0_1.Raft.Log.Entries r0_1.Raft.Snap r0_1.Raft.Granted r0_1.Raft.Next r0_1.Raft.Match r0_1.f_out
def m_raft_Receive_k1  (x0 : TMsg) (r0_1 : Tmember) (v56 : Bool) : Option (TRaft × (List TMsg)) :=
  if v56 = true then
    bnd (m_raft_member_done_v1 r0_1) fun r0_2 =>
    some (r0_2.1, r0_2.2)
  else
    if (decide (r0_1.Raft.Term < x0.Term)) = true then
      if (decide (x0.Kind ≠ (1 : Int))) = true then
        if (decide (x0.Kind ≠ (2 : Int))) = true then
          m_raft_Receive_k2 x0 r0_1 true
        else
          m_raft_Receive_k2 x0 r0_1 (!x0.Ok)
      else
        m_raft_Receive_k2 x0 r0_1 false
    else
      m_raft_Receive_k2 x0 r0_1 false
def m_raft_Receive  (r0 : TRaft) (x0 : TMsg) : Option (TRaft × (List TMsg)) :=
  bnd (m_raft_at r0) fun r0_1 =>
  if (decide (x0.To ≠ r0_1.Raft.Id)) = true then
    m_raft_Receive_k1 x0 r0_1 true
  else
    if (decide (x0.From < (1 : Int))) = true then
      m_raft_Receive_k1 x0 r0_1 true
    else
      if (decide (r0_1.Raft.N < x0.From)) = true then
        m_raft_Receive_k1 x0 r0_1 true
      else
        if (decide (x0.From = r0_1.Raft.Id)) = true then
          m_raft_Receive_k1 x0 r0_1 true
        else
          if (decide (x0.Term < (0 : Int))) = true then
            m_raft_Receive_k1 x0 r0_1 true
          else
            if (decide ((1099511627776 : Int) < x0.Term)) = true then
              m_raft_Receive_k1 x0 r0_1 true
            else
              m_raft_Receive_k1 x0 r0_1 (decide (x0.At < (0 : Int)))
def m_law15_Do_k2  (r0_4 : (TWorld × TMsg)) (v87 : Bool) : Option TWorld :=
  if v87 = true then
    some r0_4.1
  else
    bnd (nthI r0_4.1.R (IntKind.i64.wrap (r0_4.2.To - (1 : Int)))) fun e_1 =>
    bnd (m_raft_Receive e_1 r0_4.2) fun r0_5 =>
    bnd (m_law15_set r0_4.1 (IntKind.i64.wrap (r0_4.2.To - (1 : Int))) r0_5.1 r0_5.2) fun r0_6 =>
    some r0_6
def m_law15_Do_k1  (w : TWorld) (o : TOp) (r0 : Int) (e : TRaft) (v49 : Bool) : Option TWorld :=
  if v49 = true then
    if (decide ((w.Net.length : Int) = (0 : Int))) = true then
      some w
    else
      bnd (m_law15_pick o.N (w.Net.length : Int)) fun r0_3 =>
      bnd (m_law15_take w r0_3 (decide (o.Kind = (3 : Int)))) fun r0_4 =>
      if (decide (o.Kind = (2 : Int))) = true then
        m_law15_Do_k2 r0_4 true
      else
        if (decide (r0_4.2.To < (1 : Int))) = true then
          m_law15_Do_k2 r0_4 true
        else
          m_law15_Do_k2 r0_4 (decide ((w.R.length : Int) < r0_4.2.To))
  else
    if (decide (o.Kind = (4 : Int))) = true then
      bnd (m_raft_Propose e o.Data) fun r0_7 =>
      if (decide (r0_7.2.2.2 ≠ (0 : Int))) = true then
        some w
      else
        bnd (m_law15_set w r0 r0_7.1 r0_7.2.2.1) fun r0_8 =>
        some r0_8
    else
      if (decide (o.Kind = (5 : Int))) = true then
        bnd (m_law15_pick o.N (3 : Int)) fun r0_9 =>
        bnd (m_raft_Compact e (IntKind.i64.wrap (e.Commit - r0_9)) ([(IntKind.u8.wrap (IntKind.i64.wrap (e.Commit - r0_9)))])) fun r0_10 =>
        if (decide (r0_10.2 ≠ (0 : Int))) = true then
          some w
        else
          bnd (m_law15_set w r0 r0_10.1 ([])) fun r0_11 =>
          some r0_11
      else
        if (decide (o.Kind = (6 : Int))) = true then
          bnd (m_raft_Restart e.Id e.N e.Term e.Vote e.Log e.Snap) fun r0_12 =>
          if (decide (r0_12.2 ≠ (0 : Int))) = true then
            some w
          else
            bnd (m_law15_set w r0 r0_12.1 ([])) fun r0_13 =>
            some r0_13
        else
          some w
def m_law15_Do  (w : TWorld) (o : TOp) : Option TWorld :=
  bnd (m_law15_pick o.Who (w.R.length : Int)) fun r0 =>
  bnd (nthI w.R r0) fun e =>
  if (decide (o.Kind = (0 : Int))) = true then
    bnd (m_raft_Tick e o.N) fun r0_1 =>
    bnd (m_law15_set w r0 r0_1.1 r0_1.2) fun r0_2 =>
    some r0_2
  else
    if (decide (o.Kind = (1 : Int))) = true then
      m_law15_Do_k1 w o r0 e true
    else
      if (decide (o.Kind = (2 : Int))) = true then
        m_law15_Do_k1 w o r0 e true
      else
        m_law15_Do_k1 w o r0 e (decide (o.Kind = (3 : Int)))
def m_law15_RaftOne_k5   : Option Bool :=
  bnd (m_law15_works ) fun r0_5 =>
  some r0_5
def m_law15_RaftOne_k4 (rec_m_law15_RaftOne_l1 : Int → (List TRaft) → (List TMsg) → (List Int) → (List Int) → Option Bool) (i : Int) (r0_4 : TWorld) (terms_3 who_3 : (List Int)) : Option Bool :=
  rec_m_law15_RaftOne_l1 (IntKind.i64.wrap (i + (1 : Int))) r0_4.R r0_4.Net terms_3 who_3
def m_law15_RaftOne_k3 (rec_m_law15_RaftOne_l2 : Int → (List Int) → (List Int) → Option Bool) (k : Int) (terms_2 who_2 : (List Int)) : Option Bool :=
  rec_m_law15_RaftOne_l2 (IntKind.i64.wrap (k + (1 : Int))) terms_2 who_2
def m_law15_RaftOne_k2 (rec_m_law15_RaftOne_l2 : Int → (List Int) → (List Int) → Option Bool) (r0_4 : TWorld) (k : Int) (terms_1 who_1 : (List Int)) (met_2 : Bool) : Option Bool :=
  if met_2 = true then
    m_law15_RaftOne_k3 rec_m_law15_RaftOne_l2 k terms_1 who_1
  else
    bnd (nthI r0_4.R k) fun e_5 =>
    if (capB (terms_1.length + 1)) = true then 
      if (capB (who_1.length + 1)) = true then 
        m_law15_RaftOne_k3 rec_m_law15_RaftOne_l2 k (terms_1 ++ [e_5.Term]) (who_1 ++ [e_5.Id])
       else none
     else none
def m_law15_RaftOne_k1 (rec_m_law15_RaftOne_l3 : Bool → Int → Option Bool) (j : Int) (met_1 : Bool) : Option Bool :=
  rec_m_law15_RaftOne_l3 met_1 (IntKind.i64.wrap (j + (1 : Int)))
def m_law15_RaftOne_l3_B (rec_m_law15_RaftOne_l2 : Int → (List Int) → (List Int) → Option Bool) (r0_4 : TWorld) (k : Int) (terms_1 who_1 : (List Int)) (rec_m_law15_RaftOne_l3 : Bool → Int → Option Bool) (met : Bool) (j : Int) : Option Bool :=
  if (decide (j < ((terms_1.length : Nat) : Int))) = true then
    bnd (nthI terms_1 j) fun e_2 =>
    bnd (nthI r0_4.R k) fun e_3 =>
    if (decide (e_2 = e_3.Term)) = true then
      bnd (nthI who_1 j) fun e_4 =>
      if (decide (e_4 ≠ e_3.Id)) = true then
        some false
      else
        m_law15_RaftOne_k1 rec_m_law15_RaftOne_l3 j true
    else
      m_law15_RaftOne_k1 rec_m_law15_RaftOne_l3 j met
  else
    m_law15_RaftOne_k2 rec_m_law15_RaftOne_l2 r0_4 k terms_1 who_1 met
def m_law15_RaftOne_l3 (rec_m_law15_RaftOne_l2 : Int → (List Int) → (List Int) → Option Bool) (r0_4 : TWorld) (k : Int) (terms_1 who_1 : (List Int)) : Nat → Bool → Int → Option Bool
  | 0, _, _ => none
  | n + 1, met, j => m_law15_RaftOne_l3_B rec_m_law15_RaftOne_l2 r0_4 k terms_1 who_1 (m_law15_RaftOne_l3 rec_m_law15_RaftOne_l2 r0_4 k terms_1 who_1 n) met j
def m_law15_RaftOne_l2_B (rec_m_law15_RaftOne_l1 : Int → (List TRaft) → (List TMsg) → (List Int) → (List Int) → Option Bool) (i : Int) (r0_4 : TWorld) (rec_m_law15_RaftOne_l2 : Int → (List Int) → (List Int) → Option Bool) (k : Int) (terms_1 who_1 : (List Int)) : Option Bool :=
  if (decide (k < (r0_4.R.length : Int))) = true then
    bnd (nthI r0_4.R k) fun e_1 =>
    if (decide (e_1.Role ≠ (3 : Int))) = true then
      m_law15_RaftOne_k3 rec_m_law15_RaftOne_l2 k terms_1 who_1
    else
      m_law15_RaftOne_l3 rec_m_law15_RaftOne_l2 r0_4 k terms_1 who_1 (((((terms_1.length : Nat) : Int)) - ((0 : Int))).toNat + 1) false (0 : Int)
  else
    m_law15_RaftOne_k4 rec_m_law15_RaftOne_l1 i r0_4 terms_1 who_1
def m_law15_RaftOne_l2 (rec_m_law15_RaftOne_l1 : Int → (List TRaft) → (List TMsg) → (List Int) → (List Int) → Option Bool) (i : Int) (r0_4 : TWorld) : Nat → Int → (List Int) → (List Int) → Option Bool
  | 0, _, _, _ => none
  | n + 1, k, terms_1, who_1 => m_law15_RaftOne_l2_B rec_m_law15_RaftOne_l1 i r0_4 (m_law15_RaftOne_l2 rec_m_law15_RaftOne_l1 i r0_4 n) k terms_1 who_1
def m_law15_RaftOne_l1_B  (l : (List TOp)) (rec_m_law15_RaftOne_l1 : Int → (List TRaft) → (List TMsg) → (List Int) → (List Int) → Option Bool) (i : Int) (w_00 : (List TRaft)) (w_10 : (List TMsg)) (terms who : (List Int)) : Option Bool :=
  if (decide (i < (l.length : Int))) = true then
    bnd (nthI l i) fun e =>
    bnd (m_law15_Do (TWorld.mk w_00 w_10) e) fun r0_4 =>
    m_law15_RaftOne_l2 rec_m_law15_RaftOne_l1 i r0_4 ((((r0_4.R.length : Int)) - ((0 : Int))).toNat + 1) (0 : Int) terms who
  else
    m_law15_RaftOne_k5
def m_law15_RaftOne_l1  (l : (List TOp)) : Nat → Int → (List TRaft) → (List TMsg) → (List Int) → (List Int) → Option Bool
  | 0, _, _, _, _, _ => none
  | n + 1, i, w_00, w_10, terms, who => m_law15_RaftOne_l1_B  l (m_law15_RaftOne_l1  l n) i w_00 w_10 terms who
def m_law15_RaftOne  (n0 : Int) (l : (List TOp)) : Option Bool :=
  bnd (m_law15_light l) fun r0 =>
  if r0 = true then
    bnd (m_law15_size n0) fun r0_2 =>
    bnd (m_law15_Begin r0_2) fun r0_3 =>
    m_law15_RaftOne_l1 l ((((l.length : Int)) - ((0 : Int))).toNat + 1) (0 : Int) r0_3.R r0_3.Net ([]) ([])
  else
    bnd (m_law15_works ) fun r0_1 =>
    some r0_1
end Go.Proofs.Ytgoachcogmlhcaa.R
