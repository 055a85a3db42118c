/- Models of the functions. -/
import Derived.Test.YtgoachcogmlhcaaMT
set_option maxRecDepth 100000
set_option maxHeartbeats 1600000
set_option linter.unusedVariables false
set_option linter.unusedSimpArgs false
set_option linter.defProp false
noncomputable section
namespace Go.Proofs.Ytgoachcogmlhcaa.R
open Go Nat
def zfu (l:(List TEntry))(zgn:Int→(List TEntry)→Option (List TEntry))(v8:Int)(out:(List TEntry)):Option (List TEntry):=
  if (decide (v8 < (l.length:Int))) = true then
   bnd (nthI l v8) fun e=>
   if (capB (e.Data).length) = true then
    if (capB (out.length + 1)) = true then
     zgn (IntKind.i64.wrap (v8 + (1:Int))) (out++[e])
     else none
    else none
  else
    some out
def zdd (l:(List TEntry)):Nat→Int→(List TEntry)→Option (List TEntry)
  | 0,_,_=>none
  | n + 1,v8,out=>zfu l (zdd l n) v8 out
def zfh (l:(List TEntry)):Option (List TEntry):=
  zdd l ((((l.length:Int)) - ((0:Int))).toNat + 1) (0:Int) ([])
def zed (l:TLog):Option TLog:=
  bnd (zfh l.Entries) fun r0=>
  some (TLog.mk l.Base l.BaseTerm r0)
def zlo (r0:TRaft):Option TRaft:=
  bnd (zed r0.Log) fun r0_1=>
  if (capB (r0.Snap).length) = true then
   if (capB (r0.Granted).length) = true then
    if (capB (r0.Next).length) = true then
     if (capB (r0.Match).length) = true then
      some (TRaft.mk r0.Id r0.N r0.Term r0.Vote r0.Role r0.Lead r0_1 r0.Commit r0.Snap r0.Granted r0.Next r0.Match r0.Clock r0.Wait)
      else none
     else none
    else none
   else none
def zir (r0:TRaft):Option Tmember:=
  bnd (zlo r0) fun r0_1=>
  some (Tmember.mk r0_1 ([]))
def zbz (to0:Int)(x0:TMsg)(m:Tmember):Option Tmember:=
  if (capB ((m.f_out).length + 1)) = true then
   some (Tmember.mk m.Raft (m.f_out++[(TMsg.mk x0.Kind x0.Group m.Raft.Id to0 x0.Term x0.At x0.AtTerm x0.Commit x0.Ok x0.Entries x0.Data)]))
   else none
def zad (l:TLog):Option Int:=
  some (IntKind.i64.wrap (l.Base + (l.Entries.length:Int)))
def zif (l:TLog)(at0:Int)(v13:Bool):Option (Int × Bool):=
  if v13=true then
   some ((0:Int),false)
  else
    bnd (nthI l.Entries (IntKind.i64.wrap ((IntKind.i64.wrap (at0 - l.Base)) - (1:Int)))) fun e=>
    some (e.Term,true)
def zbj (l:TLog)(at0:Int):Option (Int × Bool):=
  if (decide (at0=l.Base)) = true then
   some (l.BaseTerm,true)
  else
    if (decide (at0 < l.Base)) = true then
     zif l at0 true
    else
      bnd (zad l) fun r0=>
      zif l at0 (decide (r0 < at0))
def zhd (l:TLog)(at0 most:Int)(v21:Bool):Option (List TEntry):=
  if v21=true then
   some ([])
  else
    bnd (sliceL l.Entries (IntKind.i64.wrap ((IntKind.i64.wrap (at0 - l.Base)) - (1:Int))) l.Entries.length) fun l_1=>
    bnd (sliceL l_1 0 (if (l_1.length:Int) < most then (l_1.length:Int) else most)) fun l_2=>
    bnd (zfh l_2) fun r0_1=>
    some r0_1
def zhy (l:TLog)(at0:Int)(most:Int):Option (List TEntry):=
  if (decide (at0≤l.Base)) = true then
   zhd l at0 most true
  else
    bnd (zad l) fun r0=>
    if (decide (r0 < at0)) = true then
     zhd l at0 most true
    else
      zhd l at0 most (decide (most≤(0:Int)))
def zex (to0:Int)(m:Tmember)(x_0 x_5 x_6:Int)(x_9:(List TEntry))(x_10:(List Int)):Option Tmember:=
  bnd (zbz to0 (TMsg.mk x_0 (0:Int) (0:Int) (0:Int) m.Raft.Term x_5 x_6 m.Raft.Commit false x_9 x_10) m) fun r0_2=>
  some r0_2
def zau (to0:Int)(m:Tmember):Option Tmember:=
  bnd (nthI m.Raft.Next (IntKind.i64.wrap (to0 - (1:Int)))) fun e=>
  if (decide (e≤m.Raft.Log.Base)) = true then
   if (capB (m.Raft.Snap).length) = true then
    zex to0 m (7:Int) m.Raft.Log.Base m.Raft.Log.BaseTerm ([]) m.Raft.Snap
    else none
  else
    bnd (zbj m.Raft.Log (IntKind.i64.wrap (e - (1:Int)))) fun r0=>
    bnd (zhy m.Raft.Log e (8:Int)) fun r0_1=>
    zex to0 m (5:Int) (IntKind.i64.wrap (e - (1:Int))) r0.1 r0_1 ([])
def zgo(zy:Int→Int→Int→Int→Int→Int→Int→Int→Int→(List TEntry)→Int→Int→Int→(List Int)→(List Bool)→(List Int)→(List Int)→(List TMsg)→Option Tmember)(to0 zbk zbl zbm zbn zbo zbp zbq zbr:Int)(zbs:(List TEntry))(zbt zam zan:Int)(zao:(List Int))(zap:(List Bool))(zw zaq:(List Int))(zar:(List TMsg)):Option Tmember:=
  zy (IntKind.i64.wrap (to0 + (1:Int))) zbk zbl zbm zbn zbo zbp zbq zbr zbs zbt zam zan zao zap zw zaq zar
def zhz (zy:Int→Int→Int→Int→Int→Int→Int→Int→Int→(List TEntry)→Int→Int→Int→(List Int)→(List Bool)→(List Int)→(List Int)→(List TMsg)→Option Tmember)(to0 m_00 m_10 m_20 m_30 m_40 m_50 m_60 m_70:Int)(m_80:(List TEntry))(m_90 zd zh:Int)(ze:(List Int))(zi:(List Bool))(zc zj:(List Int))(zk:(List TMsg)):Option Tmember:=
  if (decide (to0≤m_10)) = true then
   if (decide (to0≠m_00)) = true then
    bnd (zau to0 (Tmember.mk (TRaft.mk m_00 m_10 m_20 m_30 m_40 m_50 (TLog.mk m_60 m_70 m_80) m_90 ze zi zc zj zd zh) zk)) fun r0=>
    zgo zy to0 r0.Raft.Id r0.Raft.N r0.Raft.Term r0.Raft.Vote r0.Raft.Role r0.Raft.Lead r0.Raft.Log.Base r0.Raft.Log.BaseTerm r0.Raft.Log.Entries r0.Raft.Commit r0.Raft.Clock r0.Raft.Wait r0.Raft.Snap r0.Raft.Granted r0.Raft.Next r0.Raft.Match r0.f_out
   else
     zgo zy to0 m_00 m_10 m_20 m_30 m_40 m_50 m_60 m_70 m_80 m_90 zd zh ze zi zc zj zk
  else
    some (Tmember.mk (TRaft.mk m_00 m_10 m_20 m_30 m_40 m_50 (TLog.mk m_60 m_70 m_80) m_90 ze zi zc zj zd zh) zk)
def zdi:Nat→Int→Int→Int→Int→Int→Int→Int→Int→Int→(List TEntry)→Int→Int→Int→(List Int)→(List Bool)→(List Int)→(List Int)→(List TMsg)→Option Tmember
  | 0,_,_,_,_,_,_,_,_,_,_,_,_,_,_,_,_,_,_=>none
  | n + 1,to0,m_00,m_10,m_20,m_30,m_40,m_50,m_60,m_70,m_80,m_90,zd,zh,ze,zi,zc,zj,zk=>zhz (zdi n) to0 m_00 m_10 m_20 m_30 m_40 m_50 m_60 m_70 m_80 m_90 zd zh ze zi zc zj zk
def zgj (m:Tmember):Option Tmember:=
  zdi (1000000) (1:Int) m.Raft.Id m.Raft.N m.Raft.Term m.Raft.Vote m.Raft.Role m.Raft.Lead m.Raft.Log.Base m.Raft.Log.BaseTerm m.Raft.Log.Entries m.Raft.Commit m.Raft.Clock m.Raft.Wait m.Raft.Snap m.Raft.Granted m.Raft.Next m.Raft.Match m.f_out
def zfj(zp:Int→Int→Int→Int→Int→Int→Int→Int→Int→(List TEntry)→Int→Int→Int→(List Int)→(List Bool)→(List Int)→(List Int)→(List TMsg)→Option Tmember)(to0 zbk zbl zbm zbn zbo zbp zbq zbr:Int)(zbs:(List TEntry))(zbt zam zan:Int)(zao:(List Int))(zap:(List Bool))(zw zaq:(List Int))(zar:(List TMsg)):Option Tmember:=
  zp (IntKind.i64.wrap (to0 + (1:Int))) zbk zbl zbm zbn zbo zbp zbq zbr zbs zbt zam zan zao zap zw zaq zar
def zgp (zp:Int→Int→Int→Int→Int→Int→Int→Int→Int→(List TEntry)→Int→Int→Int→(List Int)→(List Bool)→(List Int)→(List Int)→(List TMsg)→Option Tmember)(to0 m_00 m_10 m_20 m_30 m_40 m_50 m_60 m_70:Int)(m_80:(List TEntry))(m_90 zd zh:Int)(ze:(List Int))(zi:(List Bool))(zc zj:(List Int))(zk:(List TMsg)):Option Tmember:=
  if (decide (to0≤m_10)) = true then
   if (decide (to0≠m_00)) = true then
    bnd (zau to0 (Tmember.mk (TRaft.mk m_00 m_10 m_20 m_30 m_40 m_50 (TLog.mk m_60 m_70 m_80) m_90 ze zi zc zj zd zh) zk)) fun r0=>
    zfj zp to0 r0.Raft.Id r0.Raft.N r0.Raft.Term r0.Raft.Vote r0.Raft.Role r0.Raft.Lead r0.Raft.Log.Base r0.Raft.Log.BaseTerm r0.Raft.Log.Entries r0.Raft.Commit r0.Raft.Clock r0.Raft.Wait r0.Raft.Snap r0.Raft.Granted r0.Raft.Next r0.Raft.Match r0.f_out
   else
     zfj zp to0 m_00 m_10 m_20 m_30 m_40 m_50 m_60 m_70 m_80 m_90 zd zh ze zi zc zj zk
  else
    some (Tmember.mk (TRaft.mk m_00 m_10 m_20 m_30 m_40 m_50 (TLog.mk m_60 m_70 m_80) m_90 ze zi zc zj zd zh) zk)
def zcb:Nat→Int→Int→Int→Int→Int→Int→Int→Int→Int→(List TEntry)→Int→Int→Int→(List Int)→(List Bool)→(List Int)→(List Int)→(List TMsg)→Option Tmember
  | 0,_,_,_,_,_,_,_,_,_,_,_,_,_,_,_,_,_,_=>none
  | n + 1,to0,m_00,m_10,m_20,m_30,m_40,m_50,m_60,m_70,m_80,m_90,zd,zh,ze,zi,zc,zj,zk=>zgp (zcb n) to0 m_00 m_10 m_20 m_30 m_40 m_50 m_60 m_70 m_80 m_90 zd zh ze zi zc zj zk
def zey (m:Tmember):Option Tmember:=
  zcb (1000000) (1:Int) m.Raft.Id m.Raft.N m.Raft.Term m.Raft.Vote m.Raft.Role m.Raft.Lead m.Raft.Log.Base m.Raft.Log.BaseTerm m.Raft.Log.Entries m.Raft.Commit m.Raft.Clock m.Raft.Wait m.Raft.Snap m.Raft.Granted m.Raft.Next m.Raft.Match m.f_out
def zcu (to0:Int)(x0:TMsg)(m:Tmember):Option Tmember:=
  if (capB ((m.f_out).length + 1)) = true then
   some (Tmember.mk m.Raft (m.f_out++[(TMsg.mk x0.Kind x0.Group m.Raft.Id to0 x0.Term x0.At x0.AtTerm x0.Commit x0.Ok ([]) ([]))]))
   else none
def zdw (l:TLog):Option Int:=
  bnd (zad l) fun r0=>
  bnd (zbj l r0) fun r0_1=>
  some r0_1.1
def zcv (to0:Int)(b1:Tmember):Option Tmember:=
  bnd (zad b1.Raft.Log) fun r0=>
  bnd (zdw b1.Raft.Log) fun r0_1=>
  bnd (zcu to0 (TMsg.mk (3:Int) (0:Int) (0:Int) (0:Int) b1.Raft.Term r0 r0_1 (0:Int) false ([]) ([])) b1) fun r0_2=>
  some r0_2
def zfk(zq:Int→Int→Int→Int→Int→Int→Int→Int→Int→Int→Int→Int→(List TEntry)→(List Int)→(List Bool)→(List Int)→(List Int)→(List TMsg)→Option Tmember)(to0 zbk zbl zbm zbn zbo zbp zbq zbr zbt zam zan:Int)(zbs:(List TEntry))(zao:(List Int))(zap:(List Bool))(zw zaq:(List Int))(zar:(List TMsg)):Option Tmember:=
  zq (IntKind.i64.wrap (to0 + (1:Int))) zbk zbl zbm zbn zbo zbp zbq zbr zbt zam zan zbs zao zap zw zaq zar
def zgq (zq:Int→Int→Int→Int→Int→Int→Int→Int→Int→Int→Int→Int→(List TEntry)→(List Int)→(List Bool)→(List Int)→(List Int)→(List TMsg)→Option Tmember)(to0 m_00 m_10 m_20 m_30 m_40 m_50 m_60 m_70 m_90 zd zh:Int)(m_80:(List TEntry))(ze:(List Int))(zi:(List Bool))(zc zj:(List Int))(zk:(List TMsg)):Option Tmember:=
  if (decide (to0≤m_10)) = true then
   if (decide (to0≠m_00)) = true then
    bnd (zcv to0 (Tmember.mk (TRaft.mk m_00 m_10 m_20 m_30 m_40 m_50 (TLog.mk m_60 m_70 m_80) m_90 ze zi zc zj zd zh) zk)) fun r0=>
    zfk zq to0 r0.Raft.Id r0.Raft.N r0.Raft.Term r0.Raft.Vote r0.Raft.Role r0.Raft.Lead r0.Raft.Log.Base r0.Raft.Log.BaseTerm r0.Raft.Commit r0.Raft.Clock r0.Raft.Wait r0.Raft.Log.Entries r0.Raft.Snap r0.Raft.Granted r0.Raft.Next r0.Raft.Match r0.f_out
   else
     zfk zq to0 m_00 m_10 m_20 m_30 m_40 m_50 m_60 m_70 m_90 zd zh m_80 ze zi zc zj zk
  else
    some (Tmember.mk (TRaft.mk m_00 m_10 m_20 m_30 m_40 m_50 (TLog.mk m_60 m_70 m_80) m_90 ze zi zc zj zd zh) zk)
def zcc:Nat→Int→Int→Int→Int→Int→Int→Int→Int→Int→Int→Int→Int→(List TEntry)→(List Int)→(List Bool)→(List Int)→(List Int)→(List TMsg)→Option Tmember
  | 0,_,_,_,_,_,_,_,_,_,_,_,_,_,_,_,_,_,_=>none
  | n + 1,to0,m_00,m_10,m_20,m_30,m_40,m_50,m_60,m_70,m_90,zd,zh,m_80,ze,zi,zc,zj,zk=>zgq (zcc n) to0 m_00 m_10 m_20 m_30 m_40 m_50 m_60 m_70 m_90 zd zh m_80 ze zi zc zj zk
def zez (m:Tmember):Option Tmember:=
  zcc (1000000) (1:Int) m.Raft.Id m.Raft.N m.Raft.Term m.Raft.Vote m.Raft.Role m.Raft.Lead m.Raft.Log.Base m.Raft.Log.BaseTerm m.Raft.Commit m.Raft.Clock m.Raft.Wait m.Raft.Log.Entries m.Raft.Snap m.Raft.Granted m.Raft.Next m.Raft.Match m.f_out
def zdz (to0:Int)(b1:Tmember):Option Tmember:=
  bnd (zad b1.Raft.Log) fun r0=>
  bnd (zdw b1.Raft.Log) fun r0_1=>
  bnd (zcu to0 (TMsg.mk (1:Int) (0:Int) (0:Int) (0:Int) (IntKind.i64.wrap (b1.Raft.Term + (1:Int))) r0 r0_1 (0:Int) false ([]) ([])) b1) fun r0_2=>
  some r0_2
def zfl(zr:Int→Int→Int→Int→Int→Int→Int→Int→Int→Int→Int→Int→(List TEntry)→(List Int)→(List Bool)→(List Int)→(List Int)→(List TMsg)→Option Tmember)(to0 zbk zbl zbm zbn zbo zbp zbq zbr zbt zam zan:Int)(zbs:(List TEntry))(zao:(List Int))(zap:(List Bool))(zw zaq:(List Int))(zar:(List TMsg)):Option Tmember:=
  zr (IntKind.i64.wrap (to0 + (1:Int))) zbk zbl zbm zbn zbo zbp zbq zbr zbt zam zan zbs zao zap zw zaq zar
def zgr (zr:Int→Int→Int→Int→Int→Int→Int→Int→Int→Int→Int→Int→(List TEntry)→(List Int)→(List Bool)→(List Int)→(List Int)→(List TMsg)→Option Tmember)(to0 m_00 m_10 m_20 m_30 m_40 m_50 m_60 m_70 m_90 zd zh:Int)(m_80:(List TEntry))(ze:(List Int))(zi:(List Bool))(zc zj:(List Int))(zk:(List TMsg)):Option Tmember:=
  if (decide (to0≤m_10)) = true then
   if (decide (to0≠m_00)) = true then
    bnd (zdz to0 (Tmember.mk (TRaft.mk m_00 m_10 m_20 m_30 m_40 m_50 (TLog.mk m_60 m_70 m_80) m_90 ze zi zc zj zd zh) zk)) fun r0=>
    zfl zr to0 r0.Raft.Id r0.Raft.N r0.Raft.Term r0.Raft.Vote r0.Raft.Role r0.Raft.Lead r0.Raft.Log.Base r0.Raft.Log.BaseTerm r0.Raft.Commit r0.Raft.Clock r0.Raft.Wait r0.Raft.Log.Entries r0.Raft.Snap r0.Raft.Granted r0.Raft.Next r0.Raft.Match r0.f_out
   else
     zfl zr to0 m_00 m_10 m_20 m_30 m_40 m_50 m_60 m_70 m_90 zd zh m_80 ze zi zc zj zk
  else
    some (Tmember.mk (TRaft.mk m_00 m_10 m_20 m_30 m_40 m_50 (TLog.mk m_60 m_70 m_80) m_90 ze zi zc zj zd zh) zk)
def zcd:Nat→Int→Int→Int→Int→Int→Int→Int→Int→Int→Int→Int→Int→(List TEntry)→(List Int)→(List Bool)→(List Int)→(List Int)→(List TMsg)→Option Tmember
  | 0,_,_,_,_,_,_,_,_,_,_,_,_,_,_,_,_,_,_=>none
  | n + 1,to0,m_00,m_10,m_20,m_30,m_40,m_50,m_60,m_70,m_90,zd,zh,m_80,ze,zi,zc,zj,zk=>zgr (zcd n) to0 m_00 m_10 m_20 m_30 m_40 m_50 m_60 m_70 m_90 zd zh m_80 ze zi zc zj zk
def zgs (m:Tmember):Option Tmember:=
  zcd (1000000) (1:Int) m.Raft.Id m.Raft.N m.Raft.Term m.Raft.Vote m.Raft.Role m.Raft.Lead m.Raft.Log.Base m.Raft.Log.BaseTerm m.Raft.Commit m.Raft.Clock m.Raft.Wait m.Raft.Log.Entries m.Raft.Snap m.Raft.Granted m.Raft.Next m.Raft.Match m.f_out
def zfm(zt:Int→Int→Int→Int→Int→Int→Int→Int→Int→(List TEntry)→Int→Int→Int→(List Int)→(List Bool)→(List Int)→(List Int)→(List TMsg)→Option Tmember)(to0 zbk zbl zbm zbn zbo zbp zbq zbr:Int)(zbs:(List TEntry))(zbt zam zan:Int)(zao:(List Int))(zap:(List Bool))(zw zaq:(List Int))(zar:(List TMsg)):Option Tmember:=
  zt (IntKind.i64.wrap (to0 + (1:Int))) zbk zbl zbm zbn zbo zbp zbq zbr zbs zbt zam zan zao zap zw zaq zar
def zgt (zt:Int→Int→Int→Int→Int→Int→Int→Int→Int→(List TEntry)→Int→Int→Int→(List Int)→(List Bool)→(List Int)→(List Int)→(List TMsg)→Option Tmember)(to0 m_00 m_10 m_20 m_30 m_40 m_50 m_60 m_70:Int)(m_80:(List TEntry))(m_90 zd zh:Int)(ze:(List Int))(zi:(List Bool))(zc zj:(List Int))(zk:(List TMsg)):Option Tmember:=
  if (decide (to0≤m_10)) = true then
   if (decide (to0≠m_00)) = true then
    bnd (zau to0 (Tmember.mk (TRaft.mk m_00 m_10 m_20 m_30 m_40 m_50 (TLog.mk m_60 m_70 m_80) m_90 ze zi zc zj zd zh) zk)) fun r0=>
    zfm zt to0 r0.Raft.Id r0.Raft.N r0.Raft.Term r0.Raft.Vote r0.Raft.Role r0.Raft.Lead r0.Raft.Log.Base r0.Raft.Log.BaseTerm r0.Raft.Log.Entries r0.Raft.Commit r0.Raft.Clock r0.Raft.Wait r0.Raft.Snap r0.Raft.Granted r0.Raft.Next r0.Raft.Match r0.f_out
   else
     zfm zt to0 m_00 m_10 m_20 m_30 m_40 m_50 m_60 m_70 m_80 m_90 zd zh ze zi zc zj zk
  else
    some (Tmember.mk (TRaft.mk m_00 m_10 m_20 m_30 m_40 m_50 (TLog.mk m_60 m_70 m_80) m_90 ze zi zc zj zd zh) zk)
def zce:Nat→Int→Int→Int→Int→Int→Int→Int→Int→Int→(List TEntry)→Int→Int→Int→(List Int)→(List Bool)→(List Int)→(List Int)→(List TMsg)→Option Tmember
  | 0,_,_,_,_,_,_,_,_,_,_,_,_,_,_,_,_,_,_=>none
  | n + 1,to0,m_00,m_10,m_20,m_30,m_40,m_50,m_60,m_70,m_80,m_90,zd,zh,ze,zi,zc,zj,zk=>zgt (zce n) to0 m_00 m_10 m_20 m_30 m_40 m_50 m_60 m_70 m_80 m_90 zd zh ze zi zc zj zk
def zfa (m:Tmember):Option Tmember:=
  zce (1000000) (1:Int) m.Raft.Id m.Raft.N m.Raft.Term m.Raft.Vote m.Raft.Role m.Raft.Lead m.Raft.Log.Base m.Raft.Log.BaseTerm m.Raft.Log.Entries m.Raft.Commit m.Raft.Clock m.Raft.Wait m.Raft.Snap m.Raft.Granted m.Raft.Next m.Raft.Match m.f_out
def zga (to0:Int)(m:Tmember)(x_0 x_5 x_6:Int)(x_9:(List TEntry))(x_10:(List Int)):Option Tmember:=
  bnd (zbz to0 (TMsg.mk x_0 (0:Int) (0:Int) (0:Int) m.Raft.Term x_5 x_6 m.Raft.Commit false x_9 x_10) m) fun r0_2=>
  some r0_2
def zen (to0:Int)(m:Tmember):Option Tmember:=
  bnd (nthI m.Raft.Next (IntKind.i64.wrap (to0 - (1:Int)))) fun e=>
  if (decide (e≤m.Raft.Log.Base)) = true then
   if (capB (m.Raft.Snap).length) = true then
    zga to0 m (7:Int) m.Raft.Log.Base m.Raft.Log.BaseTerm ([]) m.Raft.Snap
    else none
  else
    bnd (zbj m.Raft.Log (IntKind.i64.wrap (e - (1:Int)))) fun r0=>
    bnd (zhy m.Raft.Log e (8:Int)) fun r0_1=>
    zga to0 m (5:Int) (IntKind.i64.wrap (e - (1:Int))) r0.1 r0_1 ([])
def zdq (lead:Int)(m:Tmember)(m_20 m_30:Int):Option Tmember:=
  some (Tmember.mk (TRaft.mk m.Raft.Id m.Raft.N m_20 m_30 (0:Int) lead m.Raft.Log m.Raft.Commit m.Raft.Snap ([]) ([]) ([]) m.Raft.Clock m.Raft.Wait) m.f_out)
def zaj (term:Int)(lead:Int)(m:Tmember):Option Tmember:=
  if (decide (m.Raft.Term < term)) = true then
   zdq lead m term (0:Int)
  else
    zdq lead m m.Raft.Term m.Raft.Vote
def zgb (n0:Int):Option Int:=
  if (decide (n0 < (1:Int))) = true then
   some (0:Int)
  else
    some (IntKind.i64.wrap ((IntKind.i64.wrap (n0.tdiv (2:Int))) + (1:Int)))
def zjh (l:(List Bool))(n0_1:Int):Option Bool:=
  if (decide ((0:Int) < (l.length:Int))) = true then
   bnd (zgb (l.length:Int)) fun r0=>
   some (decide (r0≤n0_1))
  else
    some false
def zgk (l:(List Bool))(zfo:Int→Int→Option Bool)(n0 v8:Int):Option Bool:=
  if (decide (v8 < (l.length:Int))) = true then
   bnd (nthI l v8) fun e=>
   if e=true then
    zfo (IntKind.i64.wrap (n0 + (1:Int))) (IntKind.i64.wrap (v8 + (1:Int)))
   else
     zfo n0 (IntKind.i64.wrap (v8 + (1:Int)))
  else
    zjh l n0
def zdx (l:(List Bool)):Nat→Int→Int→Option Bool
  | 0,_,_=>none
  | n + 1,n0,v8=>zgk l (zdx l n) n0 v8
def zig (l:(List Bool)):Option Bool:=
  zdx l ((((l.length:Int)) - ((0:Int))).toNat + 1) (0:Int) (0:Int)
def zbh (who:Int)(m:Tmember):Option (Bool × Tmember):=
  bnd (nthI m.Raft.Granted (IntKind.i64.wrap (who - (1:Int)))) fun e=>
  bnd (zig (setI m.Raft.Granted (IntKind.i64.wrap (who - (1:Int))) true)) fun r0=>
  some (r0,(Tmember.mk (TRaft.mk m.Raft.Id m.Raft.N m.Raft.Term m.Raft.Vote m.Raft.Role m.Raft.Lead m.Raft.Log m.Raft.Commit m.Raft.Snap (setI m.Raft.Granted (IntKind.i64.wrap (who - (1:Int))) true) m.Raft.Next m.Raft.Match m.Raft.Clock m.Raft.Wait) m.f_out))
def zel (lead:Int)(m:Tmember)(m_20 m_30:Int):Option Tmember:=
  some (Tmember.mk (TRaft.mk m.Raft.Id m.Raft.N m_20 m_30 (0:Int) lead m.Raft.Log m.Raft.Commit m.Raft.Snap ([]) ([]) ([]) m.Raft.Clock m.Raft.Wait) m.f_out)
def zcf (term:Int)(lead:Int)(m:Tmember):Option Tmember:=
  if (decide (m.Raft.Term < term)) = true then
   zel lead m term (0:Int)
  else
    zel lead m m.Raft.Term m.Raft.Vote
def zhu (x0:Int):Option Bool:=
  some (decide (x0≠x0))
def zih (x0:Int)(y:Int):Option Bool:=
  bnd (zhu x0) fun r0=>
  if r0=true then
   bnd (zhu y) fun r0_1=>
   if r0_1=true then
    some (decide (x0 < y))
   else
     some true
  else
    some (decide (x0 < y))
def zas(za:Int→(List Int)→Option (List Int))(i:Int)(data_3:(List Int)):Option (List Int):=
  za (IntKind.i64.wrap (i + (1:Int))) data_3
def zab(zm:Int→(List Int)→Option (List Int))(za:Int→(List Int)→Option (List Int))(i j:Int)(data_2:(List Int))(v30:Bool):Option (List Int):=
  if v30=true then
   bnd (nthI data_2 (IntKind.i64.wrap (j - (1:Int)))) fun e_2=>
   bnd (nthI data_2 j) fun e_3=>
   bnd (nthI (setI data_2 j e_2) (IntKind.i64.wrap (j - (1:Int)))) fun e_4=>
   zm (IntKind.i64.wrap (j - (1:Int))) (setI (setI data_2 j e_2) (IntKind.i64.wrap (j - (1:Int))) e_3)
  else
    zas za i data_2
def zaf(za:Int→(List Int)→Option (List Int))(a i:Int)(zm:Int→(List Int)→Option (List Int))(j:Int)(data_2:(List Int)):Option (List Int):=
  if (decide (a < j)) = true then
   bnd (nthI data_2 j) fun e=>
   bnd (nthI data_2 (IntKind.i64.wrap (j - (1:Int)))) fun e_1=>
   bnd (zih e e_1) fun r0=>
   zab zm za i j data_2 r0
  else
    zab zm za i j data_2 false
def zo(za:Int→(List Int)→Option (List Int))(a i:Int):Nat→Int→(List Int)→Option (List Int)
  | 0,_,_=>none
  | n + 1,j,data_2=>zaf za a i (zo za a i n) j data_2
def zag (a b:Int)(za:Int→(List Int)→Option (List Int))(i:Int)(data_1:(List Int)):Option (List Int):=
  if (decide (i < b)) = true then
   zo za a i (1000000) i data_1
  else
    some data_1
def zn (a b:Int):Nat→Int→(List Int)→Option (List Int)
  | 0,_,_=>none
  | n + 1,i,data_1=>zag a b (zn a b n) i data_1
def zbe (data:(List Int))(a:Int)(b:Int):Option (List Int):=
  zn a b (((b) - ((IntKind.i64.wrap (a + (1:Int))))).toNat + 1) (IntKind.i64.wrap (a + (1:Int))) data
def zci (data:(List Int))(a b limit:Int)(zdu:Option (List Int)):Option (List Int):=
  if (decide ((IntKind.i64.wrap (b - a))≤(12:Int))) = true then
   bnd (zbe data a b) fun r0=>
   if (decide ((r0).length=(data).length)) = true then
    some r0
    else none
  else
    if (decide (limit=(0:Int))) = true then none else none
def zac (data:(List Int))(a b limit:Int):Nat→Option (List Int)
  | 0=>none
  | n + 1=>zci data a b limit (zac data a b limit n)
def zdy (data:(List Int))(a:Int)(b:Int)(limit:Int):Option (List Int):=
  zac data a b limit (1000000)
def zfb (x0_3 n0_2:Int):Option Int:=
  bnd (nthS (⟨#[0,1,2,2,3,3,3,3,4,4,4,4,4,4,4,4,5,5,5,5,5,5,5,5,5,5,5,5,5,5,5,5,6,6,6,6,6,6,6,6,6,6,6,6,6,6,6,6,6,6,6,6,6,6,6,6,6,6,6,6,6,6,6,6,7,7,7,7,7,7,7,7,7,7,7,7,7,7,7,7,7,7,7,7,7,7,7,7,7,7,7,7,7,7,7,7,7,7,7,7,7,7,7,7,7,7,7,7,7,7,7,7,7,7,7,7,7,7,7,7,7,7,7,7,7,7,7,7,8,8,8,8,8,8,8,8,8,8,8,8,8,8,8,8,8,8,8,8,8,8,8,8,8,8,8,8,8,8,8,8,8,8,8,8,8,8,8,8,8,8,8,8,8,8,8,8,8,8,8,8,8,8,8,8,8,8,8,8,8,8,8,8,8,8,8,8,8,8,8,8,8,8,8,8,8,8,8,8,8,8,8,8,8,8,8,8,8,8,8,8,8,8,8,8,8,8,8,8,8,8,8,8,8,8,8,8,8,8,8,8,8,8,8,8,8,8,8,8,8,8,8,8,8,8,8,8]⟩) (IntKind.u8.wrap x0_3)) fun c=>
  some (IntKind.i64.wrap (n0_2 + (IntKind.i64.wrap c)))
def zfc (x0_2 n0_1:Int):Option Int:=
  if (decide ((256:Int)≤x0_2)) = true then
   zfb (shrI .u64 x0_2 (8:Int)) (IntKind.i64.wrap (n0_1 + (8:Int)))
  else
    zfb x0_2 n0_1
def zfd (x0_1 n0:Int):Option Int:=
  if (decide ((65536:Int)≤x0_1)) = true then
   zfc (shrI .u64 x0_1 (16:Int)) (IntKind.i64.wrap (n0 + (16:Int)))
  else
    zfc x0_1 n0
def zib (x0:Int):Option Int:=
  if (decide ((4294967296:Int)≤x0)) = true then
   zfd (shrI .u64 x0 (32:Int)) (32:Int)
  else
    zfd x0 (0:Int)
def zhv (x0:Int):Option Int:=
  bnd (zib x0) fun r0=>
  some r0
def zeo (x0:(List Int)):Option (List Int):=
  bnd (zhv (IntKind.u64.wrap ((x0.length:Nat):Int))) fun r0=>
  bnd (zdy x0 (0:Int) ((x0.length:Nat):Int) r0) fun r0_1=>
  if (decide ((r0_1).length=(x0).length)) = true then
   some r0_1
   else none
def zfp (l:(List Int))(n0:Int)(v15:Bool):Option (Int × Bool):=
  if v15=true then
   some ((0:Int),false)
  else
    if (capB (l).length) = true then
     bnd (zeo l) fun r0=>
     if (decide ((r0).length=(l).length)) = true then
      bnd (nthI r0 (IntKind.i64.wrap ((((l).length:Nat):Int) - n0))) fun e=>
      some (e,true)
      else none
     else none
def zis (l:(List Int))(n0:Int):Option (Int × Bool):=
  if (decide (n0 < (1:Int))) = true then
   zfp l n0 true
  else
    zfp l n0 (decide ((l.length:Int) < n0))
def zde (l:(List Int)):Option Int:=
  bnd (zgb (l.length:Int)) fun r0=>
  bnd (zis l r0) fun r0_1=>
  some r0_1.1
def zcg (m:Tmember)(r0:Int)(v39:Bool):Option Tmember:=
  if v39=true then
   some (Tmember.mk (TRaft.mk m.Raft.Id m.Raft.N m.Raft.Term m.Raft.Vote m.Raft.Role m.Raft.Lead m.Raft.Log r0 m.Raft.Snap m.Raft.Granted m.Raft.Next m.Raft.Match m.Raft.Clock m.Raft.Wait) m.f_out)
  else
    some m
def zdj (m:Tmember):Option Tmember:=
  bnd (zde m.Raft.Match) fun r0=>
  bnd (zbj m.Raft.Log r0) fun r0_1=>
  if r0_1.2=true then
   if (decide (m.Raft.Commit < r0)) = true then
    zcg m r0 (decide (r0_1.1=m.Raft.Term))
   else
     zcg m r0 false
  else
    zcg m r0 false
def zgf (l:TLog)(e:TEntry):Option TLog:=
  bnd (zed l) fun r0=>
  if (capB (e.Data).length) = true then
   if (capB ((r0.Entries).length + 1)) = true then
    some (TLog.mk r0.Base r0.BaseTerm (r0.Entries++[e]))
    else none
   else none
def zdk (m:Tmember):Option Tmember:=
  bnd (zgf m.Raft.Log (TEntry.mk m.Raft.Term ([]))) fun r0=>
  bnd (zad r0) fun r0_1=>
  bnd (nthI m.Raft.Match (IntKind.i64.wrap (m.Raft.Id - (1:Int)))) fun e=>
  bnd (zdj (Tmember.mk (TRaft.mk m.Raft.Id m.Raft.N m.Raft.Term m.Raft.Vote m.Raft.Role m.Raft.Lead r0 m.Raft.Commit m.Raft.Snap m.Raft.Granted m.Raft.Next (setI m.Raft.Match (IntKind.i64.wrap (m.Raft.Id - (1:Int))) r0_1) m.Raft.Clock m.Raft.Wait) m.f_out)) fun r0_2=>
  bnd (zey r0_2) fun r0_3=>
  some r0_3
def zcw (r0:Tmember)(zw:(List Int)):Option Tmember:=
  bnd (zdk (Tmember.mk (TRaft.mk r0.Raft.Id r0.Raft.N r0.Raft.Term r0.Raft.Vote (3:Int) r0.Raft.Lead r0.Raft.Log r0.Raft.Commit r0.Raft.Snap r0.Raft.Granted zw (List.replicate r0.Raft.N.toNat (0:Int)) (0:Int) r0.Raft.Wait) r0.f_out)) fun r0_2=>
  some r0_2
def zch (r0:Tmember)(zeu:Int→(List Int)→Option Tmember)(v49:Int)(zc:(List Int)):Option Tmember:=
  if (decide (v49 < ((r0.Raft.N.toNat:Nat):Int))) = true then
   bnd (zad r0.Raft.Log) fun r0_1=>
   bnd (nthI zc v49) fun e=>
   zeu (IntKind.i64.wrap (v49 + (1:Int))) (setI zc v49 (IntKind.i64.wrap (r0_1 + (1:Int))))
  else
    zcw r0 zc
def zu (r0:Tmember):Nat→Int→(List Int)→Option Tmember
  | 0,_,_=>none
  | n + 1,v49,zc=>zch r0 (zu r0 n) v49 zc
def zca (m:Tmember):Option Tmember:=
  bnd (zcf m.Raft.Term m.Raft.Id m) fun r0=>
  if (mkB r0.Raft.N) = true then
   zu r0 (((((r0.Raft.N.toNat:Nat):Int)) - ((0:Int))).toNat + 1) (0:Int) (List.replicate r0.Raft.N.toNat (0:Int))
   else none
def zea (m:Tmember):Option Tmember:=
  bnd (zcf (IntKind.i64.wrap (m.Raft.Term + (1:Int))) (0:Int) m) fun r0=>
  if (mkB r0.Raft.N) = true then
   bnd (zbh r0.Raft.Id (Tmember.mk (TRaft.mk r0.Raft.Id r0.Raft.N r0.Raft.Term r0.Raft.Id (2:Int) r0.Raft.Lead r0.Raft.Log r0.Raft.Commit r0.Raft.Snap (List.replicate r0.Raft.N.toNat false) r0.Raft.Next r0.Raft.Match (0:Int) r0.Raft.Wait) r0.f_out)) fun r0_1=>
   if r0_1.1=true then
    bnd (zca r0_1.2) fun r0_2=>
    some r0_2
   else
     bnd (zez r0_1.2) fun r0_3=>
     some r0_3
   else none
def zkm (draw:Int):Option Int:=
  some (IntKind.i64.wrap ((10:Int) + (IntKind.i64.wrap ((IntKind.u64.wrap draw).tmod (10:Int)))))
def zfe (draw:Int)(m:Tmember):Option Tmember:=
  bnd (zaj m.Raft.Term (0:Int) m) fun r0=>
  bnd (zkm draw) fun r0_1=>
  if (mkB r0.Raft.N) = true then
   bnd (zbh r0.Raft.Id (Tmember.mk (TRaft.mk r0.Raft.Id r0.Raft.N r0.Raft.Term r0.Raft.Vote (1:Int) r0.Raft.Lead r0.Raft.Log r0.Raft.Commit r0.Raft.Snap (List.replicate r0.Raft.N.toNat false) r0.Raft.Next r0.Raft.Match (0:Int) r0_1) r0.f_out)) fun r0_2=>
   if r0_2.1=true then
    bnd (zea r0_2.2) fun r0_3=>
    some r0_3
   else
     bnd (zgs r0_2.2) fun r0_4=>
     some r0_4
   else none
def zfv (m:Tmember):Option (TRaft × (List TMsg)):=
  some (m.Raft,m.f_out)
def zii (m:Tmember):Option (TRaft × (List TMsg)):=
  some (m.Raft,m.f_out)
def zcj (m:Tmember)(r0:Int)(v39:Bool):Option Tmember:=
  if v39=true then
   some (Tmember.mk (TRaft.mk m.Raft.Id m.Raft.N m.Raft.Term m.Raft.Vote m.Raft.Role m.Raft.Lead m.Raft.Log r0 m.Raft.Snap m.Raft.Granted m.Raft.Next m.Raft.Match m.Raft.Clock m.Raft.Wait) m.f_out)
  else
    some m
def zdr (m:Tmember):Option Tmember:=
  bnd (zde m.Raft.Match) fun r0=>
  bnd (zbj m.Raft.Log r0) fun r0_1=>
  if r0_1.2=true then
   if (decide (m.Raft.Commit < r0)) = true then
    zcj m r0 (decide (r0_1.1=m.Raft.Term))
   else
     zcj m r0 false
  else
    zcj m r0 false
def zfn (data:(List Int))(m:Tmember):Option Tmember:=
  bnd (zgf m.Raft.Log (TEntry.mk m.Raft.Term data)) fun r0=>
  bnd (zad r0) fun r0_1=>
  bnd (nthI m.Raft.Match (IntKind.i64.wrap (m.Raft.Id - (1:Int)))) fun e=>
  bnd (zdr (Tmember.mk (TRaft.mk m.Raft.Id m.Raft.N m.Raft.Term m.Raft.Vote m.Raft.Role m.Raft.Lead r0 m.Raft.Commit m.Raft.Snap m.Raft.Granted m.Raft.Next (setI m.Raft.Match (IntKind.i64.wrap (m.Raft.Id - (1:Int))) r0_1) m.Raft.Clock m.Raft.Wait) m.f_out)) fun r0_2=>
  bnd (zfa r0_2) fun r0_3=>
  some r0_3
def zbx (to0:Int)(x0:TMsg)(m:Tmember):Option Tmember:=
  if (capB ((m.f_out).length + 1)) = true then
   some (Tmember.mk m.Raft (m.f_out++[(TMsg.mk x0.Kind x0.Group m.Raft.Id to0 x0.Term x0.At x0.AtTerm x0.Commit x0.Ok ([]) ([]))]))
   else none
def zhh (l:TLog)(term:Int)(at0:Int):Option Bool:=
  bnd (zdw l) fun r0=>
  if (decide (r0 < term)) = true then
   some true
  else
    if (decide (term=r0)) = true then
     bnd (zad l) fun r0_1=>
     some (decide (r0_1≤at0))
    else
      some false
def zcm (x0:TMsg)(m:Tmember)(ok_1:Bool)(term:Int):Option Tmember:=
  bnd (zbx x0.From (TMsg.mk (2:Int) (0:Int) (0:Int) (0:Int) term (0:Int) (0:Int) (0:Int) ok_1 ([]) ([])) m) fun r0_1=>
  some r0_1
def zbu (x0:TMsg)(m:Tmember)(ok:Bool):Option Tmember:=
  if ok=true then
   zcm x0 m true x0.Term
  else
    zcm x0 m false m.Raft.Term
def zbv (x0:TMsg)(m:Tmember)(free:Bool):Option Tmember:=
  if (decide (m.Raft.Term < x0.Term)) = true then
   if free=true then
    bnd (zhh m.Raft.Log x0.AtTerm x0.At) fun r0=>
    zbu x0 m r0
   else
     zbu x0 m false
  else
    zbu x0 m false
def zeb (x0:TMsg)(m:Tmember):Option Tmember:=
  if (decide (m.Raft.Role≠(3:Int))) = true then
   if (decide (m.Raft.Lead=(0:Int))) = true then
    zbv x0 m true
   else
     zbv x0 m (decide ((10:Int)≤m.Raft.Clock))
  else
    zbv x0 m false
def zbw (who:Int)(m:Tmember):Option (Bool × Tmember):=
  bnd (nthI m.Raft.Granted (IntKind.i64.wrap (who - (1:Int)))) fun e=>
  bnd (zig (setI m.Raft.Granted (IntKind.i64.wrap (who - (1:Int))) true)) fun r0=>
  some (r0,(Tmember.mk (TRaft.mk m.Raft.Id m.Raft.N m.Raft.Term m.Raft.Vote m.Raft.Role m.Raft.Lead m.Raft.Log m.Raft.Commit m.Raft.Snap (setI m.Raft.Granted (IntKind.i64.wrap (who - (1:Int))) true) m.Raft.Next m.Raft.Match m.Raft.Clock m.Raft.Wait) m.f_out))
def zee (m:Tmember):Option Tmember:=
  bnd (zaj (IntKind.i64.wrap (m.Raft.Term + (1:Int))) (0:Int) m) fun r0=>
  if (mkB r0.Raft.N) = true then
   bnd (zbh r0.Raft.Id (Tmember.mk (TRaft.mk r0.Raft.Id r0.Raft.N r0.Raft.Term r0.Raft.Id (2:Int) r0.Raft.Lead r0.Raft.Log r0.Raft.Commit r0.Raft.Snap (List.replicate r0.Raft.N.toNat false) r0.Raft.Next r0.Raft.Match (0:Int) r0.Raft.Wait) r0.f_out)) fun r0_1=>
   if r0_1.1=true then
    bnd (zca r0_1.2) fun r0_2=>
    some r0_2
   else
     bnd (zez r0_1.2) fun r0_3=>
     some r0_3
   else none
def zep (x0:TMsg)(m:Tmember)(ok_1:Bool)(m_30 zd:Int):Option Tmember:=
  bnd (zbx x0.From (TMsg.mk (4:Int) (0:Int) (0:Int) (0:Int) m.Raft.Term (0:Int) (0:Int) (0:Int) ok_1 ([]) ([])) (Tmember.mk (TRaft.mk m.Raft.Id m.Raft.N m.Raft.Term m_30 m.Raft.Role m.Raft.Lead m.Raft.Log m.Raft.Commit m.Raft.Snap m.Raft.Granted m.Raft.Next m.Raft.Match zd m.Raft.Wait) m.f_out)) fun r0_2=>
  some r0_2
def zae (x0:TMsg)(m:Tmember)(ok:Bool):Option Tmember:=
  if ok=true then
   zep x0 m true x0.From (0:Int)
  else
    zep x0 m false m.Raft.Vote m.Raft.Clock
def zeq (x0:TMsg)(m:Tmember):Option Tmember:=
  if (decide (x0.Term=m.Raft.Term)) = true then
   if (decide (m.Raft.Role=(0:Int))) = true then
    if (decide (m.Raft.Vote=(0:Int))) = true then
     bnd (zhh m.Raft.Log x0.AtTerm x0.At) fun r0=>
     zae x0 m r0
    else
      if (decide (m.Raft.Vote=x0.From)) = true then
       bnd (zhh m.Raft.Log x0.AtTerm x0.At) fun r0_1=>
       zae x0 m r0_1
      else
        zae x0 m false
   else
     zae x0 m false
  else
    zae x0 m false
def zhi (r0:Tmember)(zw:(List Int)):Option Tmember:=
  bnd (zdk (Tmember.mk (TRaft.mk r0.Raft.Id r0.Raft.N r0.Raft.Term r0.Raft.Vote (3:Int) r0.Raft.Lead r0.Raft.Log r0.Raft.Commit r0.Raft.Snap r0.Raft.Granted zw (List.replicate r0.Raft.N.toNat (0:Int)) (0:Int) r0.Raft.Wait) r0.f_out)) fun r0_2=>
  some r0_2
def zem (r0:Tmember)(zdl:Int→(List Int)→Option Tmember)(v49:Int)(zc:(List Int)):Option Tmember:=
  if (decide (v49 < ((r0.Raft.N.toNat:Nat):Int))) = true then
   bnd (zad r0.Raft.Log) fun r0_1=>
   bnd (nthI zc v49) fun e=>
   zdl (IntKind.i64.wrap (v49 + (1:Int))) (setI zc v49 (IntKind.i64.wrap (r0_1 + (1:Int))))
  else
    zhi r0 zc
def zat (r0:Tmember):Nat→Int→(List Int)→Option Tmember
  | 0,_,_=>none
  | n + 1,v49,zc=>zem r0 (zat r0 n) v49 zc
def zcx (m:Tmember):Option Tmember:=
  bnd (zaj m.Raft.Term m.Raft.Id m) fun r0=>
  if (mkB r0.Raft.N) = true then
   zat r0 (((((r0.Raft.N.toNat:Nat):Int)) - ((0:Int))).toNat + 1) (0:Int) (List.replicate r0.Raft.N.toNat (0:Int))
   else none
def zcy (to0:Int)(x0:TMsg)(m:Tmember):Option Tmember:=
  if (capB ((m.f_out).length + 1)) = true then
   some (Tmember.mk m.Raft (m.f_out++[(TMsg.mk x0.Kind x0.Group m.Raft.Id to0 x0.Term x0.At x0.AtTerm x0.Commit x0.Ok ([]) ([]))]))
   else none
def zcz (x0:TMsg)(m:Tmember)(v20:Bool):Option (Bool × Tmember):=
  if v20=true then
   bnd (zbx x0.From (TMsg.mk (6:Int) (0:Int) (0:Int) (0:Int) m.Raft.Term (0:Int) (0:Int) (0:Int) false ([]) ([])) m) fun r0=>
   some (false,r0)
  else
    bnd (zaj x0.Term x0.From m) fun r0_1=>
    some (true,(Tmember.mk (TRaft.mk r0_1.Raft.Id r0_1.Raft.N r0_1.Raft.Term r0_1.Raft.Vote r0_1.Raft.Role r0_1.Raft.Lead r0_1.Raft.Log r0_1.Raft.Commit r0_1.Raft.Snap r0_1.Raft.Granted r0_1.Raft.Next r0_1.Raft.Match (0:Int) r0_1.Raft.Wait) r0_1.f_out))
def zer (x0:TMsg)(m:Tmember):Option (Bool × Tmember):=
  if (decide (x0.Term < m.Raft.Term)) = true then
   zcz x0 m true
  else
    zcz x0 m (decide (m.Raft.Role=(3:Int)))
def zhr (at0_1:Int)(entries_1:(List TEntry))(r0_7:TLog)(out_2_1:(List TEntry)):Option (TLog × Int × Bool):=
  some ((TLog.mk r0_7.Base r0_7.BaseTerm out_2_1),(IntKind.i64.wrap (at0_1 + (entries_1.length:Int))),true)
def zhs (at0_1:Int)(entries_1:(List TEntry))(r0_7:TLog)(v97:Int)(out_2:(List TEntry)):Option (TLog × Int × Bool):=
  bnd (sliceL entries_1 v97 entries_1.length) fun l_3=>
  bnd (zfh l_3) fun r0_8=>
  if (capB (out_2.length + r0_8.length)) = true then
   zhr at0_1 entries_1 r0_7 (out_2++r0_8)
   else none
def zhw (l:TLog)(at0_1:Int)(entries_1:(List TEntry))(r0_7:TLog)(zic:Int→Option (TLog × Int × Bool))(v97:Int):Option (TLog × Int × Bool):=
  if (decide (v97 < (entries_1.length:Int))) = true then
   bnd (nthI entries_1 v97) fun e=>
   if (decide ((IntKind.i64.wrap ((IntKind.i64.wrap (at0_1 + v97)) - l.Base)) < (((r0_7.Entries).length:Nat):Int))) = true then
    bnd (nthI r0_7.Entries (IntKind.i64.wrap ((IntKind.i64.wrap (at0_1 + v97)) - l.Base))) fun e_1=>
    if (decide (e_1.Term=e.Term)) = true then
     zic (IntKind.i64.wrap (v97 + (1:Int)))
    else
      bnd (sliceL r0_7.Entries 0 (IntKind.i64.wrap ((IntKind.i64.wrap (at0_1 + v97)) - l.Base))) fun l_2=>
      zhs at0_1 entries_1 r0_7 v97 l_2
   else
     zhs at0_1 entries_1 r0_7 v97 r0_7.Entries
  else
    zhr at0_1 entries_1 r0_7 r0_7.Entries
def zfi (l:TLog)(at0_1:Int)(entries_1:(List TEntry))(r0_7:TLog):Nat→Int→Option (TLog × Int × Bool)
  | 0,_=>none
  | n + 1,v97=>zhw l at0_1 entries_1 r0_7 (zfi l at0_1 entries_1 r0_7 n) v97
def zix (l:TLog)(hint_1:Int):Option (TLog × Int × Bool):=
  bnd (zed l) fun r0_6=>
  some (r0_6,(if hint_1 < l.Base then l.Base else hint_1),false)
def zbf(zay:Int→Int→Bool→Option (TLog × Int × Bool))(l:TLog)(hint:Int)(v78:Bool):Option (TLog × Int × Bool):=
  if v78=true then
   bnd (zbj l (IntKind.i64.wrap (hint - (1:Int)))) fun r0_5=>
   zay (IntKind.i64.wrap (hint - (1:Int))) r0_5.1 r0_5.2
  else
    zix l hint
def zgc (l:TLog)(r0_1:(Int × Bool))(zay:Int→Int→Bool→Option (TLog × Int × Bool))(hint t:Int)(ok:Bool):Option (TLog × Int × Bool):=
  if ok=true then
   if (decide (t=r0_1.1)) = true then
    zbf zay l hint (decide (l.Base < hint))
   else
     zbf zay l hint false
  else
    zbf zay l hint false
def zah (l:TLog)(r0_1:(Int × Bool)):Nat→Int→Int→Bool→Option (TLog × Int × Bool)
  | 0,_,_,_=>none
  | n + 1,hint,t,ok=>zgc l r0_1 (zah l r0_1 n) hint t ok
def zht (l:TLog)(at0_1 term_1:Int)(entries_1:(List TEntry)):Option (TLog × Int × Bool):=
  bnd (zbj l at0_1) fun r0_1=>
  if r0_1.2=true then
   if (decide (r0_1.1≠term_1)) = true then
    bnd (zbj l (IntKind.i64.wrap (at0_1 - (1:Int)))) fun r0_4=>
    zah l r0_1 (1000000) (IntKind.i64.wrap (at0_1 - (1:Int))) r0_4.1 r0_4.2
   else
     bnd (zed l) fun r0_7=>
     zfi l at0_1 entries_1 r0_7 ((((entries_1.length:Int)) - ((0:Int))).toNat + 1) (0:Int)
  else
    bnd (zed l) fun r0_2=>
    bnd (zad l) fun r0_3=>
    some (r0_2,r0_3,false)
def zky (l:TLog)(at0:Int)(term:Int)(entries:(List TEntry)):Option (TLog × Int × Bool):=
  if (decide (at0 < l.Base)) = true then
   if (decide ((entries.length:Int) < (IntKind.i64.wrap (l.Base - at0)))) = true then
    bnd (zed l) fun r0=>
    some (r0,l.Base,true)
   else
     bnd (sliceL entries (IntKind.i64.wrap (l.Base - at0)) entries.length) fun l_1=>
     zht l l.Base l.BaseTerm l_1
  else
    zht l at0 term entries
def zby (x0:TMsg)(r0:(Bool × Tmember))(r0_1:(TLog × Int × Bool))(ok:Bool)(m_60 m_70:Int)(m_80:(List TEntry))(m_90:Int):Option Tmember:=
  bnd (zcy x0.From (TMsg.mk (6:Int) (0:Int) (0:Int) (0:Int) r0.2.Raft.Term r0_1.2.1 (0:Int) (0:Int) ok ([]) ([])) (Tmember.mk (TRaft.mk r0.2.Raft.Id r0.2.Raft.N r0.2.Raft.Term r0.2.Raft.Vote r0.2.Raft.Role r0.2.Raft.Lead (TLog.mk m_60 m_70 m_80) m_90 r0.2.Raft.Snap r0.2.Raft.Granted r0.2.Raft.Next r0.2.Raft.Match r0.2.Raft.Clock r0.2.Raft.Wait) r0.2.f_out)) fun r0_2=>
  some r0_2
def zda (x0:TMsg)(m:Tmember):Option Tmember:=
  bnd (zer x0 m) fun r0=>
  if r0.1=true then
   bnd (zky r0.2.Raft.Log x0.At x0.AtTerm x0.Entries) fun r0_1=>
   if r0_1.2.2=true then
    zby x0 r0 r0_1 true r0_1.1.Base r0_1.1.BaseTerm r0_1.1.Entries (if r0.2.Raft.Commit < (if r0_1.2.1 < x0.Commit then r0_1.2.1 else x0.Commit) then (if r0_1.2.1 < x0.Commit then r0_1.2.1 else x0.Commit) else r0.2.Raft.Commit)
   else
     zby x0 r0 r0_1 false r0.2.Raft.Log.Base r0.2.Raft.Log.BaseTerm r0.2.Raft.Log.Entries r0.2.Raft.Commit
  else
    some r0.2
def zck (m:Tmember)(r0:Int)(v39:Bool):Option Tmember:=
  if v39=true then
   some (Tmember.mk (TRaft.mk m.Raft.Id m.Raft.N m.Raft.Term m.Raft.Vote m.Raft.Role m.Raft.Lead m.Raft.Log r0 m.Raft.Snap m.Raft.Granted m.Raft.Next m.Raft.Match m.Raft.Clock m.Raft.Wait) m.f_out)
  else
    some m
def zds (m:Tmember):Option Tmember:=
  bnd (zde m.Raft.Match) fun r0=>
  bnd (zbj m.Raft.Log r0) fun r0_1=>
  if r0_1.2=true then
   if (decide (m.Raft.Commit < r0)) = true then
    zck m r0 (decide (r0_1.1=m.Raft.Term))
   else
     zck m r0 false
  else
    zck m r0 false
def zdb (x0:TMsg)(m_00 m_10 m_20 m_30 m_40 m_50 m_60 m_70 m_90 zd zh:Int)(ze:(List Int))(zi:(List Bool))(zc zj:(List Int))(m_80:(List TEntry))(zk:(List TMsg)):Option Tmember:=
  bnd (zen x0.From (Tmember.mk (TRaft.mk m_00 m_10 m_20 m_30 m_40 m_50 (TLog.mk m_60 m_70 m_80) m_90 ze zi zc zj zd zh) zk)) fun r0_3=>
  some r0_3
def zbi (x0:TMsg)(m:Tmember)(v20:Bool):Option Tmember:=
  if v20=true then
   some m
  else
    if x0.Ok=true then
     bnd (nthI m.Raft.Match (IntKind.i64.wrap (x0.From - (1:Int)))) fun e=>
     bnd (zad m.Raft.Log) fun r0=>
     bnd (nthI m.Raft.Next (IntKind.i64.wrap (x0.From - (1:Int)))) fun e_1=>
     bnd (nthI (setI m.Raft.Match (IntKind.i64.wrap (x0.From - (1:Int))) (if e < (if r0 < x0.At then r0 else x0.At) then (if r0 < x0.At then r0 else x0.At) else e)) (IntKind.i64.wrap (x0.From - (1:Int)))) fun e_2=>
     bnd (zds (Tmember.mk (TRaft.mk m.Raft.Id m.Raft.N m.Raft.Term m.Raft.Vote m.Raft.Role m.Raft.Lead m.Raft.Log m.Raft.Commit m.Raft.Snap m.Raft.Granted (setI m.Raft.Next (IntKind.i64.wrap (x0.From - (1:Int))) (if e_1 < (IntKind.i64.wrap (e_2 + (1:Int))) then (IntKind.i64.wrap (e_2 + (1:Int))) else e_1)) (setI m.Raft.Match (IntKind.i64.wrap (x0.From - (1:Int))) (if e < (if r0 < x0.At then r0 else x0.At) then (if r0 < x0.At then r0 else x0.At) else e)) m.Raft.Clock m.Raft.Wait) m.f_out)) fun r0_1=>
     bnd (nthI r0_1.Raft.Next (IntKind.i64.wrap (x0.From - (1:Int)))) fun e_3=>
     bnd (zad r0_1.Raft.Log) fun r0_2=>
     if (decide (r0_2 < e_3)) = true then
      some r0_1
     else
       zdb x0 r0_1.Raft.Id r0_1.Raft.N r0_1.Raft.Term r0_1.Raft.Vote r0_1.Raft.Role r0_1.Raft.Lead r0_1.Raft.Log.Base r0_1.Raft.Log.BaseTerm r0_1.Raft.Commit r0_1.Raft.Clock r0_1.Raft.Wait r0_1.Raft.Snap r0_1.Raft.Granted r0_1.Raft.Next r0_1.Raft.Match r0_1.Raft.Log.Entries r0_1.f_out
    else
      bnd (nthI m.Raft.Match (IntKind.i64.wrap (x0.From - (1:Int)))) fun e_4=>
      bnd (nthI m.Raft.Next (IntKind.i64.wrap (x0.From - (1:Int)))) fun e_5=>
      zdb x0 m.Raft.Id m.Raft.N m.Raft.Term m.Raft.Vote m.Raft.Role m.Raft.Lead m.Raft.Log.Base m.Raft.Log.BaseTerm m.Raft.Commit m.Raft.Clock m.Raft.Wait m.Raft.Snap m.Raft.Granted (setI m.Raft.Next (IntKind.i64.wrap (x0.From - (1:Int))) (if (IntKind.i64.wrap (e_4 + (1:Int))) < (IntKind.i64.wrap ((if x0.At < (IntKind.i64.wrap (e_5 - (2:Int))) then x0.At else (IntKind.i64.wrap (e_5 - (2:Int)))) + (1:Int))) then (IntKind.i64.wrap ((if x0.At < (IntKind.i64.wrap (e_5 - (2:Int))) then x0.At else (IntKind.i64.wrap (e_5 - (2:Int)))) + (1:Int))) else (IntKind.i64.wrap (e_4 + (1:Int))))) m.Raft.Match m.Raft.Log.Entries m.f_out
def zes (x0:TMsg)(m:Tmember):Option Tmember:=
  if (decide (x0.Term < m.Raft.Term)) = true then
   zbi x0 m true
  else
    zbi x0 m (decide (m.Raft.Role≠(3:Int)))
def zhe (l:TLog)(at0:Int):Option (TLog × Int):=
  bnd (zbj l at0) fun r0=>
  if r0.2=true then
   bnd (sliceL l.Entries (IntKind.i64.wrap (at0 - l.Base)) l.Entries.length) fun l_1=>
   bnd (zfh l_1) fun r0_1=>
   some ((TLog.mk at0 r0.1 r0_1),(0:Int))
  else
    some ((TLog.mk (0:Int) (0:Int) ([])),(2:Int))
def zhx (l:TLog)(at0 term:Int)(v22:Bool):Option TLog:=
  if v22=true then
   bnd (zhe l at0) fun r0_1=>
   some r0_1.1
  else
    some (TLog.mk at0 term ([]))
def zjq (l:TLog)(at0:Int)(term:Int):Option TLog:=
  bnd (zbj l at0) fun r0=>
  if r0.2=true then
   zhx l at0 term (decide (r0.1=term))
  else
    zhx l at0 term false
def zdc (x0:TMsg)(r0:(Bool × Tmember))(m_60 m_70:Int)(m_80:(List TEntry))(m_90:Int)(ze:(List Int)):Option Tmember:=
  bnd (zcy x0.From (TMsg.mk (6:Int) (0:Int) (0:Int) (0:Int) r0.2.Raft.Term m_90 (0:Int) (0:Int) true ([]) ([])) (Tmember.mk (TRaft.mk r0.2.Raft.Id r0.2.Raft.N r0.2.Raft.Term r0.2.Raft.Vote r0.2.Raft.Role r0.2.Raft.Lead (TLog.mk m_60 m_70 m_80) m_90 ze r0.2.Raft.Granted r0.2.Raft.Next r0.2.Raft.Match r0.2.Raft.Clock r0.2.Raft.Wait) r0.2.f_out)) fun r0_2=>
  some r0_2
def zet (x0:TMsg)(m:Tmember):Option Tmember:=
  bnd (zer x0 m) fun r0=>
  if r0.1=true then
   if (decide (r0.2.Raft.Commit < x0.At)) = true then
    bnd (zjq r0.2.Raft.Log x0.At x0.AtTerm) fun r0_1=>
    if (capB (x0.Data).length) = true then
     zdc x0 r0 r0_1.Base r0_1.BaseTerm r0_1.Entries x0.At x0.Data
     else none
   else
     zdc x0 r0 r0.2.Raft.Log.Base r0.2.Raft.Log.BaseTerm r0.2.Raft.Log.Entries r0.2.Raft.Commit r0.2.Raft.Snap
  else
    some r0.2
def zlx:Option Bool:=some true
def zgg (id n0:Int)(v20:Bool):Option (TRaft × Int):=
  if v20=true then
   some ((TRaft.mk (0:Int) (0:Int) (0:Int) (0:Int) (0:Int) (0:Int) (TLog.mk (0:Int) (0:Int) ([])) (0:Int) ([]) ([]) ([]) ([]) (0:Int) (0:Int)),(2:Int))
  else
    some ((TRaft.mk id n0 (0:Int) (0:Int) (0:Int) (0:Int) (TLog.mk (0:Int) (0:Int) ([])) (0:Int) ([]) ([]) ([]) ([]) (0:Int) (IntKind.i64.wrap ((10:Int) + id))),(0:Int))
def zjx (id:Int)(n0:Int):Option (TRaft × Int):=
  if (decide (n0 < (1:Int))) = true then
   zgg id n0 true
  else
    if (decide ((7:Int) < n0)) = true then
     zgg id n0 true
    else
      if (decide (id < (1:Int))) = true then
       zgg id n0 true
      else
        zgg id n0 (decide (n0 < id))
def zgd(zav:Int→Int→Option Int)(v39:Int)(e:TEntry)(v51:Bool):Option Int:=
  if v51=true then
   some (1:Int)
  else
    zav e.Term (IntKind.i64.wrap (v39 + (1:Int)))
def zgl (l:TLog)(zav:Int→Int→Option Int)(term v39:Int):Option Int:=
  if (decide (v39 < (l.Entries.length:Int))) = true then
   bnd (nthI l.Entries v39) fun e=>
   if (decide (e.Term < term)) = true then
    zgd zav v39 e true
   else
     zgd zav v39 e (decide ((1099511627776:Int) < e.Term))
  else
    some (0:Int)
def zcs (l:TLog):Nat→Int→Int→Option Int
  | 0,_,_=>none
  | n + 1,term,v39=>zgl l (zcs l n) term v39
def zct (l:TLog)(v32:Bool):Option Int:=
  if v32=true then
   some (1:Int)
  else
    zcs l ((((l.Entries.length:Int)) - ((0:Int))).toNat + 1) (if l.BaseTerm < (1:Int) then (1:Int) else l.BaseTerm) (0:Int)
def zjr (l:TLog):Option Int:=
  if (decide (l.Base < (0:Int))) = true then
   zct l true
  else
    if (decide ((1099511627776:Int) < l.Base)) = true then
     zct l true
    else
      if (decide (l.BaseTerm < (0:Int))) = true then
       zct l true
      else
        if (decide ((1099511627776:Int) < l.BaseTerm)) = true then
         zct l true
        else
          zct l (!(((decide (l.Base=(0:Int))) == (decide (l.BaseTerm=(0:Int))))))
def zaz (term vote:Int)(l:TLog)(snap:(List Int))(r0:(TRaft × Int))(v27:Bool):Option (TRaft × Int):=
  if v27=true then
   some ((TRaft.mk (0:Int) (0:Int) (0:Int) (0:Int) (0:Int) (0:Int) (TLog.mk (0:Int) (0:Int) ([])) (0:Int) ([]) ([]) ([]) ([]) (0:Int) (0:Int)),(1:Int))
  else
    bnd (zed l) fun r0_3=>
    if (capB (snap).length) = true then
     some ((TRaft.mk r0.1.Id r0.1.N term vote r0.1.Role r0.1.Lead r0_3 l.Base snap r0.1.Granted r0.1.Next r0.1.Match r0.1.Clock r0.1.Wait),(0:Int))
     else none
def zhf (id:Int)(n0:Int)(term:Int)(vote:Int)(l:TLog)(snap:(List Int)):Option (TRaft × Int):=
  bnd (zjx id n0) fun r0=>
  if (decide (r0.2≠(0:Int))) = true then
   some ((TRaft.mk (0:Int) (0:Int) (0:Int) (0:Int) (0:Int) (0:Int) (TLog.mk (0:Int) (0:Int) ([])) (0:Int) ([]) ([]) ([]) ([]) (0:Int) (0:Int)),r0.2)
  else
    if (decide (term < (0:Int))) = true then
     zaz term vote l snap r0 true
    else
      if (decide ((1099511627776:Int) < term)) = true then
       zaz term vote l snap r0 true
      else
        if (decide (vote < (0:Int))) = true then
         zaz term vote l snap r0 true
        else
          if (decide (n0 < vote)) = true then
           zaz term vote l snap r0 true
          else
            bnd (zdw l) fun r0_1=>
            if (decide (term < r0_1)) = true then
             zaz term vote l snap r0 true
            else
              bnd (zjr l) fun r0_2=>
              zaz term vote l snap r0 (decide (r0_2≠(0:Int)))
def zfw (l:(List TOp))(zgu:Int→Option Bool)(i:Int):Option Bool:=
  if (decide (i < (l.length:Int))) = true then
   bnd (nthI l i) fun e=>
   if (decide ((20:Int) < (e.Data.length:Int))) = true then
    some false
   else
     zgu (IntKind.i64.wrap (i + (1:Int)))
  else
    some true
def zdf (l:(List TOp)):Nat→Int→Option Bool
  | 0,_=>none
  | n + 1,i=>zfw l (zdf l n) i
def ziy (l:(List TOp)):Option Bool:=
  if (decide ((250:Int) < (l.length:Int))) = true then
   some false
  else
    zdf l ((((l.length:Int)) - ((0:Int))).toNat + 1) (0:Int)
def zfx (n0:Int)(zgv:Int→(List TRaft)→Option TWorld)(i:Int)(w_00:(List TRaft)):Option TWorld:=
  if (decide (i≤n0)) = true then
   bnd (zjx i n0) fun r0=>
   if (capB (w_00.length + 1)) = true then
    zgv (IntKind.i64.wrap (i + (1:Int))) (w_00++[r0.1])
    else none
  else
    some (TWorld.mk w_00 ([]))
def zdg (n0:Int):Nat→Int→(List TRaft)→Option TWorld
  | 0,_,_=>none
  | n + 1,i,w_00=>zfx n0 (zdg n0 n) i w_00
def ziz (n0:Int):Option TWorld:=
  zdg n0 (((n0) - ((1:Int)) + 1).toNat + 1) (1:Int) ([])
def zjs (n0:Int):Option Int:=
  some (IntKind.i64.wrap ((1:Int) + ((IntKind.i64.wrap n0).tmod (5:Int))))
def zij (m_00 m_10 m_20 m_30 m_40 m_50 m_60 m_70:Int)(m_80:(List TEntry))(m_90 zd zh:Int)(ze:(List Int))(zi:(List Bool))(zc zj:(List Int))(zk:(List TMsg)):Option (TRaft × (List TMsg)):=
  bnd (zfv (Tmember.mk (TRaft.mk m_00 m_10 m_20 m_30 m_40 m_50 (TLog.mk m_60 m_70 m_80) m_90 ze zi zc zj zd zh) zk)) fun r0_4=>
  some (r0_4.1,r0_4.2)
def zhg (draw:Int)(r0_1:Tmember)(v41:Bool):Option (TRaft × (List TMsg)):=
  if v41=true then
   bnd (zfe draw (Tmember.mk (TRaft.mk r0_1.Raft.Id r0_1.Raft.N r0_1.Raft.Term r0_1.Raft.Vote r0_1.Raft.Role r0_1.Raft.Lead r0_1.Raft.Log r0_1.Raft.Commit r0_1.Raft.Snap r0_1.Raft.Granted r0_1.Raft.Next r0_1.Raft.Match (IntKind.i64.wrap (r0_1.Raft.Clock + (1:Int))) r0_1.Raft.Wait) r0_1.f_out)) fun r0_3=>
   zij r0_3.Raft.Id r0_3.Raft.N r0_3.Raft.Term r0_3.Raft.Vote r0_3.Raft.Role r0_3.Raft.Lead r0_3.Raft.Log.Base r0_3.Raft.Log.BaseTerm r0_3.Raft.Log.Entries r0_3.Raft.Commit r0_3.Raft.Clock r0_3.Raft.Wait r0_3.Raft.Snap r0_3.Raft.Granted r0_3.Raft.Next r0_3.Raft.Match r0_3.f_out
  else
    zij r0_1.Raft.Id r0_1.Raft.N r0_1.Raft.Term r0_1.Raft.Vote r0_1.Raft.Role r0_1.Raft.Lead r0_1.Raft.Log.Base r0_1.Raft.Log.BaseTerm r0_1.Raft.Log.Entries r0_1.Raft.Commit (IntKind.i64.wrap (r0_1.Raft.Clock + (1:Int))) r0_1.Raft.Wait r0_1.Raft.Snap r0_1.Raft.Granted r0_1.Raft.Next r0_1.Raft.Match r0_1.f_out
def zik (draw:Int)(r0_1:Tmember)(v18:Bool):Option (TRaft × (List TMsg)):=
  if v18=true then
   bnd (zgj (Tmember.mk (TRaft.mk r0_1.Raft.Id r0_1.Raft.N r0_1.Raft.Term r0_1.Raft.Vote r0_1.Raft.Role r0_1.Raft.Lead r0_1.Raft.Log r0_1.Raft.Commit r0_1.Raft.Snap r0_1.Raft.Granted r0_1.Raft.Next r0_1.Raft.Match (0:Int) r0_1.Raft.Wait) r0_1.f_out)) fun r0_2=>
   zij r0_2.Raft.Id r0_2.Raft.N r0_2.Raft.Term r0_2.Raft.Vote r0_2.Raft.Role r0_2.Raft.Lead r0_2.Raft.Log.Base r0_2.Raft.Log.BaseTerm r0_2.Raft.Log.Entries r0_2.Raft.Commit r0_2.Raft.Clock r0_2.Raft.Wait r0_2.Raft.Snap r0_2.Raft.Granted r0_2.Raft.Next r0_2.Raft.Match r0_2.f_out
  else
    if (decide (r0_1.Raft.Role≠(3:Int))) = true then
     zhg draw r0_1 (decide (r0_1.Raft.Wait≤(IntKind.i64.wrap (r0_1.Raft.Clock + (1:Int)))))
    else
      zhg draw r0_1 false
def zkn (r0:TRaft)(draw:Int):Option (TRaft × (List TMsg)):=
  bnd (zir r0) fun r0_1=>
  if (decide (r0_1.Raft.Role=(3:Int))) = true then
   zik draw r0_1 (decide ((2:Int)≤(IntKind.i64.wrap (r0_1.Raft.Clock + (1:Int)))))
  else
    zik draw r0_1 false
def zil (r0:TRaft)(data:(List Int)):Option (TRaft × Int × (List TMsg) × Int):=
  bnd (zir r0) fun r0_1=>
  if (decide (r0_1.Raft.Role≠(3:Int))) = true then
   some (r0_1.Raft,(0:Int),[],(15:Int))
  else
    bnd (zfn data r0_1) fun r0_2=>
    bnd (zfv r0_2) fun r0_3=>
    bnd (zad r0_3.1.Log) fun r0_4=>
    some (r0_3.1,r0_4,r0_3.2,(0:Int))
def zff (upto:Int)(snap:(List Int))(r0_1:Tmember)(v29:Bool):Option (TRaft × Int):=
  if v29=true then
   some (r0_1.Raft,(2:Int))
  else
    bnd (zhe r0_1.Raft.Log upto) fun r0_2=>
    if (decide (r0_2.2≠(0:Int))) = true then
     some (r0_1.Raft,r0_2.2)
    else
      if (capB (snap).length) = true then
       some ((TRaft.mk r0_1.Raft.Id r0_1.Raft.N r0_1.Raft.Term r0_1.Raft.Vote r0_1.Raft.Role r0_1.Raft.Lead r0_2.1 r0_1.Raft.Commit snap r0_1.Raft.Granted r0_1.Raft.Next r0_1.Raft.Match r0_1.Raft.Clock r0_1.Raft.Wait),(0:Int))
       else none
def zim (r0:TRaft)(upto:Int)(snap:(List Int)):Option (TRaft × Int):=
  bnd (zir r0) fun r0_1=>
  if (decide (upto≤r0_1.Raft.Log.Base)) = true then
   zff upto snap r0_1 true
  else
    zff upto snap r0_1 (decide (r0_1.Raft.Commit < upto))
def zfy (k:Int)(n0:Int):Option Int:=
  if (decide ((IntKind.u64.wrap n0) = 0)) = true then none else some (IntKind.i64.wrap ((IntKind.u64.wrap k).tmod (IntKind.u64.wrap n0)))
def zew (w:TWorld)(i:Int)(r0:TRaft)(l:(List TMsg)):Option TWorld:=
  if (capB (w.R).length) = true then
   bnd (nthI w.R i) fun e=>
   if (capB (w.Net).length) = true then
    if (capB ((w.Net).length + l.length)) = true then
     if (decide ((60:Int) < ((((w.Net).length + l.length):Nat):Int))) = true then
      bnd (sliceL (w.Net++l) (IntKind.i64.wrap (((((w.Net).length + l.length):Nat):Int) - (60:Int))) (w.Net++l).length) fun l_1=>
      some (TWorld.mk (setI w.R i r0) l_1)
     else
       some (TWorld.mk (setI w.R i r0) (w.Net++l))
     else none
    else none
   else none
def zge (w:TWorld)(k:Int)(e:TMsg)(out_1:(List TMsg)):Option (TWorld × TMsg):=
  bnd (sliceL w.Net (IntKind.i64.wrap (k + (1:Int))) w.Net.length) fun l_1=>
  if (capB (out_1.length + l_1.length)) = true then
   some ((TWorld.mk w.R (out_1++l_1)),e)
   else none
def zjt (w:TWorld)(k:Int)(keep:Bool):Option (TWorld × TMsg):=
  bnd (nthI w.Net k) fun e=>
  bnd (sliceL w.Net 0 k) fun l=>
  if (capB l.length) = true then
   if keep=true then
    if (capB (l.length + 1)) = true then
     zge w k e (l++[e])
     else none
   else
     zge w k e l
   else none
def zai (zqi zqj zqk zql zqm zqn zqo zqp:Int)(zqq:(List TEntry))(zqr zpn zpo:Int)(zpp:(List Int))(zpq:(List Bool))(zpr zps:(List Int))(zpt:(List TMsg)):Option (TRaft × (List TMsg)):=
  bnd (zfv (Tmember.mk (TRaft.mk zqi zqj zqk zql zqm zqn (TLog.mk zqo zqp zqq) zqr zpp zpq zpr zps zpn zpo) zpt)) fun r0_13=>
  some (r0_13.1,r0_13.2)
def zdv (v158:Bool)(zow zox zoy zoz zpa zpb zpc zpd zpe znt znu:Int)(zpf:(List TEntry))(znv:(List Int))(znw:(List Bool))(znx zny:(List Int))(znz:(List TMsg)):Option (TRaft × (List TMsg)):=
  if v158=true then
   bnd (zcx (Tmember.mk (TRaft.mk zow zox zoy zoz zpa zpb (TLog.mk zpc zpd zpf) zpe znv znw znx zny znt znu) znz)) fun r0_9=>
   zai r0_9.Raft.Id r0_9.Raft.N r0_9.Raft.Term r0_9.Raft.Vote r0_9.Raft.Role r0_9.Raft.Lead r0_9.Raft.Log.Base r0_9.Raft.Log.BaseTerm r0_9.Raft.Log.Entries r0_9.Raft.Commit r0_9.Raft.Clock r0_9.Raft.Wait r0_9.Raft.Snap r0_9.Raft.Granted r0_9.Raft.Next r0_9.Raft.Match r0_9.f_out
  else
    zai zow zox zoy zoz zpa zpb zpc zpd zpf zpe znt znu znv znw znx zny znz
def zco (v123:Bool)(zbk zbl zbm zbn zbo zbp zbq zbr zbt zam zan:Int)(zbs:(List TEntry))(zao:(List Int))(zap:(List Bool))(zw zaq:(List Int))(zar:(List TMsg)):Option (TRaft × (List TMsg)):=
  if v123=true then
   bnd (zee (Tmember.mk (TRaft.mk zbk zbl zbm zbn zbo zbp (TLog.mk zbq zbr zbs) zbt zao zap zw zaq zam zan) zar)) fun r0_6=>
   zai r0_6.Raft.Id r0_6.Raft.N r0_6.Raft.Term r0_6.Raft.Vote r0_6.Raft.Role r0_6.Raft.Lead r0_6.Raft.Log.Base r0_6.Raft.Log.BaseTerm r0_6.Raft.Log.Entries r0_6.Raft.Commit r0_6.Raft.Clock r0_6.Raft.Wait r0_6.Raft.Snap r0_6.Raft.Granted r0_6.Raft.Next r0_6.Raft.Match r0_6.f_out
  else
    zai zbk zbl zbm zbn zbo zbp zbq zbr zbs zbt zam zan zao zap zw zaq zar
def zfg (x0:TMsg)(m_00 m_10 m_20 m_30 m_40 m_50 m_60 m_70 m_90 zd zh:Int)(m_80:(List TEntry))(ze:(List Int))(zi:(List Bool))(zc zj:(List Int))(zk:(List TMsg)):Option (TRaft × (List TMsg)):=
  if (decide (x0.Kind=(1:Int))) = true then
   bnd (zeb x0 (Tmember.mk (TRaft.mk m_00 m_10 m_20 m_30 m_40 m_50 (TLog.mk m_60 m_70 m_80) m_90 ze zi zc zj zd zh) zk)) fun r0_4=>
   zai r0_4.Raft.Id r0_4.Raft.N r0_4.Raft.Term r0_4.Raft.Vote r0_4.Raft.Role r0_4.Raft.Lead r0_4.Raft.Log.Base r0_4.Raft.Log.BaseTerm r0_4.Raft.Log.Entries r0_4.Raft.Commit r0_4.Raft.Clock r0_4.Raft.Wait r0_4.Raft.Snap r0_4.Raft.Granted r0_4.Raft.Next r0_4.Raft.Match r0_4.f_out
  else
    if (decide (x0.Kind=(2:Int))) = true then
     if x0.Ok=true then
      if (decide (m_40=(1:Int))) = true then
       if (decide (x0.Term=(IntKind.i64.wrap (m_20 + (1:Int))))) = true then
        bnd (zbw x0.From (Tmember.mk (TRaft.mk m_00 m_10 m_20 m_30 m_40 m_50 (TLog.mk m_60 m_70 m_80) m_90 ze zi zc zj zd zh) zk)) fun r0_5=>
        zco r0_5.1 r0_5.2.Raft.Id r0_5.2.Raft.N r0_5.2.Raft.Term r0_5.2.Raft.Vote r0_5.2.Raft.Role r0_5.2.Raft.Lead r0_5.2.Raft.Log.Base r0_5.2.Raft.Log.BaseTerm r0_5.2.Raft.Commit r0_5.2.Raft.Clock r0_5.2.Raft.Wait r0_5.2.Raft.Log.Entries r0_5.2.Raft.Snap r0_5.2.Raft.Granted r0_5.2.Raft.Next r0_5.2.Raft.Match r0_5.2.f_out
       else
         zco false m_00 m_10 m_20 m_30 m_40 m_50 m_60 m_70 m_90 zd zh m_80 ze zi zc zj zk
      else
        zco false m_00 m_10 m_20 m_30 m_40 m_50 m_60 m_70 m_90 zd zh m_80 ze zi zc zj zk
     else
       zco false m_00 m_10 m_20 m_30 m_40 m_50 m_60 m_70 m_90 zd zh m_80 ze zi zc zj zk
    else
      if (decide (x0.Kind=(3:Int))) = true then
       bnd (zeq x0 (Tmember.mk (TRaft.mk m_00 m_10 m_20 m_30 m_40 m_50 (TLog.mk m_60 m_70 m_80) m_90 ze zi zc zj zd zh) zk)) fun r0_7=>
       zai r0_7.Raft.Id r0_7.Raft.N r0_7.Raft.Term r0_7.Raft.Vote r0_7.Raft.Role r0_7.Raft.Lead r0_7.Raft.Log.Base r0_7.Raft.Log.BaseTerm r0_7.Raft.Log.Entries r0_7.Raft.Commit r0_7.Raft.Clock r0_7.Raft.Wait r0_7.Raft.Snap r0_7.Raft.Granted r0_7.Raft.Next r0_7.Raft.Match r0_7.f_out
      else
        if (decide (x0.Kind=(4:Int))) = true then
         if x0.Ok=true then
          if (decide (m_40=(2:Int))) = true then
           if (decide (x0.Term=m_20)) = true then
            bnd (zbw x0.From (Tmember.mk (TRaft.mk m_00 m_10 m_20 m_30 m_40 m_50 (TLog.mk m_60 m_70 m_80) m_90 ze zi zc zj zd zh) zk)) fun r0_8=>
            zdv r0_8.1 r0_8.2.Raft.Id r0_8.2.Raft.N r0_8.2.Raft.Term r0_8.2.Raft.Vote r0_8.2.Raft.Role r0_8.2.Raft.Lead r0_8.2.Raft.Log.Base r0_8.2.Raft.Log.BaseTerm r0_8.2.Raft.Commit r0_8.2.Raft.Clock r0_8.2.Raft.Wait r0_8.2.Raft.Log.Entries r0_8.2.Raft.Snap r0_8.2.Raft.Granted r0_8.2.Raft.Next r0_8.2.Raft.Match r0_8.2.f_out
           else
             zdv false m_00 m_10 m_20 m_30 m_40 m_50 m_60 m_70 m_90 zd zh m_80 ze zi zc zj zk
          else
            zdv false m_00 m_10 m_20 m_30 m_40 m_50 m_60 m_70 m_90 zd zh m_80 ze zi zc zj zk
         else
           zdv false m_00 m_10 m_20 m_30 m_40 m_50 m_60 m_70 m_90 zd zh m_80 ze zi zc zj zk
        else
          if (decide (x0.Kind=(5:Int))) = true then
           bnd (zda x0 (Tmember.mk (TRaft.mk m_00 m_10 m_20 m_30 m_40 m_50 (TLog.mk m_60 m_70 m_80) m_90 ze zi zc zj zd zh) zk)) fun r0_10=>
           zai r0_10.Raft.Id r0_10.Raft.N r0_10.Raft.Term r0_10.Raft.Vote r0_10.Raft.Role r0_10.Raft.Lead r0_10.Raft.Log.Base r0_10.Raft.Log.BaseTerm r0_10.Raft.Log.Entries r0_10.Raft.Commit r0_10.Raft.Clock r0_10.Raft.Wait r0_10.Raft.Snap r0_10.Raft.Granted r0_10.Raft.Next r0_10.Raft.Match r0_10.f_out
          else
            if (decide (x0.Kind=(6:Int))) = true then
             bnd (zes x0 (Tmember.mk (TRaft.mk m_00 m_10 m_20 m_30 m_40 m_50 (TLog.mk m_60 m_70 m_80) m_90 ze zi zc zj zd zh) zk)) fun r0_11=>
             zai r0_11.Raft.Id r0_11.Raft.N r0_11.Raft.Term r0_11.Raft.Vote r0_11.Raft.Role r0_11.Raft.Lead r0_11.Raft.Log.Base r0_11.Raft.Log.BaseTerm r0_11.Raft.Log.Entries r0_11.Raft.Commit r0_11.Raft.Clock r0_11.Raft.Wait r0_11.Raft.Snap r0_11.Raft.Granted r0_11.Raft.Next r0_11.Raft.Match r0_11.f_out
            else
              if (decide (x0.Kind=(7:Int))) = true then
               bnd (zet x0 (Tmember.mk (TRaft.mk m_00 m_10 m_20 m_30 m_40 m_50 (TLog.mk m_60 m_70 m_80) m_90 ze zi zc zj zd zh) zk)) fun r0_12=>
               zai r0_12.Raft.Id r0_12.Raft.N r0_12.Raft.Term r0_12.Raft.Vote r0_12.Raft.Role r0_12.Raft.Lead r0_12.Raft.Log.Base r0_12.Raft.Log.BaseTerm r0_12.Raft.Log.Entries r0_12.Raft.Commit r0_12.Raft.Clock r0_12.Raft.Wait r0_12.Raft.Snap r0_12.Raft.Granted r0_12.Raft.Next r0_12.Raft.Match r0_12.f_out
              else
                zai m_00 m_10 m_20 m_30 m_40 m_50 m_60 m_70 m_80 m_90 zd zh ze zi zc zj zk
def zcp (x0:TMsg)(r0_1:Tmember)(v83:Bool):Option (TRaft × (List TMsg)):=
  if v83=true then
   bnd (zaj x0.Term (0:Int) r0_1) fun r0_3=>
   zfg x0 r0_3.Raft.Id r0_3.Raft.N r0_3.Raft.Term r0_3.Raft.Vote r0_3.Raft.Role r0_3.Raft.Lead r0_3.Raft.Log.Base r0_3.Raft.Log.BaseTerm r0_3.Raft.Commit r0_3.Raft.Clock r0_3.Raft.Wait r0_3.Raft.Log.Entries r0_3.Raft.Snap r0_3.Raft.Granted r0_3.Raft.Next r0_3.Raft.Match r0_3.f_out
  else
    zfg x0 r0_1.Raft.Id r0_1.Raft.N r0_1.Raft.Term r0_1.Raft.Vote r0_1.Raft.Role r0_1.Raft.Lead r0_1.Raft.Log.Base r0_1.Raft.Log.BaseTerm r0_1.Raft.Commit r0_1.Raft.Clock r0_1.Raft.Wait r0_1.Raft.Log.Entries r0_1.Raft.Snap r0_1.Raft.Granted r0_1.Raft.Next r0_1.Raft.Match r0_1.f_out
def zba (x0:TMsg)(r0_1:Tmember)(v56:Bool):Option (TRaft × (List TMsg)):=
  if v56=true then
   bnd (zii r0_1) fun r0_2=>
   some (r0_2.1,r0_2.2)
  else
    if (decide (r0_1.Raft.Term < x0.Term)) = true then
     if (decide (x0.Kind≠(1:Int))) = true then
      if (decide (x0.Kind≠(2:Int))) = true then
       zcp x0 r0_1 true
      else
        zcp x0 r0_1 (!x0.Ok)
     else
       zcp x0 r0_1 false
    else
      zcp x0 r0_1 false
def zin (r0:TRaft)(x0:TMsg):Option (TRaft × (List TMsg)):=
  bnd (zir r0) fun r0_1=>
  if (decide (x0.To≠r0_1.Raft.Id)) = true then
   zba x0 r0_1 true
  else
    if (decide (x0.From < (1:Int))) = true then
     zba x0 r0_1 true
    else
      if (decide (r0_1.Raft.N < x0.From)) = true then
       zba x0 r0_1 true
      else
        if (decide (x0.From=r0_1.Raft.Id)) = true then
         zba x0 r0_1 true
        else
          if (decide (x0.Term < (0:Int))) = true then
           zba x0 r0_1 true
          else
            if (decide ((1099511627776:Int) < x0.Term)) = true then
             zba x0 r0_1 true
            else
              zba x0 r0_1 (decide (x0.At < (0:Int)))
def zgh (r0_4:(TWorld × TMsg))(v87:Bool):Option TWorld:=
  if v87=true then
   some r0_4.1
  else
    bnd (nthI r0_4.1.R (IntKind.i64.wrap (r0_4.2.To - (1:Int)))) fun e_1=>
    bnd (zin e_1 r0_4.2) fun r0_5=>
    bnd (zew r0_4.1 (IntKind.i64.wrap (r0_4.2.To - (1:Int))) r0_5.1 r0_5.2) fun r0_6=>
    some r0_6
def zdh (w:TWorld)(o:TOp)(r0:Int)(e:TRaft)(v49:Bool):Option TWorld:=
  if v49=true then
   if (decide ((w.Net.length:Int) = (0:Int))) = true then
    some w
   else
     bnd (zfy o.N (w.Net.length:Int)) fun r0_3=>
     bnd (zjt w r0_3 (decide (o.Kind=(3:Int)))) fun r0_4=>
     if (decide (o.Kind=(2:Int))) = true then
      zgh r0_4 true
     else
       if (decide (r0_4.2.To < (1:Int))) = true then
        zgh r0_4 true
       else
         zgh r0_4 (decide ((w.R.length:Int) < r0_4.2.To))
  else
    if (decide (o.Kind=(4:Int))) = true then
     bnd (zil e o.Data) fun r0_7=>
     if (decide (r0_7.2.2.2≠(0:Int))) = true then
      some w
     else
       bnd (zew w r0 r0_7.1 r0_7.2.2.1) fun r0_8=>
       some r0_8
    else
      if (decide (o.Kind=(5:Int))) = true then
       bnd (zfy o.N (3:Int)) fun r0_9=>
       bnd (zim e (IntKind.i64.wrap (e.Commit - r0_9)) ([(IntKind.u8.wrap (IntKind.i64.wrap (e.Commit - r0_9)))])) fun r0_10=>
       if (decide (r0_10.2≠(0:Int))) = true then
        some w
       else
         bnd (zew w r0 r0_10.1 ([])) fun r0_11=>
         some r0_11
      else
        if (decide (o.Kind=(6:Int))) = true then
         bnd (zhf e.Id e.N e.Term e.Vote e.Log e.Snap) fun r0_12=>
         if (decide (r0_12.2≠(0:Int))) = true then
          some w
         else
           bnd (zew w r0 r0_12.1 ([])) fun r0_13=>
           some r0_13
        else
          some w
def zjy (w:TWorld)(o:TOp):Option TWorld:=
  bnd (zfy o.Who (w.R.length:Int)) fun r0=>
  bnd (nthI w.R r0) fun e=>
  if (decide (o.Kind=(0:Int))) = true then
   bnd (zkn e o.N) fun r0_1=>
   bnd (zew w r0 r0_1.1 r0_1.2) fun r0_2=>
   some r0_2
  else
    if (decide (o.Kind=(1:Int))) = true then
     zdh w o r0 e true
    else
      if (decide (o.Kind=(2:Int))) = true then
       zdh w o r0 e true
      else
        zdh w o r0 e (decide (o.Kind=(3:Int)))
def zio (l:TLog):Option Int:=
  some (IntKind.i64.wrap (l.Base + (l.Entries.length:Int)))
def zit:Option Bool:=
  bnd (zlx ) fun r0_7=>
  some r0_7
def zgw(zf:Int→(List TRaft)→(List TMsg)→Option Bool)(i:Int)(r0_4:TWorld):Option Bool:=
  zf (IntKind.i64.wrap (i + (1:Int))) r0_4.R r0_4.Net
def zbb(zb:Int→Option Bool)(k:Int)(v130:Bool):Option Bool:=
  if v130=true then
   some false
  else
    zb (IntKind.i64.wrap (k + (1:Int)))
def zak(zb:Int→Option Bool)(k:Int)(e_2:TRaft)(v108:Bool):Option Bool:=
  if v108=true then
   some false
  else
    if (decide (e_2.Role=(3:Int))) = true then
     if (decide (e_2.Lead≠e_2.Id)) = true then
      zbb zb k true
     else
       if (decide (e_2.Role≠(3:Int))) = true then
        zbb zb k (decide (e_2.Lead=e_2.Id))
       else
         zbb zb k false
    else
      if (decide (e_2.Role≠(3:Int))) = true then
       zbb zb k (decide (e_2.Lead=e_2.Id))
      else
        zbb zb k false
def zaa(zb:Int→Option Bool)(l:(List TOp))(i k:Int)(e_1 e_2:TRaft)(v70:Bool):Option Bool:=
  if v70=true then
   some false
  else
    if (decide (e_2.Commit < e_1.Commit)) = true then
     bnd (nthI l i) fun e_3=>
     if (decide (e_3.Kind≠(6:Int))) = true then
      zak zb k e_2 true
     else
       if (decide (e_2.Commit≠e_2.Log.Base)) = true then
        zak zb k e_2 true
       else
         if (decide (e_2.Log.Base < e_1.Log.Base)) = true then
          zak zb k e_2 true
         else
           bnd (zio e_2.Log) fun r0_5=>
           zak zb k e_2 (decide (r0_5 < e_2.Commit))
    else
      if (decide (e_2.Log.Base < e_1.Log.Base)) = true then
       zak zb k e_2 true
      else
        bnd (zio e_2.Log) fun r0_6=>
        zak zb k e_2 (decide (r0_6 < e_2.Commit))
def zef(zf:Int→(List TRaft)→(List TMsg)→Option Bool)(l:(List TOp))(i:Int)(w_00:(List TRaft))(r0_4:TWorld)(zb:Int→Option Bool)(k:Int):Option Bool:=
  if (decide (k < (w_00.length:Int))) = true then
   bnd (nthI w_00 k) fun e_1=>
   bnd (nthI r0_4.R k) fun e_2=>
   if (decide (e_2.Term < e_1.Term)) = true then
    zaa zb l i k e_1 e_2 true
   else
     if (decide (e_2.Term=e_1.Term)) = true then
      if (decide (e_1.Vote≠(0:Int))) = true then
       zaa zb l i k e_1 e_2 (decide (e_1.Vote≠e_2.Vote))
      else
        zaa zb l i k e_1 e_2 false
     else
       zaa zb l i k e_1 e_2 false
  else
    zgw zf i r0_4
def zbc(zf:Int→(List TRaft)→(List TMsg)→Option Bool)(l:(List TOp))(i:Int)(w_00:(List TRaft))(r0_4:TWorld):Nat→Int→Option Bool
  | 0,_=>none
  | n + 1,k=>zef zf l i w_00 r0_4 (zbc zf l i w_00 r0_4 n) k
def zeg (l:(List TOp))(zf:Int→(List TRaft)→(List TMsg)→Option Bool)(i:Int)(w_00:(List TRaft))(w_10:(List TMsg)):Option Bool:=
  if (decide (i < (l.length:Int))) = true then
   bnd (nthI l i) fun e=>
   bnd (zjy (TWorld.mk w_00 w_10) e) fun r0_4=>
   zbc zf l i w_00 r0_4 ((((w_00.length:Int)) - ((0:Int))).toNat + 1) (0:Int)
  else
    zit
def zal (l:(List TOp)):Nat→Int→(List TRaft)→(List TMsg)→Option Bool
  | 0,_,_,_=>none
  | n + 1,i,w_00,w_10=>zeg l (zal l n) i w_00 w_10
def zid (n0:Int)(l:(List TOp)):Option Bool:=
  bnd (ziy l) fun r0=>
  if r0=true then
   bnd (zjs n0) fun r0_2=>
   bnd (ziz r0_2) fun r0_3=>
   zal l ((((l.length:Int)) - ((0:Int))).toNat + 1) (0:Int) r0_3.R r0_3.Net
  else
    bnd (zlx ) fun r0_1=>
    some r0_1
end Go.Proofs.Ytgoachcogmlhcaa.R
