/- Models of the functions. -/
import Derived.Test.YtgoachcogmlhcaaMT
set_option maxRecDepth 100000
set_option maxHeartbeats 1600000
set_option linter.unusedVariables false
set_option linter.unusedSimpArgs false
set_option linter.defProp false
noncomputable section
namespace Go.Proofs.Ytgoachcogmlhcaa.R
open Go Nat
def zkf (l:TLog):Option Int:=
  some (IntKind.i64.wrap (l.Base + (l.Entries.length:Int)))
def zhp (l:TLog)(at0:Int)(v15:Bool):Option (TEntry × Bool):=
  if v15=true then
   some ((TEntry.mk (0:Int) ([])),false)
  else
    bnd (nthI l.Entries (IntKind.i64.wrap ((IntKind.i64.wrap (at0 - l.Base)) - (1:Int)))) fun e=>
    some (e,true)
def zig (l:TLog)(at0:Int):Option (TEntry × Bool):=
  if (decide (at0≤l.Base)) = true then
   zhp l at0 true
  else
    bnd (zkf l) fun r0=>
    zhp l at0 (decide (r0 < at0))
def zhz (r0:TRaft)(out_2:(List TEntry)):Option ((List TEntry) × Bool):=
  if (decide (r0.Log.Base≤((out_2.length:Nat):Int))) = true then
   some (out_2,(decide (r0.Log.Base≤r0.Commit)))
  else
    some (out_2,false)
def zei(zd:Int→(List TEntry)→Option ((List TEntry) × Bool))(at0:Int)(out_1:(List TEntry)):Option ((List TEntry) × Bool):=
  zd (IntKind.i64.wrap (at0 + (1:Int))) out_1
def zfw(zd:Int→(List TEntry)→Option ((List TEntry) × Bool))(at0:Int)(out:(List TEntry))(v68:Bool):Option ((List TEntry) × Bool):=
  if v68=true then
   some (out,false)
  else
    zei zd at0 out
def zfx(zd:Int→(List TEntry)→Option ((List TEntry) × Bool))(at0:Int)(out:(List TEntry))(r0_1:(TEntry × Bool))(v36:Bool):Option ((List TEntry) × Bool):=
  if v36=true then
   some (out,false)
  else
    if (decide (at0=(IntKind.i64.wrap (((out.length:Nat):Int) + (1:Int))))) = true then
     if (capB (out.length + 1)) = true then
      zei zd at0 (out++[r0_1.1])
      else none
    else
      bnd (nthI out (IntKind.i64.wrap (at0 - (1:Int)))) fun e=>
      if (decide (e.Term≠r0_1.1.Term)) = true then
       zfw zd at0 out true
      else
        zfw zd at0 out (!(eqS (strI e.Data) (strI r0_1.1.Data)))
def zet (r0:TRaft)(zd:Int→(List TEntry)→Option ((List TEntry) × Bool))(at0:Int)(out:(List TEntry)):Option ((List TEntry) × Bool):=
  if (decide (at0≤r0.Commit)) = true then
   bnd (zig r0.Log at0) fun r0_1=>
   if r0_1.2=true then
    zfx zd at0 out r0_1 (decide ((IntKind.i64.wrap (((out.length:Nat):Int) + (1:Int))) < at0))
   else
     zfx zd at0 out r0_1 true
  else
    zhz r0 out
def zbz (r0:TRaft):Nat→Int→(List TEntry)→Option ((List TEntry) × Bool)
  | 0,_,_=>none
  | n + 1,at0,out=>zet r0 (zbz r0 n) at0 out
def zhq (known:(List TEntry))(r0:TRaft):Option ((List TEntry) × Bool):=
  zbz r0 (((r0.Commit) - ((IntKind.i64.wrap (r0.Log.Base + (1:Int)))) + 1).toNat + 1) (IntKind.i64.wrap (r0.Log.Base + (1:Int))) known
def zgd (l:(List TEntry))(zgw:Int→(List TEntry)→Option (List TEntry))(v8:Int)(out:(List TEntry)):Option (List TEntry):=
  if (decide (v8 < (l.length:Int))) = true then
   bnd (nthI l v8) fun e=>
   if (capB (e.Data).length) = true then
    if (capB (out.length + 1)) = true then
     zgw (IntKind.i64.wrap (v8 + (1:Int))) (out++[e])
     else none
    else none
  else
    some out
def zdi (l:(List TEntry)):Nat→Int→(List TEntry)→Option (List TEntry)
  | 0,_,_=>none
  | n + 1,v8,out=>zgd l (zdi l n) v8 out
def zfp (l:(List TEntry)):Option (List TEntry):=
  zdi l ((((l.length:Int)) - ((0:Int))).toNat + 1) (0:Int) ([])
def zen (l:TLog):Option TLog:=
  bnd (zfp l.Entries) fun r0=>
  some (TLog.mk l.Base l.BaseTerm r0)
def zmj (r0:TRaft):Option TRaft:=
  bnd (zen r0.Log) fun r0_1=>
  if (capB (r0.Snap).length) = true then
   if (capB (r0.Granted).length) = true then
    if (capB (r0.Next).length) = true then
     if (capB (r0.Match).length) = true then
      some (TRaft.mk r0.Id r0.N r0.Term r0.Vote r0.Role r0.Lead r0_1 r0.Commit r0.Snap r0.Granted r0.Next r0.Match r0.Clock r0.Wait)
      else none
     else none
    else none
   else none
def zjg (r0:TRaft):Option Tmember:=
  bnd (zmj r0) fun r0_1=>
  some (Tmember.mk r0_1 ([]))
def zcc (to0:Int)(x0:TMsg)(m:Tmember):Option Tmember:=
  if (capB ((m.f_out).length + 1)) = true then
   some (Tmember.mk m.Raft (m.f_out++[(TMsg.mk x0.Kind x0.Group m.Raft.Id to0 x0.Term x0.At x0.AtTerm x0.Commit x0.Ok x0.Entries x0.Data)]))
   else none
def zag (l:TLog):Option Int:=
  some (IntKind.i64.wrap (l.Base + (l.Entries.length:Int)))
def ziv (l:TLog)(at0:Int)(v13:Bool):Option (Int × Bool):=
  if v13=true then
   some ((0:Int),false)
  else
    bnd (nthI l.Entries (IntKind.i64.wrap ((IntKind.i64.wrap (at0 - l.Base)) - (1:Int)))) fun e=>
    some (e.Term,true)
def zbk (l:TLog)(at0:Int):Option (Int × Bool):=
  if (decide (at0=l.Base)) = true then
   some (l.BaseTerm,true)
  else
    if (decide (at0 < l.Base)) = true then
     ziv l at0 true
    else
      bnd (zag l) fun r0=>
      ziv l at0 (decide (r0 < at0))
def zhl (l:TLog)(at0 most:Int)(v21:Bool):Option (List TEntry):=
  if v21=true then
   some ([])
  else
    bnd (sliceL l.Entries (IntKind.i64.wrap ((IntKind.i64.wrap (at0 - l.Base)) - (1:Int))) l.Entries.length) fun l_1=>
    bnd (sliceL l_1 0 (if (l_1.length:Int) < most then (l_1.length:Int) else most)) fun l_2=>
    bnd (zfp l_2) fun r0_1=>
    some r0_1
def zio (l:TLog)(at0:Int)(most:Int):Option (List TEntry):=
  if (decide (at0≤l.Base)) = true then
   zhl l at0 most true
  else
    bnd (zag l) fun r0=>
    if (decide (r0 < at0)) = true then
     zhl l at0 most true
    else
      zhl l at0 most (decide (most≤(0:Int)))
def zff (to0:Int)(m:Tmember)(x_0 x_5 x_6:Int)(x_9:(List TEntry))(x_10:(List Int)):Option Tmember:=
  bnd (zcc to0 (TMsg.mk x_0 (0:Int) (0:Int) (0:Int) m.Raft.Term x_5 x_6 m.Raft.Commit false x_9 x_10) m) fun r0_2=>
  some r0_2
def zax (to0:Int)(m:Tmember):Option Tmember:=
  bnd (nthI m.Raft.Next (IntKind.i64.wrap (to0 - (1:Int)))) fun e=>
  if (decide (e≤m.Raft.Log.Base)) = true then
   if (capB (m.Raft.Snap).length) = true then
    zff to0 m (7:Int) m.Raft.Log.Base m.Raft.Log.BaseTerm ([]) m.Raft.Snap
    else none
  else
    bnd (zbk m.Raft.Log (IntKind.i64.wrap (e - (1:Int)))) fun r0=>
    bnd (zio m.Raft.Log e (8:Int)) fun r0_1=>
    zff to0 m (5:Int) (IntKind.i64.wrap (e - (1:Int))) r0.1 r0_1 ([])
def zgx(zab:Int→Int→Int→Int→Int→Int→Int→Int→Int→(List TEntry)→Int→Int→Int→(List Int)→(List Bool)→(List Int)→(List Int)→(List TMsg)→Option Tmember)(to0 zbl zbm zbn zbo zbp zbq zbr zbs:Int)(zbt:(List TEntry))(zbu zao zap:Int)(zaq:(List Int))(zar:(List Bool))(zx zas:(List Int))(zat:(List TMsg)):Option Tmember:=
  zab (IntKind.i64.wrap (to0 + (1:Int))) zbl zbm zbn zbo zbp zbq zbr zbs zbt zbu zao zap zaq zar zx zas zat
def zip (zab:Int→Int→Int→Int→Int→Int→Int→Int→Int→(List TEntry)→Int→Int→Int→(List Int)→(List Bool)→(List Int)→(List Int)→(List TMsg)→Option Tmember)(to0 m_00 m_10 m_20 m_30 m_40 m_50 m_60 m_70:Int)(m_80:(List TEntry))(m_90 ze zg:Int)(zf:(List Int))(zh:(List Bool))(zc zi:(List Int))(zj:(List TMsg)):Option Tmember:=
  if (decide (to0≤m_10)) = true then
   if (decide (to0≠m_00)) = true then
    bnd (zax to0 (Tmember.mk (TRaft.mk m_00 m_10 m_20 m_30 m_40 m_50 (TLog.mk m_60 m_70 m_80) m_90 zf zh zc zi ze zg) zj)) fun r0=>
    zgx zab to0 r0.Raft.Id r0.Raft.N r0.Raft.Term r0.Raft.Vote r0.Raft.Role r0.Raft.Lead r0.Raft.Log.Base r0.Raft.Log.BaseTerm r0.Raft.Log.Entries r0.Raft.Commit r0.Raft.Clock r0.Raft.Wait r0.Raft.Snap r0.Raft.Granted r0.Raft.Next r0.Raft.Match r0.f_out
   else
     zgx zab to0 m_00 m_10 m_20 m_30 m_40 m_50 m_60 m_70 m_80 m_90 ze zg zf zh zc zi zj
  else
    some (Tmember.mk (TRaft.mk m_00 m_10 m_20 m_30 m_40 m_50 (TLog.mk m_60 m_70 m_80) m_90 zf zh zc zi ze zg) zj)
def zdq:Nat→Int→Int→Int→Int→Int→Int→Int→Int→Int→(List TEntry)→Int→Int→Int→(List Int)→(List Bool)→(List Int)→(List Int)→(List TMsg)→Option Tmember
  | 0,_,_,_,_,_,_,_,_,_,_,_,_,_,_,_,_,_,_=>none
  | n + 1,to0,m_00,m_10,m_20,m_30,m_40,m_50,m_60,m_70,m_80,m_90,ze,zg,zf,zh,zc,zi,zj=>zip (zdq n) to0 m_00 m_10 m_20 m_30 m_40 m_50 m_60 m_70 m_80 m_90 ze zg zf zh zc zi zj
def zgs (m:Tmember):Option Tmember:=
  zdq (1000000) (1:Int) m.Raft.Id m.Raft.N m.Raft.Term m.Raft.Vote m.Raft.Role m.Raft.Lead m.Raft.Log.Base m.Raft.Log.BaseTerm m.Raft.Log.Entries m.Raft.Commit m.Raft.Clock m.Raft.Wait m.Raft.Snap m.Raft.Granted m.Raft.Next m.Raft.Match m.f_out
def zfr(zq:Int→Int→Int→Int→Int→Int→Int→Int→Int→(List TEntry)→Int→Int→Int→(List Int)→(List Bool)→(List Int)→(List Int)→(List TMsg)→Option Tmember)(to0 zbl zbm zbn zbo zbp zbq zbr zbs:Int)(zbt:(List TEntry))(zbu zao zap:Int)(zaq:(List Int))(zar:(List Bool))(zx zas:(List Int))(zat:(List TMsg)):Option Tmember:=
  zq (IntKind.i64.wrap (to0 + (1:Int))) zbl zbm zbn zbo zbp zbq zbr zbs zbt zbu zao zap zaq zar zx zas zat
def zgy (zq:Int→Int→Int→Int→Int→Int→Int→Int→Int→(List TEntry)→Int→Int→Int→(List Int)→(List Bool)→(List Int)→(List Int)→(List TMsg)→Option Tmember)(to0 m_00 m_10 m_20 m_30 m_40 m_50 m_60 m_70:Int)(m_80:(List TEntry))(m_90 ze zg:Int)(zf:(List Int))(zh:(List Bool))(zc zi:(List Int))(zj:(List TMsg)):Option Tmember:=
  if (decide (to0≤m_10)) = true then
   if (decide (to0≠m_00)) = true then
    bnd (zax to0 (Tmember.mk (TRaft.mk m_00 m_10 m_20 m_30 m_40 m_50 (TLog.mk m_60 m_70 m_80) m_90 zf zh zc zi ze zg) zj)) fun r0=>
    zfr zq to0 r0.Raft.Id r0.Raft.N r0.Raft.Term r0.Raft.Vote r0.Raft.Role r0.Raft.Lead r0.Raft.Log.Base r0.Raft.Log.BaseTerm r0.Raft.Log.Entries r0.Raft.Commit r0.Raft.Clock r0.Raft.Wait r0.Raft.Snap r0.Raft.Granted r0.Raft.Next r0.Raft.Match r0.f_out
   else
     zfr zq to0 m_00 m_10 m_20 m_30 m_40 m_50 m_60 m_70 m_80 m_90 ze zg zf zh zc zi zj
  else
    some (Tmember.mk (TRaft.mk m_00 m_10 m_20 m_30 m_40 m_50 (TLog.mk m_60 m_70 m_80) m_90 zf zh zc zi ze zg) zj)
def zcf:Nat→Int→Int→Int→Int→Int→Int→Int→Int→Int→(List TEntry)→Int→Int→Int→(List Int)→(List Bool)→(List Int)→(List Int)→(List TMsg)→Option Tmember
  | 0,_,_,_,_,_,_,_,_,_,_,_,_,_,_,_,_,_,_=>none
  | n + 1,to0,m_00,m_10,m_20,m_30,m_40,m_50,m_60,m_70,m_80,m_90,ze,zg,zf,zh,zc,zi,zj=>zgy (zcf n) to0 m_00 m_10 m_20 m_30 m_40 m_50 m_60 m_70 m_80 m_90 ze zg zf zh zc zi zj
def zfg (m:Tmember):Option Tmember:=
  zcf (1000000) (1:Int) m.Raft.Id m.Raft.N m.Raft.Term m.Raft.Vote m.Raft.Role m.Raft.Lead m.Raft.Log.Base m.Raft.Log.BaseTerm m.Raft.Log.Entries m.Raft.Commit m.Raft.Clock m.Raft.Wait m.Raft.Snap m.Raft.Granted m.Raft.Next m.Raft.Match m.f_out
def zcz (to0:Int)(x0:TMsg)(m:Tmember):Option Tmember:=
  if (capB ((m.f_out).length + 1)) = true then
   some (Tmember.mk m.Raft (m.f_out++[(TMsg.mk x0.Kind x0.Group m.Raft.Id to0 x0.Term x0.At x0.AtTerm x0.Commit x0.Ok ([]) ([]))]))
   else none
def zee (l:TLog):Option Int:=
  bnd (zag l) fun r0=>
  bnd (zbk l r0) fun r0_1=>
  some r0_1.1
def zda (to0:Int)(b1:Tmember):Option Tmember:=
  bnd (zag b1.Raft.Log) fun r0=>
  bnd (zee b1.Raft.Log) fun r0_1=>
  bnd (zcz to0 (TMsg.mk (3:Int) (0:Int) (0:Int) (0:Int) b1.Raft.Term r0 r0_1 (0:Int) false ([]) ([])) b1) fun r0_2=>
  some r0_2
def zfs(zr:Int→Int→Int→Int→Int→Int→Int→Int→Int→Int→Int→Int→(List TEntry)→(List Int)→(List Bool)→(List Int)→(List Int)→(List TMsg)→Option Tmember)(to0 zbl zbm zbn zbo zbp zbq zbr zbs zbu zao zap:Int)(zbt:(List TEntry))(zaq:(List Int))(zar:(List Bool))(zx zas:(List Int))(zat:(List TMsg)):Option Tmember:=
  zr (IntKind.i64.wrap (to0 + (1:Int))) zbl zbm zbn zbo zbp zbq zbr zbs zbu zao zap zbt zaq zar zx zas zat
def zgz (zr:Int→Int→Int→Int→Int→Int→Int→Int→Int→Int→Int→Int→(List TEntry)→(List Int)→(List Bool)→(List Int)→(List Int)→(List TMsg)→Option Tmember)(to0 m_00 m_10 m_20 m_30 m_40 m_50 m_60 m_70 m_90 ze zg:Int)(m_80:(List TEntry))(zf:(List Int))(zh:(List Bool))(zc zi:(List Int))(zj:(List TMsg)):Option Tmember:=
  if (decide (to0≤m_10)) = true then
   if (decide (to0≠m_00)) = true then
    bnd (zda to0 (Tmember.mk (TRaft.mk m_00 m_10 m_20 m_30 m_40 m_50 (TLog.mk m_60 m_70 m_80) m_90 zf zh zc zi ze zg) zj)) fun r0=>
    zfs zr to0 r0.Raft.Id r0.Raft.N r0.Raft.Term r0.Raft.Vote r0.Raft.Role r0.Raft.Lead r0.Raft.Log.Base r0.Raft.Log.BaseTerm r0.Raft.Commit r0.Raft.Clock r0.Raft.Wait r0.Raft.Log.Entries r0.Raft.Snap r0.Raft.Granted r0.Raft.Next r0.Raft.Match r0.f_out
   else
     zfs zr to0 m_00 m_10 m_20 m_30 m_40 m_50 m_60 m_70 m_90 ze zg m_80 zf zh zc zi zj
  else
    some (Tmember.mk (TRaft.mk m_00 m_10 m_20 m_30 m_40 m_50 (TLog.mk m_60 m_70 m_80) m_90 zf zh zc zi ze zg) zj)
def zcg:Nat→Int→Int→Int→Int→Int→Int→Int→Int→Int→Int→Int→Int→(List TEntry)→(List Int)→(List Bool)→(List Int)→(List Int)→(List TMsg)→Option Tmember
  | 0,_,_,_,_,_,_,_,_,_,_,_,_,_,_,_,_,_,_=>none
  | n + 1,to0,m_00,m_10,m_20,m_30,m_40,m_50,m_60,m_70,m_90,ze,zg,m_80,zf,zh,zc,zi,zj=>zgz (zcg n) to0 m_00 m_10 m_20 m_30 m_40 m_50 m_60 m_70 m_90 ze zg m_80 zf zh zc zi zj
def zfh (m:Tmember):Option Tmember:=
  zcg (1000000) (1:Int) m.Raft.Id m.Raft.N m.Raft.Term m.Raft.Vote m.Raft.Role m.Raft.Lead m.Raft.Log.Base m.Raft.Log.BaseTerm m.Raft.Commit m.Raft.Clock m.Raft.Wait m.Raft.Log.Entries m.Raft.Snap m.Raft.Granted m.Raft.Next m.Raft.Match m.f_out
def zej (to0:Int)(b1:Tmember):Option Tmember:=
  bnd (zag b1.Raft.Log) fun r0=>
  bnd (zee b1.Raft.Log) fun r0_1=>
  bnd (zcz to0 (TMsg.mk (1:Int) (0:Int) (0:Int) (0:Int) (IntKind.i64.wrap (b1.Raft.Term + (1:Int))) r0 r0_1 (0:Int) false ([]) ([])) b1) fun r0_2=>
  some r0_2
def zft(zt:Int→Int→Int→Int→Int→Int→Int→Int→Int→Int→Int→Int→(List TEntry)→(List Int)→(List Bool)→(List Int)→(List Int)→(List TMsg)→Option Tmember)(to0 zbl zbm zbn zbo zbp zbq zbr zbs zbu zao zap:Int)(zbt:(List TEntry))(zaq:(List Int))(zar:(List Bool))(zx zas:(List Int))(zat:(List TMsg)):Option Tmember:=
  zt (IntKind.i64.wrap (to0 + (1:Int))) zbl zbm zbn zbo zbp zbq zbr zbs zbu zao zap zbt zaq zar zx zas zat
def zha (zt:Int→Int→Int→Int→Int→Int→Int→Int→Int→Int→Int→Int→(List TEntry)→(List Int)→(List Bool)→(List Int)→(List Int)→(List TMsg)→Option Tmember)(to0 m_00 m_10 m_20 m_30 m_40 m_50 m_60 m_70 m_90 ze zg:Int)(m_80:(List TEntry))(zf:(List Int))(zh:(List Bool))(zc zi:(List Int))(zj:(List TMsg)):Option Tmember:=
  if (decide (to0≤m_10)) = true then
   if (decide (to0≠m_00)) = true then
    bnd (zej to0 (Tmember.mk (TRaft.mk m_00 m_10 m_20 m_30 m_40 m_50 (TLog.mk m_60 m_70 m_80) m_90 zf zh zc zi ze zg) zj)) fun r0=>
    zft zt to0 r0.Raft.Id r0.Raft.N r0.Raft.Term r0.Raft.Vote r0.Raft.Role r0.Raft.Lead r0.Raft.Log.Base r0.Raft.Log.BaseTerm r0.Raft.Commit r0.Raft.Clock r0.Raft.Wait r0.Raft.Log.Entries r0.Raft.Snap r0.Raft.Granted r0.Raft.Next r0.Raft.Match r0.f_out
   else
     zft zt to0 m_00 m_10 m_20 m_30 m_40 m_50 m_60 m_70 m_90 ze zg m_80 zf zh zc zi zj
  else
    some (Tmember.mk (TRaft.mk m_00 m_10 m_20 m_30 m_40 m_50 (TLog.mk m_60 m_70 m_80) m_90 zf zh zc zi ze zg) zj)
def zch:Nat→Int→Int→Int→Int→Int→Int→Int→Int→Int→Int→Int→Int→(List TEntry)→(List Int)→(List Bool)→(List Int)→(List Int)→(List TMsg)→Option Tmember
  | 0,_,_,_,_,_,_,_,_,_,_,_,_,_,_,_,_,_,_=>none
  | n + 1,to0,m_00,m_10,m_20,m_30,m_40,m_50,m_60,m_70,m_90,ze,zg,m_80,zf,zh,zc,zi,zj=>zha (zch n) to0 m_00 m_10 m_20 m_30 m_40 m_50 m_60 m_70 m_90 ze zg m_80 zf zh zc zi zj
def zhb (m:Tmember):Option Tmember:=
  zch (1000000) (1:Int) m.Raft.Id m.Raft.N m.Raft.Term m.Raft.Vote m.Raft.Role m.Raft.Lead m.Raft.Log.Base m.Raft.Log.BaseTerm m.Raft.Commit m.Raft.Clock m.Raft.Wait m.Raft.Log.Entries m.Raft.Snap m.Raft.Granted m.Raft.Next m.Raft.Match m.f_out
def zfu(zu:Int→Int→Int→Int→Int→Int→Int→Int→Int→(List TEntry)→Int→Int→Int→(List Int)→(List Bool)→(List Int)→(List Int)→(List TMsg)→Option Tmember)(to0 zbl zbm zbn zbo zbp zbq zbr zbs:Int)(zbt:(List TEntry))(zbu zao zap:Int)(zaq:(List Int))(zar:(List Bool))(zx zas:(List Int))(zat:(List TMsg)):Option Tmember:=
  zu (IntKind.i64.wrap (to0 + (1:Int))) zbl zbm zbn zbo zbp zbq zbr zbs zbt zbu zao zap zaq zar zx zas zat
def zhc (zu:Int→Int→Int→Int→Int→Int→Int→Int→Int→(List TEntry)→Int→Int→Int→(List Int)→(List Bool)→(List Int)→(List Int)→(List TMsg)→Option Tmember)(to0 m_00 m_10 m_20 m_30 m_40 m_50 m_60 m_70:Int)(m_80:(List TEntry))(m_90 ze zg:Int)(zf:(List Int))(zh:(List Bool))(zc zi:(List Int))(zj:(List TMsg)):Option Tmember:=
  if (decide (to0≤m_10)) = true then
   if (decide (to0≠m_00)) = true then
    bnd (zax to0 (Tmember.mk (TRaft.mk m_00 m_10 m_20 m_30 m_40 m_50 (TLog.mk m_60 m_70 m_80) m_90 zf zh zc zi ze zg) zj)) fun r0=>
    zfu zu to0 r0.Raft.Id r0.Raft.N r0.Raft.Term r0.Raft.Vote r0.Raft.Role r0.Raft.Lead r0.Raft.Log.Base r0.Raft.Log.BaseTerm r0.Raft.Log.Entries r0.Raft.Commit r0.Raft.Clock r0.Raft.Wait r0.Raft.Snap r0.Raft.Granted r0.Raft.Next r0.Raft.Match r0.f_out
   else
     zfu zu to0 m_00 m_10 m_20 m_30 m_40 m_50 m_60 m_70 m_80 m_90 ze zg zf zh zc zi zj
  else
    some (Tmember.mk (TRaft.mk m_00 m_10 m_20 m_30 m_40 m_50 (TLog.mk m_60 m_70 m_80) m_90 zf zh zc zi ze zg) zj)
def zci:Nat→Int→Int→Int→Int→Int→Int→Int→Int→Int→(List TEntry)→Int→Int→Int→(List Int)→(List Bool)→(List Int)→(List Int)→(List TMsg)→Option Tmember
  | 0,_,_,_,_,_,_,_,_,_,_,_,_,_,_,_,_,_,_=>none
  | n + 1,to0,m_00,m_10,m_20,m_30,m_40,m_50,m_60,m_70,m_80,m_90,ze,zg,zf,zh,zc,zi,zj=>zhc (zci n) to0 m_00 m_10 m_20 m_30 m_40 m_50 m_60 m_70 m_80 m_90 ze zg zf zh zc zi zj
def zfi (m:Tmember):Option Tmember:=
  zci (1000000) (1:Int) m.Raft.Id m.Raft.N m.Raft.Term m.Raft.Vote m.Raft.Role m.Raft.Lead m.Raft.Log.Base m.Raft.Log.BaseTerm m.Raft.Log.Entries m.Raft.Commit m.Raft.Clock m.Raft.Wait m.Raft.Snap m.Raft.Granted m.Raft.Next m.Raft.Match m.f_out
def zgj (to0:Int)(m:Tmember)(x_0 x_5 x_6:Int)(x_9:(List TEntry))(x_10:(List Int)):Option Tmember:=
  bnd (zcc to0 (TMsg.mk x_0 (0:Int) (0:Int) (0:Int) m.Raft.Term x_5 x_6 m.Raft.Commit false x_9 x_10) m) fun r0_2=>
  some r0_2
def zeu (to0:Int)(m:Tmember):Option Tmember:=
  bnd (nthI m.Raft.Next (IntKind.i64.wrap (to0 - (1:Int)))) fun e=>
  if (decide (e≤m.Raft.Log.Base)) = true then
   if (capB (m.Raft.Snap).length) = true then
    zgj to0 m (7:Int) m.Raft.Log.Base m.Raft.Log.BaseTerm ([]) m.Raft.Snap
    else none
  else
    bnd (zbk m.Raft.Log (IntKind.i64.wrap (e - (1:Int)))) fun r0=>
    bnd (zio m.Raft.Log e (8:Int)) fun r0_1=>
    zgj to0 m (5:Int) (IntKind.i64.wrap (e - (1:Int))) r0.1 r0_1 ([])
def zdy (lead:Int)(m:Tmember)(m_20 m_30:Int):Option Tmember:=
  some (Tmember.mk (TRaft.mk m.Raft.Id m.Raft.N m_20 m_30 (0:Int) lead m.Raft.Log m.Raft.Commit m.Raft.Snap ([]) ([]) ([]) m.Raft.Clock m.Raft.Wait) m.f_out)
def zam (term:Int)(lead:Int)(m:Tmember):Option Tmember:=
  if (decide (m.Raft.Term < term)) = true then
   zdy lead m term (0:Int)
  else
    zdy lead m m.Raft.Term m.Raft.Vote
def zgk (n0:Int):Option Int:=
  if (decide (n0 < (1:Int))) = true then
   some (0:Int)
  else
    some (IntKind.i64.wrap ((IntKind.i64.wrap (n0.tdiv (2:Int))) + (1:Int)))
def zjw (l:(List Bool))(n0_1:Int):Option Bool:=
  if (decide ((0:Int) < (l.length:Int))) = true then
   bnd (zgk (l.length:Int)) fun r0=>
   some (decide (r0≤n0_1))
  else
    some false
def zgt (l:(List Bool))(zfy:Int→Int→Option Bool)(n0 v8:Int):Option Bool:=
  if (decide (v8 < (l.length:Int))) = true then
   bnd (nthI l v8) fun e=>
   if e=true then
    zfy (IntKind.i64.wrap (n0 + (1:Int))) (IntKind.i64.wrap (v8 + (1:Int)))
   else
     zfy n0 (IntKind.i64.wrap (v8 + (1:Int)))
  else
    zjw l n0
def zef (l:(List Bool)):Nat→Int→Int→Option Bool
  | 0,_,_=>none
  | n + 1,n0,v8=>zgt l (zef l n) n0 v8
def ziw (l:(List Bool)):Option Bool:=
  zef l ((((l.length:Int)) - ((0:Int))).toNat + 1) (0:Int) (0:Int)
def zbi (who:Int)(m:Tmember):Option (Bool × Tmember):=
  bnd (nthI m.Raft.Granted (IntKind.i64.wrap (who - (1:Int)))) fun e=>
  bnd (ziw (setI m.Raft.Granted (IntKind.i64.wrap (who - (1:Int))) true)) fun r0=>
  some (r0,(Tmember.mk (TRaft.mk m.Raft.Id m.Raft.N m.Raft.Term m.Raft.Vote m.Raft.Role m.Raft.Lead m.Raft.Log m.Raft.Commit m.Raft.Snap (setI m.Raft.Granted (IntKind.i64.wrap (who - (1:Int))) true) m.Raft.Next m.Raft.Match m.Raft.Clock m.Raft.Wait) m.f_out))
def zer (lead:Int)(m:Tmember)(m_20 m_30:Int):Option Tmember:=
  some (Tmember.mk (TRaft.mk m.Raft.Id m.Raft.N m_20 m_30 (0:Int) lead m.Raft.Log m.Raft.Commit m.Raft.Snap ([]) ([]) ([]) m.Raft.Clock m.Raft.Wait) m.f_out)
def zcj (term:Int)(lead:Int)(m:Tmember):Option Tmember:=
  if (decide (m.Raft.Term < term)) = true then
   zer lead m term (0:Int)
  else
    zer lead m m.Raft.Term m.Raft.Vote
def zik (x0:Int):Option Bool:=
  some (decide (x0≠x0))
def zix (x0:Int)(y:Int):Option Bool:=
  bnd (zik x0) fun r0=>
  if r0=true then
   bnd (zik y) fun r0_1=>
   if r0_1=true then
    some (decide (x0 < y))
   else
     some true
  else
    some (decide (x0 < y))
def zau(za:Int→(List Int)→Option (List Int))(i:Int)(data_3:(List Int)):Option (List Int):=
  za (IntKind.i64.wrap (i + (1:Int))) data_3
def zad(zl:Int→(List Int)→Option (List Int))(za:Int→(List Int)→Option (List Int))(i j:Int)(data_2:(List Int))(v30:Bool):Option (List Int):=
  if v30=true then
   bnd (nthI data_2 (IntKind.i64.wrap (j - (1:Int)))) fun e_2=>
   bnd (nthI data_2 j) fun e_3=>
   bnd (nthI (setI data_2 j e_2) (IntKind.i64.wrap (j - (1:Int)))) fun e_4=>
   zl (IntKind.i64.wrap (j - (1:Int))) (setI (setI data_2 j e_2) (IntKind.i64.wrap (j - (1:Int))) e_3)
  else
    zau za i data_2
def zai(za:Int→(List Int)→Option (List Int))(a i:Int)(zl:Int→(List Int)→Option (List Int))(j:Int)(data_2:(List Int)):Option (List Int):=
  if (decide (a < j)) = true then
   bnd (nthI data_2 j) fun e=>
   bnd (nthI data_2 (IntKind.i64.wrap (j - (1:Int)))) fun e_1=>
   bnd (zix e e_1) fun r0=>
   zad zl za i j data_2 r0
  else
    zad zl za i j data_2 false
def zo(za:Int→(List Int)→Option (List Int))(a i:Int):Nat→Int→(List Int)→Option (List Int)
  | 0,_,_=>none
  | n + 1,j,data_2=>zai za a i (zo za a i n) j data_2
def zaj (a b:Int)(za:Int→(List Int)→Option (List Int))(i:Int)(data_1:(List Int)):Option (List Int):=
  if (decide (i < b)) = true then
   zo za a i (1000000) i data_1
  else
    some data_1
def zn (a b:Int):Nat→Int→(List Int)→Option (List Int)
  | 0,_,_=>none
  | n + 1,i,data_1=>zaj a b (zn a b n) i data_1
def zbe (data:(List Int))(a:Int)(b:Int):Option (List Int):=
  zn a b (((b) - ((IntKind.i64.wrap (a + (1:Int))))).toNat + 1) (IntKind.i64.wrap (a + (1:Int))) data
def zcm (data:(List Int))(a b limit:Int)(zec:Option (List Int)):Option (List Int):=
  if (decide ((IntKind.i64.wrap (b - a))≤(12:Int))) = true then
   bnd (zbe data a b) fun r0=>
   if (decide ((r0).length=(data).length)) = true then
    some r0
    else none
  else
    if (decide (limit=(0:Int))) = true then none else none
def zaf (data:(List Int))(a b limit:Int):Nat→Option (List Int)
  | 0=>none
  | n + 1=>zcm data a b limit (zaf data a b limit n)
def zeg (data:(List Int))(a:Int)(b:Int)(limit:Int):Option (List Int):=
  zaf data a b limit (1000000)
def zfj (x0_3 n0_2:Int):Option Int:=
  bnd (nthS (⟨#[0,1,2,2,3,3,3,3,4,4,4,4,4,4,4,4,5,5,5,5,5,5,5,5,5,5,5,5,5,5,5,5,6,6,6,6,6,6,6,6,6,6,6,6,6,6,6,6,6,6,6,6,6,6,6,6,6,6,6,6,6,6,6,6,7,7,7,7,7,7,7,7,7,7,7,7,7,7,7,7,7,7,7,7,7,7,7,7,7,7,7,7,7,7,7,7,7,7,7,7,7,7,7,7,7,7,7,7,7,7,7,7,7,7,7,7,7,7,7,7,7,7,7,7,7,7,7,7,8,8,8,8,8,8,8,8,8,8,8,8,8,8,8,8,8,8,8,8,8,8,8,8,8,8,8,8,8,8,8,8,8,8,8,8,8,8,8,8,8,8,8,8,8,8,8,8,8,8,8,8,8,8,8,8,8,8,8,8,8,8,8,8,8,8,8,8,8,8,8,8,8,8,8,8,8,8,8,8,8,8,8,8,8,8,8,8,8,8,8,8,8,8,8,8,8,8,8,8,8,8,8,8,8,8,8,8,8,8,8,8,8,8,8,8,8,8,8,8,8,8,8,8,8,8,8,8]⟩) (IntKind.u8.wrap x0_3)) fun c=>
  some (IntKind.i64.wrap (n0_2 + (IntKind.i64.wrap c)))
def zfk (x0_2 n0_1:Int):Option Int:=
  if (decide ((256:Int)≤x0_2)) = true then
   zfj (shrI .u64 x0_2 (8:Int)) (IntKind.i64.wrap (n0_1 + (8:Int)))
  else
    zfj x0_2 n0_1
def zfl (x0_1 n0:Int):Option Int:=
  if (decide ((65536:Int)≤x0_1)) = true then
   zfk (shrI .u64 x0_1 (16:Int)) (IntKind.i64.wrap (n0 + (16:Int)))
  else
    zfk x0_1 n0
def zis (x0:Int):Option Int:=
  if (decide ((4294967296:Int)≤x0)) = true then
   zfl (shrI .u64 x0 (32:Int)) (32:Int)
  else
    zfl x0 (0:Int)
def zil (x0:Int):Option Int:=
  bnd (zis x0) fun r0=>
  some r0
def zev (x0:(List Int)):Option (List Int):=
  bnd (zil (IntKind.u64.wrap ((x0.length:Nat):Int))) fun r0=>
  bnd (zeg x0 (0:Int) ((x0.length:Nat):Int) r0) fun r0_1=>
  if (decide ((r0_1).length=(x0).length)) = true then
   some r0_1
   else none
def zfz (l:(List Int))(n0:Int)(v15:Bool):Option (Int × Bool):=
  if v15=true then
   some ((0:Int),false)
  else
    if (capB (l).length) = true then
     bnd (zev l) fun r0=>
     if (decide ((r0).length=(l).length)) = true then
      bnd (nthI r0 (IntKind.i64.wrap ((((l).length:Nat):Int) - n0))) fun e=>
      some (e,true)
      else none
     else none
def zjh (l:(List Int))(n0:Int):Option (Int × Bool):=
  if (decide (n0 < (1:Int))) = true then
   zfz l n0 true
  else
    zfz l n0 (decide ((l.length:Int) < n0))
def zdj (l:(List Int)):Option Int:=
  bnd (zgk (l.length:Int)) fun r0=>
  bnd (zjh l r0) fun r0_1=>
  some r0_1.1
def zck (m:Tmember)(r0:Int)(v39:Bool):Option Tmember:=
  if v39=true then
   some (Tmember.mk (TRaft.mk m.Raft.Id m.Raft.N m.Raft.Term m.Raft.Vote m.Raft.Role m.Raft.Lead m.Raft.Log r0 m.Raft.Snap m.Raft.Granted m.Raft.Next m.Raft.Match m.Raft.Clock m.Raft.Wait) m.f_out)
  else
    some m
def zdr (m:Tmember):Option Tmember:=
  bnd (zdj m.Raft.Match) fun r0=>
  bnd (zbk m.Raft.Log r0) fun r0_1=>
  if r0_1.2=true then
   if (decide (m.Raft.Commit < r0)) = true then
    zck m r0 (decide (r0_1.1=m.Raft.Term))
   else
     zck m r0 false
  else
    zck m r0 false
def zgo (l:TLog)(e:TEntry):Option TLog:=
  bnd (zen l) fun r0=>
  if (capB (e.Data).length) = true then
   if (capB ((r0.Entries).length + 1)) = true then
    some (TLog.mk r0.Base r0.BaseTerm (r0.Entries++[e]))
    else none
   else none
def zds (m:Tmember):Option Tmember:=
  bnd (zgo m.Raft.Log (TEntry.mk m.Raft.Term ([]))) fun r0=>
  bnd (zag r0) fun r0_1=>
  bnd (nthI m.Raft.Match (IntKind.i64.wrap (m.Raft.Id - (1:Int)))) fun e=>
  bnd (zdr (Tmember.mk (TRaft.mk m.Raft.Id m.Raft.N m.Raft.Term m.Raft.Vote m.Raft.Role m.Raft.Lead r0 m.Raft.Commit m.Raft.Snap m.Raft.Granted m.Raft.Next (setI m.Raft.Match (IntKind.i64.wrap (m.Raft.Id - (1:Int))) r0_1) m.Raft.Clock m.Raft.Wait) m.f_out)) fun r0_2=>
  bnd (zfg r0_2) fun r0_3=>
  some r0_3
def zdb (r0:Tmember)(zx:(List Int)):Option Tmember:=
  bnd (zds (Tmember.mk (TRaft.mk r0.Raft.Id r0.Raft.N r0.Raft.Term r0.Raft.Vote (3:Int) r0.Raft.Lead r0.Raft.Log r0.Raft.Commit r0.Raft.Snap r0.Raft.Granted zx (List.replicate r0.Raft.N.toNat (0:Int)) (0:Int) r0.Raft.Wait) r0.f_out)) fun r0_2=>
  some r0_2
def zcl (r0:Tmember)(zfc:Int→(List Int)→Option Tmember)(v49:Int)(zc:(List Int)):Option Tmember:=
  if (decide (v49 < ((r0.Raft.N.toNat:Nat):Int))) = true then
   bnd (zag r0.Raft.Log) fun r0_1=>
   bnd (nthI zc v49) fun e=>
   zfc (IntKind.i64.wrap (v49 + (1:Int))) (setI zc v49 (IntKind.i64.wrap (r0_1 + (1:Int))))
  else
    zdb r0 zc
def zw (r0:Tmember):Nat→Int→(List Int)→Option Tmember
  | 0,_,_=>none
  | n + 1,v49,zc=>zcl r0 (zw r0 n) v49 zc
def zcd (m:Tmember):Option Tmember:=
  bnd (zcj m.Raft.Term m.Raft.Id m) fun r0=>
  if (mkB r0.Raft.N) = true then
   zw r0 (((((r0.Raft.N.toNat:Nat):Int)) - ((0:Int))).toNat + 1) (0:Int) (List.replicate r0.Raft.N.toNat (0:Int))
   else none
def zek (m:Tmember):Option Tmember:=
  bnd (zcj (IntKind.i64.wrap (m.Raft.Term + (1:Int))) (0:Int) m) fun r0=>
  if (mkB r0.Raft.N) = true then
   bnd (zbi r0.Raft.Id (Tmember.mk (TRaft.mk r0.Raft.Id r0.Raft.N r0.Raft.Term r0.Raft.Id (2:Int) r0.Raft.Lead r0.Raft.Log r0.Raft.Commit r0.Raft.Snap (List.replicate r0.Raft.N.toNat false) r0.Raft.Next r0.Raft.Match (0:Int) r0.Raft.Wait) r0.f_out)) fun r0_1=>
   if r0_1.1=true then
    bnd (zcd r0_1.2) fun r0_2=>
    some r0_2
   else
     bnd (zfh r0_1.2) fun r0_3=>
     some r0_3
   else none
def zle (draw:Int):Option Int:=
  some (IntKind.i64.wrap ((10:Int) + (IntKind.i64.wrap ((IntKind.u64.wrap draw).tmod (10:Int)))))
def zfm (draw:Int)(m:Tmember):Option Tmember:=
  bnd (zam m.Raft.Term (0:Int) m) fun r0=>
  bnd (zle draw) fun r0_1=>
  if (mkB r0.Raft.N) = true then
   bnd (zbi r0.Raft.Id (Tmember.mk (TRaft.mk r0.Raft.Id r0.Raft.N r0.Raft.Term r0.Raft.Vote (1:Int) r0.Raft.Lead r0.Raft.Log r0.Raft.Commit r0.Raft.Snap (List.replicate r0.Raft.N.toNat false) r0.Raft.Next r0.Raft.Match (0:Int) r0_1) r0.f_out)) fun r0_2=>
   if r0_2.1=true then
    bnd (zek r0_2.2) fun r0_3=>
    some r0_3
   else
     bnd (zhb r0_2.2) fun r0_4=>
     some r0_4
   else none
def zge (m:Tmember):Option (TRaft × (List TMsg)):=
  some (m.Raft,m.f_out)
def ziy (m:Tmember):Option (TRaft × (List TMsg)):=
  some (m.Raft,m.f_out)
def zcn (m:Tmember)(r0:Int)(v39:Bool):Option Tmember:=
  if v39=true then
   some (Tmember.mk (TRaft.mk m.Raft.Id m.Raft.N m.Raft.Term m.Raft.Vote m.Raft.Role m.Raft.Lead m.Raft.Log r0 m.Raft.Snap m.Raft.Granted m.Raft.Next m.Raft.Match m.Raft.Clock m.Raft.Wait) m.f_out)
  else
    some m
def zdz (m:Tmember):Option Tmember:=
  bnd (zdj m.Raft.Match) fun r0=>
  bnd (zbk m.Raft.Log r0) fun r0_1=>
  if r0_1.2=true then
   if (decide (m.Raft.Commit < r0)) = true then
    zcn m r0 (decide (r0_1.1=m.Raft.Term))
   else
     zcn m r0 false
  else
    zcn m r0 false
def zfv (data:(List Int))(m:Tmember):Option Tmember:=
  bnd (zgo m.Raft.Log (TEntry.mk m.Raft.Term data)) fun r0=>
  bnd (zag r0) fun r0_1=>
  bnd (nthI m.Raft.Match (IntKind.i64.wrap (m.Raft.Id - (1:Int)))) fun e=>
  bnd (zdz (Tmember.mk (TRaft.mk m.Raft.Id m.Raft.N m.Raft.Term m.Raft.Vote m.Raft.Role m.Raft.Lead r0 m.Raft.Commit m.Raft.Snap m.Raft.Granted m.Raft.Next (setI m.Raft.Match (IntKind.i64.wrap (m.Raft.Id - (1:Int))) r0_1) m.Raft.Clock m.Raft.Wait) m.f_out)) fun r0_2=>
  bnd (zfi r0_2) fun r0_3=>
  some r0_3
def zca (to0:Int)(x0:TMsg)(m:Tmember):Option Tmember:=
  if (capB ((m.f_out).length + 1)) = true then
   some (Tmember.mk m.Raft (m.f_out++[(TMsg.mk x0.Kind x0.Group m.Raft.Id to0 x0.Term x0.At x0.AtTerm x0.Commit x0.Ok ([]) ([]))]))
   else none
def zhr (l:TLog)(term:Int)(at0:Int):Option Bool:=
  bnd (zee l) fun r0=>
  if (decide (r0 < term)) = true then
   some true
  else
    if (decide (term=r0)) = true then
     bnd (zag l) fun r0_1=>
     some (decide (r0_1≤at0))
    else
      some false
def zcq (x0:TMsg)(m:Tmember)(ok_1:Bool)(term:Int):Option Tmember:=
  bnd (zca x0.From (TMsg.mk (2:Int) (0:Int) (0:Int) (0:Int) term (0:Int) (0:Int) (0:Int) ok_1 ([]) ([])) m) fun r0_1=>
  some r0_1
def zbv (x0:TMsg)(m:Tmember)(ok:Bool):Option Tmember:=
  if ok=true then
   zcq x0 m true x0.Term
  else
    zcq x0 m false m.Raft.Term
def zbw (x0:TMsg)(m:Tmember)(free:Bool):Option Tmember:=
  if (decide (m.Raft.Term < x0.Term)) = true then
   if free=true then
    bnd (zhr m.Raft.Log x0.AtTerm x0.At) fun r0=>
    zbv x0 m r0
   else
     zbv x0 m false
  else
    zbv x0 m false
def zel (x0:TMsg)(m:Tmember):Option Tmember:=
  if (decide (m.Raft.Role≠(3:Int))) = true then
   if (decide (m.Raft.Lead=(0:Int))) = true then
    zbw x0 m true
   else
     zbw x0 m (decide ((10:Int)≤m.Raft.Clock))
  else
    zbw x0 m false
def zbx (who:Int)(m:Tmember):Option (Bool × Tmember):=
  bnd (nthI m.Raft.Granted (IntKind.i64.wrap (who - (1:Int)))) fun e=>
  bnd (ziw (setI m.Raft.Granted (IntKind.i64.wrap (who - (1:Int))) true)) fun r0=>
  some (r0,(Tmember.mk (TRaft.mk m.Raft.Id m.Raft.N m.Raft.Term m.Raft.Vote m.Raft.Role m.Raft.Lead m.Raft.Log m.Raft.Commit m.Raft.Snap (setI m.Raft.Granted (IntKind.i64.wrap (who - (1:Int))) true) m.Raft.Next m.Raft.Match m.Raft.Clock m.Raft.Wait) m.f_out))
def zeo (m:Tmember):Option Tmember:=
  bnd (zam (IntKind.i64.wrap (m.Raft.Term + (1:Int))) (0:Int) m) fun r0=>
  if (mkB r0.Raft.N) = true then
   bnd (zbi r0.Raft.Id (Tmember.mk (TRaft.mk r0.Raft.Id r0.Raft.N r0.Raft.Term r0.Raft.Id (2:Int) r0.Raft.Lead r0.Raft.Log r0.Raft.Commit r0.Raft.Snap (List.replicate r0.Raft.N.toNat false) r0.Raft.Next r0.Raft.Match (0:Int) r0.Raft.Wait) r0.f_out)) fun r0_1=>
   if r0_1.1=true then
    bnd (zcd r0_1.2) fun r0_2=>
    some r0_2
   else
     bnd (zfh r0_1.2) fun r0_3=>
     some r0_3
   else none
def zew (x0:TMsg)(m:Tmember)(ok_1:Bool)(m_30 ze:Int):Option Tmember:=
  bnd (zca x0.From (TMsg.mk (4:Int) (0:Int) (0:Int) (0:Int) m.Raft.Term (0:Int) (0:Int) (0:Int) ok_1 ([]) ([])) (Tmember.mk (TRaft.mk m.Raft.Id m.Raft.N m.Raft.Term m_30 m.Raft.Role m.Raft.Lead m.Raft.Log m.Raft.Commit m.Raft.Snap m.Raft.Granted m.Raft.Next m.Raft.Match ze m.Raft.Wait) m.f_out)) fun r0_2=>
  some r0_2
def zah (x0:TMsg)(m:Tmember)(ok:Bool):Option Tmember:=
  if ok=true then
   zew x0 m true x0.From (0:Int)
  else
    zew x0 m false m.Raft.Vote m.Raft.Clock
def zex (x0:TMsg)(m:Tmember):Option Tmember:=
  if (decide (x0.Term=m.Raft.Term)) = true then
   if (decide (m.Raft.Role=(0:Int))) = true then
    if (decide (m.Raft.Vote=(0:Int))) = true then
     bnd (zhr m.Raft.Log x0.AtTerm x0.At) fun r0=>
     zah x0 m r0
    else
      if (decide (m.Raft.Vote=x0.From)) = true then
       bnd (zhr m.Raft.Log x0.AtTerm x0.At) fun r0_1=>
       zah x0 m r0_1
      else
        zah x0 m false
   else
     zah x0 m false
  else
    zah x0 m false
def zhs (r0:Tmember)(zx:(List Int)):Option Tmember:=
  bnd (zds (Tmember.mk (TRaft.mk r0.Raft.Id r0.Raft.N r0.Raft.Term r0.Raft.Vote (3:Int) r0.Raft.Lead r0.Raft.Log r0.Raft.Commit r0.Raft.Snap r0.Raft.Granted zx (List.replicate r0.Raft.N.toNat (0:Int)) (0:Int) r0.Raft.Wait) r0.f_out)) fun r0_2=>
  some r0_2
def zes (r0:Tmember)(zdt:Int→(List Int)→Option Tmember)(v49:Int)(zc:(List Int)):Option Tmember:=
  if (decide (v49 < ((r0.Raft.N.toNat:Nat):Int))) = true then
   bnd (zag r0.Raft.Log) fun r0_1=>
   bnd (nthI zc v49) fun e=>
   zdt (IntKind.i64.wrap (v49 + (1:Int))) (setI zc v49 (IntKind.i64.wrap (r0_1 + (1:Int))))
  else
    zhs r0 zc
def zav (r0:Tmember):Nat→Int→(List Int)→Option Tmember
  | 0,_,_=>none
  | n + 1,v49,zc=>zes r0 (zav r0 n) v49 zc
def zdc (m:Tmember):Option Tmember:=
  bnd (zam m.Raft.Term m.Raft.Id m) fun r0=>
  if (mkB r0.Raft.N) = true then
   zav r0 (((((r0.Raft.N.toNat:Nat):Int)) - ((0:Int))).toNat + 1) (0:Int) (List.replicate r0.Raft.N.toNat (0:Int))
   else none
def zdd (to0:Int)(x0:TMsg)(m:Tmember):Option Tmember:=
  if (capB ((m.f_out).length + 1)) = true then
   some (Tmember.mk m.Raft (m.f_out++[(TMsg.mk x0.Kind x0.Group m.Raft.Id to0 x0.Term x0.At x0.AtTerm x0.Commit x0.Ok ([]) ([]))]))
   else none
def zde (x0:TMsg)(m:Tmember)(v20:Bool):Option (Bool × Tmember):=
  if v20=true then
   bnd (zca x0.From (TMsg.mk (6:Int) (0:Int) (0:Int) (0:Int) m.Raft.Term (0:Int) (0:Int) (0:Int) false ([]) ([])) m) fun r0=>
   some (false,r0)
  else
    bnd (zam x0.Term x0.From m) fun r0_1=>
    some (true,(Tmember.mk (TRaft.mk r0_1.Raft.Id r0_1.Raft.N r0_1.Raft.Term r0_1.Raft.Vote r0_1.Raft.Role r0_1.Raft.Lead r0_1.Raft.Log r0_1.Raft.Commit r0_1.Raft.Snap r0_1.Raft.Granted r0_1.Raft.Next r0_1.Raft.Match (0:Int) r0_1.Raft.Wait) r0_1.f_out))
def zey (x0:TMsg)(m:Tmember):Option (Bool × Tmember):=
  if (decide (x0.Term < m.Raft.Term)) = true then
   zde x0 m true
  else
    zde x0 m (decide (m.Raft.Role=(3:Int)))
def zih (at0_1:Int)(entries_1:(List TEntry))(r0_7:TLog)(out_2_1:(List TEntry)):Option (TLog × Int × Bool):=
  some ((TLog.mk r0_7.Base r0_7.BaseTerm out_2_1),(IntKind.i64.wrap (at0_1 + (entries_1.length:Int))),true)
def zii (at0_1:Int)(entries_1:(List TEntry))(r0_7:TLog)(v97:Int)(out_2:(List TEntry)):Option (TLog × Int × Bool):=
  bnd (sliceL entries_1 v97 entries_1.length) fun l_3=>
  bnd (zfp l_3) fun r0_8=>
  if (capB (out_2.length + r0_8.length)) = true then
   zih at0_1 entries_1 r0_7 (out_2++r0_8)
   else none
def zim (l:TLog)(at0_1:Int)(entries_1:(List TEntry))(r0_7:TLog)(zit:Int→Option (TLog × Int × Bool))(v97:Int):Option (TLog × Int × Bool):=
  if (decide (v97 < (entries_1.length:Int))) = true then
   bnd (nthI entries_1 v97) fun e=>
   if (decide ((IntKind.i64.wrap ((IntKind.i64.wrap (at0_1 + v97)) - l.Base)) < (((r0_7.Entries).length:Nat):Int))) = true then
    bnd (nthI r0_7.Entries (IntKind.i64.wrap ((IntKind.i64.wrap (at0_1 + v97)) - l.Base))) fun e_1=>
    if (decide (e_1.Term=e.Term)) = true then
     zit (IntKind.i64.wrap (v97 + (1:Int)))
    else
      bnd (sliceL r0_7.Entries 0 (IntKind.i64.wrap ((IntKind.i64.wrap (at0_1 + v97)) - l.Base))) fun l_2=>
      zii at0_1 entries_1 r0_7 v97 l_2
   else
     zii at0_1 entries_1 r0_7 v97 r0_7.Entries
  else
    zih at0_1 entries_1 r0_7 r0_7.Entries
def zfq (l:TLog)(at0_1:Int)(entries_1:(List TEntry))(r0_7:TLog):Nat→Int→Option (TLog × Int × Bool)
  | 0,_=>none
  | n + 1,v97=>zim l at0_1 entries_1 r0_7 (zfq l at0_1 entries_1 r0_7 n) v97
def zjm (l:TLog)(hint_1:Int):Option (TLog × Int × Bool):=
  bnd (zen l) fun r0_6=>
  some (r0_6,(if hint_1 < l.Base then l.Base else hint_1),false)
def zbg(zbb:Int→Int→Bool→Option (TLog × Int × Bool))(l:TLog)(hint:Int)(v78:Bool):Option (TLog × Int × Bool):=
  if v78=true then
   bnd (zbk l (IntKind.i64.wrap (hint - (1:Int)))) fun r0_5=>
   zbb (IntKind.i64.wrap (hint - (1:Int))) r0_5.1 r0_5.2
  else
    zjm l hint
def zgl (l:TLog)(r0_1:(Int × Bool))(zbb:Int→Int→Bool→Option (TLog × Int × Bool))(hint t:Int)(ok:Bool):Option (TLog × Int × Bool):=
  if ok=true then
   if (decide (t=r0_1.1)) = true then
    zbg zbb l hint (decide (l.Base < hint))
   else
     zbg zbb l hint false
  else
    zbg zbb l hint false
def zak (l:TLog)(r0_1:(Int × Bool)):Nat→Int→Int→Bool→Option (TLog × Int × Bool)
  | 0,_,_,_=>none
  | n + 1,hint,t,ok=>zgl l r0_1 (zak l r0_1 n) hint t ok
def zij (l:TLog)(at0_1 term_1:Int)(entries_1:(List TEntry)):Option (TLog × Int × Bool):=
  bnd (zbk l at0_1) fun r0_1=>
  if r0_1.2=true then
   if (decide (r0_1.1≠term_1)) = true then
    bnd (zbk l (IntKind.i64.wrap (at0_1 - (1:Int)))) fun r0_4=>
    zak l r0_1 (1000000) (IntKind.i64.wrap (at0_1 - (1:Int))) r0_4.1 r0_4.2
   else
     bnd (zen l) fun r0_7=>
     zfq l at0_1 entries_1 r0_7 ((((entries_1.length:Int)) - ((0:Int))).toNat + 1) (0:Int)
  else
    bnd (zen l) fun r0_2=>
    bnd (zag l) fun r0_3=>
    some (r0_2,r0_3,false)
def zlt (l:TLog)(at0:Int)(term:Int)(entries:(List TEntry)):Option (TLog × Int × Bool):=
  if (decide (at0 < l.Base)) = true then
   if (decide ((entries.length:Int) < (IntKind.i64.wrap (l.Base - at0)))) = true then
    bnd (zen l) fun r0=>
    some (r0,l.Base,true)
   else
     bnd (sliceL entries (IntKind.i64.wrap (l.Base - at0)) entries.length) fun l_1=>
     zij l l.Base l.BaseTerm l_1
  else
    zij l at0 term entries
def zcb (x0:TMsg)(r0:(Bool × Tmember))(r0_1:(TLog × Int × Bool))(ok:Bool)(m_60 m_70:Int)(m_80:(List TEntry))(m_90:Int):Option Tmember:=
  bnd (zdd x0.From (TMsg.mk (6:Int) (0:Int) (0:Int) (0:Int) r0.2.Raft.Term r0_1.2.1 (0:Int) (0:Int) ok ([]) ([])) (Tmember.mk (TRaft.mk r0.2.Raft.Id r0.2.Raft.N r0.2.Raft.Term r0.2.Raft.Vote r0.2.Raft.Role r0.2.Raft.Lead (TLog.mk m_60 m_70 m_80) m_90 r0.2.Raft.Snap r0.2.Raft.Granted r0.2.Raft.Next r0.2.Raft.Match r0.2.Raft.Clock r0.2.Raft.Wait) r0.2.f_out)) fun r0_2=>
  some r0_2
def zdf (x0:TMsg)(m:Tmember):Option Tmember:=
  bnd (zey x0 m) fun r0=>
  if r0.1=true then
   bnd (zlt r0.2.Raft.Log x0.At x0.AtTerm x0.Entries) fun r0_1=>
   if r0_1.2.2=true then
    zcb x0 r0 r0_1 true r0_1.1.Base r0_1.1.BaseTerm r0_1.1.Entries (if r0.2.Raft.Commit < (if r0_1.2.1 < x0.Commit then r0_1.2.1 else x0.Commit) then (if r0_1.2.1 < x0.Commit then r0_1.2.1 else x0.Commit) else r0.2.Raft.Commit)
   else
     zcb x0 r0 r0_1 false r0.2.Raft.Log.Base r0.2.Raft.Log.BaseTerm r0.2.Raft.Log.Entries r0.2.Raft.Commit
  else
    some r0.2
def zco (m:Tmember)(r0:Int)(v39:Bool):Option Tmember:=
  if v39=true then
   some (Tmember.mk (TRaft.mk m.Raft.Id m.Raft.N m.Raft.Term m.Raft.Vote m.Raft.Role m.Raft.Lead m.Raft.Log r0 m.Raft.Snap m.Raft.Granted m.Raft.Next m.Raft.Match m.Raft.Clock m.Raft.Wait) m.f_out)
  else
    some m
def zea (m:Tmember):Option Tmember:=
  bnd (zdj m.Raft.Match) fun r0=>
  bnd (zbk m.Raft.Log r0) fun r0_1=>
  if r0_1.2=true then
   if (decide (m.Raft.Commit < r0)) = true then
    zco m r0 (decide (r0_1.1=m.Raft.Term))
   else
     zco m r0 false
  else
    zco m r0 false
def zdg (x0:TMsg)(m_00 m_10 m_20 m_30 m_40 m_50 m_60 m_70 m_90 ze zg:Int)(zf:(List Int))(zh:(List Bool))(zc zi:(List Int))(m_80:(List TEntry))(zj:(List TMsg)):Option Tmember:=
  bnd (zeu x0.From (Tmember.mk (TRaft.mk m_00 m_10 m_20 m_30 m_40 m_50 (TLog.mk m_60 m_70 m_80) m_90 zf zh zc zi ze zg) zj)) fun r0_3=>
  some r0_3
def zbj (x0:TMsg)(m:Tmember)(v20:Bool):Option Tmember:=
  if v20=true then
   some m
  else
    if x0.Ok=true then
     bnd (nthI m.Raft.Match (IntKind.i64.wrap (x0.From - (1:Int)))) fun e=>
     bnd (zag m.Raft.Log) fun r0=>
     bnd (nthI m.Raft.Next (IntKind.i64.wrap (x0.From - (1:Int)))) fun e_1=>
     bnd (nthI (setI m.Raft.Match (IntKind.i64.wrap (x0.From - (1:Int))) (if e < (if r0 < x0.At then r0 else x0.At) then (if r0 < x0.At then r0 else x0.At) else e)) (IntKind.i64.wrap (x0.From - (1:Int)))) fun e_2=>
     bnd (zea (Tmember.mk (TRaft.mk m.Raft.Id m.Raft.N m.Raft.Term m.Raft.Vote m.Raft.Role m.Raft.Lead m.Raft.Log m.Raft.Commit m.Raft.Snap m.Raft.Granted (setI m.Raft.Next (IntKind.i64.wrap (x0.From - (1:Int))) (if e_1 < (IntKind.i64.wrap (e_2 + (1:Int))) then (IntKind.i64.wrap (e_2 + (1:Int))) else e_1)) (setI m.Raft.Match (IntKind.i64.wrap (x0.From - (1:Int))) (if e < (if r0 < x0.At then r0 else x0.At) then (if r0 < x0.At then r0 else x0.At) else e)) m.Raft.Clock m.Raft.Wait) m.f_out)) fun r0_1=>
     bnd (nthI r0_1.Raft.Next (IntKind.i64.wrap (x0.From - (1:Int)))) fun e_3=>
     bnd (zag r0_1.Raft.Log) fun r0_2=>
     if (decide (r0_2 < e_3)) = true then
      some r0_1
     else
       zdg x0 r0_1.Raft.Id r0_1.Raft.N r0_1.Raft.Term r0_1.Raft.Vote r0_1.Raft.Role r0_1.Raft.Lead r0_1.Raft.Log.Base r0_1.Raft.Log.BaseTerm r0_1.Raft.Commit r0_1.Raft.Clock r0_1.Raft.Wait r0_1.Raft.Snap r0_1.Raft.Granted r0_1.Raft.Next r0_1.Raft.Match r0_1.Raft.Log.Entries r0_1.f_out
    else
      bnd (nthI m.Raft.Match (IntKind.i64.wrap (x0.From - (1:Int)))) fun e_4=>
      bnd (nthI m.Raft.Next (IntKind.i64.wrap (x0.From - (1:Int)))) fun e_5=>
      zdg x0 m.Raft.Id m.Raft.N m.Raft.Term m.Raft.Vote m.Raft.Role m.Raft.Lead m.Raft.Log.Base m.Raft.Log.BaseTerm m.Raft.Commit m.Raft.Clock m.Raft.Wait m.Raft.Snap m.Raft.Granted (setI m.Raft.Next (IntKind.i64.wrap (x0.From - (1:Int))) (if (IntKind.i64.wrap (e_4 + (1:Int))) < (IntKind.i64.wrap ((if x0.At < (IntKind.i64.wrap (e_5 - (2:Int))) then x0.At else (IntKind.i64.wrap (e_5 - (2:Int)))) + (1:Int))) then (IntKind.i64.wrap ((if x0.At < (IntKind.i64.wrap (e_5 - (2:Int))) then x0.At else (IntKind.i64.wrap (e_5 - (2:Int)))) + (1:Int))) else (IntKind.i64.wrap (e_4 + (1:Int))))) m.Raft.Match m.Raft.Log.Entries m.f_out
def zez (x0:TMsg)(m:Tmember):Option Tmember:=
  if (decide (x0.Term < m.Raft.Term)) = true then
   zbj x0 m true
  else
    zbj x0 m (decide (m.Raft.Role≠(3:Int)))
def zhm (l:TLog)(at0:Int):Option (TLog × Int):=
  bnd (zbk l at0) fun r0=>
  if r0.2=true then
   bnd (sliceL l.Entries (IntKind.i64.wrap (at0 - l.Base)) l.Entries.length) fun l_1=>
   bnd (zfp l_1) fun r0_1=>
   some ((TLog.mk at0 r0.1 r0_1),(0:Int))
  else
    some ((TLog.mk (0:Int) (0:Int) ([])),(2:Int))
def zin (l:TLog)(at0 term:Int)(v22:Bool):Option TLog:=
  if v22=true then
   bnd (zhm l at0) fun r0_1=>
   some r0_1.1
  else
    some (TLog.mk at0 term ([]))
def zkg (l:TLog)(at0:Int)(term:Int):Option TLog:=
  bnd (zbk l at0) fun r0=>
  if r0.2=true then
   zin l at0 term (decide (r0.1=term))
  else
    zin l at0 term false
def zdh (x0:TMsg)(r0:(Bool × Tmember))(m_60 m_70:Int)(m_80:(List TEntry))(m_90:Int)(zf:(List Int)):Option Tmember:=
  bnd (zdd x0.From (TMsg.mk (6:Int) (0:Int) (0:Int) (0:Int) r0.2.Raft.Term m_90 (0:Int) (0:Int) true ([]) ([])) (Tmember.mk (TRaft.mk r0.2.Raft.Id r0.2.Raft.N r0.2.Raft.Term r0.2.Raft.Vote r0.2.Raft.Role r0.2.Raft.Lead (TLog.mk m_60 m_70 m_80) m_90 zf r0.2.Raft.Granted r0.2.Raft.Next r0.2.Raft.Match r0.2.Raft.Clock r0.2.Raft.Wait) r0.2.f_out)) fun r0_2=>
  some r0_2
def zfa (x0:TMsg)(m:Tmember):Option Tmember:=
  bnd (zey x0 m) fun r0=>
  if r0.1=true then
   if (decide (r0.2.Raft.Commit < x0.At)) = true then
    bnd (zkg r0.2.Raft.Log x0.At x0.AtTerm) fun r0_1=>
    if (capB (x0.Data).length) = true then
     zdh x0 r0 r0_1.Base r0_1.BaseTerm r0_1.Entries x0.At x0.Data
     else none
   else
     zdh x0 r0 r0.2.Raft.Log.Base r0.2.Raft.Log.BaseTerm r0.2.Raft.Log.Entries r0.2.Raft.Commit r0.2.Raft.Snap
  else
    some r0.2
def zmt:Option Bool:=some true
def zgp (id n0:Int)(v20:Bool):Option (TRaft × Int):=
  if v20=true then
   some ((TRaft.mk (0:Int) (0:Int) (0:Int) (0:Int) (0:Int) (0:Int) (TLog.mk (0:Int) (0:Int) ([])) (0:Int) ([]) ([]) ([]) ([]) (0:Int) (0:Int)),(2:Int))
  else
    some ((TRaft.mk id n0 (0:Int) (0:Int) (0:Int) (0:Int) (TLog.mk (0:Int) (0:Int) ([])) (0:Int) ([]) ([]) ([]) ([]) (0:Int) (IntKind.i64.wrap ((10:Int) + id))),(0:Int))
def zkp (id:Int)(n0:Int):Option (TRaft × Int):=
  if (decide (n0 < (1:Int))) = true then
   zgp id n0 true
  else
    if (decide ((7:Int) < n0)) = true then
     zgp id n0 true
    else
      if (decide (id < (1:Int))) = true then
       zgp id n0 true
      else
        zgp id n0 (decide (n0 < id))
def zgm(zay:Int→Int→Option Int)(v39:Int)(e:TEntry)(v51:Bool):Option Int:=
  if v51=true then
   some (1:Int)
  else
    zay e.Term (IntKind.i64.wrap (v39 + (1:Int)))
def zgu (l:TLog)(zay:Int→Int→Option Int)(term v39:Int):Option Int:=
  if (decide (v39 < (l.Entries.length:Int))) = true then
   bnd (nthI l.Entries v39) fun e=>
   if (decide (e.Term < term)) = true then
    zgm zay v39 e true
   else
     zgm zay v39 e (decide ((1099511627776:Int) < e.Term))
  else
    some (0:Int)
def zcx (l:TLog):Nat→Int→Int→Option Int
  | 0,_,_=>none
  | n + 1,term,v39=>zgu l (zcx l n) term v39
def zcy (l:TLog)(v32:Bool):Option Int:=
  if v32=true then
   some (1:Int)
  else
    zcx l ((((l.Entries.length:Int)) - ((0:Int))).toNat + 1) (if l.BaseTerm < (1:Int) then (1:Int) else l.BaseTerm) (0:Int)
def zkh (l:TLog):Option Int:=
  if (decide (l.Base < (0:Int))) = true then
   zcy l true
  else
    if (decide ((1099511627776:Int) < l.Base)) = true then
     zcy l true
    else
      if (decide (l.BaseTerm < (0:Int))) = true then
       zcy l true
      else
        if (decide ((1099511627776:Int) < l.BaseTerm)) = true then
         zcy l true
        else
          zcy l (!(((decide (l.Base=(0:Int))) == (decide (l.BaseTerm=(0:Int))))))
def zbc (term vote:Int)(l:TLog)(snap:(List Int))(r0:(TRaft × Int))(v27:Bool):Option (TRaft × Int):=
  if v27=true then
   some ((TRaft.mk (0:Int) (0:Int) (0:Int) (0:Int) (0:Int) (0:Int) (TLog.mk (0:Int) (0:Int) ([])) (0:Int) ([]) ([]) ([]) ([]) (0:Int) (0:Int)),(1:Int))
  else
    bnd (zen l) fun r0_3=>
    if (capB (snap).length) = true then
     some ((TRaft.mk r0.1.Id r0.1.N term vote r0.1.Role r0.1.Lead r0_3 l.Base snap r0.1.Granted r0.1.Next r0.1.Match r0.1.Clock r0.1.Wait),(0:Int))
     else none
def zhn (id:Int)(n0:Int)(term:Int)(vote:Int)(l:TLog)(snap:(List Int)):Option (TRaft × Int):=
  bnd (zkp id n0) fun r0=>
  if (decide (r0.2≠(0:Int))) = true then
   some ((TRaft.mk (0:Int) (0:Int) (0:Int) (0:Int) (0:Int) (0:Int) (TLog.mk (0:Int) (0:Int) ([])) (0:Int) ([]) ([]) ([]) ([]) (0:Int) (0:Int)),r0.2)
  else
    if (decide (term < (0:Int))) = true then
     zbc term vote l snap r0 true
    else
      if (decide ((1099511627776:Int) < term)) = true then
       zbc term vote l snap r0 true
      else
        if (decide (vote < (0:Int))) = true then
         zbc term vote l snap r0 true
        else
          if (decide (n0 < vote)) = true then
           zbc term vote l snap r0 true
          else
            bnd (zee l) fun r0_1=>
            if (decide (term < r0_1)) = true then
             zbc term vote l snap r0 true
            else
              bnd (zkh l) fun r0_2=>
              zbc term vote l snap r0 (decide (r0_2≠(0:Int)))
def zgf (l:(List TOp))(zhd:Int→Option Bool)(i:Int):Option Bool:=
  if (decide (i < (l.length:Int))) = true then
   bnd (nthI l i) fun e=>
   if (decide ((20:Int) < (e.Data.length:Int))) = true then
    some false
   else
     zhd (IntKind.i64.wrap (i + (1:Int)))
  else
    some true
def zdk (l:(List TOp)):Nat→Int→Option Bool
  | 0,_=>none
  | n + 1,i=>zgf l (zdk l n) i
def zjn (l:(List TOp)):Option Bool:=
  if (decide ((250:Int) < (l.length:Int))) = true then
   some false
  else
    zdk l ((((l.length:Int)) - ((0:Int))).toNat + 1) (0:Int)
def zgg (n0:Int)(zhe:Int→(List TRaft)→Option TWorld)(i:Int)(w_00:(List TRaft)):Option TWorld:=
  if (decide (i≤n0)) = true then
   bnd (zkp i n0) fun r0=>
   if (capB (w_00.length + 1)) = true then
    zhe (IntKind.i64.wrap (i + (1:Int))) (w_00++[r0.1])
    else none
  else
    some (TWorld.mk w_00 ([]))
def zdl (n0:Int):Nat→Int→(List TRaft)→Option TWorld
  | 0,_,_=>none
  | n + 1,i,w_00=>zgg n0 (zdl n0 n) i w_00
def zjo (n0:Int):Option TWorld:=
  zdl n0 (((n0) - ((1:Int)) + 1).toNat + 1) (1:Int) ([])
def zki (n0:Int):Option Int:=
  some (IntKind.i64.wrap ((1:Int) + ((IntKind.i64.wrap n0).tmod (5:Int))))
def ziz (m_00 m_10 m_20 m_30 m_40 m_50 m_60 m_70:Int)(m_80:(List TEntry))(m_90 ze zg:Int)(zf:(List Int))(zh:(List Bool))(zc zi:(List Int))(zj:(List TMsg)):Option (TRaft × (List TMsg)):=
  bnd (zge (Tmember.mk (TRaft.mk m_00 m_10 m_20 m_30 m_40 m_50 (TLog.mk m_60 m_70 m_80) m_90 zf zh zc zi ze zg) zj)) fun r0_4=>
  some (r0_4.1,r0_4.2)
def zho (draw:Int)(r0_1:Tmember)(v41:Bool):Option (TRaft × (List TMsg)):=
  if v41=true then
   bnd (zfm draw (Tmember.mk (TRaft.mk r0_1.Raft.Id r0_1.Raft.N r0_1.Raft.Term r0_1.Raft.Vote r0_1.Raft.Role r0_1.Raft.Lead r0_1.Raft.Log r0_1.Raft.Commit r0_1.Raft.Snap r0_1.Raft.Granted r0_1.Raft.Next r0_1.Raft.Match (IntKind.i64.wrap (r0_1.Raft.Clock + (1:Int))) r0_1.Raft.Wait) r0_1.f_out)) fun r0_3=>
   ziz r0_3.Raft.Id r0_3.Raft.N r0_3.Raft.Term r0_3.Raft.Vote r0_3.Raft.Role r0_3.Raft.Lead r0_3.Raft.Log.Base r0_3.Raft.Log.BaseTerm r0_3.Raft.Log.Entries r0_3.Raft.Commit r0_3.Raft.Clock r0_3.Raft.Wait r0_3.Raft.Snap r0_3.Raft.Granted r0_3.Raft.Next r0_3.Raft.Match r0_3.f_out
  else
    ziz r0_1.Raft.Id r0_1.Raft.N r0_1.Raft.Term r0_1.Raft.Vote r0_1.Raft.Role r0_1.Raft.Lead r0_1.Raft.Log.Base r0_1.Raft.Log.BaseTerm r0_1.Raft.Log.Entries r0_1.Raft.Commit (IntKind.i64.wrap (r0_1.Raft.Clock + (1:Int))) r0_1.Raft.Wait r0_1.Raft.Snap r0_1.Raft.Granted r0_1.Raft.Next r0_1.Raft.Match r0_1.f_out
def zja (draw:Int)(r0_1:Tmember)(v18:Bool):Option (TRaft × (List TMsg)):=
  if v18=true then
   bnd (zgs (Tmember.mk (TRaft.mk r0_1.Raft.Id r0_1.Raft.N r0_1.Raft.Term r0_1.Raft.Vote r0_1.Raft.Role r0_1.Raft.Lead r0_1.Raft.Log r0_1.Raft.Commit r0_1.Raft.Snap r0_1.Raft.Granted r0_1.Raft.Next r0_1.Raft.Match (0:Int) r0_1.Raft.Wait) r0_1.f_out)) fun r0_2=>
   ziz r0_2.Raft.Id r0_2.Raft.N r0_2.Raft.Term r0_2.Raft.Vote r0_2.Raft.Role r0_2.Raft.Lead r0_2.Raft.Log.Base r0_2.Raft.Log.BaseTerm r0_2.Raft.Log.Entries r0_2.Raft.Commit r0_2.Raft.Clock r0_2.Raft.Wait r0_2.Raft.Snap r0_2.Raft.Granted r0_2.Raft.Next r0_2.Raft.Match r0_2.f_out
  else
    if (decide (r0_1.Raft.Role≠(3:Int))) = true then
     zho draw r0_1 (decide (r0_1.Raft.Wait≤(IntKind.i64.wrap (r0_1.Raft.Clock + (1:Int)))))
    else
      zho draw r0_1 false
def zlf (r0:TRaft)(draw:Int):Option (TRaft × (List TMsg)):=
  bnd (zjg r0) fun r0_1=>
  if (decide (r0_1.Raft.Role=(3:Int))) = true then
   zja draw r0_1 (decide ((2:Int)≤(IntKind.i64.wrap (r0_1.Raft.Clock + (1:Int)))))
  else
    zja draw r0_1 false
def zjb (r0:TRaft)(data:(List Int)):Option (TRaft × Int × (List TMsg) × Int):=
  bnd (zjg r0) fun r0_1=>
  if (decide (r0_1.Raft.Role≠(3:Int))) = true then
   some (r0_1.Raft,(0:Int),[],(15:Int))
  else
    bnd (zfv data r0_1) fun r0_2=>
    bnd (zge r0_2) fun r0_3=>
    bnd (zag r0_3.1.Log) fun r0_4=>
    some (r0_3.1,r0_4,r0_3.2,(0:Int))
def zfn (upto:Int)(snap:(List Int))(r0_1:Tmember)(v29:Bool):Option (TRaft × Int):=
  if v29=true then
   some (r0_1.Raft,(2:Int))
  else
    bnd (zhm r0_1.Raft.Log upto) fun r0_2=>
    if (decide (r0_2.2≠(0:Int))) = true then
     some (r0_1.Raft,r0_2.2)
    else
      if (capB (snap).length) = true then
       some ((TRaft.mk r0_1.Raft.Id r0_1.Raft.N r0_1.Raft.Term r0_1.Raft.Vote r0_1.Raft.Role r0_1.Raft.Lead r0_2.1 r0_1.Raft.Commit snap r0_1.Raft.Granted r0_1.Raft.Next r0_1.Raft.Match r0_1.Raft.Clock r0_1.Raft.Wait),(0:Int))
       else none
def zjc (r0:TRaft)(upto:Int)(snap:(List Int)):Option (TRaft × Int):=
  bnd (zjg r0) fun r0_1=>
  if (decide (upto≤r0_1.Raft.Log.Base)) = true then
   zfn upto snap r0_1 true
  else
    zfn upto snap r0_1 (decide (r0_1.Raft.Commit < upto))
def zgh (k:Int)(n0:Int):Option Int:=
  if (decide ((IntKind.u64.wrap n0) = 0)) = true then none else some (IntKind.i64.wrap ((IntKind.u64.wrap k).tmod (IntKind.u64.wrap n0)))
def zfe (w:TWorld)(i:Int)(r0:TRaft)(l:(List TMsg)):Option TWorld:=
  if (capB (w.R).length) = true then
   bnd (nthI w.R i) fun e=>
   if (capB (w.Net).length) = true then
    if (capB ((w.Net).length + l.length)) = true then
     if (decide ((60:Int) < ((((w.Net).length + l.length):Nat):Int))) = true then
      bnd (sliceL (w.Net++l) (IntKind.i64.wrap (((((w.Net).length + l.length):Nat):Int) - (60:Int))) (w.Net++l).length) fun l_1=>
      some (TWorld.mk (setI w.R i r0) l_1)
     else
       some (TWorld.mk (setI w.R i r0) (w.Net++l))
     else none
    else none
   else none
def zgn (w:TWorld)(k:Int)(e:TMsg)(out_1:(List TMsg)):Option (TWorld × TMsg):=
  bnd (sliceL w.Net (IntKind.i64.wrap (k + (1:Int))) w.Net.length) fun l_1=>
  if (capB (out_1.length + l_1.length)) = true then
   some ((TWorld.mk w.R (out_1++l_1)),e)
   else none
def zkj (w:TWorld)(k:Int)(keep:Bool):Option (TWorld × TMsg):=
  bnd (nthI w.Net k) fun e=>
  bnd (sliceL w.Net 0 k) fun l=>
  if (capB l.length) = true then
   if keep=true then
    if (capB (l.length + 1)) = true then
     zgn w k e (l++[e])
     else none
   else
     zgn w k e l
   else none
def zal (zrn zro zrp zrq zrr zrs zrt zru:Int)(zrv:(List TEntry))(zrw zqs zqt:Int)(zqu:(List Int))(zqv:(List Bool))(zqw zqx:(List Int))(zqy:(List TMsg)):Option (TRaft × (List TMsg)):=
  bnd (zge (Tmember.mk (TRaft.mk zrn zro zrp zrq zrr zrs (TLog.mk zrt zru zrv) zrw zqu zqv zqw zqx zqs zqt) zqy)) fun r0_13=>
  some (r0_13.1,r0_13.2)
def zed (v158:Bool)(zqa zqb zqc zqd zqe zqf zqg zqh zqi zou zov:Int)(zqj:(List TEntry))(zow:(List Int))(zox:(List Bool))(zoy zoz:(List Int))(zpa:(List TMsg)):Option (TRaft × (List TMsg)):=
  if v158=true then
   bnd (zdc (Tmember.mk (TRaft.mk zqa zqb zqc zqd zqe zqf (TLog.mk zqg zqh zqj) zqi zow zox zoy zoz zou zov) zpa)) fun r0_9=>
   zal r0_9.Raft.Id r0_9.Raft.N r0_9.Raft.Term r0_9.Raft.Vote r0_9.Raft.Role r0_9.Raft.Lead r0_9.Raft.Log.Base r0_9.Raft.Log.BaseTerm r0_9.Raft.Log.Entries r0_9.Raft.Commit r0_9.Raft.Clock r0_9.Raft.Wait r0_9.Raft.Snap r0_9.Raft.Granted r0_9.Raft.Next r0_9.Raft.Match r0_9.f_out
  else
    zal zqa zqb zqc zqd zqe zqf zqg zqh zqj zqi zou zov zow zox zoy zoz zpa
def zct (v123:Bool)(zbl zbm zbn zbo zbp zbq zbr zbs zbu zao zap:Int)(zbt:(List TEntry))(zaq:(List Int))(zar:(List Bool))(zx zas:(List Int))(zat:(List TMsg)):Option (TRaft × (List TMsg)):=
  if v123=true then
   bnd (zeo (Tmember.mk (TRaft.mk zbl zbm zbn zbo zbp zbq (TLog.mk zbr zbs zbt) zbu zaq zar zx zas zao zap) zat)) fun r0_6=>
   zal r0_6.Raft.Id r0_6.Raft.N r0_6.Raft.Term r0_6.Raft.Vote r0_6.Raft.Role r0_6.Raft.Lead r0_6.Raft.Log.Base r0_6.Raft.Log.BaseTerm r0_6.Raft.Log.Entries r0_6.Raft.Commit r0_6.Raft.Clock r0_6.Raft.Wait r0_6.Raft.Snap r0_6.Raft.Granted r0_6.Raft.Next r0_6.Raft.Match r0_6.f_out
  else
    zal zbl zbm zbn zbo zbp zbq zbr zbs zbt zbu zao zap zaq zar zx zas zat
def zfo (x0:TMsg)(m_00 m_10 m_20 m_30 m_40 m_50 m_60 m_70 m_90 ze zg:Int)(m_80:(List TEntry))(zf:(List Int))(zh:(List Bool))(zc zi:(List Int))(zj:(List TMsg)):Option (TRaft × (List TMsg)):=
  if (decide (x0.Kind=(1:Int))) = true then
   bnd (zel x0 (Tmember.mk (TRaft.mk m_00 m_10 m_20 m_30 m_40 m_50 (TLog.mk m_60 m_70 m_80) m_90 zf zh zc zi ze zg) zj)) fun r0_4=>
   zal r0_4.Raft.Id r0_4.Raft.N r0_4.Raft.Term r0_4.Raft.Vote r0_4.Raft.Role r0_4.Raft.Lead r0_4.Raft.Log.Base r0_4.Raft.Log.BaseTerm r0_4.Raft.Log.Entries r0_4.Raft.Commit r0_4.Raft.Clock r0_4.Raft.Wait r0_4.Raft.Snap r0_4.Raft.Granted r0_4.Raft.Next r0_4.Raft.Match r0_4.f_out
  else
    if (decide (x0.Kind=(2:Int))) = true then
     if x0.Ok=true then
      if (decide (m_40=(1:Int))) = true then
       if (decide (x0.Term=(IntKind.i64.wrap (m_20 + (1:Int))))) = true then
        bnd (zbx x0.From (Tmember.mk (TRaft.mk m_00 m_10 m_20 m_30 m_40 m_50 (TLog.mk m_60 m_70 m_80) m_90 zf zh zc zi ze zg) zj)) fun r0_5=>
        zct r0_5.1 r0_5.2.Raft.Id r0_5.2.Raft.N r0_5.2.Raft.Term r0_5.2.Raft.Vote r0_5.2.Raft.Role r0_5.2.Raft.Lead r0_5.2.Raft.Log.Base r0_5.2.Raft.Log.BaseTerm r0_5.2.Raft.Commit r0_5.2.Raft.Clock r0_5.2.Raft.Wait r0_5.2.Raft.Log.Entries r0_5.2.Raft.Snap r0_5.2.Raft.Granted r0_5.2.Raft.Next r0_5.2.Raft.Match r0_5.2.f_out
       else
         zct false m_00 m_10 m_20 m_30 m_40 m_50 m_60 m_70 m_90 ze zg m_80 zf zh zc zi zj
      else
        zct false m_00 m_10 m_20 m_30 m_40 m_50 m_60 m_70 m_90 ze zg m_80 zf zh zc zi zj
     else
       zct false m_00 m_10 m_20 m_30 m_40 m_50 m_60 m_70 m_90 ze zg m_80 zf zh zc zi zj
    else
      if (decide (x0.Kind=(3:Int))) = true then
       bnd (zex x0 (Tmember.mk (TRaft.mk m_00 m_10 m_20 m_30 m_40 m_50 (TLog.mk m_60 m_70 m_80) m_90 zf zh zc zi ze zg) zj)) fun r0_7=>
       zal r0_7.Raft.Id r0_7.Raft.N r0_7.Raft.Term r0_7.Raft.Vote r0_7.Raft.Role r0_7.Raft.Lead r0_7.Raft.Log.Base r0_7.Raft.Log.BaseTerm r0_7.Raft.Log.Entries r0_7.Raft.Commit r0_7.Raft.Clock r0_7.Raft.Wait r0_7.Raft.Snap r0_7.Raft.Granted r0_7.Raft.Next r0_7.Raft.Match r0_7.f_out
      else
        if (decide (x0.Kind=(4:Int))) = true then
         if x0.Ok=true then
          if (decide (m_40=(2:Int))) = true then
           if (decide (x0.Term=m_20)) = true then
            bnd (zbx x0.From (Tmember.mk (TRaft.mk m_00 m_10 m_20 m_30 m_40 m_50 (TLog.mk m_60 m_70 m_80) m_90 zf zh zc zi ze zg) zj)) fun r0_8=>
            zed r0_8.1 r0_8.2.Raft.Id r0_8.2.Raft.N r0_8.2.Raft.Term r0_8.2.Raft.Vote r0_8.2.Raft.Role r0_8.2.Raft.Lead r0_8.2.Raft.Log.Base r0_8.2.Raft.Log.BaseTerm r0_8.2.Raft.Commit r0_8.2.Raft.Clock r0_8.2.Raft.Wait r0_8.2.Raft.Log.Entries r0_8.2.Raft.Snap r0_8.2.Raft.Granted r0_8.2.Raft.Next r0_8.2.Raft.Match r0_8.2.f_out
           else
             zed false m_00 m_10 m_20 m_30 m_40 m_50 m_60 m_70 m_90 ze zg m_80 zf zh zc zi zj
          else
            zed false m_00 m_10 m_20 m_30 m_40 m_50 m_60 m_70 m_90 ze zg m_80 zf zh zc zi zj
         else
           zed false m_00 m_10 m_20 m_30 m_40 m_50 m_60 m_70 m_90 ze zg m_80 zf zh zc zi zj
        else
          if (decide (x0.Kind=(5:Int))) = true then
           bnd (zdf x0 (Tmember.mk (TRaft.mk m_00 m_10 m_20 m_30 m_40 m_50 (TLog.mk m_60 m_70 m_80) m_90 zf zh zc zi ze zg) zj)) fun r0_10=>
           zal r0_10.Raft.Id r0_10.Raft.N r0_10.Raft.Term r0_10.Raft.Vote r0_10.Raft.Role r0_10.Raft.Lead r0_10.Raft.Log.Base r0_10.Raft.Log.BaseTerm r0_10.Raft.Log.Entries r0_10.Raft.Commit r0_10.Raft.Clock r0_10.Raft.Wait r0_10.Raft.Snap r0_10.Raft.Granted r0_10.Raft.Next r0_10.Raft.Match r0_10.f_out
          else
            if (decide (x0.Kind=(6:Int))) = true then
             bnd (zez x0 (Tmember.mk (TRaft.mk m_00 m_10 m_20 m_30 m_40 m_50 (TLog.mk m_60 m_70 m_80) m_90 zf zh zc zi ze zg) zj)) fun r0_11=>
             zal r0_11.Raft.Id r0_11.Raft.N r0_11.Raft.Term r0_11.Raft.Vote r0_11.Raft.Role r0_11.Raft.Lead r0_11.Raft.Log.Base r0_11.Raft.Log.BaseTerm r0_11.Raft.Log.Entries r0_11.Raft.Commit r0_11.Raft.Clock r0_11.Raft.Wait r0_11.Raft.Snap r0_11.Raft.Granted r0_11.Raft.Next r0_11.Raft.Match r0_11.f_out
            else
              if (decide (x0.Kind=(7:Int))) = true then
               bnd (zfa x0 (Tmember.mk (TRaft.mk m_00 m_10 m_20 m_30 m_40 m_50 (TLog.mk m_60 m_70 m_80) m_90 zf zh zc zi ze zg) zj)) fun r0_12=>
               zal r0_12.Raft.Id r0_12.Raft.N r0_12.Raft.Term r0_12.Raft.Vote r0_12.Raft.Role r0_12.Raft.Lead r0_12.Raft.Log.Base r0_12.Raft.Log.BaseTerm r0_12.Raft.Log.Entries r0_12.Raft.Commit r0_12.Raft.Clock r0_12.Raft.Wait r0_12.Raft.Snap r0_12.Raft.Granted r0_12.Raft.Next r0_12.Raft.Match r0_12.f_out
              else
                zal m_00 m_10 m_20 m_30 m_40 m_50 m_60 m_70 m_80 m_90 ze zg zf zh zc zi zj
def zcu (x0:TMsg)(r0_1:Tmember)(v83:Bool):Option (TRaft × (List TMsg)):=
  if v83=true then
   bnd (zam x0.Term (0:Int) r0_1) fun r0_3=>
   zfo x0 r0_3.Raft.Id r0_3.Raft.N r0_3.Raft.Term r0_3.Raft.Vote r0_3.Raft.Role r0_3.Raft.Lead r0_3.Raft.Log.Base r0_3.Raft.Log.BaseTerm r0_3.Raft.Commit r0_3.Raft.Clock r0_3.Raft.Wait r0_3.Raft.Log.Entries r0_3.Raft.Snap r0_3.Raft.Granted r0_3.Raft.Next r0_3.Raft.Match r0_3.f_out
  else
    zfo x0 r0_1.Raft.Id r0_1.Raft.N r0_1.Raft.Term r0_1.Raft.Vote r0_1.Raft.Role r0_1.Raft.Lead r0_1.Raft.Log.Base r0_1.Raft.Log.BaseTerm r0_1.Raft.Commit r0_1.Raft.Clock r0_1.Raft.Wait r0_1.Raft.Log.Entries r0_1.Raft.Snap r0_1.Raft.Granted r0_1.Raft.Next r0_1.Raft.Match r0_1.f_out
def zbd (x0:TMsg)(r0_1:Tmember)(v56:Bool):Option (TRaft × (List TMsg)):=
  if v56=true then
   bnd (ziy r0_1) fun r0_2=>
   some (r0_2.1,r0_2.2)
  else
    if (decide (r0_1.Raft.Term < x0.Term)) = true then
     if (decide (x0.Kind≠(1:Int))) = true then
      if (decide (x0.Kind≠(2:Int))) = true then
       zcu x0 r0_1 true
      else
        zcu x0 r0_1 (!x0.Ok)
     else
       zcu x0 r0_1 false
    else
      zcu x0 r0_1 false
def zjd (r0:TRaft)(x0:TMsg):Option (TRaft × (List TMsg)):=
  bnd (zjg r0) fun r0_1=>
  if (decide (x0.To≠r0_1.Raft.Id)) = true then
   zbd x0 r0_1 true
  else
    if (decide (x0.From < (1:Int))) = true then
     zbd x0 r0_1 true
    else
      if (decide (r0_1.Raft.N < x0.From)) = true then
       zbd x0 r0_1 true
      else
        if (decide (x0.From=r0_1.Raft.Id)) = true then
         zbd x0 r0_1 true
        else
          if (decide (x0.Term < (0:Int))) = true then
           zbd x0 r0_1 true
          else
            if (decide ((1099511627776:Int) < x0.Term)) = true then
             zbd x0 r0_1 true
            else
              zbd x0 r0_1 (decide (x0.At < (0:Int)))
def zgq (r0_4:(TWorld × TMsg))(v87:Bool):Option TWorld:=
  if v87=true then
   some r0_4.1
  else
    bnd (nthI r0_4.1.R (IntKind.i64.wrap (r0_4.2.To - (1:Int)))) fun e_1=>
    bnd (zjd e_1 r0_4.2) fun r0_5=>
    bnd (zfe r0_4.1 (IntKind.i64.wrap (r0_4.2.To - (1:Int))) r0_5.1 r0_5.2) fun r0_6=>
    some r0_6
def zdp (w:TWorld)(o:TOp)(r0:Int)(e:TRaft)(v49:Bool):Option TWorld:=
  if v49=true then
   if (decide ((w.Net.length:Int) = (0:Int))) = true then
    some w
   else
     bnd (zgh o.N (w.Net.length:Int)) fun r0_3=>
     bnd (zkj w r0_3 (decide (o.Kind=(3:Int)))) fun r0_4=>
     if (decide (o.Kind=(2:Int))) = true then
      zgq r0_4 true
     else
       if (decide (r0_4.2.To < (1:Int))) = true then
        zgq r0_4 true
       else
         zgq r0_4 (decide ((w.R.length:Int) < r0_4.2.To))
  else
    if (decide (o.Kind=(4:Int))) = true then
     bnd (zjb e o.Data) fun r0_7=>
     if (decide (r0_7.2.2.2≠(0:Int))) = true then
      some w
     else
       bnd (zfe w r0 r0_7.1 r0_7.2.2.1) fun r0_8=>
       some r0_8
    else
      if (decide (o.Kind=(5:Int))) = true then
       bnd (zgh o.N (3:Int)) fun r0_9=>
       bnd (zjc e (IntKind.i64.wrap (e.Commit - r0_9)) ([(IntKind.u8.wrap (IntKind.i64.wrap (e.Commit - r0_9)))])) fun r0_10=>
       if (decide (r0_10.2≠(0:Int))) = true then
        some w
       else
         bnd (zfe w r0 r0_10.1 ([])) fun r0_11=>
         some r0_11
      else
        if (decide (o.Kind=(6:Int))) = true then
         bnd (zhn e.Id e.N e.Term e.Vote e.Log e.Snap) fun r0_12=>
         if (decide (r0_12.2≠(0:Int))) = true then
          some w
         else
           bnd (zfe w r0 r0_12.1 ([])) fun r0_13=>
           some r0_13
        else
          some w
def zkq (w:TWorld)(o:TOp):Option TWorld:=
  bnd (zgh o.Who (w.R.length:Int)) fun r0=>
  bnd (nthI w.R r0) fun e=>
  if (decide (o.Kind=(0:Int))) = true then
   bnd (zlf e o.N) fun r0_1=>
   bnd (zfe w r0 r0_1.1 r0_1.2) fun r0_2=>
   some r0_2
  else
    if (decide (o.Kind=(1:Int))) = true then
     zdp w o r0 e true
    else
      if (decide (o.Kind=(2:Int))) = true then
       zdp w o r0 e true
      else
        zdp w o r0 e (decide (o.Kind=(3:Int)))
def ziq:Option Bool:=
  bnd (zmt ) fun r0_7=>
  some r0_7
def zby(zb:Int→(List TRaft)→(List TMsg)→(List TEntry)→Option Bool)(i:Int)(r0_4:TWorld)(known_2:(List TEntry)):Option Bool:=
  zb (IntKind.i64.wrap (i + (1:Int))) r0_4.R r0_4.Net known_2
def zcr(zp:Int→Option Bool)(at0:Int)(v125:Bool):Option Bool:=
  if v125=true then
   some false
  else
    zp (IntKind.i64.wrap (at0 + (1:Int)))
def zdm(zb:Int→(List TRaft)→(List TMsg)→(List TEntry)→Option Bool)(i:Int)(r0_4:TWorld)(top_2:Int)(known_2:(List TEntry))(zp:Int→Option Bool)(at0:Int):Option Bool:=
  if (decide (at0≤((known_2.length:Nat):Int))) = true then
   bnd (nthI r0_4.R top_2) fun e_4=>
   bnd (zig e_4.Log at0) fun r0_6=>
   if r0_6.2=true then
    bnd (nthI known_2 (IntKind.i64.wrap (at0 - (1:Int)))) fun e_5=>
    if (decide (r0_6.1.Term≠e_5.Term)) = true then
     zcr zp at0 true
    else
      zcr zp at0 (!(eqS (strI r0_6.1.Data) (strI e_5.Data)))
   else
     zcr zp at0 true
  else
    zby zb i r0_4 known_2
def zbf(zb:Int→(List TRaft)→(List TMsg)→(List TEntry)→Option Bool)(i:Int)(r0_4:TWorld)(top_2:Int)(known_2:(List TEntry)):Nat→Int→Option Bool
  | 0,_=>none
  | n + 1,at0=>zdm zb i r0_4 top_2 known_2 (zbf zb i r0_4 top_2 known_2 n) at0
def zcs(zb:Int→(List TRaft)→(List TMsg)→(List TEntry)→Option Bool)(i:Int)(r0_4:TWorld)(top_2:Int)(known_2:(List TEntry)):Option Bool:=
  bnd (nthI r0_4.R top_2) fun e_3=>
  if (decide (e_3.Role≠(3:Int))) = true then
   zby zb i r0_4 known_2
  else
    zbf zb i r0_4 top_2 known_2 (((((known_2.length:Nat):Int)) - ((IntKind.i64.wrap (e_3.Log.Base + (1:Int)))) + 1).toNat + 1) (IntKind.i64.wrap (e_3.Log.Base + (1:Int)))
def zep(zy:Int→Int→(List TEntry)→Option Bool)(k:Int)(r0_5:((List TEntry) × Bool))(top_1:Int):Option Bool:=
  zy top_1 (IntKind.i64.wrap (k + (1:Int))) r0_5.1
def zdn(zb:Int→(List TRaft)→(List TMsg)→(List TEntry)→Option Bool)(i:Int)(r0_4:TWorld)(zy:Int→Int→(List TEntry)→Option Bool)(top k:Int)(known_1:(List TEntry)):Option Bool:=
  if (decide (k < (r0_4.R.length:Int))) = true then
   bnd (nthI r0_4.R k) fun e_1=>
   bnd (zhq known_1 e_1) fun r0_5=>
   if r0_5.2=true then
    bnd (nthI r0_4.R top) fun e_2=>
    if (decide (e_2.Term < e_1.Term)) = true then
     zep zy k r0_5 k
    else
      zep zy k r0_5 top
   else
     some false
  else
    zcs zb i r0_4 top known_1
def zan(zb:Int→(List TRaft)→(List TMsg)→(List TEntry)→Option Bool)(i:Int)(r0_4:TWorld):Nat→Int→Int→(List TEntry)→Option Bool
  | 0,_,_,_=>none
  | n + 1,top,k,known_1=>zdn zb i r0_4 (zan zb i r0_4 n) top k known_1
def zdo (l:(List TOp))(zb:Int→(List TRaft)→(List TMsg)→(List TEntry)→Option Bool)(i:Int)(w_00:(List TRaft))(w_10:(List TMsg))(known:(List TEntry)):Option Bool:=
  if (decide (i < (l.length:Int))) = true then
   bnd (nthI l i) fun e=>
   bnd (zkq (TWorld.mk w_00 w_10) e) fun r0_4=>
   zan zb i r0_4 ((((r0_4.R.length:Int)) - ((0:Int))).toNat + 1) (0:Int) (0:Int) known
  else
    ziq
def zae (l:(List TOp)):Nat→Int→(List TRaft)→(List TMsg)→(List TEntry)→Option Bool
  | 0,_,_,_,_=>none
  | n + 1,i,w_00,w_10,known=>zdo l (zae l n) i w_00 w_10 known
def zia (n0:Int)(l:(List TOp)):Option Bool:=
  bnd (zjn l) fun r0=>
  if r0=true then
   bnd (zki n0) fun r0_2=>
   bnd (zjo r0_2) fun r0_3=>
   zae l ((((l.length:Int)) - ((0:Int))).toNat + 1) (0:Int) r0_3.R r0_3.Net ([])
  else
    bnd (zmt ) fun r0_1=>
    some r0_1
end Go.Proofs.Ytgoachcogmlhcaa.R
