/- Models of the functions. -/
import Derived.Test.YtgoachcogmlhcaaMT
set_option maxRecDepth 100000
set_option maxHeartbeats 1600000
set_option linter.unusedVariables false
set_option linter.unusedSimpArgs false
set_option linter.defProp false
noncomputable section
namespace Go.Proofs.Ytgoachcogmlhcaa.R
open Go Nat
def zge (l:(List TEntry))(zhb:Int→(List TEntry)→Option (List TEntry))(v8:Int)(out:(List TEntry)):Option (List TEntry):=
  if (decide (v8 < (l.length:Int))) = true then
   bnd (nthI l v8) fun e=>
   if (capB (e.Data).length) = true then
    if (capB (out.length + 1)) = true then
     zhb (IntKind.i64.wrap (v8 + (1:Int))) (out++[e])
     else none
    else none
  else
    some out
def zdi (l:(List TEntry)):Nat→Int→(List TEntry)→Option (List TEntry)
  | 0,_,_=>none
  | n + 1,v8,out=>zge l (zdi l n) v8 out
def zfp (l:(List TEntry)):Option (List TEntry):=
  zdi l ((((l.length:Int)) - ((0:Int))).toNat + 1) (0:Int) ([])
def zei (l:TLog):Option TLog:=
  bnd (zfp l.Entries) fun r0=>
  some (TLog.mk l.Base l.BaseTerm r0)
def zmo (r0:TRaft):Option TRaft:=
  bnd (zei r0.Log) fun r0_1=>
  if (capB (r0.Snap).length) = true then
   if (capB (r0.Granted).length) = true then
    if (capB (r0.Next).length) = true then
     if (capB (r0.Match).length) = true then
      some (TRaft.mk r0.Id r0.N r0.Term r0.Vote r0.Role r0.Lead r0_1 r0.Commit r0.Snap r0.Granted r0.Next r0.Match r0.Clock r0.Wait)
      else none
     else none
    else none
   else none
def zjk (r0:TRaft):Option Tmember:=
  bnd (zmo r0) fun r0_1=>
  some (Tmember.mk r0_1 ([]))
def zcb (to0:Int)(x0:TMsg)(m:Tmember):Option Tmember:=
  if (capB ((m.f_out).length + 1)) = true then
   some (Tmember.mk m.Raft (m.f_out++[(TMsg.mk x0.Kind x0.Group m.Raft.Id to0 x0.Term x0.At x0.AtTerm x0.Commit x0.Ok x0.Entries x0.Data)]))
   else none
def zae (l:TLog):Option Int:=
  some (IntKind.i64.wrap (l.Base + (l.Entries.length:Int)))
def ziz (l:TLog)(at0:Int)(v13:Bool):Option (Int × Bool):=
  if v13=true then
   some ((0:Int),false)
  else
    bnd (nthI l.Entries (IntKind.i64.wrap ((IntKind.i64.wrap (at0 - l.Base)) - (1:Int)))) fun e=>
    some (e.Term,true)
def zbk (l:TLog)(at0:Int):Option (Int × Bool):=
  if (decide (at0=l.Base)) = true then
   some (l.BaseTerm,true)
  else
    if (decide (at0 < l.Base)) = true then
     ziz l at0 true
    else
      bnd (zae l) fun r0=>
      ziz l at0 (decide (r0 < at0))
def zhq (l:TLog)(at0 most:Int)(v21:Bool):Option (List TEntry):=
  if v21=true then
   some ([])
  else
    bnd (sliceL l.Entries (IntKind.i64.wrap ((IntKind.i64.wrap (at0 - l.Base)) - (1:Int))) l.Entries.length) fun l_1=>
    bnd (sliceL l_1 0 (if (l_1.length:Int) < most then (l_1.length:Int) else most)) fun l_2=>
    bnd (zfp l_2) fun r0_1=>
    some r0_1
def zit (l:TLog)(at0:Int)(most:Int):Option (List TEntry):=
  if (decide (at0≤l.Base)) = true then
   zhq l at0 most true
  else
    bnd (zae l) fun r0=>
    if (decide (r0 < at0)) = true then
     zhq l at0 most true
    else
      zhq l at0 most (decide (most≤(0:Int)))
def zff (to0:Int)(m:Tmember)(x_0 x_5 x_6:Int)(x_9:(List TEntry))(x_10:(List Int)):Option Tmember:=
  bnd (zcb to0 (TMsg.mk x_0 (0:Int) (0:Int) (0:Int) m.Raft.Term x_5 x_6 m.Raft.Commit false x_9 x_10) m) fun r0_2=>
  some r0_2
def zau (to0:Int)(m:Tmember):Option Tmember:=
  bnd (nthI m.Raft.Next (IntKind.i64.wrap (to0 - (1:Int)))) fun e=>
  if (decide (e≤m.Raft.Log.Base)) = true then
   if (capB (m.Raft.Snap).length) = true then
    zff to0 m (7:Int) m.Raft.Log.Base m.Raft.Log.BaseTerm ([]) m.Raft.Snap
    else none
  else
    bnd (zbk m.Raft.Log (IntKind.i64.wrap (e - (1:Int)))) fun r0=>
    bnd (zit m.Raft.Log e (8:Int)) fun r0_1=>
    zff to0 m (5:Int) (IntKind.i64.wrap (e - (1:Int))) r0.1 r0_1 ([])
def zhc(zab:Int→Int→Int→Int→Int→Int→Int→Int→Int→(List TEntry)→Int→Int→Int→(List Int)→(List Bool)→(List Int)→(List Int)→(List TMsg)→Option Tmember)(to0 zbl zbm zbn zbo zbp zbq zbr zbs:Int)(zbt:(List TEntry))(zbu zam zan:Int)(zao:(List Int))(zap:(List Bool))(zx zaq:(List Int))(zar:(List TMsg)):Option Tmember:=
  zab (IntKind.i64.wrap (to0 + (1:Int))) zbl zbm zbn zbo zbp zbq zbr zbs zbt zbu zam zan zao zap zx zaq zar
def ziu (zab:Int→Int→Int→Int→Int→Int→Int→Int→Int→(List TEntry)→Int→Int→Int→(List Int)→(List Bool)→(List Int)→(List Int)→(List TMsg)→Option Tmember)(to0 m_00 m_10 m_20 m_30 m_40 m_50 m_60 m_70:Int)(m_80:(List TEntry))(m_90 zd zf:Int)(ze:(List Int))(zg:(List Bool))(zb zh:(List Int))(zi:(List TMsg)):Option Tmember:=
  if (decide (to0≤m_10)) = true then
   if (decide (to0≠m_00)) = true then
    bnd (zau to0 (Tmember.mk (TRaft.mk m_00 m_10 m_20 m_30 m_40 m_50 (TLog.mk m_60 m_70 m_80) m_90 ze zg zb zh zd zf) zi)) fun r0=>
    zhc zab to0 r0.Raft.Id r0.Raft.N r0.Raft.Term r0.Raft.Vote r0.Raft.Role r0.Raft.Lead r0.Raft.Log.Base r0.Raft.Log.BaseTerm r0.Raft.Log.Entries r0.Raft.Commit r0.Raft.Clock r0.Raft.Wait r0.Raft.Snap r0.Raft.Granted r0.Raft.Next r0.Raft.Match r0.f_out
   else
     zhc zab to0 m_00 m_10 m_20 m_30 m_40 m_50 m_60 m_70 m_80 m_90 zd zf ze zg zb zh zi
  else
    some (Tmember.mk (TRaft.mk m_00 m_10 m_20 m_30 m_40 m_50 (TLog.mk m_60 m_70 m_80) m_90 ze zg zb zh zd zf) zi)
def zdn:Nat→Int→Int→Int→Int→Int→Int→Int→Int→Int→(List TEntry)→Int→Int→Int→(List Int)→(List Bool)→(List Int)→(List Int)→(List TMsg)→Option Tmember
  | 0,_,_,_,_,_,_,_,_,_,_,_,_,_,_,_,_,_,_=>none
  | n + 1,to0,m_00,m_10,m_20,m_30,m_40,m_50,m_60,m_70,m_80,m_90,zd,zf,ze,zg,zb,zh,zi=>ziu (zdn n) to0 m_00 m_10 m_20 m_30 m_40 m_50 m_60 m_70 m_80 m_90 zd zf ze zg zb zh zi
def zgx (m:Tmember):Option Tmember:=
  zdn (1000000) (1:Int) m.Raft.Id m.Raft.N m.Raft.Term m.Raft.Vote m.Raft.Role m.Raft.Lead m.Raft.Log.Base m.Raft.Log.BaseTerm m.Raft.Log.Entries m.Raft.Commit m.Raft.Clock m.Raft.Wait m.Raft.Snap m.Raft.Granted m.Raft.Next m.Raft.Match m.f_out
def zfr(zq:Int→Int→Int→Int→Int→Int→Int→Int→Int→(List TEntry)→Int→Int→Int→(List Int)→(List Bool)→(List Int)→(List Int)→(List TMsg)→Option Tmember)(to0 zbl zbm zbn zbo zbp zbq zbr zbs:Int)(zbt:(List TEntry))(zbu zam zan:Int)(zao:(List Int))(zap:(List Bool))(zx zaq:(List Int))(zar:(List TMsg)):Option Tmember:=
  zq (IntKind.i64.wrap (to0 + (1:Int))) zbl zbm zbn zbo zbp zbq zbr zbs zbt zbu zam zan zao zap zx zaq zar
def zhd (zq:Int→Int→Int→Int→Int→Int→Int→Int→Int→(List TEntry)→Int→Int→Int→(List Int)→(List Bool)→(List Int)→(List Int)→(List TMsg)→Option Tmember)(to0 m_00 m_10 m_20 m_30 m_40 m_50 m_60 m_70:Int)(m_80:(List TEntry))(m_90 zd zf:Int)(ze:(List Int))(zg:(List Bool))(zb zh:(List Int))(zi:(List TMsg)):Option Tmember:=
  if (decide (to0≤m_10)) = true then
   if (decide (to0≠m_00)) = true then
    bnd (zau to0 (Tmember.mk (TRaft.mk m_00 m_10 m_20 m_30 m_40 m_50 (TLog.mk m_60 m_70 m_80) m_90 ze zg zb zh zd zf) zi)) fun r0=>
    zfr zq to0 r0.Raft.Id r0.Raft.N r0.Raft.Term r0.Raft.Vote r0.Raft.Role r0.Raft.Lead r0.Raft.Log.Base r0.Raft.Log.BaseTerm r0.Raft.Log.Entries r0.Raft.Commit r0.Raft.Clock r0.Raft.Wait r0.Raft.Snap r0.Raft.Granted r0.Raft.Next r0.Raft.Match r0.f_out
   else
     zfr zq to0 m_00 m_10 m_20 m_30 m_40 m_50 m_60 m_70 m_80 m_90 zd zf ze zg zb zh zi
  else
    some (Tmember.mk (TRaft.mk m_00 m_10 m_20 m_30 m_40 m_50 (TLog.mk m_60 m_70 m_80) m_90 ze zg zb zh zd zf) zi)
def zcd:Nat→Int→Int→Int→Int→Int→Int→Int→Int→Int→(List TEntry)→Int→Int→Int→(List Int)→(List Bool)→(List Int)→(List Int)→(List TMsg)→Option Tmember
  | 0,_,_,_,_,_,_,_,_,_,_,_,_,_,_,_,_,_,_=>none
  | n + 1,to0,m_00,m_10,m_20,m_30,m_40,m_50,m_60,m_70,m_80,m_90,zd,zf,ze,zg,zb,zh,zi=>zhd (zcd n) to0 m_00 m_10 m_20 m_30 m_40 m_50 m_60 m_70 m_80 m_90 zd zf ze zg zb zh zi
def zfg (m:Tmember):Option Tmember:=
  zcd (1000000) (1:Int) m.Raft.Id m.Raft.N m.Raft.Term m.Raft.Vote m.Raft.Role m.Raft.Lead m.Raft.Log.Base m.Raft.Log.BaseTerm m.Raft.Log.Entries m.Raft.Commit m.Raft.Clock m.Raft.Wait m.Raft.Snap m.Raft.Granted m.Raft.Next m.Raft.Match m.f_out
def zcz (to0:Int)(x0:TMsg)(m:Tmember):Option Tmember:=
  if (capB ((m.f_out).length + 1)) = true then
   some (Tmember.mk m.Raft (m.f_out++[(TMsg.mk x0.Kind x0.Group m.Raft.Id to0 x0.Term x0.At x0.AtTerm x0.Commit x0.Ok ([]) ([]))]))
   else none
def zeb (l:TLog):Option Int:=
  bnd (zae l) fun r0=>
  bnd (zbk l r0) fun r0_1=>
  some r0_1.1
def zda (to0:Int)(b1:Tmember):Option Tmember:=
  bnd (zae b1.Raft.Log) fun r0=>
  bnd (zeb b1.Raft.Log) fun r0_1=>
  bnd (zcz to0 (TMsg.mk (3:Int) (0:Int) (0:Int) (0:Int) b1.Raft.Term r0 r0_1 (0:Int) false ([]) ([])) b1) fun r0_2=>
  some r0_2
def zfs(zr:Int→Int→Int→Int→Int→Int→Int→Int→Int→Int→Int→Int→(List TEntry)→(List Int)→(List Bool)→(List Int)→(List Int)→(List TMsg)→Option Tmember)(to0 zbl zbm zbn zbo zbp zbq zbr zbs zbu zam zan:Int)(zbt:(List TEntry))(zao:(List Int))(zap:(List Bool))(zx zaq:(List Int))(zar:(List TMsg)):Option Tmember:=
  zr (IntKind.i64.wrap (to0 + (1:Int))) zbl zbm zbn zbo zbp zbq zbr zbs zbu zam zan zbt zao zap zx zaq zar
def zhe (zr:Int→Int→Int→Int→Int→Int→Int→Int→Int→Int→Int→Int→(List TEntry)→(List Int)→(List Bool)→(List Int)→(List Int)→(List TMsg)→Option Tmember)(to0 m_00 m_10 m_20 m_30 m_40 m_50 m_60 m_70 m_90 zd zf:Int)(m_80:(List TEntry))(ze:(List Int))(zg:(List Bool))(zb zh:(List Int))(zi:(List TMsg)):Option Tmember:=
  if (decide (to0≤m_10)) = true then
   if (decide (to0≠m_00)) = true then
    bnd (zda to0 (Tmember.mk (TRaft.mk m_00 m_10 m_20 m_30 m_40 m_50 (TLog.mk m_60 m_70 m_80) m_90 ze zg zb zh zd zf) zi)) fun r0=>
    zfs zr to0 r0.Raft.Id r0.Raft.N r0.Raft.Term r0.Raft.Vote r0.Raft.Role r0.Raft.Lead r0.Raft.Log.Base r0.Raft.Log.BaseTerm r0.Raft.Commit r0.Raft.Clock r0.Raft.Wait r0.Raft.Log.Entries r0.Raft.Snap r0.Raft.Granted r0.Raft.Next r0.Raft.Match r0.f_out
   else
     zfs zr to0 m_00 m_10 m_20 m_30 m_40 m_50 m_60 m_70 m_90 zd zf m_80 ze zg zb zh zi
  else
    some (Tmember.mk (TRaft.mk m_00 m_10 m_20 m_30 m_40 m_50 (TLog.mk m_60 m_70 m_80) m_90 ze zg zb zh zd zf) zi)
def zce:Nat→Int→Int→Int→Int→Int→Int→Int→Int→Int→Int→Int→Int→(List TEntry)→(List Int)→(List Bool)→(List Int)→(List Int)→(List TMsg)→Option Tmember
  | 0,_,_,_,_,_,_,_,_,_,_,_,_,_,_,_,_,_,_=>none
  | n + 1,to0,m_00,m_10,m_20,m_30,m_40,m_50,m_60,m_70,m_90,zd,zf,m_80,ze,zg,zb,zh,zi=>zhe (zce n) to0 m_00 m_10 m_20 m_30 m_40 m_50 m_60 m_70 m_90 zd zf m_80 ze zg zb zh zi
def zfh (m:Tmember):Option Tmember:=
  zce (1000000) (1:Int) m.Raft.Id m.Raft.N m.Raft.Term m.Raft.Vote m.Raft.Role m.Raft.Lead m.Raft.Log.Base m.Raft.Log.BaseTerm m.Raft.Commit m.Raft.Clock m.Raft.Wait m.Raft.Log.Entries m.Raft.Snap m.Raft.Granted m.Raft.Next m.Raft.Match m.f_out
def zee (to0:Int)(b1:Tmember):Option Tmember:=
  bnd (zae b1.Raft.Log) fun r0=>
  bnd (zeb b1.Raft.Log) fun r0_1=>
  bnd (zcz to0 (TMsg.mk (1:Int) (0:Int) (0:Int) (0:Int) (IntKind.i64.wrap (b1.Raft.Term + (1:Int))) r0 r0_1 (0:Int) false ([]) ([])) b1) fun r0_2=>
  some r0_2
def zft(zt:Int→Int→Int→Int→Int→Int→Int→Int→Int→Int→Int→Int→(List TEntry)→(List Int)→(List Bool)→(List Int)→(List Int)→(List TMsg)→Option Tmember)(to0 zbl zbm zbn zbo zbp zbq zbr zbs zbu zam zan:Int)(zbt:(List TEntry))(zao:(List Int))(zap:(List Bool))(zx zaq:(List Int))(zar:(List TMsg)):Option Tmember:=
  zt (IntKind.i64.wrap (to0 + (1:Int))) zbl zbm zbn zbo zbp zbq zbr zbs zbu zam zan zbt zao zap zx zaq zar
def zhf (zt:Int→Int→Int→Int→Int→Int→Int→Int→Int→Int→Int→Int→(List TEntry)→(List Int)→(List Bool)→(List Int)→(List Int)→(List TMsg)→Option Tmember)(to0 m_00 m_10 m_20 m_30 m_40 m_50 m_60 m_70 m_90 zd zf:Int)(m_80:(List TEntry))(ze:(List Int))(zg:(List Bool))(zb zh:(List Int))(zi:(List TMsg)):Option Tmember:=
  if (decide (to0≤m_10)) = true then
   if (decide (to0≠m_00)) = true then
    bnd (zee to0 (Tmember.mk (TRaft.mk m_00 m_10 m_20 m_30 m_40 m_50 (TLog.mk m_60 m_70 m_80) m_90 ze zg zb zh zd zf) zi)) fun r0=>
    zft zt to0 r0.Raft.Id r0.Raft.N r0.Raft.Term r0.Raft.Vote r0.Raft.Role r0.Raft.Lead r0.Raft.Log.Base r0.Raft.Log.BaseTerm r0.Raft.Commit r0.Raft.Clock r0.Raft.Wait r0.Raft.Log.Entries r0.Raft.Snap r0.Raft.Granted r0.Raft.Next r0.Raft.Match r0.f_out
   else
     zft zt to0 m_00 m_10 m_20 m_30 m_40 m_50 m_60 m_70 m_90 zd zf m_80 ze zg zb zh zi
  else
    some (Tmember.mk (TRaft.mk m_00 m_10 m_20 m_30 m_40 m_50 (TLog.mk m_60 m_70 m_80) m_90 ze zg zb zh zd zf) zi)
def zcf:Nat→Int→Int→Int→Int→Int→Int→Int→Int→Int→Int→Int→Int→(List TEntry)→(List Int)→(List Bool)→(List Int)→(List Int)→(List TMsg)→Option Tmember
  | 0,_,_,_,_,_,_,_,_,_,_,_,_,_,_,_,_,_,_=>none
  | n + 1,to0,m_00,m_10,m_20,m_30,m_40,m_50,m_60,m_70,m_90,zd,zf,m_80,ze,zg,zb,zh,zi=>zhf (zcf n) to0 m_00 m_10 m_20 m_30 m_40 m_50 m_60 m_70 m_90 zd zf m_80 ze zg zb zh zi
def zhg (m:Tmember):Option Tmember:=
  zcf (1000000) (1:Int) m.Raft.Id m.Raft.N m.Raft.Term m.Raft.Vote m.Raft.Role m.Raft.Lead m.Raft.Log.Base m.Raft.Log.BaseTerm m.Raft.Commit m.Raft.Clock m.Raft.Wait m.Raft.Log.Entries m.Raft.Snap m.Raft.Granted m.Raft.Next m.Raft.Match m.f_out
def zfu(zu:Int→Int→Int→Int→Int→Int→Int→Int→Int→(List TEntry)→Int→Int→Int→(List Int)→(List Bool)→(List Int)→(List Int)→(List TMsg)→Option Tmember)(to0 zbl zbm zbn zbo zbp zbq zbr zbs:Int)(zbt:(List TEntry))(zbu zam zan:Int)(zao:(List Int))(zap:(List Bool))(zx zaq:(List Int))(zar:(List TMsg)):Option Tmember:=
  zu (IntKind.i64.wrap (to0 + (1:Int))) zbl zbm zbn zbo zbp zbq zbr zbs zbt zbu zam zan zao zap zx zaq zar
def zhh (zu:Int→Int→Int→Int→Int→Int→Int→Int→Int→(List TEntry)→Int→Int→Int→(List Int)→(List Bool)→(List Int)→(List Int)→(List TMsg)→Option Tmember)(to0 m_00 m_10 m_20 m_30 m_40 m_50 m_60 m_70:Int)(m_80:(List TEntry))(m_90 zd zf:Int)(ze:(List Int))(zg:(List Bool))(zb zh:(List Int))(zi:(List TMsg)):Option Tmember:=
  if (decide (to0≤m_10)) = true then
   if (decide (to0≠m_00)) = true then
    bnd (zau to0 (Tmember.mk (TRaft.mk m_00 m_10 m_20 m_30 m_40 m_50 (TLog.mk m_60 m_70 m_80) m_90 ze zg zb zh zd zf) zi)) fun r0=>
    zfu zu to0 r0.Raft.Id r0.Raft.N r0.Raft.Term r0.Raft.Vote r0.Raft.Role r0.Raft.Lead r0.Raft.Log.Base r0.Raft.Log.BaseTerm r0.Raft.Log.Entries r0.Raft.Commit r0.Raft.Clock r0.Raft.Wait r0.Raft.Snap r0.Raft.Granted r0.Raft.Next r0.Raft.Match r0.f_out
   else
     zfu zu to0 m_00 m_10 m_20 m_30 m_40 m_50 m_60 m_70 m_80 m_90 zd zf ze zg zb zh zi
  else
    some (Tmember.mk (TRaft.mk m_00 m_10 m_20 m_30 m_40 m_50 (TLog.mk m_60 m_70 m_80) m_90 ze zg zb zh zd zf) zi)
def zcg:Nat→Int→Int→Int→Int→Int→Int→Int→Int→Int→(List TEntry)→Int→Int→Int→(List Int)→(List Bool)→(List Int)→(List Int)→(List TMsg)→Option Tmember
  | 0,_,_,_,_,_,_,_,_,_,_,_,_,_,_,_,_,_,_=>none
  | n + 1,to0,m_00,m_10,m_20,m_30,m_40,m_50,m_60,m_70,m_80,m_90,zd,zf,ze,zg,zb,zh,zi=>zhh (zcg n) to0 m_00 m_10 m_20 m_30 m_40 m_50 m_60 m_70 m_80 m_90 zd zf ze zg zb zh zi
def zfi (m:Tmember):Option Tmember:=
  zcg (1000000) (1:Int) m.Raft.Id m.Raft.N m.Raft.Term m.Raft.Vote m.Raft.Role m.Raft.Lead m.Raft.Log.Base m.Raft.Log.BaseTerm m.Raft.Log.Entries m.Raft.Commit m.Raft.Clock m.Raft.Wait m.Raft.Snap m.Raft.Granted m.Raft.Next m.Raft.Match m.f_out
def zgo (to0:Int)(m:Tmember)(x_0 x_5 x_6:Int)(x_9:(List TEntry))(x_10:(List Int)):Option Tmember:=
  bnd (zcb to0 (TMsg.mk x_0 (0:Int) (0:Int) (0:Int) m.Raft.Term x_5 x_6 m.Raft.Commit false x_9 x_10) m) fun r0_2=>
  some r0_2
def zep (to0:Int)(m:Tmember):Option Tmember:=
  bnd (nthI m.Raft.Next (IntKind.i64.wrap (to0 - (1:Int)))) fun e=>
  if (decide (e≤m.Raft.Log.Base)) = true then
   if (capB (m.Raft.Snap).length) = true then
    zgo to0 m (7:Int) m.Raft.Log.Base m.Raft.Log.BaseTerm ([]) m.Raft.Snap
    else none
  else
    bnd (zbk m.Raft.Log (IntKind.i64.wrap (e - (1:Int)))) fun r0=>
    bnd (zit m.Raft.Log e (8:Int)) fun r0_1=>
    zgo to0 m (5:Int) (IntKind.i64.wrap (e - (1:Int))) r0.1 r0_1 ([])
def zdv (lead:Int)(m:Tmember)(m_20 m_30:Int):Option Tmember:=
  some (Tmember.mk (TRaft.mk m.Raft.Id m.Raft.N m_20 m_30 (0:Int) lead m.Raft.Log m.Raft.Commit m.Raft.Snap ([]) ([]) ([]) m.Raft.Clock m.Raft.Wait) m.f_out)
def zal (term:Int)(lead:Int)(m:Tmember):Option Tmember:=
  if (decide (m.Raft.Term < term)) = true then
   zdv lead m term (0:Int)
  else
    zdv lead m m.Raft.Term m.Raft.Vote
def zgp (n0:Int):Option Int:=
  if (decide (n0 < (1:Int))) = true then
   some (0:Int)
  else
    some (IntKind.i64.wrap ((IntKind.i64.wrap (n0.tdiv (2:Int))) + (1:Int)))
def zkd (l:(List Bool))(n0_1:Int):Option Bool:=
  if (decide ((0:Int) < (l.length:Int))) = true then
   bnd (zgp (l.length:Int)) fun r0=>
   some (decide (r0≤n0_1))
  else
    some false
def zgy (l:(List Bool))(zfx:Int→Int→Option Bool)(n0 v8:Int):Option Bool:=
  if (decide (v8 < (l.length:Int))) = true then
   bnd (nthI l v8) fun e=>
   if e=true then
    zfx (IntKind.i64.wrap (n0 + (1:Int))) (IntKind.i64.wrap (v8 + (1:Int)))
   else
     zfx n0 (IntKind.i64.wrap (v8 + (1:Int)))
  else
    zkd l n0
def zec (l:(List Bool)):Nat→Int→Int→Option Bool
  | 0,_,_=>none
  | n + 1,n0,v8=>zgy l (zec l n) n0 v8
def zja (l:(List Bool)):Option Bool:=
  zec l ((((l.length:Int)) - ((0:Int))).toNat + 1) (0:Int) (0:Int)
def zbh (who:Int)(m:Tmember):Option (Bool × Tmember):=
  bnd (nthI m.Raft.Granted (IntKind.i64.wrap (who - (1:Int)))) fun e=>
  bnd (zja (setI m.Raft.Granted (IntKind.i64.wrap (who - (1:Int))) true)) fun r0=>
  some (r0,(Tmember.mk (TRaft.mk m.Raft.Id m.Raft.N m.Raft.Term m.Raft.Vote m.Raft.Role m.Raft.Lead m.Raft.Log m.Raft.Commit m.Raft.Snap (setI m.Raft.Granted (IntKind.i64.wrap (who - (1:Int))) true) m.Raft.Next m.Raft.Match m.Raft.Clock m.Raft.Wait) m.f_out))
def zel (lead:Int)(m:Tmember)(m_20 m_30:Int):Option Tmember:=
  some (Tmember.mk (TRaft.mk m.Raft.Id m.Raft.N m_20 m_30 (0:Int) lead m.Raft.Log m.Raft.Commit m.Raft.Snap ([]) ([]) ([]) m.Raft.Clock m.Raft.Wait) m.f_out)
def zch (term:Int)(lead:Int)(m:Tmember):Option Tmember:=
  if (decide (m.Raft.Term < term)) = true then
   zel lead m term (0:Int)
  else
    zel lead m m.Raft.Term m.Raft.Vote
def zio (x0:Int):Option Bool:=
  some (decide (x0≠x0))
def zjb (x0:Int)(y:Int):Option Bool:=
  bnd (zio x0) fun r0=>
  if r0=true then
   bnd (zio y) fun r0_1=>
   if r0_1=true then
    some (decide (x0 < y))
   else
     some true
  else
    some (decide (x0 < y))
def zas(za:Int→(List Int)→Option (List Int))(i:Int)(data_3:(List Int)):Option (List Int):=
  za (IntKind.i64.wrap (i + (1:Int))) data_3
def zac(zm:Int→(List Int)→Option (List Int))(za:Int→(List Int)→Option (List Int))(i j:Int)(data_2:(List Int))(v30:Bool):Option (List Int):=
  if v30=true then
   bnd (nthI data_2 (IntKind.i64.wrap (j - (1:Int)))) fun e_2=>
   bnd (nthI data_2 j) fun e_3=>
   bnd (nthI (setI data_2 j e_2) (IntKind.i64.wrap (j - (1:Int)))) fun e_4=>
   zm (IntKind.i64.wrap (j - (1:Int))) (setI (setI data_2 j e_2) (IntKind.i64.wrap (j - (1:Int))) e_3)
  else
    zas za i data_2
def zag(za:Int→(List Int)→Option (List Int))(a i:Int)(zm:Int→(List Int)→Option (List Int))(j:Int)(data_2:(List Int)):Option (List Int):=
  if (decide (a < j)) = true then
   bnd (nthI data_2 j) fun e=>
   bnd (nthI data_2 (IntKind.i64.wrap (j - (1:Int)))) fun e_1=>
   bnd (zjb e e_1) fun r0=>
   zac zm za i j data_2 r0
  else
    zac zm za i j data_2 false
def zo(za:Int→(List Int)→Option (List Int))(a i:Int):Nat→Int→(List Int)→Option (List Int)
  | 0,_,_=>none
  | n + 1,j,data_2=>zag za a i (zo za a i n) j data_2
def zah (a b:Int)(za:Int→(List Int)→Option (List Int))(i:Int)(data_1:(List Int)):Option (List Int):=
  if (decide (i < b)) = true then
   zo za a i (1000000) i data_1
  else
    some data_1
def zn (a b:Int):Nat→Int→(List Int)→Option (List Int)
  | 0,_,_=>none
  | n + 1,i,data_1=>zah a b (zn a b n) i data_1
def zbc (data:(List Int))(a:Int)(b:Int):Option (List Int):=
  zn a b (((b) - ((IntKind.i64.wrap (a + (1:Int))))).toNat + 1) (IntKind.i64.wrap (a + (1:Int))) data
def zck (data:(List Int))(a b limit:Int)(zdz:Option (List Int)):Option (List Int):=
  if (decide ((IntKind.i64.wrap (b - a))≤(12:Int))) = true then
   bnd (zbc data a b) fun r0=>
   if (decide ((r0).length=(data).length)) = true then
    some r0
    else none
  else
    if (decide (limit=(0:Int))) = true then none else none
def zad (data:(List Int))(a b limit:Int):Nat→Option (List Int)
  | 0=>none
  | n + 1=>zck data a b limit (zad data a b limit n)
def zed (data:(List Int))(a:Int)(b:Int)(limit:Int):Option (List Int):=
  zad data a b limit (1000000)
def zfj (x0_3 n0_2:Int):Option Int:=
  bnd (nthS (⟨#[0,1,2,2,3,3,3,3,4,4,4,4,4,4,4,4,5,5,5,5,5,5,5,5,5,5,5,5,5,5,5,5,6,6,6,6,6,6,6,6,6,6,6,6,6,6,6,6,6,6,6,6,6,6,6,6,6,6,6,6,6,6,6,6,7,7,7,7,7,7,7,7,7,7,7,7,7,7,7,7,7,7,7,7,7,7,7,7,7,7,7,7,7,7,7,7,7,7,7,7,7,7,7,7,7,7,7,7,7,7,7,7,7,7,7,7,7,7,7,7,7,7,7,7,7,7,7,7,8,8,8,8,8,8,8,8,8,8,8,8,8,8,8,8,8,8,8,8,8,8,8,8,8,8,8,8,8,8,8,8,8,8,8,8,8,8,8,8,8,8,8,8,8,8,8,8,8,8,8,8,8,8,8,8,8,8,8,8,8,8,8,8,8,8,8,8,8,8,8,8,8,8,8,8,8,8,8,8,8,8,8,8,8,8,8,8,8,8,8,8,8,8,8,8,8,8,8,8,8,8,8,8,8,8,8,8,8,8,8,8,8,8,8,8,8,8,8,8,8,8,8,8,8,8,8,8]⟩) (IntKind.u8.wrap x0_3)) fun c=>
  some (IntKind.i64.wrap (n0_2 + (IntKind.i64.wrap c)))
def zfk (x0_2 n0_1:Int):Option Int:=
  if (decide ((256:Int)≤x0_2)) = true then
   zfj (shrI .u64 x0_2 (8:Int)) (IntKind.i64.wrap (n0_1 + (8:Int)))
  else
    zfj x0_2 n0_1
def zfl (x0_1 n0:Int):Option Int:=
  if (decide ((65536:Int)≤x0_1)) = true then
   zfk (shrI .u64 x0_1 (16:Int)) (IntKind.i64.wrap (n0 + (16:Int)))
  else
    zfk x0_1 n0
def ziw (x0:Int):Option Int:=
  if (decide ((4294967296:Int)≤x0)) = true then
   zfl (shrI .u64 x0 (32:Int)) (32:Int)
  else
    zfl x0 (0:Int)
def zip (x0:Int):Option Int:=
  bnd (ziw x0) fun r0=>
  some r0
def zeq (x0:(List Int)):Option (List Int):=
  bnd (zip (IntKind.u64.wrap ((x0.length:Nat):Int))) fun r0=>
  bnd (zed x0 (0:Int) ((x0.length:Nat):Int) r0) fun r0_1=>
  if (decide ((r0_1).length=(x0).length)) = true then
   some r0_1
   else none
def zfy (l:(List Int))(n0:Int)(v15:Bool):Option (Int × Bool):=
  if v15=true then
   some ((0:Int),false)
  else
    if (capB (l).length) = true then
     bnd (zeq l) fun r0=>
     if (decide ((r0).length=(l).length)) = true then
      bnd (nthI r0 (IntKind.i64.wrap ((((l).length:Nat):Int) - n0))) fun e=>
      some (e,true)
      else none
     else none
def zjl (l:(List Int))(n0:Int):Option (Int × Bool):=
  if (decide (n0 < (1:Int))) = true then
   zfy l n0 true
  else
    zfy l n0 (decide ((l.length:Int) < n0))
def zdj (l:(List Int)):Option Int:=
  bnd (zgp (l.length:Int)) fun r0=>
  bnd (zjl l r0) fun r0_1=>
  some r0_1.1
def zci (m:Tmember)(r0:Int)(v39:Bool):Option Tmember:=
  if v39=true then
   some (Tmember.mk (TRaft.mk m.Raft.Id m.Raft.N m.Raft.Term m.Raft.Vote m.Raft.Role m.Raft.Lead m.Raft.Log r0 m.Raft.Snap m.Raft.Granted m.Raft.Next m.Raft.Match m.Raft.Clock m.Raft.Wait) m.f_out)
  else
    some m
def zdo (m:Tmember):Option Tmember:=
  bnd (zdj m.Raft.Match) fun r0=>
  bnd (zbk m.Raft.Log r0) fun r0_1=>
  if r0_1.2=true then
   if (decide (m.Raft.Commit < r0)) = true then
    zci m r0 (decide (r0_1.1=m.Raft.Term))
   else
     zci m r0 false
  else
    zci m r0 false
def zgt (l:TLog)(e:TEntry):Option TLog:=
  bnd (zei l) fun r0=>
  if (capB (e.Data).length) = true then
   if (capB ((r0.Entries).length + 1)) = true then
    some (TLog.mk r0.Base r0.BaseTerm (r0.Entries++[e]))
    else none
   else none
def zdp (m:Tmember):Option Tmember:=
  bnd (zgt m.Raft.Log (TEntry.mk m.Raft.Term ([]))) fun r0=>
  bnd (zae r0) fun r0_1=>
  bnd (nthI m.Raft.Match (IntKind.i64.wrap (m.Raft.Id - (1:Int)))) fun e=>
  bnd (zdo (Tmember.mk (TRaft.mk m.Raft.Id m.Raft.N m.Raft.Term m.Raft.Vote m.Raft.Role m.Raft.Lead r0 m.Raft.Commit m.Raft.Snap m.Raft.Granted m.Raft.Next (setI m.Raft.Match (IntKind.i64.wrap (m.Raft.Id - (1:Int))) r0_1) m.Raft.Clock m.Raft.Wait) m.f_out)) fun r0_2=>
  bnd (zfg r0_2) fun r0_3=>
  some r0_3
def zdb (r0:Tmember)(zx:(List Int)):Option Tmember:=
  bnd (zdp (Tmember.mk (TRaft.mk r0.Raft.Id r0.Raft.N r0.Raft.Term r0.Raft.Vote (3:Int) r0.Raft.Lead r0.Raft.Log r0.Raft.Commit r0.Raft.Snap r0.Raft.Granted zx (List.replicate r0.Raft.N.toNat (0:Int)) (0:Int) r0.Raft.Wait) r0.f_out)) fun r0_2=>
  some r0_2
def zcj (r0:Tmember)(zfc:Int→(List Int)→Option Tmember)(v49:Int)(zb:(List Int)):Option Tmember:=
  if (decide (v49 < ((r0.Raft.N.toNat:Nat):Int))) = true then
   bnd (zae r0.Raft.Log) fun r0_1=>
   bnd (nthI zb v49) fun e=>
   zfc (IntKind.i64.wrap (v49 + (1:Int))) (setI zb v49 (IntKind.i64.wrap (r0_1 + (1:Int))))
  else
    zdb r0 zb
def zw (r0:Tmember):Nat→Int→(List Int)→Option Tmember
  | 0,_,_=>none
  | n + 1,v49,zb=>zcj r0 (zw r0 n) v49 zb
def zcc (m:Tmember):Option Tmember:=
  bnd (zch m.Raft.Term m.Raft.Id m) fun r0=>
  if (mkB r0.Raft.N) = true then
   zw r0 (((((r0.Raft.N.toNat:Nat):Int)) - ((0:Int))).toNat + 1) (0:Int) (List.replicate r0.Raft.N.toNat (0:Int))
   else none
def zef (m:Tmember):Option Tmember:=
  bnd (zch (IntKind.i64.wrap (m.Raft.Term + (1:Int))) (0:Int) m) fun r0=>
  if (mkB r0.Raft.N) = true then
   bnd (zbh r0.Raft.Id (Tmember.mk (TRaft.mk r0.Raft.Id r0.Raft.N r0.Raft.Term r0.Raft.Id (2:Int) r0.Raft.Lead r0.Raft.Log r0.Raft.Commit r0.Raft.Snap (List.replicate r0.Raft.N.toNat false) r0.Raft.Next r0.Raft.Match (0:Int) r0.Raft.Wait) r0.f_out)) fun r0_1=>
   if r0_1.1=true then
    bnd (zcc r0_1.2) fun r0_2=>
    some r0_2
   else
     bnd (zfh r0_1.2) fun r0_3=>
     some r0_3
   else none
def zll (draw:Int):Option Int:=
  some (IntKind.i64.wrap ((10:Int) + (IntKind.i64.wrap ((IntKind.u64.wrap draw).tmod (10:Int)))))
def zfm (draw:Int)(m:Tmember):Option Tmember:=
  bnd (zal m.Raft.Term (0:Int) m) fun r0=>
  bnd (zll draw) fun r0_1=>
  if (mkB r0.Raft.N) = true then
   bnd (zbh r0.Raft.Id (Tmember.mk (TRaft.mk r0.Raft.Id r0.Raft.N r0.Raft.Term r0.Raft.Vote (1:Int) r0.Raft.Lead r0.Raft.Log r0.Raft.Commit r0.Raft.Snap (List.replicate r0.Raft.N.toNat false) r0.Raft.Next r0.Raft.Match (0:Int) r0_1) r0.f_out)) fun r0_2=>
   if r0_2.1=true then
    bnd (zef r0_2.2) fun r0_3=>
    some r0_3
   else
     bnd (zhg r0_2.2) fun r0_4=>
     some r0_4
   else none
def zgf (m:Tmember):Option (TRaft × (List TMsg)):=
  some (m.Raft,m.f_out)
def zjc (m:Tmember):Option (TRaft × (List TMsg)):=
  some (m.Raft,m.f_out)
def zcp (m:Tmember)(r0:Int)(v39:Bool):Option Tmember:=
  if v39=true then
   some (Tmember.mk (TRaft.mk m.Raft.Id m.Raft.N m.Raft.Term m.Raft.Vote m.Raft.Role m.Raft.Lead m.Raft.Log r0 m.Raft.Snap m.Raft.Granted m.Raft.Next m.Raft.Match m.Raft.Clock m.Raft.Wait) m.f_out)
  else
    some m
def zdw (m:Tmember):Option Tmember:=
  bnd (zdj m.Raft.Match) fun r0=>
  bnd (zbk m.Raft.Log r0) fun r0_1=>
  if r0_1.2=true then
   if (decide (m.Raft.Commit < r0)) = true then
    zcp m r0 (decide (r0_1.1=m.Raft.Term))
   else
     zcp m r0 false
  else
    zcp m r0 false
def zfv (data:(List Int))(m:Tmember):Option Tmember:=
  bnd (zgt m.Raft.Log (TEntry.mk m.Raft.Term data)) fun r0=>
  bnd (zae r0) fun r0_1=>
  bnd (nthI m.Raft.Match (IntKind.i64.wrap (m.Raft.Id - (1:Int)))) fun e=>
  bnd (zdw (Tmember.mk (TRaft.mk m.Raft.Id m.Raft.N m.Raft.Term m.Raft.Vote m.Raft.Role m.Raft.Lead r0 m.Raft.Commit m.Raft.Snap m.Raft.Granted m.Raft.Next (setI m.Raft.Match (IntKind.i64.wrap (m.Raft.Id - (1:Int))) r0_1) m.Raft.Clock m.Raft.Wait) m.f_out)) fun r0_2=>
  bnd (zfi r0_2) fun r0_3=>
  some r0_3
def zby (to0:Int)(x0:TMsg)(m:Tmember):Option Tmember:=
  if (capB ((m.f_out).length + 1)) = true then
   some (Tmember.mk m.Raft (m.f_out++[(TMsg.mk x0.Kind x0.Group m.Raft.Id to0 x0.Term x0.At x0.AtTerm x0.Commit x0.Ok ([]) ([]))]))
   else none
def zhu (l:TLog)(term:Int)(at0:Int):Option Bool:=
  bnd (zeb l) fun r0=>
  if (decide (r0 < term)) = true then
   some true
  else
    if (decide (term=r0)) = true then
     bnd (zae l) fun r0_1=>
     some (decide (r0_1≤at0))
    else
      some false
def zcs (x0:TMsg)(m:Tmember)(ok_1:Bool)(term:Int):Option Tmember:=
  bnd (zby x0.From (TMsg.mk (2:Int) (0:Int) (0:Int) (0:Int) term (0:Int) (0:Int) (0:Int) ok_1 ([]) ([])) m) fun r0_1=>
  some r0_1
def zbv (x0:TMsg)(m:Tmember)(ok:Bool):Option Tmember:=
  if ok=true then
   zcs x0 m true x0.Term
  else
    zcs x0 m false m.Raft.Term
def zbw (x0:TMsg)(m:Tmember)(free:Bool):Option Tmember:=
  if (decide (m.Raft.Term < x0.Term)) = true then
   if free=true then
    bnd (zhu m.Raft.Log x0.AtTerm x0.At) fun r0=>
    zbv x0 m r0
   else
     zbv x0 m false
  else
    zbv x0 m false
def zeg (x0:TMsg)(m:Tmember):Option Tmember:=
  if (decide (m.Raft.Role≠(3:Int))) = true then
   if (decide (m.Raft.Lead=(0:Int))) = true then
    zbw x0 m true
   else
     zbw x0 m (decide ((10:Int)≤m.Raft.Clock))
  else
    zbw x0 m false
def zbx (who:Int)(m:Tmember):Option (Bool × Tmember):=
  bnd (nthI m.Raft.Granted (IntKind.i64.wrap (who - (1:Int)))) fun e=>
  bnd (zja (setI m.Raft.Granted (IntKind.i64.wrap (who - (1:Int))) true)) fun r0=>
  some (r0,(Tmember.mk (TRaft.mk m.Raft.Id m.Raft.N m.Raft.Term m.Raft.Vote m.Raft.Role m.Raft.Lead m.Raft.Log m.Raft.Commit m.Raft.Snap (setI m.Raft.Granted (IntKind.i64.wrap (who - (1:Int))) true) m.Raft.Next m.Raft.Match m.Raft.Clock m.Raft.Wait) m.f_out))
def zej (m:Tmember):Option Tmember:=
  bnd (zal (IntKind.i64.wrap (m.Raft.Term + (1:Int))) (0:Int) m) fun r0=>
  if (mkB r0.Raft.N) = true then
   bnd (zbh r0.Raft.Id (Tmember.mk (TRaft.mk r0.Raft.Id r0.Raft.N r0.Raft.Term r0.Raft.Id (2:Int) r0.Raft.Lead r0.Raft.Log r0.Raft.Commit r0.Raft.Snap (List.replicate r0.Raft.N.toNat false) r0.Raft.Next r0.Raft.Match (0:Int) r0.Raft.Wait) r0.f_out)) fun r0_1=>
   if r0_1.1=true then
    bnd (zcc r0_1.2) fun r0_2=>
    some r0_2
   else
     bnd (zfh r0_1.2) fun r0_3=>
     some r0_3
   else none
def zer (x0:TMsg)(m:Tmember)(ok_1:Bool)(m_30 zd:Int):Option Tmember:=
  bnd (zby x0.From (TMsg.mk (4:Int) (0:Int) (0:Int) (0:Int) m.Raft.Term (0:Int) (0:Int) (0:Int) ok_1 ([]) ([])) (Tmember.mk (TRaft.mk m.Raft.Id m.Raft.N m.Raft.Term m_30 m.Raft.Role m.Raft.Lead m.Raft.Log m.Raft.Commit m.Raft.Snap m.Raft.Granted m.Raft.Next m.Raft.Match zd m.Raft.Wait) m.f_out)) fun r0_2=>
  some r0_2
def zaf (x0:TMsg)(m:Tmember)(ok:Bool):Option Tmember:=
  if ok=true then
   zer x0 m true x0.From (0:Int)
  else
    zer x0 m false m.Raft.Vote m.Raft.Clock
def zes (x0:TMsg)(m:Tmember):Option Tmember:=
  if (decide (x0.Term=m.Raft.Term)) = true then
   if (decide (m.Raft.Role=(0:Int))) = true then
    if (decide (m.Raft.Vote=(0:Int))) = true then
     bnd (zhu m.Raft.Log x0.AtTerm x0.At) fun r0=>
     zaf x0 m r0
    else
      if (decide (m.Raft.Vote=x0.From)) = true then
       bnd (zhu m.Raft.Log x0.AtTerm x0.At) fun r0_1=>
       zaf x0 m r0_1
      else
        zaf x0 m false
   else
     zaf x0 m false
  else
    zaf x0 m false
def zhv (r0:Tmember)(zx:(List Int)):Option Tmember:=
  bnd (zdp (Tmember.mk (TRaft.mk r0.Raft.Id r0.Raft.N r0.Raft.Term r0.Raft.Vote (3:Int) r0.Raft.Lead r0.Raft.Log r0.Raft.Commit r0.Raft.Snap r0.Raft.Granted zx (List.replicate r0.Raft.N.toNat (0:Int)) (0:Int) r0.Raft.Wait) r0.f_out)) fun r0_2=>
  some r0_2
def zem (r0:Tmember)(zdq:Int→(List Int)→Option Tmember)(v49:Int)(zb:(List Int)):Option Tmember:=
  if (decide (v49 < ((r0.Raft.N.toNat:Nat):Int))) = true then
   bnd (zae r0.Raft.Log) fun r0_1=>
   bnd (nthI zb v49) fun e=>
   zdq (IntKind.i64.wrap (v49 + (1:Int))) (setI zb v49 (IntKind.i64.wrap (r0_1 + (1:Int))))
  else
    zhv r0 zb
def zat (r0:Tmember):Nat→Int→(List Int)→Option Tmember
  | 0,_,_=>none
  | n + 1,v49,zb=>zem r0 (zat r0 n) v49 zb
def zdc (m:Tmember):Option Tmember:=
  bnd (zal m.Raft.Term m.Raft.Id m) fun r0=>
  if (mkB r0.Raft.N) = true then
   zat r0 (((((r0.Raft.N.toNat:Nat):Int)) - ((0:Int))).toNat + 1) (0:Int) (List.replicate r0.Raft.N.toNat (0:Int))
   else none
def zdd (to0:Int)(x0:TMsg)(m:Tmember):Option Tmember:=
  if (capB ((m.f_out).length + 1)) = true then
   some (Tmember.mk m.Raft (m.f_out++[(TMsg.mk x0.Kind x0.Group m.Raft.Id to0 x0.Term x0.At x0.AtTerm x0.Commit x0.Ok ([]) ([]))]))
   else none
def zde (x0:TMsg)(m:Tmember)(v20:Bool):Option (Bool × Tmember):=
  if v20=true then
   bnd (zby x0.From (TMsg.mk (6:Int) (0:Int) (0:Int) (0:Int) m.Raft.Term (0:Int) (0:Int) (0:Int) false ([]) ([])) m) fun r0=>
   some (false,r0)
  else
    bnd (zal x0.Term x0.From m) fun r0_1=>
    some (true,(Tmember.mk (TRaft.mk r0_1.Raft.Id r0_1.Raft.N r0_1.Raft.Term r0_1.Raft.Vote r0_1.Raft.Role r0_1.Raft.Lead r0_1.Raft.Log r0_1.Raft.Commit r0_1.Raft.Snap r0_1.Raft.Granted r0_1.Raft.Next r0_1.Raft.Match (0:Int) r0_1.Raft.Wait) r0_1.f_out))
def zet (x0:TMsg)(m:Tmember):Option (Bool × Tmember):=
  if (decide (x0.Term < m.Raft.Term)) = true then
   zde x0 m true
  else
    zde x0 m (decide (m.Raft.Role=(3:Int)))
def zik (at0_1:Int)(entries_1:(List TEntry))(r0_7:TLog)(out_2_1:(List TEntry)):Option (TLog × Int × Bool):=
  some ((TLog.mk r0_7.Base r0_7.BaseTerm out_2_1),(IntKind.i64.wrap (at0_1 + (entries_1.length:Int))),true)
def zil (at0_1:Int)(entries_1:(List TEntry))(r0_7:TLog)(v97:Int)(out_2:(List TEntry)):Option (TLog × Int × Bool):=
  bnd (sliceL entries_1 v97 entries_1.length) fun l_3=>
  bnd (zfp l_3) fun r0_8=>
  if (capB (out_2.length + r0_8.length)) = true then
   zik at0_1 entries_1 r0_7 (out_2++r0_8)
   else none
def ziq (l:TLog)(at0_1:Int)(entries_1:(List TEntry))(r0_7:TLog)(zix:Int→Option (TLog × Int × Bool))(v97:Int):Option (TLog × Int × Bool):=
  if (decide (v97 < (entries_1.length:Int))) = true then
   bnd (nthI entries_1 v97) fun e=>
   if (decide ((IntKind.i64.wrap ((IntKind.i64.wrap (at0_1 + v97)) - l.Base)) < (((r0_7.Entries).length:Nat):Int))) = true then
    bnd (nthI r0_7.Entries (IntKind.i64.wrap ((IntKind.i64.wrap (at0_1 + v97)) - l.Base))) fun e_1=>
    if (decide (e_1.Term=e.Term)) = true then
     zix (IntKind.i64.wrap (v97 + (1:Int)))
    else
      bnd (sliceL r0_7.Entries 0 (IntKind.i64.wrap ((IntKind.i64.wrap (at0_1 + v97)) - l.Base))) fun l_2=>
      zil at0_1 entries_1 r0_7 v97 l_2
   else
     zil at0_1 entries_1 r0_7 v97 r0_7.Entries
  else
    zik at0_1 entries_1 r0_7 r0_7.Entries
def zfq (l:TLog)(at0_1:Int)(entries_1:(List TEntry))(r0_7:TLog):Nat→Int→Option (TLog × Int × Bool)
  | 0,_=>none
  | n + 1,v97=>ziq l at0_1 entries_1 r0_7 (zfq l at0_1 entries_1 r0_7 n) v97
def zjq (l:TLog)(hint_1:Int):Option (TLog × Int × Bool):=
  bnd (zei l) fun r0_6=>
  some (r0_6,(if hint_1 < l.Base then l.Base else hint_1),false)
def zbd(zaz:Int→Int→Bool→Option (TLog × Int × Bool))(l:TLog)(hint:Int)(v78:Bool):Option (TLog × Int × Bool):=
  if v78=true then
   bnd (zbk l (IntKind.i64.wrap (hint - (1:Int)))) fun r0_5=>
   zaz (IntKind.i64.wrap (hint - (1:Int))) r0_5.1 r0_5.2
  else
    zjq l hint
def zgq (l:TLog)(r0_1:(Int × Bool))(zaz:Int→Int→Bool→Option (TLog × Int × Bool))(hint t:Int)(ok:Bool):Option (TLog × Int × Bool):=
  if ok=true then
   if (decide (t=r0_1.1)) = true then
    zbd zaz l hint (decide (l.Base < hint))
   else
     zbd zaz l hint false
  else
    zbd zaz l hint false
def zaj (l:TLog)(r0_1:(Int × Bool)):Nat→Int→Int→Bool→Option (TLog × Int × Bool)
  | 0,_,_,_=>none
  | n + 1,hint,t,ok=>zgq l r0_1 (zaj l r0_1 n) hint t ok
def zim (l:TLog)(at0_1 term_1:Int)(entries_1:(List TEntry)):Option (TLog × Int × Bool):=
  bnd (zbk l at0_1) fun r0_1=>
  if r0_1.2=true then
   if (decide (r0_1.1≠term_1)) = true then
    bnd (zbk l (IntKind.i64.wrap (at0_1 - (1:Int)))) fun r0_4=>
    zaj l r0_1 (1000000) (IntKind.i64.wrap (at0_1 - (1:Int))) r0_4.1 r0_4.2
   else
     bnd (zei l) fun r0_7=>
     zfq l at0_1 entries_1 r0_7 ((((entries_1.length:Int)) - ((0:Int))).toNat + 1) (0:Int)
  else
    bnd (zei l) fun r0_2=>
    bnd (zae l) fun r0_3=>
    some (r0_2,r0_3,false)
def zly (l:TLog)(at0:Int)(term:Int)(entries:(List TEntry)):Option (TLog × Int × Bool):=
  if (decide (at0 < l.Base)) = true then
   if (decide ((entries.length:Int) < (IntKind.i64.wrap (l.Base - at0)))) = true then
    bnd (zei l) fun r0=>
    some (r0,l.Base,true)
   else
     bnd (sliceL entries (IntKind.i64.wrap (l.Base - at0)) entries.length) fun l_1=>
     zim l l.Base l.BaseTerm l_1
  else
    zim l at0 term entries
def zbz (x0:TMsg)(r0:(Bool × Tmember))(r0_1:(TLog × Int × Bool))(ok:Bool)(m_60 m_70:Int)(m_80:(List TEntry))(m_90:Int):Option Tmember:=
  bnd (zdd x0.From (TMsg.mk (6:Int) (0:Int) (0:Int) (0:Int) r0.2.Raft.Term r0_1.2.1 (0:Int) (0:Int) ok ([]) ([])) (Tmember.mk (TRaft.mk r0.2.Raft.Id r0.2.Raft.N r0.2.Raft.Term r0.2.Raft.Vote r0.2.Raft.Role r0.2.Raft.Lead (TLog.mk m_60 m_70 m_80) m_90 r0.2.Raft.Snap r0.2.Raft.Granted r0.2.Raft.Next r0.2.Raft.Match r0.2.Raft.Clock r0.2.Raft.Wait) r0.2.f_out)) fun r0_2=>
  some r0_2
def zdf (x0:TMsg)(m:Tmember):Option Tmember:=
  bnd (zet x0 m) fun r0=>
  if r0.1=true then
   bnd (zly r0.2.Raft.Log x0.At x0.AtTerm x0.Entries) fun r0_1=>
   if r0_1.2.2=true then
    zbz x0 r0 r0_1 true r0_1.1.Base r0_1.1.BaseTerm r0_1.1.Entries (if r0.2.Raft.Commit < (if r0_1.2.1 < x0.Commit then r0_1.2.1 else x0.Commit) then (if r0_1.2.1 < x0.Commit then r0_1.2.1 else x0.Commit) else r0.2.Raft.Commit)
   else
     zbz x0 r0 r0_1 false r0.2.Raft.Log.Base r0.2.Raft.Log.BaseTerm r0.2.Raft.Log.Entries r0.2.Raft.Commit
  else
    some r0.2
def zcq (m:Tmember)(r0:Int)(v39:Bool):Option Tmember:=
  if v39=true then
   some (Tmember.mk (TRaft.mk m.Raft.Id m.Raft.N m.Raft.Term m.Raft.Vote m.Raft.Role m.Raft.Lead m.Raft.Log r0 m.Raft.Snap m.Raft.Granted m.Raft.Next m.Raft.Match m.Raft.Clock m.Raft.Wait) m.f_out)
  else
    some m
def zdx (m:Tmember):Option Tmember:=
  bnd (zdj m.Raft.Match) fun r0=>
  bnd (zbk m.Raft.Log r0) fun r0_1=>
  if r0_1.2=true then
   if (decide (m.Raft.Commit < r0)) = true then
    zcq m r0 (decide (r0_1.1=m.Raft.Term))
   else
     zcq m r0 false
  else
    zcq m r0 false
def zdg (x0:TMsg)(m_00 m_10 m_20 m_30 m_40 m_50 m_60 m_70 m_90 zd zf:Int)(ze:(List Int))(zg:(List Bool))(zb zh:(List Int))(m_80:(List TEntry))(zi:(List TMsg)):Option Tmember:=
  bnd (zep x0.From (Tmember.mk (TRaft.mk m_00 m_10 m_20 m_30 m_40 m_50 (TLog.mk m_60 m_70 m_80) m_90 ze zg zb zh zd zf) zi)) fun r0_3=>
  some r0_3
def zbj (x0:TMsg)(m:Tmember)(v20:Bool):Option Tmember:=
  if v20=true then
   some m
  else
    if x0.Ok=true then
     bnd (nthI m.Raft.Match (IntKind.i64.wrap (x0.From - (1:Int)))) fun e=>
     bnd (zae m.Raft.Log) fun r0=>
     bnd (nthI m.Raft.Next (IntKind.i64.wrap (x0.From - (1:Int)))) fun e_1=>
     bnd (nthI (setI m.Raft.Match (IntKind.i64.wrap (x0.From - (1:Int))) (if e < (if r0 < x0.At then r0 else x0.At) then (if r0 < x0.At then r0 else x0.At) else e)) (IntKind.i64.wrap (x0.From - (1:Int)))) fun e_2=>
     bnd (zdx (Tmember.mk (TRaft.mk m.Raft.Id m.Raft.N m.Raft.Term m.Raft.Vote m.Raft.Role m.Raft.Lead m.Raft.Log m.Raft.Commit m.Raft.Snap m.Raft.Granted (setI m.Raft.Next (IntKind.i64.wrap (x0.From - (1:Int))) (if e_1 < (IntKind.i64.wrap (e_2 + (1:Int))) then (IntKind.i64.wrap (e_2 + (1:Int))) else e_1)) (setI m.Raft.Match (IntKind.i64.wrap (x0.From - (1:Int))) (if e < (if r0 < x0.At then r0 else x0.At) then (if r0 < x0.At then r0 else x0.At) else e)) m.Raft.Clock m.Raft.Wait) m.f_out)) fun r0_1=>
     bnd (nthI r0_1.Raft.Next (IntKind.i64.wrap (x0.From - (1:Int)))) fun e_3=>
     bnd (zae r0_1.Raft.Log) fun r0_2=>
     if (decide (r0_2 < e_3)) = true then
      some r0_1
     else
       zdg x0 r0_1.Raft.Id r0_1.Raft.N r0_1.Raft.Term r0_1.Raft.Vote r0_1.Raft.Role r0_1.Raft.Lead r0_1.Raft.Log.Base r0_1.Raft.Log.BaseTerm r0_1.Raft.Commit r0_1.Raft.Clock r0_1.Raft.Wait r0_1.Raft.Snap r0_1.Raft.Granted r0_1.Raft.Next r0_1.Raft.Match r0_1.Raft.Log.Entries r0_1.f_out
    else
      bnd (nthI m.Raft.Match (IntKind.i64.wrap (x0.From - (1:Int)))) fun e_4=>
      bnd (nthI m.Raft.Next (IntKind.i64.wrap (x0.From - (1:Int)))) fun e_5=>
      zdg x0 m.Raft.Id m.Raft.N m.Raft.Term m.Raft.Vote m.Raft.Role m.Raft.Lead m.Raft.Log.Base m.Raft.Log.BaseTerm m.Raft.Commit m.Raft.Clock m.Raft.Wait m.Raft.Snap m.Raft.Granted (setI m.Raft.Next (IntKind.i64.wrap (x0.From - (1:Int))) (if (IntKind.i64.wrap (e_4 + (1:Int))) < (IntKind.i64.wrap ((if x0.At < (IntKind.i64.wrap (e_5 - (2:Int))) then x0.At else (IntKind.i64.wrap (e_5 - (2:Int)))) + (1:Int))) then (IntKind.i64.wrap ((if x0.At < (IntKind.i64.wrap (e_5 - (2:Int))) then x0.At else (IntKind.i64.wrap (e_5 - (2:Int)))) + (1:Int))) else (IntKind.i64.wrap (e_4 + (1:Int))))) m.Raft.Match m.Raft.Log.Entries m.f_out
def zeu (x0:TMsg)(m:Tmember):Option Tmember:=
  if (decide (x0.Term < m.Raft.Term)) = true then
   zbj x0 m true
  else
    zbj x0 m (decide (m.Raft.Role≠(3:Int)))
def zhr (l:TLog)(at0:Int):Option (TLog × Int):=
  bnd (zbk l at0) fun r0=>
  if r0.2=true then
   bnd (sliceL l.Entries (IntKind.i64.wrap (at0 - l.Base)) l.Entries.length) fun l_1=>
   bnd (zfp l_1) fun r0_1=>
   some ((TLog.mk at0 r0.1 r0_1),(0:Int))
  else
    some ((TLog.mk (0:Int) (0:Int) ([])),(2:Int))
def zir (l:TLog)(at0 term:Int)(v22:Bool):Option TLog:=
  if v22=true then
   bnd (zhr l at0) fun r0_1=>
   some r0_1.1
  else
    some (TLog.mk at0 term ([]))
def zkm (l:TLog)(at0:Int)(term:Int):Option TLog:=
  bnd (zbk l at0) fun r0=>
  if r0.2=true then
   zir l at0 term (decide (r0.1=term))
  else
    zir l at0 term false
def zdh (x0:TMsg)(r0:(Bool × Tmember))(m_60 m_70:Int)(m_80:(List TEntry))(m_90:Int)(ze:(List Int)):Option Tmember:=
  bnd (zdd x0.From (TMsg.mk (6:Int) (0:Int) (0:Int) (0:Int) r0.2.Raft.Term m_90 (0:Int) (0:Int) true ([]) ([])) (Tmember.mk (TRaft.mk r0.2.Raft.Id r0.2.Raft.N r0.2.Raft.Term r0.2.Raft.Vote r0.2.Raft.Role r0.2.Raft.Lead (TLog.mk m_60 m_70 m_80) m_90 ze r0.2.Raft.Granted r0.2.Raft.Next r0.2.Raft.Match r0.2.Raft.Clock r0.2.Raft.Wait) r0.2.f_out)) fun r0_2=>
  some r0_2
def zev (x0:TMsg)(m:Tmember):Option Tmember:=
  bnd (zet x0 m) fun r0=>
  if r0.1=true then
   if (decide (r0.2.Raft.Commit < x0.At)) = true then
    bnd (zkm r0.2.Raft.Log x0.At x0.AtTerm) fun r0_1=>
    if (capB (x0.Data).length) = true then
     zdh x0 r0 r0_1.Base r0_1.BaseTerm r0_1.Entries x0.At x0.Data
     else none
   else
     zdh x0 r0 r0.2.Raft.Log.Base r0.2.Raft.Log.BaseTerm r0.2.Raft.Log.Entries r0.2.Raft.Commit r0.2.Raft.Snap
  else
    some r0.2
def znc:Option Bool:=some true
def zgu (id n0:Int)(v20:Bool):Option (TRaft × Int):=
  if v20=true then
   some ((TRaft.mk (0:Int) (0:Int) (0:Int) (0:Int) (0:Int) (0:Int) (TLog.mk (0:Int) (0:Int) ([])) (0:Int) ([]) ([]) ([]) ([]) (0:Int) (0:Int)),(2:Int))
  else
    some ((TRaft.mk id n0 (0:Int) (0:Int) (0:Int) (0:Int) (TLog.mk (0:Int) (0:Int) ([])) (0:Int) ([]) ([]) ([]) ([]) (0:Int) (IntKind.i64.wrap ((10:Int) + id))),(0:Int))
def zkv (id:Int)(n0:Int):Option (TRaft × Int):=
  if (decide (n0 < (1:Int))) = true then
   zgu id n0 true
  else
    if (decide ((7:Int) < n0)) = true then
     zgu id n0 true
    else
      if (decide (id < (1:Int))) = true then
       zgu id n0 true
      else
        zgu id n0 (decide (n0 < id))
def zgr(zav:Int→Int→Option Int)(v39:Int)(e:TEntry)(v51:Bool):Option Int:=
  if v51=true then
   some (1:Int)
  else
    zav e.Term (IntKind.i64.wrap (v39 + (1:Int)))
def zgz (l:TLog)(zav:Int→Int→Option Int)(term v39:Int):Option Int:=
  if (decide (v39 < (l.Entries.length:Int))) = true then
   bnd (nthI l.Entries v39) fun e=>
   if (decide (e.Term < term)) = true then
    zgr zav v39 e true
   else
     zgr zav v39 e (decide ((1099511627776:Int) < e.Term))
  else
    some (0:Int)
def zcx (l:TLog):Nat→Int→Int→Option Int
  | 0,_,_=>none
  | n + 1,term,v39=>zgz l (zcx l n) term v39
def zcy (l:TLog)(v32:Bool):Option Int:=
  if v32=true then
   some (1:Int)
  else
    zcx l ((((l.Entries.length:Int)) - ((0:Int))).toNat + 1) (if l.BaseTerm < (1:Int) then (1:Int) else l.BaseTerm) (0:Int)
def zkn (l:TLog):Option Int:=
  if (decide (l.Base < (0:Int))) = true then
   zcy l true
  else
    if (decide ((1099511627776:Int) < l.Base)) = true then
     zcy l true
    else
      if (decide (l.BaseTerm < (0:Int))) = true then
       zcy l true
      else
        if (decide ((1099511627776:Int) < l.BaseTerm)) = true then
         zcy l true
        else
          zcy l (!(((decide (l.Base=(0:Int))) == (decide (l.BaseTerm=(0:Int))))))
def zba (term vote:Int)(l:TLog)(snap:(List Int))(r0:(TRaft × Int))(v27:Bool):Option (TRaft × Int):=
  if v27=true then
   some ((TRaft.mk (0:Int) (0:Int) (0:Int) (0:Int) (0:Int) (0:Int) (TLog.mk (0:Int) (0:Int) ([])) (0:Int) ([]) ([]) ([]) ([]) (0:Int) (0:Int)),(1:Int))
  else
    bnd (zei l) fun r0_3=>
    if (capB (snap).length) = true then
     some ((TRaft.mk r0.1.Id r0.1.N term vote r0.1.Role r0.1.Lead r0_3 l.Base snap r0.1.Granted r0.1.Next r0.1.Match r0.1.Clock r0.1.Wait),(0:Int))
     else none
def zhs (id:Int)(n0:Int)(term:Int)(vote:Int)(l:TLog)(snap:(List Int)):Option (TRaft × Int):=
  bnd (zkv id n0) fun r0=>
  if (decide (r0.2≠(0:Int))) = true then
   some ((TRaft.mk (0:Int) (0:Int) (0:Int) (0:Int) (0:Int) (0:Int) (TLog.mk (0:Int) (0:Int) ([])) (0:Int) ([]) ([]) ([]) ([]) (0:Int) (0:Int)),r0.2)
  else
    if (decide (term < (0:Int))) = true then
     zba term vote l snap r0 true
    else
      if (decide ((1099511627776:Int) < term)) = true then
       zba term vote l snap r0 true
      else
        if (decide (vote < (0:Int))) = true then
         zba term vote l snap r0 true
        else
          if (decide (n0 < vote)) = true then
           zba term vote l snap r0 true
          else
            bnd (zeb l) fun r0_1=>
            if (decide (term < r0_1)) = true then
             zba term vote l snap r0 true
            else
              bnd (zkn l) fun r0_2=>
              zba term vote l snap r0 (decide (r0_2≠(0:Int)))
def zgg (l:(List TOp))(zhi:Int→Option Bool)(i:Int):Option Bool:=
  if (decide (i < (l.length:Int))) = true then
   bnd (nthI l i) fun e=>
   if (decide ((20:Int) < (e.Data.length:Int))) = true then
    some false
   else
     zhi (IntKind.i64.wrap (i + (1:Int)))
  else
    some true
def zdk (l:(List TOp)):Nat→Int→Option Bool
  | 0,_=>none
  | n + 1,i=>zgg l (zdk l n) i
def zjr (l:(List TOp)):Option Bool:=
  if (decide ((250:Int) < (l.length:Int))) = true then
   some false
  else
    zdk l ((((l.length:Int)) - ((0:Int))).toNat + 1) (0:Int)
def zgh (n0:Int)(zhj:Int→(List TRaft)→Option TWorld)(i:Int)(w_00:(List TRaft)):Option TWorld:=
  if (decide (i≤n0)) = true then
   bnd (zkv i n0) fun r0=>
   if (capB (w_00.length + 1)) = true then
    zhj (IntKind.i64.wrap (i + (1:Int))) (w_00++[r0.1])
    else none
  else
    some (TWorld.mk w_00 ([]))
def zdl (n0:Int):Nat→Int→(List TRaft)→Option TWorld
  | 0,_,_=>none
  | n + 1,i,w_00=>zgh n0 (zdl n0 n) i w_00
def zjs (n0:Int):Option TWorld:=
  zdl n0 (((n0) - ((1:Int)) + 1).toNat + 1) (1:Int) ([])
def zko (n0:Int):Option Int:=
  some (IntKind.i64.wrap ((1:Int) + ((IntKind.i64.wrap n0).tmod (5:Int))))
def zjd (m_00 m_10 m_20 m_30 m_40 m_50 m_60 m_70:Int)(m_80:(List TEntry))(m_90 zd zf:Int)(ze:(List Int))(zg:(List Bool))(zb zh:(List Int))(zi:(List TMsg)):Option (TRaft × (List TMsg)):=
  bnd (zgf (Tmember.mk (TRaft.mk m_00 m_10 m_20 m_30 m_40 m_50 (TLog.mk m_60 m_70 m_80) m_90 ze zg zb zh zd zf) zi)) fun r0_4=>
  some (r0_4.1,r0_4.2)
def zht (draw:Int)(r0_1:Tmember)(v41:Bool):Option (TRaft × (List TMsg)):=
  if v41=true then
   bnd (zfm draw (Tmember.mk (TRaft.mk r0_1.Raft.Id r0_1.Raft.N r0_1.Raft.Term r0_1.Raft.Vote r0_1.Raft.Role r0_1.Raft.Lead r0_1.Raft.Log r0_1.Raft.Commit r0_1.Raft.Snap r0_1.Raft.Granted r0_1.Raft.Next r0_1.Raft.Match (IntKind.i64.wrap (r0_1.Raft.Clock + (1:Int))) r0_1.Raft.Wait) r0_1.f_out)) fun r0_3=>
   zjd r0_3.Raft.Id r0_3.Raft.N r0_3.Raft.Term r0_3.Raft.Vote r0_3.Raft.Role r0_3.Raft.Lead r0_3.Raft.Log.Base r0_3.Raft.Log.BaseTerm r0_3.Raft.Log.Entries r0_3.Raft.Commit r0_3.Raft.Clock r0_3.Raft.Wait r0_3.Raft.Snap r0_3.Raft.Granted r0_3.Raft.Next r0_3.Raft.Match r0_3.f_out
  else
    zjd r0_1.Raft.Id r0_1.Raft.N r0_1.Raft.Term r0_1.Raft.Vote r0_1.Raft.Role r0_1.Raft.Lead r0_1.Raft.Log.Base r0_1.Raft.Log.BaseTerm r0_1.Raft.Log.Entries r0_1.Raft.Commit (IntKind.i64.wrap (r0_1.Raft.Clock + (1:Int))) r0_1.Raft.Wait r0_1.Raft.Snap r0_1.Raft.Granted r0_1.Raft.Next r0_1.Raft.Match r0_1.f_out
def zje (draw:Int)(r0_1:Tmember)(v18:Bool):Option (TRaft × (List TMsg)):=
  if v18=true then
   bnd (zgx (Tmember.mk (TRaft.mk r0_1.Raft.Id r0_1.Raft.N r0_1.Raft.Term r0_1.Raft.Vote r0_1.Raft.Role r0_1.Raft.Lead r0_1.Raft.Log r0_1.Raft.Commit r0_1.Raft.Snap r0_1.Raft.Granted r0_1.Raft.Next r0_1.Raft.Match (0:Int) r0_1.Raft.Wait) r0_1.f_out)) fun r0_2=>
   zjd r0_2.Raft.Id r0_2.Raft.N r0_2.Raft.Term r0_2.Raft.Vote r0_2.Raft.Role r0_2.Raft.Lead r0_2.Raft.Log.Base r0_2.Raft.Log.BaseTerm r0_2.Raft.Log.Entries r0_2.Raft.Commit r0_2.Raft.Clock r0_2.Raft.Wait r0_2.Raft.Snap r0_2.Raft.Granted r0_2.Raft.Next r0_2.Raft.Match r0_2.f_out
  else
    if (decide (r0_1.Raft.Role≠(3:Int))) = true then
     zht draw r0_1 (decide (r0_1.Raft.Wait≤(IntKind.i64.wrap (r0_1.Raft.Clock + (1:Int)))))
    else
      zht draw r0_1 false
def zlm (r0:TRaft)(draw:Int):Option (TRaft × (List TMsg)):=
  bnd (zjk r0) fun r0_1=>
  if (decide (r0_1.Raft.Role=(3:Int))) = true then
   zje draw r0_1 (decide ((2:Int)≤(IntKind.i64.wrap (r0_1.Raft.Clock + (1:Int)))))
  else
    zje draw r0_1 false
def zjf (r0:TRaft)(data:(List Int)):Option (TRaft × Int × (List TMsg) × Int):=
  bnd (zjk r0) fun r0_1=>
  if (decide (r0_1.Raft.Role≠(3:Int))) = true then
   some (r0_1.Raft,(0:Int),[],(15:Int))
  else
    bnd (zfv data r0_1) fun r0_2=>
    bnd (zgf r0_2) fun r0_3=>
    bnd (zae r0_3.1.Log) fun r0_4=>
    some (r0_3.1,r0_4,r0_3.2,(0:Int))
def zfn (upto:Int)(snap:(List Int))(r0_1:Tmember)(v29:Bool):Option (TRaft × Int):=
  if v29=true then
   some (r0_1.Raft,(2:Int))
  else
    bnd (zhr r0_1.Raft.Log upto) fun r0_2=>
    if (decide (r0_2.2≠(0:Int))) = true then
     some (r0_1.Raft,r0_2.2)
    else
      if (capB (snap).length) = true then
       some ((TRaft.mk r0_1.Raft.Id r0_1.Raft.N r0_1.Raft.Term r0_1.Raft.Vote r0_1.Raft.Role r0_1.Raft.Lead r0_2.1 r0_1.Raft.Commit snap r0_1.Raft.Granted r0_1.Raft.Next r0_1.Raft.Match r0_1.Raft.Clock r0_1.Raft.Wait),(0:Int))
       else none
def zjg (r0:TRaft)(upto:Int)(snap:(List Int)):Option (TRaft × Int):=
  bnd (zjk r0) fun r0_1=>
  if (decide (upto≤r0_1.Raft.Log.Base)) = true then
   zfn upto snap r0_1 true
  else
    zfn upto snap r0_1 (decide (r0_1.Raft.Commit < upto))
def zgi (k:Int)(n0:Int):Option Int:=
  if (decide ((IntKind.u64.wrap n0) = 0)) = true then none else some (IntKind.i64.wrap ((IntKind.u64.wrap k).tmod (IntKind.u64.wrap n0)))
def zfe (w:TWorld)(i:Int)(r0:TRaft)(l:(List TMsg)):Option TWorld:=
  if (capB (w.R).length) = true then
   bnd (nthI w.R i) fun e=>
   if (capB (w.Net).length) = true then
    if (capB ((w.Net).length + l.length)) = true then
     if (decide ((60:Int) < ((((w.Net).length + l.length):Nat):Int))) = true then
      bnd (sliceL (w.Net++l) (IntKind.i64.wrap (((((w.Net).length + l.length):Nat):Int) - (60:Int))) (w.Net++l).length) fun l_1=>
      some (TWorld.mk (setI w.R i r0) l_1)
     else
       some (TWorld.mk (setI w.R i r0) (w.Net++l))
     else none
    else none
   else none
def zgs (w:TWorld)(k:Int)(e:TMsg)(out_1:(List TMsg)):Option (TWorld × TMsg):=
  bnd (sliceL w.Net (IntKind.i64.wrap (k + (1:Int))) w.Net.length) fun l_1=>
  if (capB (out_1.length + l_1.length)) = true then
   some ((TWorld.mk w.R (out_1++l_1)),e)
   else none
def zkp (w:TWorld)(k:Int)(keep:Bool):Option (TWorld × TMsg):=
  bnd (nthI w.Net k) fun e=>
  bnd (sliceL w.Net 0 k) fun l=>
  if (capB l.length) = true then
   if keep=true then
    if (capB (l.length + 1)) = true then
     zgs w k e (l++[e])
     else none
   else
     zgs w k e l
   else none
def zak (zrv zrw zrx zry zrz zsa zsb zsc:Int)(zsd:(List TEntry))(zse zra zrb:Int)(zrc:(List Int))(zrd:(List Bool))(zre zrf:(List Int))(zrg:(List TMsg)):Option (TRaft × (List TMsg)):=
  bnd (zgf (Tmember.mk (TRaft.mk zrv zrw zrx zry zrz zsa (TLog.mk zsb zsc zsd) zse zrc zrd zre zrf zra zrb) zrg)) fun r0_13=>
  some (r0_13.1,r0_13.2)
def zea (v158:Bool)(zqh zqi zqj zqk zql zqm zqn zqo zqp zox zoy:Int)(zqq:(List TEntry))(zoz:(List Int))(zpa:(List Bool))(zpb zpc:(List Int))(zpd:(List TMsg)):Option (TRaft × (List TMsg)):=
  if v158=true then
   bnd (zdc (Tmember.mk (TRaft.mk zqh zqi zqj zqk zql zqm (TLog.mk zqn zqo zqq) zqp zoz zpa zpb zpc zox zoy) zpd)) fun r0_9=>
   zak r0_9.Raft.Id r0_9.Raft.N r0_9.Raft.Term r0_9.Raft.Vote r0_9.Raft.Role r0_9.Raft.Lead r0_9.Raft.Log.Base r0_9.Raft.Log.BaseTerm r0_9.Raft.Log.Entries r0_9.Raft.Commit r0_9.Raft.Clock r0_9.Raft.Wait r0_9.Raft.Snap r0_9.Raft.Granted r0_9.Raft.Next r0_9.Raft.Match r0_9.f_out
  else
    zak zqh zqi zqj zqk zql zqm zqn zqo zqq zqp zox zoy zoz zpa zpb zpc zpd
def zct (v123:Bool)(zbl zbm zbn zbo zbp zbq zbr zbs zbu zam zan:Int)(zbt:(List TEntry))(zao:(List Int))(zap:(List Bool))(zx zaq:(List Int))(zar:(List TMsg)):Option (TRaft × (List TMsg)):=
  if v123=true then
   bnd (zej (Tmember.mk (TRaft.mk zbl zbm zbn zbo zbp zbq (TLog.mk zbr zbs zbt) zbu zao zap zx zaq zam zan) zar)) fun r0_6=>
   zak r0_6.Raft.Id r0_6.Raft.N r0_6.Raft.Term r0_6.Raft.Vote r0_6.Raft.Role r0_6.Raft.Lead r0_6.Raft.Log.Base r0_6.Raft.Log.BaseTerm r0_6.Raft.Log.Entries r0_6.Raft.Commit r0_6.Raft.Clock r0_6.Raft.Wait r0_6.Raft.Snap r0_6.Raft.Granted r0_6.Raft.Next r0_6.Raft.Match r0_6.f_out
  else
    zak zbl zbm zbn zbo zbp zbq zbr zbs zbt zbu zam zan zao zap zx zaq zar
def zfo (x0:TMsg)(m_00 m_10 m_20 m_30 m_40 m_50 m_60 m_70 m_90 zd zf:Int)(m_80:(List TEntry))(ze:(List Int))(zg:(List Bool))(zb zh:(List Int))(zi:(List TMsg)):Option (TRaft × (List TMsg)):=
  if (decide (x0.Kind=(1:Int))) = true then
   bnd (zeg x0 (Tmember.mk (TRaft.mk m_00 m_10 m_20 m_30 m_40 m_50 (TLog.mk m_60 m_70 m_80) m_90 ze zg zb zh zd zf) zi)) fun r0_4=>
   zak r0_4.Raft.Id r0_4.Raft.N r0_4.Raft.Term r0_4.Raft.Vote r0_4.Raft.Role r0_4.Raft.Lead r0_4.Raft.Log.Base r0_4.Raft.Log.BaseTerm r0_4.Raft.Log.Entries r0_4.Raft.Commit r0_4.Raft.Clock r0_4.Raft.Wait r0_4.Raft.Snap r0_4.Raft.Granted r0_4.Raft.Next r0_4.Raft.Match r0_4.f_out
  else
    if (decide (x0.Kind=(2:Int))) = true then
     if x0.Ok=true then
      if (decide (m_40=(1:Int))) = true then
       if (decide (x0.Term=(IntKind.i64.wrap (m_20 + (1:Int))))) = true then
        bnd (zbx x0.From (Tmember.mk (TRaft.mk m_00 m_10 m_20 m_30 m_40 m_50 (TLog.mk m_60 m_70 m_80) m_90 ze zg zb zh zd zf) zi)) fun r0_5=>
        zct r0_5.1 r0_5.2.Raft.Id r0_5.2.Raft.N r0_5.2.Raft.Term r0_5.2.Raft.Vote r0_5.2.Raft.Role r0_5.2.Raft.Lead r0_5.2.Raft.Log.Base r0_5.2.Raft.Log.BaseTerm r0_5.2.Raft.Commit r0_5.2.Raft.Clock r0_5.2.Raft.Wait r0_5.2.Raft.Log.Entries r0_5.2.Raft.Snap r0_5.2.Raft.Granted r0_5.2.Raft.Next r0_5.2.Raft.Match r0_5.2.f_out
       else
         zct false m_00 m_10 m_20 m_30 m_40 m_50 m_60 m_70 m_90 zd zf m_80 ze zg zb zh zi
      else
        zct false m_00 m_10 m_20 m_30 m_40 m_50 m_60 m_70 m_90 zd zf m_80 ze zg zb zh zi
     else
       zct false m_00 m_10 m_20 m_30 m_40 m_50 m_60 m_70 m_90 zd zf m_80 ze zg zb zh zi
    else
      if (decide (x0.Kind=(3:Int))) = true then
       bnd (zes x0 (Tmember.mk (TRaft.mk m_00 m_10 m_20 m_30 m_40 m_50 (TLog.mk m_60 m_70 m_80) m_90 ze zg zb zh zd zf) zi)) fun r0_7=>
       zak r0_7.Raft.Id r0_7.Raft.N r0_7.Raft.Term r0_7.Raft.Vote r0_7.Raft.Role r0_7.Raft.Lead r0_7.Raft.Log.Base r0_7.Raft.Log.BaseTerm r0_7.Raft.Log.Entries r0_7.Raft.Commit r0_7.Raft.Clock r0_7.Raft.Wait r0_7.Raft.Snap r0_7.Raft.Granted r0_7.Raft.Next r0_7.Raft.Match r0_7.f_out
      else
        if (decide (x0.Kind=(4:Int))) = true then
         if x0.Ok=true then
          if (decide (m_40=(2:Int))) = true then
           if (decide (x0.Term=m_20)) = true then
            bnd (zbx x0.From (Tmember.mk (TRaft.mk m_00 m_10 m_20 m_30 m_40 m_50 (TLog.mk m_60 m_70 m_80) m_90 ze zg zb zh zd zf) zi)) fun r0_8=>
            zea r0_8.1 r0_8.2.Raft.Id r0_8.2.Raft.N r0_8.2.Raft.Term r0_8.2.Raft.Vote r0_8.2.Raft.Role r0_8.2.Raft.Lead r0_8.2.Raft.Log.Base r0_8.2.Raft.Log.BaseTerm r0_8.2.Raft.Commit r0_8.2.Raft.Clock r0_8.2.Raft.Wait r0_8.2.Raft.Log.Entries r0_8.2.Raft.Snap r0_8.2.Raft.Granted r0_8.2.Raft.Next r0_8.2.Raft.Match r0_8.2.f_out
           else
             zea false m_00 m_10 m_20 m_30 m_40 m_50 m_60 m_70 m_90 zd zf m_80 ze zg zb zh zi
          else
            zea false m_00 m_10 m_20 m_30 m_40 m_50 m_60 m_70 m_90 zd zf m_80 ze zg zb zh zi
         else
           zea false m_00 m_10 m_20 m_30 m_40 m_50 m_60 m_70 m_90 zd zf m_80 ze zg zb zh zi
        else
          if (decide (x0.Kind=(5:Int))) = true then
           bnd (zdf x0 (Tmember.mk (TRaft.mk m_00 m_10 m_20 m_30 m_40 m_50 (TLog.mk m_60 m_70 m_80) m_90 ze zg zb zh zd zf) zi)) fun r0_10=>
           zak r0_10.Raft.Id r0_10.Raft.N r0_10.Raft.Term r0_10.Raft.Vote r0_10.Raft.Role r0_10.Raft.Lead r0_10.Raft.Log.Base r0_10.Raft.Log.BaseTerm r0_10.Raft.Log.Entries r0_10.Raft.Commit r0_10.Raft.Clock r0_10.Raft.Wait r0_10.Raft.Snap r0_10.Raft.Granted r0_10.Raft.Next r0_10.Raft.Match r0_10.f_out
          else
            if (decide (x0.Kind=(6:Int))) = true then
             bnd (zeu x0 (Tmember.mk (TRaft.mk m_00 m_10 m_20 m_30 m_40 m_50 (TLog.mk m_60 m_70 m_80) m_90 ze zg zb zh zd zf) zi)) fun r0_11=>
             zak r0_11.Raft.Id r0_11.Raft.N r0_11.Raft.Term r0_11.Raft.Vote r0_11.Raft.Role r0_11.Raft.Lead r0_11.Raft.Log.Base r0_11.Raft.Log.BaseTerm r0_11.Raft.Log.Entries r0_11.Raft.Commit r0_11.Raft.Clock r0_11.Raft.Wait r0_11.Raft.Snap r0_11.Raft.Granted r0_11.Raft.Next r0_11.Raft.Match r0_11.f_out
            else
              if (decide (x0.Kind=(7:Int))) = true then
               bnd (zev x0 (Tmember.mk (TRaft.mk m_00 m_10 m_20 m_30 m_40 m_50 (TLog.mk m_60 m_70 m_80) m_90 ze zg zb zh zd zf) zi)) fun r0_12=>
               zak r0_12.Raft.Id r0_12.Raft.N r0_12.Raft.Term r0_12.Raft.Vote r0_12.Raft.Role r0_12.Raft.Lead r0_12.Raft.Log.Base r0_12.Raft.Log.BaseTerm r0_12.Raft.Log.Entries r0_12.Raft.Commit r0_12.Raft.Clock r0_12.Raft.Wait r0_12.Raft.Snap r0_12.Raft.Granted r0_12.Raft.Next r0_12.Raft.Match r0_12.f_out
              else
                zak m_00 m_10 m_20 m_30 m_40 m_50 m_60 m_70 m_80 m_90 zd zf ze zg zb zh zi
def zcu (x0:TMsg)(r0_1:Tmember)(v83:Bool):Option (TRaft × (List TMsg)):=
  if v83=true then
   bnd (zal x0.Term (0:Int) r0_1) fun r0_3=>
   zfo x0 r0_3.Raft.Id r0_3.Raft.N r0_3.Raft.Term r0_3.Raft.Vote r0_3.Raft.Role r0_3.Raft.Lead r0_3.Raft.Log.Base r0_3.Raft.Log.BaseTerm r0_3.Raft.Commit r0_3.Raft.Clock r0_3.Raft.Wait r0_3.Raft.Log.Entries r0_3.Raft.Snap r0_3.Raft.Granted r0_3.Raft.Next r0_3.Raft.Match r0_3.f_out
  else
    zfo x0 r0_1.Raft.Id r0_1.Raft.N r0_1.Raft.Term r0_1.Raft.Vote r0_1.Raft.Role r0_1.Raft.Lead r0_1.Raft.Log.Base r0_1.Raft.Log.BaseTerm r0_1.Raft.Commit r0_1.Raft.Clock r0_1.Raft.Wait r0_1.Raft.Log.Entries r0_1.Raft.Snap r0_1.Raft.Granted r0_1.Raft.Next r0_1.Raft.Match r0_1.f_out
def zbb (x0:TMsg)(r0_1:Tmember)(v56:Bool):Option (TRaft × (List TMsg)):=
  if v56=true then
   bnd (zjc r0_1) fun r0_2=>
   some (r0_2.1,r0_2.2)
  else
    if (decide (r0_1.Raft.Term < x0.Term)) = true then
     if (decide (x0.Kind≠(1:Int))) = true then
      if (decide (x0.Kind≠(2:Int))) = true then
       zcu x0 r0_1 true
      else
        zcu x0 r0_1 (!x0.Ok)
     else
       zcu x0 r0_1 false
    else
      zcu x0 r0_1 false
def zjh (r0:TRaft)(x0:TMsg):Option (TRaft × (List TMsg)):=
  bnd (zjk r0) fun r0_1=>
  if (decide (x0.To≠r0_1.Raft.Id)) = true then
   zbb x0 r0_1 true
  else
    if (decide (x0.From < (1:Int))) = true then
     zbb x0 r0_1 true
    else
      if (decide (r0_1.Raft.N < x0.From)) = true then
       zbb x0 r0_1 true
      else
        if (decide (x0.From=r0_1.Raft.Id)) = true then
         zbb x0 r0_1 true
        else
          if (decide (x0.Term < (0:Int))) = true then
           zbb x0 r0_1 true
          else
            if (decide ((1099511627776:Int) < x0.Term)) = true then
             zbb x0 r0_1 true
            else
              zbb x0 r0_1 (decide (x0.At < (0:Int)))
def zgv (r0_4:(TWorld × TMsg))(v87:Bool):Option TWorld:=
  if v87=true then
   some r0_4.1
  else
    bnd (nthI r0_4.1.R (IntKind.i64.wrap (r0_4.2.To - (1:Int)))) fun e_1=>
    bnd (zjh e_1 r0_4.2) fun r0_5=>
    bnd (zfe r0_4.1 (IntKind.i64.wrap (r0_4.2.To - (1:Int))) r0_5.1 r0_5.2) fun r0_6=>
    some r0_6
def zdm (w:TWorld)(o:TOp)(r0:Int)(e:TRaft)(v49:Bool):Option TWorld:=
  if v49=true then
   if (decide ((w.Net.length:Int) = (0:Int))) = true then
    some w
   else
     bnd (zgi o.N (w.Net.length:Int)) fun r0_3=>
     bnd (zkp w r0_3 (decide (o.Kind=(3:Int)))) fun r0_4=>
     if (decide (o.Kind=(2:Int))) = true then
      zgv r0_4 true
     else
       if (decide (r0_4.2.To < (1:Int))) = true then
        zgv r0_4 true
       else
         zgv r0_4 (decide ((w.R.length:Int) < r0_4.2.To))
  else
    if (decide (o.Kind=(4:Int))) = true then
     bnd (zjf e o.Data) fun r0_7=>
     if (decide (r0_7.2.2.2≠(0:Int))) = true then
      some w
     else
       bnd (zfe w r0 r0_7.1 r0_7.2.2.1) fun r0_8=>
       some r0_8
    else
      if (decide (o.Kind=(5:Int))) = true then
       bnd (zgi o.N (3:Int)) fun r0_9=>
       bnd (zjg e (IntKind.i64.wrap (e.Commit - r0_9)) ([(IntKind.u8.wrap (IntKind.i64.wrap (e.Commit - r0_9)))])) fun r0_10=>
       if (decide (r0_10.2≠(0:Int))) = true then
        some w
       else
         bnd (zfe w r0 r0_10.1 ([])) fun r0_11=>
         some r0_11
      else
        if (decide (o.Kind=(6:Int))) = true then
         bnd (zhs e.Id e.N e.Term e.Vote e.Log e.Snap) fun r0_12=>
         if (decide (r0_12.2≠(0:Int))) = true then
          some w
         else
           bnd (zfe w r0 r0_12.1 ([])) fun r0_13=>
           some r0_13
        else
          some w
def zkw (w:TWorld)(o:TOp):Option TWorld:=
  bnd (zgi o.Who (w.R.length:Int)) fun r0=>
  bnd (nthI w.R r0) fun e=>
  if (decide (o.Kind=(0:Int))) = true then
   bnd (zlm e o.N) fun r0_1=>
   bnd (zfe w r0 r0_1.1 r0_1.2) fun r0_2=>
   some r0_2
  else
    if (decide (o.Kind=(1:Int))) = true then
     zdm w o r0 e true
    else
      if (decide (o.Kind=(2:Int))) = true then
       zdm w o r0 e true
      else
        zdm w o r0 e (decide (o.Kind=(3:Int)))
def zcl(zy:Int→Option Int)(i:Int)(v84:Bool):Option Int:=
  if v84=true then
   some (1:Int)
  else
    zy (IntKind.i64.wrap (i + (1:Int)))
def zgj (l:TLog)(zy:Int→Option Int)(i:Int):Option Int:=
  if (decide (i < (l.Entries.length:Int))) = true then
   bnd (nthI l.Entries i) fun e=>
   if (decide (e.Term < (1:Int))) = true then
    zcl zy i true
   else
     if (decide ((1099511627776:Int) < e.Term)) = true then
      zcl zy i true
     else
       if (decide (e.Term < l.BaseTerm)) = true then
        zcl zy i true
       else
         if (decide ((0:Int) < i)) = true then
          bnd (nthI l.Entries (IntKind.i64.wrap (i - (1:Int)))) fun e_1=>
          zcl zy i (decide (e.Term < e_1.Term))
         else
           zcl zy i false
  else
    some (0:Int)
def zcm (l:TLog):Nat→Int→Option Int
  | 0,_=>none
  | n + 1,i=>zgj l (zcm l n) i
def zcn (l:TLog)(v43:Bool):Option Int:=
  if v43=true then
   some (1:Int)
  else
    zcm l ((((l.Entries.length:Int)) - ((0:Int))).toNat + 1) (0:Int)
def zen (l:TLog)(v25:Bool):Option Int:=
  if v25=true then
   some (1:Int)
  else
    if (decide (l.Base=(0:Int))) = true then
     if (decide (l.BaseTerm≠(0:Int))) = true then
      zcn l true
     else
       if (decide (l.Base≠(0:Int))) = true then
        zcn l (decide (l.BaseTerm=(0:Int)))
       else
         zcn l false
    else
      if (decide (l.Base≠(0:Int))) = true then
       zcn l (decide (l.BaseTerm=(0:Int)))
      else
        zcn l false
def zjt (l:TLog):Option Int:=
  if (decide (l.Base < (0:Int))) = true then
   zen l true
  else
    if (decide ((1099511627776:Int) < l.Base)) = true then
     zen l true
    else
      if (decide (l.BaseTerm < (0:Int))) = true then
       zen l true
      else
        zen l (decide ((1099511627776:Int) < l.BaseTerm))
def zhw (l:TLog):Option Int:=
  some (IntKind.i64.wrap (l.Base + (l.Entries.length:Int)))
def zhx (l:TLog)(at0:Int)(v15:Bool):Option (TEntry × Bool):=
  if v15=true then
   some ((TEntry.mk (0:Int) ([])),false)
  else
    bnd (nthI l.Entries (IntKind.i64.wrap ((IntKind.i64.wrap (at0 - l.Base)) - (1:Int)))) fun e=>
    some (e,true)
def zin (l:TLog)(at0:Int):Option (TEntry × Bool):=
  if (decide (at0≤l.Base)) = true then
   zhx l at0 true
  else
    bnd (zhw l) fun r0=>
    zhx l at0 (decide (r0 < at0))
def zga(zc:Bool→Int→Option Bool)(at0:Int)(met_2 v75:Bool):Option Bool:=
  if v75=true then
   some false
  else
    zc met_2 (IntKind.i64.wrap (at0 - (1:Int)))
def zgb(zc:Bool→Int→Option Bool)(at0:Int)(r0_2 r0_3:(TEntry × Bool))(met_1:Bool):Option Bool:=
  if met_1=true then
   if (decide (r0_2.1.Term≠r0_3.1.Term)) = true then
    zga zc at0 true true
   else
     zga zc at0 true (!(eqS (strI r0_2.1.Data) (strI r0_3.1.Data)))
  else
    zga zc at0 false false
def zhy(zc:Bool→Int→Option Bool)(met:Bool)(at0:Int)(r0_2 r0_3:(TEntry × Bool))(v50:Bool):Option Bool:=
  if v50=true then
   some false
  else
    if met=true then
     zgb zc at0 r0_2 r0_3 true
    else
      zgb zc at0 r0_2 r0_3 (decide (r0_2.1.Term=r0_3.1.Term))
def zeo(zc:Bool→Int→Option Bool)(a b:TLog)(met:Bool)(at0:Int)(v30:Bool):Option Bool:=
  if v30=true then
   bnd (zin a at0) fun r0_2=>
   bnd (zin b at0) fun r0_3=>
   if r0_2.2=true then
    zhy zc met at0 r0_2 r0_3 (!r0_3.2)
   else
     zhy zc met at0 r0_2 r0_3 true
  else
    some true
def zgk (a b:TLog)(zc:Bool→Int→Option Bool)(met:Bool)(at0:Int):Option Bool:=
  if (decide (a.Base < at0)) = true then
   zeo zc a b met at0 (decide (b.Base < at0))
  else
    zeo zc a b met at0 false
def zco (a b:TLog):Nat→Bool→Int→Option Bool
  | 0,_,_=>none
  | n + 1,met,at0=>zgk a b (zco a b n) met at0
def zhz (a b:TLog)(last:Int):Option Bool:=
  zco a b (1000000) false last
def zju (a:TLog)(b:TLog):Option Bool:=
  bnd (zhw a) fun r0=>
  bnd (zhw b) fun r0_1=>
  if (decide (r0_1 < r0)) = true then
   zhz a b r0_1
  else
    zhz a b r0
def zjz:Option Bool:=
  bnd (znc ) fun r0_7=>
  some r0_7
def zid(zj:Int→(List TRaft)→(List TMsg)→Option Bool)(i:Int)(r0_4:TWorld):Option Bool:=
  zj (IntKind.i64.wrap (i + (1:Int))) r0_4.R r0_4.Net
def zie(zk:Int→Option Bool)(k:Int):Option Bool:=
  zk (IntKind.i64.wrap (k + (1:Int)))
def zew(zk:Int→Option Bool)(r0_4:TWorld)(k:Int)(zfw:Int→Option Bool)(j:Int):Option Bool:=
  if (decide (j < k)) = true then
   bnd (nthI r0_4.R k) fun e_2=>
   bnd (nthI r0_4.R j) fun e_3=>
   bnd (zju e_2.Log e_3.Log) fun r0_6=>
   if r0_6=true then
    zfw (IntKind.i64.wrap (j + (1:Int)))
   else
     some false
  else
    zie zk k
def zbi(zk:Int→Option Bool)(r0_4:TWorld)(k:Int):Nat→Int→Option Bool
  | 0,_=>none
  | n + 1,j=>zew zk r0_4 k (zbi zk r0_4 k n) j
def zex(zj:Int→(List TRaft)→(List TMsg)→Option Bool)(i:Int)(r0_4:TWorld)(zk:Int→Option Bool)(k:Int):Option Bool:=
  if (decide (k < (r0_4.R.length:Int))) = true then
   bnd (nthI r0_4.R k) fun e_1=>
   bnd (zjt e_1.Log) fun r0_5=>
   if (decide (r0_5≠(0:Int))) = true then
    some false
   else
     zbi zk r0_4 k (((k) - ((0:Int))).toNat + 1) (0:Int)
  else
    zid zj i r0_4
def zai(zj:Int→(List TRaft)→(List TMsg)→Option Bool)(i:Int)(r0_4:TWorld):Nat→Int→Option Bool
  | 0,_=>none
  | n + 1,k=>zex zj i r0_4 (zai zj i r0_4 n) k
def zey (l:(List TOp))(zj:Int→(List TRaft)→(List TMsg)→Option Bool)(i:Int)(w_00:(List TRaft))(w_10:(List TMsg)):Option Bool:=
  if (decide (i < (l.length:Int))) = true then
   bnd (nthI l i) fun e=>
   bnd (zkw (TWorld.mk w_00 w_10) e) fun r0_4=>
   zai zj i r0_4 ((((r0_4.R.length:Int)) - ((0:Int))).toNat + 1) (0:Int)
  else
    zjz
def zaw (l:(List TOp)):Nat→Int→(List TRaft)→(List TMsg)→Option Bool
  | 0,_,_,_=>none
  | n + 1,i,w_00,w_10=>zey l (zaw l n) i w_00 w_10
def zjm (n0:Int)(l:(List TOp)):Option Bool:=
  bnd (zjr l) fun r0=>
  if r0=true then
   bnd (zko n0) fun r0_2=>
   bnd (zjs r0_2) fun r0_3=>
   zaw l ((((l.length:Int)) - ((0:Int))).toNat + 1) (0:Int) r0_3.R r0_3.Net
  else
    bnd (znc ) fun r0_1=>
    some r0_1
end Go.Proofs.Ytgoachcogmlhcaa.R
