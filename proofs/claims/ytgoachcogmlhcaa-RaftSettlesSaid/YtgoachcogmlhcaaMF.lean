import Derived.Test.YtgoachcogmlhcaaMT
set_option maxRecDepth 100000
set_option maxHeartbeats 1600000
set_option linter.unusedVariables false
set_option linter.unusedSimpArgs false
set_option linter.defProp false
noncomputable section
namespace Go.Proofs.Ytgoachcogmlhcaa.R
open Go Nat
def zgw (l:(List yk))(zia:Int->(List yk)->Option (List yk))(v8:Int)(out:(List yk)):Option (List yk):=
  if (decide (v8 < (l.length:Int))) = true then
   bnd (ydd l v8) fun e=>
   if (yeq (e.yck).length) = true then
    if (yeq (out.length + 1)) = true then
     zia (IntKind.i64.wrap (v8 + (1:Int))) (out++[e])
     else none
    else none
  else
    some out
def zds (l:(List yk)):Nat->Int->(List yk)->Option (List yk)
  | 0,_,_=>none
  | n + 1,v8,out=>zgw l (zds l n) v8 out
def zgb (l:(List yk)):Option (List yk):=
  zds l ((((l.length:Int)) - ((0:Int))).toNat + 1) (0:Int) ([])
def zeu (l:yag):Option yag:=
  bnd (zgb l.yi) fun r0=>
  some (yag.mk l.yn l.yv r0)
def zna (r0:ye):Option ye:=
  bnd (zeu r0.yg) fun r0_1=>
  if (yeq (r0.yaf).length) = true then
   if (yeq (r0.yq).length) = true then
    if (yeq (r0.Next).length) = true then
     if (yeq (r0.yaa).length) = true then
      some (ye.mk r0.Id r0.N r0.yc r0.yan r0.ym r0.yak r0_1 r0.yl r0.yaf r0.yq r0.Next r0.yaa r0.yu r0.yam)
      else none
     else none
    else none
   else none
def zjz (r0:ye):Option yd:=
  bnd (zna r0) fun r0_1=>
  some (yd.mk r0_1 ([]))
def zce (to0:Int)(x0:yj)(m:yd):Option yd:=
  if (yeq ((m.f_out).length + 1)) = true then
   some (yd.mk m.yb (m.f_out++[(yj.mk x0.yae x0.yhn m.yb.Id to0 x0.yc x0.At x0.ybf x0.yl x0.Ok x0.yi x0.yck)]))
   else none
def zaf (l:yag):Option Int:=
  some (IntKind.i64.wrap (l.yn + (l.yi.length:Int)))
def zjp (l:yag)(at0:Int)(v13:Bool):Option (Int × Bool):=
  if v13=true then
   some ((0:Int),false)
  else
    bnd (ydd l.yi (IntKind.i64.wrap ((IntKind.i64.wrap (at0 - l.yn)) - (1:Int)))) fun e=>
    some (e.yc,true)
def zbn (l:yag)(at0:Int):Option (Int × Bool):=
  if (decide (at0=l.yn)) = true then
   some (l.yv,true)
  else
    if (decide (at0 < l.yn)) = true then
     zjp l at0 true
    else
      bnd (zaf l) fun r0=>
      zjp l at0 (decide (r0 < at0))
def zid (l:yag)(at0 most:Int)(v21:Bool):Option (List yk):=
  if v21=true then
   some ([])
  else
    bnd (ycn l.yi (IntKind.i64.wrap ((IntKind.i64.wrap (at0 - l.yn)) - (1:Int))) l.yi.length) fun l_1=>
    bnd (ycn l_1 0 (if (l_1.length:Int) < most then (l_1.length:Int) else most)) fun l_2=>
    bnd (zgb l_2) fun r0_1=>
    some r0_1
def zji (l:yag)(at0:Int)(most:Int):Option (List yk):=
  if (decide (at0<=l.yn)) = true then
   zid l at0 most true
  else
    bnd (zaf l) fun r0=>
    if (decide (r0 < at0)) = true then
     zid l at0 most true
    else
      zid l at0 most (decide (most<=(0:Int)))
def zfw (to0:Int)(m:yd)(x_0 x_5 x_6:Int)(x_9:(List yk))(x_10:(List Int)):Option yd:=
  bnd (zce to0 (yj.mk x_0 (0:Int) (0:Int) (0:Int) m.yb.yc x_5 x_6 m.yb.yl false x_9 x_10) m) fun r0_2=>
  some r0_2
def zax (to0:Int)(m:yd):Option yd:=
  bnd (ydd m.yb.Next (IntKind.i64.wrap (to0 - (1:Int)))) fun e=>
  if (decide (e<=m.yb.yg.yn)) = true then
   if (yeq (m.yb.yaf).length) = true then
    zfw to0 m (7:Int) m.yb.yg.yn m.yb.yg.yv ([]) m.yb.yaf
    else none
  else
    bnd (zbn m.yb.yg (IntKind.i64.wrap (e - (1:Int)))) fun r0=>
    bnd (zji m.yb.yg e (8:Int)) fun r0_1=>
    zfw to0 m (5:Int) (IntKind.i64.wrap (e - (1:Int))) r0.1 r0_1 ([])
def zhr(zab:Int->Int->Int->Int->Int->Int->Int->Int->Int->(List yk)->Int->Int->Int->(List Int)->(List Bool)->(List Int)->(List Int)->(List yj)->Option yd)(to0 zbo zbp zbq zbr zbs zbt zbu zbv:Int)(zbw:(List yk))(zbx zar zas:Int)(zao:(List Int))(zap:(List Bool))(zx zaq:(List Int))(zat:(List yj)):Option yd:=
  zab (IntKind.i64.wrap (to0 + (1:Int))) zbo zbp zbq zbr zbs zbt zbu zbv zbw zbx zar zas zao zap zx zaq zat
def zjj (zab:Int->Int->Int->Int->Int->Int->Int->Int->Int->(List yk)->Int->Int->Int->(List Int)->(List Bool)->(List Int)->(List Int)->(List yj)->Option yd)(to0 m_00 m_10 m_20 m_30 m_40 m_50 m_60 m_70:Int)(m_80:(List yk))(m_90 ze zh:Int)(zd:(List Int))(zf:(List Bool))(zb zg:(List Int))(zi:(List yj)):Option yd:=
  if (decide (to0<=m_10)) = true then
   if (decide (to0≠m_00)) = true then
    bnd (zax to0 (yd.mk (ye.mk m_00 m_10 m_20 m_30 m_40 m_50 (yag.mk m_60 m_70 m_80) m_90 zd zf zb zg ze zh) zi)) fun r0=>
    zhr zab to0 r0.yb.Id r0.yb.N r0.yb.yc r0.yb.yan r0.yb.ym r0.yb.yak r0.yb.yg.yn r0.yb.yg.yv r0.yb.yg.yi r0.yb.yl r0.yb.yu r0.yb.yam r0.yb.yaf r0.yb.yq r0.yb.Next r0.yb.yaa r0.f_out
   else
     zhr zab to0 m_00 m_10 m_20 m_30 m_40 m_50 m_60 m_70 m_80 m_90 ze zh zd zf zb zg zi
  else
    some (yd.mk (ye.mk m_00 m_10 m_20 m_30 m_40 m_50 (yag.mk m_60 m_70 m_80) m_90 zd zf zb zg ze zh) zi)
def zea:Nat->Int->Int->Int->Int->Int->Int->Int->Int->Int->(List yk)->Int->Int->Int->(List Int)->(List Bool)->(List Int)->(List Int)->(List yj)->Option yd
  | 0,_,_,_,_,_,_,_,_,_,_,_,_,_,_,_,_,_,_=>none
  | n + 1,to0,m_00,m_10,m_20,m_30,m_40,m_50,m_60,m_70,m_80,m_90,ze,zh,zd,zf,zb,zg,zi=>zjj (zea n) to0 m_00 m_10 m_20 m_30 m_40 m_50 m_60 m_70 m_80 m_90 ze zh zd zf zb zg zi
def zhk (m:yd):Option yd:=
  zea (1000000) (1:Int) m.yb.Id m.yb.N m.yb.yc m.yb.yan m.yb.ym m.yb.yak m.yb.yg.yn m.yb.yg.yv m.yb.yg.yi m.yb.yl m.yb.yu m.yb.yam m.yb.yaf m.yb.yq m.yb.Next m.yb.yaa m.f_out
def zgc(zq:Int->Int->Int->Int->Int->Int->Int->Int->Int->(List yk)->Int->Int->Int->(List Int)->(List Bool)->(List Int)->(List Int)->(List yj)->Option yd)(to0 zbo zbp zbq zbr zbs zbt zbu zbv:Int)(zbw:(List yk))(zbx zar zas:Int)(zao:(List Int))(zap:(List Bool))(zx zaq:(List Int))(zat:(List yj)):Option yd:=
  zq (IntKind.i64.wrap (to0 + (1:Int))) zbo zbp zbq zbr zbs zbt zbu zbv zbw zbx zar zas zao zap zx zaq zat
def zhs (zq:Int->Int->Int->Int->Int->Int->Int->Int->Int->(List yk)->Int->Int->Int->(List Int)->(List Bool)->(List Int)->(List Int)->(List yj)->Option yd)(to0 m_00 m_10 m_20 m_30 m_40 m_50 m_60 m_70:Int)(m_80:(List yk))(m_90 ze zh:Int)(zd:(List Int))(zf:(List Bool))(zb zg:(List Int))(zi:(List yj)):Option yd:=
  if (decide (to0<=m_10)) = true then
   if (decide (to0≠m_00)) = true then
    bnd (zax to0 (yd.mk (ye.mk m_00 m_10 m_20 m_30 m_40 m_50 (yag.mk m_60 m_70 m_80) m_90 zd zf zb zg ze zh) zi)) fun r0=>
    zgc zq to0 r0.yb.Id r0.yb.N r0.yb.yc r0.yb.yan r0.yb.ym r0.yb.yak r0.yb.yg.yn r0.yb.yg.yv r0.yb.yg.yi r0.yb.yl r0.yb.yu r0.yb.yam r0.yb.yaf r0.yb.yq r0.yb.Next r0.yb.yaa r0.f_out
   else
     zgc zq to0 m_00 m_10 m_20 m_30 m_40 m_50 m_60 m_70 m_80 m_90 ze zh zd zf zb zg zi
  else
    some (yd.mk (ye.mk m_00 m_10 m_20 m_30 m_40 m_50 (yag.mk m_60 m_70 m_80) m_90 zd zf zb zg ze zh) zi)
def zcf:Nat->Int->Int->Int->Int->Int->Int->Int->Int->Int->(List yk)->Int->Int->Int->(List Int)->(List Bool)->(List Int)->(List Int)->(List yj)->Option yd
  | 0,_,_,_,_,_,_,_,_,_,_,_,_,_,_,_,_,_,_=>none
  | n + 1,to0,m_00,m_10,m_20,m_30,m_40,m_50,m_60,m_70,m_80,m_90,ze,zh,zd,zf,zb,zg,zi=>zhs (zcf n) to0 m_00 m_10 m_20 m_30 m_40 m_50 m_60 m_70 m_80 m_90 ze zh zd zf zb zg zi
def zft (m:yd):Option yd:=
  zcf (1000000) (1:Int) m.yb.Id m.yb.N m.yb.yc m.yb.yan m.yb.ym m.yb.yak m.yb.yg.yn m.yb.yg.yv m.yb.yg.yi m.yb.yl m.yb.yu m.yb.yam m.yb.yaf m.yb.yq m.yb.Next m.yb.yaa m.f_out
def zde (to0:Int)(x0:yj)(m:yd):Option yd:=
  if (yeq ((m.f_out).length + 1)) = true then
   some (yd.mk m.yb (m.f_out++[(yj.mk x0.yae x0.yhn m.yb.Id to0 x0.yc x0.At x0.ybf x0.yl x0.Ok ([]) ([]))]))
   else none
def zek (l:yag):Option Int:=
  bnd (zaf l) fun r0=>
  bnd (zbn l r0) fun r0_1=>
  some r0_1.1
def zdh (to0:Int)(b1:yd):Option yd:=
  bnd (zaf b1.yb.yg) fun r0=>
  bnd (zek b1.yb.yg) fun r0_1=>
  bnd (zde to0 (yj.mk (3:Int) (0:Int) (0:Int) (0:Int) b1.yb.yc r0 r0_1 (0:Int) false ([]) ([])) b1) fun r0_2=>
  some r0_2
def zgd(zr:Int->Int->Int->Int->Int->Int->Int->Int->Int->Int->Int->Int->(List yk)->(List Int)->(List Bool)->(List Int)->(List Int)->(List yj)->Option yd)(to0 zbo zbp zbq zbr zbs zbt zbu zbv zbx zar zas:Int)(zbw:(List yk))(zao:(List Int))(zap:(List Bool))(zx zaq:(List Int))(zat:(List yj)):Option yd:=
  zr (IntKind.i64.wrap (to0 + (1:Int))) zbo zbp zbq zbr zbs zbt zbu zbv zbx zar zas zbw zao zap zx zaq zat
def zht (zr:Int->Int->Int->Int->Int->Int->Int->Int->Int->Int->Int->Int->(List yk)->(List Int)->(List Bool)->(List Int)->(List Int)->(List yj)->Option yd)(to0 m_00 m_10 m_20 m_30 m_40 m_50 m_60 m_70 m_90 ze zh:Int)(m_80:(List yk))(zd:(List Int))(zf:(List Bool))(zb zg:(List Int))(zi:(List yj)):Option yd:=
  if (decide (to0<=m_10)) = true then
   if (decide (to0≠m_00)) = true then
    bnd (zdh to0 (yd.mk (ye.mk m_00 m_10 m_20 m_30 m_40 m_50 (yag.mk m_60 m_70 m_80) m_90 zd zf zb zg ze zh) zi)) fun r0=>
    zgd zr to0 r0.yb.Id r0.yb.N r0.yb.yc r0.yb.yan r0.yb.ym r0.yb.yak r0.yb.yg.yn r0.yb.yg.yv r0.yb.yl r0.yb.yu r0.yb.yam r0.yb.yg.yi r0.yb.yaf r0.yb.yq r0.yb.Next r0.yb.yaa r0.f_out
   else
     zgd zr to0 m_00 m_10 m_20 m_30 m_40 m_50 m_60 m_70 m_90 ze zh m_80 zd zf zb zg zi
  else
    some (yd.mk (ye.mk m_00 m_10 m_20 m_30 m_40 m_50 (yag.mk m_60 m_70 m_80) m_90 zd zf zb zg ze zh) zi)
def zcg:Nat->Int->Int->Int->Int->Int->Int->Int->Int->Int->Int->Int->Int->(List yk)->(List Int)->(List Bool)->(List Int)->(List Int)->(List yj)->Option yd
  | 0,_,_,_,_,_,_,_,_,_,_,_,_,_,_,_,_,_,_=>none
  | n + 1,to0,m_00,m_10,m_20,m_30,m_40,m_50,m_60,m_70,m_90,ze,zh,m_80,zd,zf,zb,zg,zi=>zht (zcg n) to0 m_00 m_10 m_20 m_30 m_40 m_50 m_60 m_70 m_90 ze zh m_80 zd zf zb zg zi
def zfu (m:yd):Option yd:=
  zcg (1000000) (1:Int) m.yb.Id m.yb.N m.yb.yc m.yb.yan m.yb.ym m.yb.yak m.yb.yg.yn m.yb.yg.yv m.yb.yl m.yb.yu m.yb.yam m.yb.yg.yi m.yb.yaf m.yb.yq m.yb.Next m.yb.yaa m.f_out
def zen (to0:Int)(b1:yd):Option yd:=
  bnd (zaf b1.yb.yg) fun r0=>
  bnd (zek b1.yb.yg) fun r0_1=>
  bnd (zde to0 (yj.mk (1:Int) (0:Int) (0:Int) (0:Int) (IntKind.i64.wrap (b1.yb.yc + (1:Int))) r0 r0_1 (0:Int) false ([]) ([])) b1) fun r0_2=>
  some r0_2
def zge(zt:Int->Int->Int->Int->Int->Int->Int->Int->Int->Int->Int->Int->(List yk)->(List Int)->(List Bool)->(List Int)->(List Int)->(List yj)->Option yd)(to0 zbo zbp zbq zbr zbs zbt zbu zbv zbx zar zas:Int)(zbw:(List yk))(zao:(List Int))(zap:(List Bool))(zx zaq:(List Int))(zat:(List yj)):Option yd:=
  zt (IntKind.i64.wrap (to0 + (1:Int))) zbo zbp zbq zbr zbs zbt zbu zbv zbx zar zas zbw zao zap zx zaq zat
def zhv (zt:Int->Int->Int->Int->Int->Int->Int->Int->Int->Int->Int->Int->(List yk)->(List Int)->(List Bool)->(List Int)->(List Int)->(List yj)->Option yd)(to0 m_00 m_10 m_20 m_30 m_40 m_50 m_60 m_70 m_90 ze zh:Int)(m_80:(List yk))(zd:(List Int))(zf:(List Bool))(zb zg:(List Int))(zi:(List yj)):Option yd:=
  if (decide (to0<=m_10)) = true then
   if (decide (to0≠m_00)) = true then
    bnd (zen to0 (yd.mk (ye.mk m_00 m_10 m_20 m_30 m_40 m_50 (yag.mk m_60 m_70 m_80) m_90 zd zf zb zg ze zh) zi)) fun r0=>
    zge zt to0 r0.yb.Id r0.yb.N r0.yb.yc r0.yb.yan r0.yb.ym r0.yb.yak r0.yb.yg.yn r0.yb.yg.yv r0.yb.yl r0.yb.yu r0.yb.yam r0.yb.yg.yi r0.yb.yaf r0.yb.yq r0.yb.Next r0.yb.yaa r0.f_out
   else
     zge zt to0 m_00 m_10 m_20 m_30 m_40 m_50 m_60 m_70 m_90 ze zh m_80 zd zf zb zg zi
  else
    some (yd.mk (ye.mk m_00 m_10 m_20 m_30 m_40 m_50 (yag.mk m_60 m_70 m_80) m_90 zd zf zb zg ze zh) zi)
def zch:Nat->Int->Int->Int->Int->Int->Int->Int->Int->Int->Int->Int->Int->(List yk)->(List Int)->(List Bool)->(List Int)->(List Int)->(List yj)->Option yd
  | 0,_,_,_,_,_,_,_,_,_,_,_,_,_,_,_,_,_,_=>none
  | n + 1,to0,m_00,m_10,m_20,m_30,m_40,m_50,m_60,m_70,m_90,ze,zh,m_80,zd,zf,zb,zg,zi=>zhv (zch n) to0 m_00 m_10 m_20 m_30 m_40 m_50 m_60 m_70 m_90 ze zh m_80 zd zf zb zg zi
def zhu (m:yd):Option yd:=
  zch (1000000) (1:Int) m.yb.Id m.yb.N m.yb.yc m.yb.yan m.yb.ym m.yb.yak m.yb.yg.yn m.yb.yg.yv m.yb.yl m.yb.yu m.yb.yam m.yb.yg.yi m.yb.yaf m.yb.yq m.yb.Next m.yb.yaa m.f_out
def zgf(zu:Int->Int->Int->Int->Int->Int->Int->Int->Int->(List yk)->Int->Int->Int->(List Int)->(List Bool)->(List Int)->(List Int)->(List yj)->Option yd)(to0 zbo zbp zbq zbr zbs zbt zbu zbv:Int)(zbw:(List yk))(zbx zar zas:Int)(zao:(List Int))(zap:(List Bool))(zx zaq:(List Int))(zat:(List yj)):Option yd:=
  zu (IntKind.i64.wrap (to0 + (1:Int))) zbo zbp zbq zbr zbs zbt zbu zbv zbw zbx zar zas zao zap zx zaq zat
def zhw (zu:Int->Int->Int->Int->Int->Int->Int->Int->Int->(List yk)->Int->Int->Int->(List Int)->(List Bool)->(List Int)->(List Int)->(List yj)->Option yd)(to0 m_00 m_10 m_20 m_30 m_40 m_50 m_60 m_70:Int)(m_80:(List yk))(m_90 ze zh:Int)(zd:(List Int))(zf:(List Bool))(zb zg:(List Int))(zi:(List yj)):Option yd:=
  if (decide (to0<=m_10)) = true then
   if (decide (to0≠m_00)) = true then
    bnd (zax to0 (yd.mk (ye.mk m_00 m_10 m_20 m_30 m_40 m_50 (yag.mk m_60 m_70 m_80) m_90 zd zf zb zg ze zh) zi)) fun r0=>
    zgf zu to0 r0.yb.Id r0.yb.N r0.yb.yc r0.yb.yan r0.yb.ym r0.yb.yak r0.yb.yg.yn r0.yb.yg.yv r0.yb.yg.yi r0.yb.yl r0.yb.yu r0.yb.yam r0.yb.yaf r0.yb.yq r0.yb.Next r0.yb.yaa r0.f_out
   else
     zgf zu to0 m_00 m_10 m_20 m_30 m_40 m_50 m_60 m_70 m_80 m_90 ze zh zd zf zb zg zi
  else
    some (yd.mk (ye.mk m_00 m_10 m_20 m_30 m_40 m_50 (yag.mk m_60 m_70 m_80) m_90 zd zf zb zg ze zh) zi)
def zci:Nat->Int->Int->Int->Int->Int->Int->Int->Int->Int->(List yk)->Int->Int->Int->(List Int)->(List Bool)->(List Int)->(List Int)->(List yj)->Option yd
  | 0,_,_,_,_,_,_,_,_,_,_,_,_,_,_,_,_,_,_=>none
  | n + 1,to0,m_00,m_10,m_20,m_30,m_40,m_50,m_60,m_70,m_80,m_90,ze,zh,zd,zf,zb,zg,zi=>zhw (zci n) to0 m_00 m_10 m_20 m_30 m_40 m_50 m_60 m_70 m_80 m_90 ze zh zd zf zb zg zi
def zfv (m:yd):Option yd:=
  zci (1000000) (1:Int) m.yb.Id m.yb.N m.yb.yc m.yb.yan m.yb.ym m.yb.yak m.yb.yg.yn m.yb.yg.yv m.yb.yg.yi m.yb.yl m.yb.yu m.yb.yam m.yb.yaf m.yb.yq m.yb.Next m.yb.yaa m.f_out
def zhd (to0:Int)(m:yd)(x_0 x_5 x_6:Int)(x_9:(List yk))(x_10:(List Int)):Option yd:=
  bnd (zce to0 (yj.mk x_0 (0:Int) (0:Int) (0:Int) m.yb.yc x_5 x_6 m.yb.yl false x_9 x_10) m) fun r0_2=>
  some r0_2
def zfh (to0:Int)(m:yd):Option yd:=
  bnd (ydd m.yb.Next (IntKind.i64.wrap (to0 - (1:Int)))) fun e=>
  if (decide (e<=m.yb.yg.yn)) = true then
   if (yeq (m.yb.yaf).length) = true then
    zhd to0 m (7:Int) m.yb.yg.yn m.yb.yg.yv ([]) m.yb.yaf
    else none
  else
    bnd (zbn m.yb.yg (IntKind.i64.wrap (e - (1:Int)))) fun r0=>
    bnd (zji m.yb.yg e (8:Int)) fun r0_1=>
    zhd to0 m (5:Int) (IntKind.i64.wrap (e - (1:Int))) r0.1 r0_1 ([])
def zeg (lead:Int)(m:yd)(m_20 m_30:Int):Option yd:=
  some (yd.mk (ye.mk m.yb.Id m.yb.N m_20 m_30 (0:Int) lead m.yb.yg m.yb.yl m.yb.yaf ([]) ([]) ([]) m.yb.yu m.yb.yam) m.f_out)
def zam (term:Int)(lead:Int)(m:yd):Option yd:=
  if (decide (m.yb.yc < term)) = true then
   zeg lead m term (0:Int)
  else
    zeg lead m m.yb.yc m.yb.yan
def zhc (n0:Int):Option Int:=
  if (decide (n0 < (1:Int))) = true then
   some (0:Int)
  else
    some (IntKind.i64.wrap ((IntKind.i64.wrap (n0.tdiv (2:Int))) + (1:Int)))
def zkp (l:(List Bool))(n0_1:Int):Option Bool:=
  if (decide ((0:Int) < (l.length:Int))) = true then
   bnd (zhc (l.length:Int)) fun r0=>
   some (decide (r0<=n0_1))
  else
    some false
def zhj (l:(List Bool))(zgi:Int->Int->Option Bool)(n0 v8:Int):Option Bool:=
  if (decide (v8 < (l.length:Int))) = true then
   bnd (ydd l v8) fun e=>
   if e=true then
    zgi (IntKind.i64.wrap (n0 + (1:Int))) (IntKind.i64.wrap (v8 + (1:Int)))
   else
     zgi n0 (IntKind.i64.wrap (v8 + (1:Int)))
  else
    zkp l n0
def zel (l:(List Bool)):Nat->Int->Int->Option Bool
  | 0,_,_=>none
  | n + 1,n0,v8=>zhj l (zel l n) n0 v8
def zjq (l:(List Bool)):Option Bool:=
  zel l ((((l.length:Int)) - ((0:Int))).toNat + 1) (0:Int) (0:Int)
def zbl (who:Int)(m:yd):Option (Bool × yd):=
  bnd (ydd m.yb.yq (IntKind.i64.wrap (who - (1:Int)))) fun e=>
  bnd (zjq (ybl m.yb.yq (IntKind.i64.wrap (who - (1:Int))) true)) fun r0=>
  some (r0,(yd.mk (ye.mk m.yb.Id m.yb.N m.yb.yc m.yb.yan m.yb.ym m.yb.yak m.yb.yg m.yb.yl m.yb.yaf (ybl m.yb.yq (IntKind.i64.wrap (who - (1:Int))) true) m.yb.Next m.yb.yaa m.yb.yu m.yb.yam) m.f_out))
def zez (lead:Int)(m:yd)(m_20 m_30:Int):Option yd:=
  some (yd.mk (ye.mk m.yb.Id m.yb.N m_20 m_30 (0:Int) lead m.yb.yg m.yb.yl m.yb.yaf ([]) ([]) ([]) m.yb.yu m.yb.yam) m.f_out)
def zck (term:Int)(lead:Int)(m:yd):Option yd:=
  if (decide (m.yb.yc < term)) = true then
   zez lead m term (0:Int)
  else
    zez lead m m.yb.yc m.yb.yan
def zjc (x0:Int):Option Bool:=
  some (decide (x0≠x0))
def zjn (x0:Int)(y:Int):Option Bool:=
  bnd (zjc x0) fun r0=>
  if r0=true then
   bnd (zjc y) fun r0_1=>
   if r0_1=true then
    some (decide (x0 < y))
   else
     some true
  else
    some (decide (x0 < y))
def zaw(za:Int->(List Int)->Option (List Int))(i:Int)(data_3:(List Int)):Option (List Int):=
  za (IntKind.i64.wrap (i + (1:Int))) data_3
def zac(zl:Int->(List Int)->Option (List Int))(za:Int->(List Int)->Option (List Int))(i j:Int)(data_2:(List Int))(v30:Bool):Option (List Int):=
  if v30=true then
   bnd (ydd data_2 (IntKind.i64.wrap (j - (1:Int)))) fun e_2=>
   bnd (ydd data_2 j) fun e_3=>
   bnd (ydd (ybl data_2 j e_2) (IntKind.i64.wrap (j - (1:Int)))) fun e_4=>
   zl (IntKind.i64.wrap (j - (1:Int))) (ybl (ybl data_2 j e_2) (IntKind.i64.wrap (j - (1:Int))) e_3)
  else
    zaw za i data_2
def zai(za:Int->(List Int)->Option (List Int))(a i:Int)(zl:Int->(List Int)->Option (List Int))(j:Int)(data_2:(List Int)):Option (List Int):=
  if (decide (a < j)) = true then
   bnd (ydd data_2 j) fun e=>
   bnd (ydd data_2 (IntKind.i64.wrap (j - (1:Int)))) fun e_1=>
   bnd (zjn e e_1) fun r0=>
   zac zl za i j data_2 r0
  else
    zac zl za i j data_2 false
def zo(za:Int->(List Int)->Option (List Int))(a i:Int):Nat->Int->(List Int)->Option (List Int)
  | 0,_,_=>none
  | n + 1,j,data_2=>zai za a i (zo za a i n) j data_2
def zah (a b:Int)(za:Int->(List Int)->Option (List Int))(i:Int)(data_1:(List Int)):Option (List Int):=
  if (decide (i < b)) = true then
   zo za a i (1000000) i data_1
  else
    some data_1
def zn (a b:Int):Nat->Int->(List Int)->Option (List Int)
  | 0,_,_=>none
  | n + 1,i,data_1=>zah a b (zn a b n) i data_1
def zbi (data:(List Int))(a:Int)(b:Int):Option (List Int):=
  zn a b (((b) - ((IntKind.i64.wrap (a + (1:Int))))).toNat + 1) (IntKind.i64.wrap (a + (1:Int))) data
def zcn (data:(List Int))(a b limit:Int)(zej:Option (List Int)):Option (List Int):=
  if (decide ((IntKind.i64.wrap (b - a))<=(12:Int))) = true then
   bnd (zbi data a b) fun r0=>
   if (decide ((r0).length=(data).length)) = true then
    some r0
    else none
  else
    if (decide (limit=(0:Int))) = true then none else none
def zae (data:(List Int))(a b limit:Int):Nat->Option (List Int)
  | 0=>none
  | n + 1=>zcn data a b limit (zae data a b limit n)
def zem (data:(List Int))(a:Int)(b:Int)(limit:Int):Option (List Int):=
  zae data a b limit (1000000)
def zfs (x0_3 n0_2:Int):Option Int:=
  bnd (nthS (⟨#[0,1,2,2,3,3,3,3,4,4,4,4,4,4,4,4,5,5,5,5,5,5,5,5,5,5,5,5,5,5,5,5,6,6,6,6,6,6,6,6,6,6,6,6,6,6,6,6,6,6,6,6,6,6,6,6,6,6,6,6,6,6,6,6,7,7,7,7,7,7,7,7,7,7,7,7,7,7,7,7,7,7,7,7,7,7,7,7,7,7,7,7,7,7,7,7,7,7,7,7,7,7,7,7,7,7,7,7,7,7,7,7,7,7,7,7,7,7,7,7,7,7,7,7,7,7,7,7,8,8,8,8,8,8,8,8,8,8,8,8,8,8,8,8,8,8,8,8,8,8,8,8,8,8,8,8,8,8,8,8,8,8,8,8,8,8,8,8,8,8,8,8,8,8,8,8,8,8,8,8,8,8,8,8,8,8,8,8,8,8,8,8,8,8,8,8,8,8,8,8,8,8,8,8,8,8,8,8,8,8,8,8,8,8,8,8,8,8,8,8,8,8,8,8,8,8,8,8,8,8,8,8,8,8,8,8,8,8,8,8,8,8,8,8,8,8,8,8,8,8,8,8,8,8,8,8]⟩) (IntKind.u8.wrap x0_3)) fun c=>
  some (IntKind.i64.wrap (n0_2 + (IntKind.i64.wrap c)))
def zfr (x0_2 n0_1:Int):Option Int:=
  if (decide ((256:Int)<=x0_2)) = true then
   zfs (shrI .u64 x0_2 (8:Int)) (IntKind.i64.wrap (n0_1 + (8:Int)))
  else
    zfs x0_2 n0_1
def zfq (x0_1 n0:Int):Option Int:=
  if (decide ((65536:Int)<=x0_1)) = true then
   zfr (shrI .u64 x0_1 (16:Int)) (IntKind.i64.wrap (n0 + (16:Int)))
  else
    zfr x0_1 n0
def zjk (x0:Int):Option Int:=
  if (decide ((4294967296:Int)<=x0)) = true then
   zfq (shrI .u64 x0 (32:Int)) (32:Int)
  else
    zfq x0 (0:Int)
def zjf (x0:Int):Option Int:=
  bnd (zjk x0) fun r0=>
  some r0
def zfl (x0:(List Int)):Option (List Int):=
  bnd (zjf (IntKind.u64.wrap ((x0.length:Nat):Int))) fun r0=>
  bnd (zem x0 (0:Int) ((x0.length:Nat):Int) r0) fun r0_1=>
  if (decide ((r0_1).length=(x0).length)) = true then
   some r0_1
   else none
def zgh (l:(List Int))(n0:Int)(v15:Bool):Option (Int × Bool):=
  if v15=true then
   some ((0:Int),false)
  else
    if (yeq (l).length) = true then
     bnd (zfl l) fun r0=>
     if (decide ((r0).length=(l).length)) = true then
      bnd (ydd r0 (IntKind.i64.wrap ((((l).length:Nat):Int) - n0))) fun e=>
      some (e,true)
      else none
     else none
def zka (l:(List Int))(n0:Int):Option (Int × Bool):=
  if (decide (n0 < (1:Int))) = true then
   zgh l n0 true
  else
    zgh l n0 (decide ((l.length:Int) < n0))
def zdt (l:(List Int)):Option Int:=
  bnd (zhc (l.length:Int)) fun r0=>
  bnd (zka l r0) fun r0_1=>
  some r0_1.1
def zcj (m:yd)(r0:Int)(v39:Bool):Option yd:=
  if v39=true then
   some (yd.mk (ye.mk m.yb.Id m.yb.N m.yb.yc m.yb.yan m.yb.ym m.yb.yak m.yb.yg r0 m.yb.yaf m.yb.yq m.yb.Next m.yb.yaa m.yb.yu m.yb.yam) m.f_out)
  else
    some m
def zec (m:yd):Option yd:=
  bnd (zdt m.yb.yaa) fun r0=>
  bnd (zbn m.yb.yg r0) fun r0_1=>
  if r0_1.2=true then
   if (decide (m.yb.yl < r0)) = true then
    zcj m r0 (decide (r0_1.1=m.yb.yc))
   else
     zcj m r0 false
  else
    zcj m r0 false
def zhf (l:yag)(e:yk):Option yag:=
  bnd (zeu l) fun r0=>
  if (yeq (e.yck).length) = true then
   if (yeq ((r0.yi).length + 1)) = true then
    some (yag.mk r0.yn r0.yv (r0.yi++[e]))
    else none
   else none
def zeb (m:yd):Option yd:=
  bnd (zhf m.yb.yg (yk.mk m.yb.yc ([]))) fun r0=>
  bnd (zaf r0) fun r0_1=>
  bnd (ydd m.yb.yaa (IntKind.i64.wrap (m.yb.Id - (1:Int)))) fun e=>
  bnd (zec (yd.mk (ye.mk m.yb.Id m.yb.N m.yb.yc m.yb.yan m.yb.ym m.yb.yak r0 m.yb.yl m.yb.yaf m.yb.yq m.yb.Next (ybl m.yb.yaa (IntKind.i64.wrap (m.yb.Id - (1:Int))) r0_1) m.yb.yu m.yb.yam) m.f_out)) fun r0_2=>
  bnd (zft r0_2) fun r0_3=>
  some r0_3
def zdc (r0:yd)(zx:(List Int)):Option yd:=
  bnd (zeb (yd.mk (ye.mk r0.yb.Id r0.yb.N r0.yb.yc r0.yb.yan (3:Int) r0.yb.yak r0.yb.yg r0.yb.yl r0.yb.yaf r0.yb.yq zx (List.replicate r0.yb.N.toNat (0:Int)) (0:Int) r0.yb.yam) r0.f_out)) fun r0_2=>
  some r0_2
def zcl (r0:yd)(zfn:Int->(List Int)->Option yd)(v49:Int)(zb:(List Int)):Option yd:=
  if (decide (v49 < ((r0.yb.N.toNat:Nat):Int))) = true then
   bnd (zaf r0.yb.yg) fun r0_1=>
   bnd (ydd zb v49) fun e=>
   zfn (IntKind.i64.wrap (v49 + (1:Int))) (ybl zb v49 (IntKind.i64.wrap (r0_1 + (1:Int))))
  else
    zdc r0 zb
def zw (r0:yd):Nat->Int->(List Int)->Option yd
  | 0,_,_=>none
  | n + 1,v49,zb=>zcl r0 (zw r0 n) v49 zb
def zcd (m:yd):Option yd:=
  bnd (zck m.yb.yc m.yb.Id m) fun r0=>
  if (mkB r0.yb.N) = true then
   zw r0 (((((r0.yb.N.toNat:Nat):Int)) - ((0:Int))).toNat + 1) (0:Int) (List.replicate r0.yb.N.toNat (0:Int))
   else none
def zep (m:yd):Option yd:=
  bnd (zck (IntKind.i64.wrap (m.yb.yc + (1:Int))) (0:Int) m) fun r0=>
  if (mkB r0.yb.N) = true then
   bnd (zbl r0.yb.Id (yd.mk (ye.mk r0.yb.Id r0.yb.N r0.yb.yc r0.yb.Id (2:Int) r0.yb.yak r0.yb.yg r0.yb.yl r0.yb.yaf (List.replicate r0.yb.N.toNat false) r0.yb.Next r0.yb.yaa (0:Int) r0.yb.yam) r0.f_out)) fun r0_1=>
   if r0_1.1=true then
    bnd (zcd r0_1.2) fun r0_2=>
    some r0_2
   else
     bnd (zfu r0_1.2) fun r0_3=>
     some r0_3
   else none
def zlz (draw:Int):Option Int:=
  some (IntKind.i64.wrap ((10:Int) + (IntKind.i64.wrap ((IntKind.u64.wrap draw).tmod (10:Int)))))
def zfz (draw:Int)(m:yd):Option yd:=
  bnd (zam m.yb.yc (0:Int) m) fun r0=>
  bnd (zlz draw) fun r0_1=>
  if (mkB r0.yb.N) = true then
   bnd (zbl r0.yb.Id (yd.mk (ye.mk r0.yb.Id r0.yb.N r0.yb.yc r0.yb.yan (1:Int) r0.yb.yak r0.yb.yg r0.yb.yl r0.yb.yaf (List.replicate r0.yb.N.toNat false) r0.yb.Next r0.yb.yaa (0:Int) r0_1) r0.f_out)) fun r0_2=>
   if r0_2.1=true then
    bnd (zep r0_2.2) fun r0_3=>
    some r0_3
   else
     bnd (zhu r0_2.2) fun r0_4=>
     some r0_4
   else none
def zgx (m:yd):Option (ye × (List yj)):=
  some (m.yb,m.f_out)
def zjw (m:yd):Option (ye × (List yj)):=
  some (m.yb,m.f_out)
def zcp (m:yd)(r0:Int)(v39:Bool):Option yd:=
  if v39=true then
   some (yd.mk (ye.mk m.yb.Id m.yb.N m.yb.yc m.yb.yan m.yb.ym m.yb.yak m.yb.yg r0 m.yb.yaf m.yb.yq m.yb.Next m.yb.yaa m.yb.yu m.yb.yam) m.f_out)
  else
    some m
def zee (m:yd):Option yd:=
  bnd (zdt m.yb.yaa) fun r0=>
  bnd (zbn m.yb.yg r0) fun r0_1=>
  if r0_1.2=true then
   if (decide (m.yb.yl < r0)) = true then
    zcp m r0 (decide (r0_1.1=m.yb.yc))
   else
     zcp m r0 false
  else
    zcp m r0 false
def zgg (data:(List Int))(m:yd):Option yd:=
  bnd (zhf m.yb.yg (yk.mk m.yb.yc data)) fun r0=>
  bnd (zaf r0) fun r0_1=>
  bnd (ydd m.yb.yaa (IntKind.i64.wrap (m.yb.Id - (1:Int)))) fun e=>
  bnd (zee (yd.mk (ye.mk m.yb.Id m.yb.N m.yb.yc m.yb.yan m.yb.ym m.yb.yak r0 m.yb.yl m.yb.yaf m.yb.yq m.yb.Next (ybl m.yb.yaa (IntKind.i64.wrap (m.yb.Id - (1:Int))) r0_1) m.yb.yu m.yb.yam) m.f_out)) fun r0_2=>
  bnd (zfv r0_2) fun r0_3=>
  some r0_3
def zcc (to0:Int)(x0:yj)(m:yd):Option yd:=
  if (yeq ((m.f_out).length + 1)) = true then
   some (yd.mk m.yb (m.f_out++[(yj.mk x0.yae x0.yhn m.yb.Id to0 x0.yc x0.At x0.ybf x0.yl x0.Ok ([]) ([]))]))
   else none
def zim (l:yag)(term:Int)(at0:Int):Option Bool:=
  bnd (zek l) fun r0=>
  if (decide (r0 < term)) = true then
   some true
  else
    if (decide (term=r0)) = true then
     bnd (zaf l) fun r0_1=>
     some (decide (r0_1<=at0))
    else
      some false
def zct (x0:yj)(m:yd)(ok_1:Bool)(term:Int):Option yd:=
  bnd (zcc x0.From (yj.mk (2:Int) (0:Int) (0:Int) (0:Int) term (0:Int) (0:Int) (0:Int) ok_1 ([]) ([])) m) fun r0_1=>
  some r0_1
def zbz (x0:yj)(m:yd)(ok:Bool):Option yd:=
  if ok=true then
   zct x0 m true x0.yc
  else
    zct x0 m false m.yb.yc
def zby (x0:yj)(m:yd)(free:Bool):Option yd:=
  if (decide (m.yb.yc < x0.yc)) = true then
   if free=true then
    bnd (zim m.yb.yg x0.ybf x0.At) fun r0=>
    zbz x0 m r0
   else
     zbz x0 m false
  else
    zbz x0 m false
def zeo (x0:yj)(m:yd):Option yd:=
  if (decide (m.yb.ym≠(3:Int))) = true then
   if (decide (m.yb.yak=(0:Int))) = true then
    zby x0 m true
   else
     zby x0 m (decide ((10:Int)<=m.yb.yu))
  else
    zby x0 m false
def zca (who:Int)(m:yd):Option (Bool × yd):=
  bnd (ydd m.yb.yq (IntKind.i64.wrap (who - (1:Int)))) fun e=>
  bnd (zjq (ybl m.yb.yq (IntKind.i64.wrap (who - (1:Int))) true)) fun r0=>
  some (r0,(yd.mk (ye.mk m.yb.Id m.yb.N m.yb.yc m.yb.yan m.yb.ym m.yb.yak m.yb.yg m.yb.yl m.yb.yaf (ybl m.yb.yq (IntKind.i64.wrap (who - (1:Int))) true) m.yb.Next m.yb.yaa m.yb.yu m.yb.yam) m.f_out))
def zev (m:yd):Option yd:=
  bnd (zam (IntKind.i64.wrap (m.yb.yc + (1:Int))) (0:Int) m) fun r0=>
  if (mkB r0.yb.N) = true then
   bnd (zbl r0.yb.Id (yd.mk (ye.mk r0.yb.Id r0.yb.N r0.yb.yc r0.yb.Id (2:Int) r0.yb.yak r0.yb.yg r0.yb.yl r0.yb.yaf (List.replicate r0.yb.N.toNat false) r0.yb.Next r0.yb.yaa (0:Int) r0.yb.yam) r0.f_out)) fun r0_1=>
   if r0_1.1=true then
    bnd (zcd r0_1.2) fun r0_2=>
    some r0_2
   else
     bnd (zfu r0_1.2) fun r0_3=>
     some r0_3
   else none
def zfk (x0:yj)(m:yd)(ok_1:Bool)(m_30 ze:Int):Option yd:=
  bnd (zcc x0.From (yj.mk (4:Int) (0:Int) (0:Int) (0:Int) m.yb.yc (0:Int) (0:Int) (0:Int) ok_1 ([]) ([])) (yd.mk (ye.mk m.yb.Id m.yb.N m.yb.yc m_30 m.yb.ym m.yb.yak m.yb.yg m.yb.yl m.yb.yaf m.yb.yq m.yb.Next m.yb.yaa ze m.yb.yam) m.f_out)) fun r0_2=>
  some r0_2
def zag (x0:yj)(m:yd)(ok:Bool):Option yd:=
  if ok=true then
   zfk x0 m true x0.From (0:Int)
  else
    zfk x0 m false m.yb.yan m.yb.yu
def zfj (x0:yj)(m:yd):Option yd:=
  if (decide (x0.yc=m.yb.yc)) = true then
   if (decide (m.yb.ym=(0:Int))) = true then
    if (decide (m.yb.yan=(0:Int))) = true then
     bnd (zim m.yb.yg x0.ybf x0.At) fun r0=>
     zag x0 m r0
    else
      if (decide (m.yb.yan=x0.From)) = true then
       bnd (zim m.yb.yg x0.ybf x0.At) fun r0_1=>
       zag x0 m r0_1
      else
        zag x0 m false
   else
     zag x0 m false
  else
    zag x0 m false
def zin (r0:yd)(zx:(List Int)):Option yd:=
  bnd (zeb (yd.mk (ye.mk r0.yb.Id r0.yb.N r0.yb.yc r0.yb.yan (3:Int) r0.yb.yak r0.yb.yg r0.yb.yl r0.yb.yaf r0.yb.yq zx (List.replicate r0.yb.N.toNat (0:Int)) (0:Int) r0.yb.yam) r0.f_out)) fun r0_2=>
  some r0_2
def zfa (r0:yd)(zed:Int->(List Int)->Option yd)(v49:Int)(zb:(List Int)):Option yd:=
  if (decide (v49 < ((r0.yb.N.toNat:Nat):Int))) = true then
   bnd (zaf r0.yb.yg) fun r0_1=>
   bnd (ydd zb v49) fun e=>
   zed (IntKind.i64.wrap (v49 + (1:Int))) (ybl zb v49 (IntKind.i64.wrap (r0_1 + (1:Int))))
  else
    zin r0 zb
def zav (r0:yd):Nat->Int->(List Int)->Option yd
  | 0,_,_=>none
  | n + 1,v49,zb=>zfa r0 (zav r0 n) v49 zb
def zdd (m:yd):Option yd:=
  bnd (zam m.yb.yc m.yb.Id m) fun r0=>
  if (mkB r0.yb.N) = true then
   zav r0 (((((r0.yb.N.toNat:Nat):Int)) - ((0:Int))).toNat + 1) (0:Int) (List.replicate r0.yb.N.toNat (0:Int))
   else none
def zdf (to0:Int)(x0:yj)(m:yd):Option yd:=
  if (yeq ((m.f_out).length + 1)) = true then
   some (yd.mk m.yb (m.f_out++[(yj.mk x0.yae x0.yhn m.yb.Id to0 x0.yc x0.At x0.ybf x0.yl x0.Ok ([]) ([]))]))
   else none
def zdb (x0:yj)(m:yd)(v20:Bool):Option (Bool × yd):=
  if v20=true then
   bnd (zcc x0.From (yj.mk (6:Int) (0:Int) (0:Int) (0:Int) m.yb.yc (0:Int) (0:Int) (0:Int) false ([]) ([])) m) fun r0=>
   some (false,r0)
  else
    bnd (zam x0.yc x0.From m) fun r0_1=>
    some (true,(yd.mk (ye.mk r0_1.yb.Id r0_1.yb.N r0_1.yb.yc r0_1.yb.yan r0_1.yb.ym r0_1.yb.yak r0_1.yb.yg r0_1.yb.yl r0_1.yb.yaf r0_1.yb.yq r0_1.yb.Next r0_1.yb.yaa (0:Int) r0_1.yb.yam) r0_1.f_out))
def zff (x0:yj)(m:yd):Option (Bool × yd):=
  if (decide (x0.yc < m.yb.yc)) = true then
   zdb x0 m true
  else
    zdb x0 m (decide (m.yb.ym=(3:Int)))
def zjb (at0_1:Int)(entries_1:(List yk))(r0_7:yag)(out_2_1:(List yk)):Option (yag × Int × Bool):=
  some ((yag.mk r0_7.yn r0_7.yv out_2_1),(IntKind.i64.wrap (at0_1 + (entries_1.length:Int))),true)
def zja (at0_1:Int)(entries_1:(List yk))(r0_7:yag)(v97:Int)(out_2:(List yk)):Option (yag × Int × Bool):=
  bnd (ycn entries_1 v97 entries_1.length) fun l_3=>
  bnd (zgb l_3) fun r0_8=>
  if (yeq (out_2.length + r0_8.length)) = true then
   zjb at0_1 entries_1 r0_7 (out_2++r0_8)
   else none
def zjd (l:yag)(at0_1:Int)(entries_1:(List yk))(r0_7:yag)(zjl:Int->Option (yag × Int × Bool))(v97:Int):Option (yag × Int × Bool):=
  if (decide (v97 < (entries_1.length:Int))) = true then
   bnd (ydd entries_1 v97) fun e=>
   if (decide ((IntKind.i64.wrap ((IntKind.i64.wrap (at0_1 + v97)) - l.yn)) < (((r0_7.yi).length:Nat):Int))) = true then
    bnd (ydd r0_7.yi (IntKind.i64.wrap ((IntKind.i64.wrap (at0_1 + v97)) - l.yn))) fun e_1=>
    if (decide (e_1.yc=e.yc)) = true then
     zjl (IntKind.i64.wrap (v97 + (1:Int)))
    else
      bnd (ycn r0_7.yi 0 (IntKind.i64.wrap ((IntKind.i64.wrap (at0_1 + v97)) - l.yn))) fun l_2=>
      zja at0_1 entries_1 r0_7 v97 l_2
   else
     zja at0_1 entries_1 r0_7 v97 r0_7.yi
  else
    zjb at0_1 entries_1 r0_7 r0_7.yi
def zga (l:yag)(at0_1:Int)(entries_1:(List yk))(r0_7:yag):Nat->Int->Option (yag × Int × Bool)
  | 0,_=>none
  | n + 1,v97=>zjd l at0_1 entries_1 r0_7 (zga l at0_1 entries_1 r0_7 n) v97
def zki (l:yag)(hint_1:Int):Option (yag × Int × Bool):=
  bnd (zeu l) fun r0_6=>
  some (r0_6,(if hint_1 < l.yn then l.yn else hint_1),false)
def zbj(zbd:Int->Int->Bool->Option (yag × Int × Bool))(l:yag)(hint:Int)(v78:Bool):Option (yag × Int × Bool):=
  if v78=true then
   bnd (zbn l (IntKind.i64.wrap (hint - (1:Int)))) fun r0_5=>
   zbd (IntKind.i64.wrap (hint - (1:Int))) r0_5.1 r0_5.2
  else
    zki l hint
def zhb (l:yag)(r0_1:(Int × Bool))(zbd:Int->Int->Bool->Option (yag × Int × Bool))(hint t:Int)(ok:Bool):Option (yag × Int × Bool):=
  if ok=true then
   if (decide (t=r0_1.1)) = true then
    zbj zbd l hint (decide (l.yn < hint))
   else
     zbj zbd l hint false
  else
    zbj zbd l hint false
def zaj (l:yag)(r0_1:(Int × Bool)):Nat->Int->Int->Bool->Option (yag × Int × Bool)
  | 0,_,_,_=>none
  | n + 1,hint,t,ok=>zhb l r0_1 (zaj l r0_1 n) hint t ok
def ziz (l:yag)(at0_1 term_1:Int)(entries_1:(List yk)):Option (yag × Int × Bool):=
  bnd (zbn l at0_1) fun r0_1=>
  if r0_1.2=true then
   if (decide (r0_1.1≠term_1)) = true then
    bnd (zbn l (IntKind.i64.wrap (at0_1 - (1:Int)))) fun r0_4=>
    zaj l r0_1 (1000000) (IntKind.i64.wrap (at0_1 - (1:Int))) r0_4.1 r0_4.2
   else
     bnd (zeu l) fun r0_7=>
     zga l at0_1 entries_1 r0_7 ((((entries_1.length:Int)) - ((0:Int))).toNat + 1) (0:Int)
  else
    bnd (zeu l) fun r0_2=>
    bnd (zaf l) fun r0_3=>
    some (r0_2,r0_3,false)
def zmm (l:yag)(at0:Int)(term:Int)(entries:(List yk)):Option (yag × Int × Bool):=
  if (decide (at0 < l.yn)) = true then
   if (decide ((entries.length:Int) < (IntKind.i64.wrap (l.yn - at0)))) = true then
    bnd (zeu l) fun r0=>
    some (r0,l.yn,true)
   else
     bnd (ycn entries (IntKind.i64.wrap (l.yn - at0)) entries.length) fun l_1=>
     ziz l l.yn l.yv l_1
  else
    ziz l at0 term entries
def zcb (x0:yj)(r0:(Bool × yd))(r0_1:(yag × Int × Bool))(ok:Bool)(m_60 m_70:Int)(m_80:(List yk))(m_90:Int):Option yd:=
  bnd (zdf x0.From (yj.mk (6:Int) (0:Int) (0:Int) (0:Int) r0.2.yb.yc r0_1.2.1 (0:Int) (0:Int) ok ([]) ([])) (yd.mk (ye.mk r0.2.yb.Id r0.2.yb.N r0.2.yb.yc r0.2.yb.yan r0.2.yb.ym r0.2.yb.yak (yag.mk m_60 m_70 m_80) m_90 r0.2.yb.yaf r0.2.yb.yq r0.2.yb.Next r0.2.yb.yaa r0.2.yb.yu r0.2.yb.yam) r0.2.f_out)) fun r0_2=>
  some r0_2
def zda (x0:yj)(m:yd):Option yd:=
  bnd (zff x0 m) fun r0=>
  if r0.1=true then
   bnd (zmm r0.2.yb.yg x0.At x0.ybf x0.yi) fun r0_1=>
   if r0_1.2.2=true then
    zcb x0 r0 r0_1 true r0_1.1.yn r0_1.1.yv r0_1.1.yi (if r0.2.yb.yl < (if r0_1.2.1 < x0.yl then r0_1.2.1 else x0.yl) then (if r0_1.2.1 < x0.yl then r0_1.2.1 else x0.yl) else r0.2.yb.yl)
   else
     zcb x0 r0 r0_1 false r0.2.yb.yg.yn r0.2.yb.yg.yv r0.2.yb.yg.yi r0.2.yb.yl
  else
    some r0.2
def zcq (m:yd)(r0:Int)(v39:Bool):Option yd:=
  if v39=true then
   some (yd.mk (ye.mk m.yb.Id m.yb.N m.yb.yc m.yb.yan m.yb.ym m.yb.yak m.yb.yg r0 m.yb.yaf m.yb.yq m.yb.Next m.yb.yaa m.yb.yu m.yb.yam) m.f_out)
  else
    some m
def zef (m:yd):Option yd:=
  bnd (zdt m.yb.yaa) fun r0=>
  bnd (zbn m.yb.yg r0) fun r0_1=>
  if r0_1.2=true then
   if (decide (m.yb.yl < r0)) = true then
    zcq m r0 (decide (r0_1.1=m.yb.yc))
   else
     zcq m r0 false
  else
    zcq m r0 false
def zdi (x0:yj)(m_00 m_10 m_20 m_30 m_40 m_50 m_60 m_70 m_90 ze zh:Int)(zd:(List Int))(zf:(List Bool))(zb zg:(List Int))(m_80:(List yk))(zi:(List yj)):Option yd:=
  bnd (zfh x0.From (yd.mk (ye.mk m_00 m_10 m_20 m_30 m_40 m_50 (yag.mk m_60 m_70 m_80) m_90 zd zf zb zg ze zh) zi)) fun r0_3=>
  some r0_3
def zbm (x0:yj)(m:yd)(v20:Bool):Option yd:=
  if v20=true then
   some m
  else
    if x0.Ok=true then
     bnd (ydd m.yb.yaa (IntKind.i64.wrap (x0.From - (1:Int)))) fun e=>
     bnd (zaf m.yb.yg) fun r0=>
     bnd (ydd m.yb.Next (IntKind.i64.wrap (x0.From - (1:Int)))) fun e_1=>
     bnd (ydd (ybl m.yb.yaa (IntKind.i64.wrap (x0.From - (1:Int))) (if e < (if r0 < x0.At then r0 else x0.At) then (if r0 < x0.At then r0 else x0.At) else e)) (IntKind.i64.wrap (x0.From - (1:Int)))) fun e_2=>
     bnd (zef (yd.mk (ye.mk m.yb.Id m.yb.N m.yb.yc m.yb.yan m.yb.ym m.yb.yak m.yb.yg m.yb.yl m.yb.yaf m.yb.yq (ybl m.yb.Next (IntKind.i64.wrap (x0.From - (1:Int))) (if e_1 < (IntKind.i64.wrap (e_2 + (1:Int))) then (IntKind.i64.wrap (e_2 + (1:Int))) else e_1)) (ybl m.yb.yaa (IntKind.i64.wrap (x0.From - (1:Int))) (if e < (if r0 < x0.At then r0 else x0.At) then (if r0 < x0.At then r0 else x0.At) else e)) m.yb.yu m.yb.yam) m.f_out)) fun r0_1=>
     bnd (ydd r0_1.yb.Next (IntKind.i64.wrap (x0.From - (1:Int)))) fun e_3=>
     bnd (zaf r0_1.yb.yg) fun r0_2=>
     if (decide (r0_2 < e_3)) = true then
      some r0_1
     else
       zdi x0 r0_1.yb.Id r0_1.yb.N r0_1.yb.yc r0_1.yb.yan r0_1.yb.ym r0_1.yb.yak r0_1.yb.yg.yn r0_1.yb.yg.yv r0_1.yb.yl r0_1.yb.yu r0_1.yb.yam r0_1.yb.yaf r0_1.yb.yq r0_1.yb.Next r0_1.yb.yaa r0_1.yb.yg.yi r0_1.f_out
    else
      bnd (ydd m.yb.yaa (IntKind.i64.wrap (x0.From - (1:Int)))) fun e_4=>
      bnd (ydd m.yb.Next (IntKind.i64.wrap (x0.From - (1:Int)))) fun e_5=>
      zdi x0 m.yb.Id m.yb.N m.yb.yc m.yb.yan m.yb.ym m.yb.yak m.yb.yg.yn m.yb.yg.yv m.yb.yl m.yb.yu m.yb.yam m.yb.yaf m.yb.yq (ybl m.yb.Next (IntKind.i64.wrap (x0.From - (1:Int))) (if (IntKind.i64.wrap (e_4 + (1:Int))) < (IntKind.i64.wrap ((if x0.At < (IntKind.i64.wrap (e_5 - (2:Int))) then x0.At else (IntKind.i64.wrap (e_5 - (2:Int)))) + (1:Int))) then (IntKind.i64.wrap ((if x0.At < (IntKind.i64.wrap (e_5 - (2:Int))) then x0.At else (IntKind.i64.wrap (e_5 - (2:Int)))) + (1:Int))) else (IntKind.i64.wrap (e_4 + (1:Int))))) m.yb.yaa m.yb.yg.yi m.f_out
def zfi (x0:yj)(m:yd):Option yd:=
  if (decide (x0.yc < m.yb.yc)) = true then
   zbm x0 m true
  else
    zbm x0 m (decide (m.yb.ym≠(3:Int)))
def zic (l:yag)(at0:Int):Option (yag × Int):=
  bnd (zbn l at0) fun r0=>
  if r0.2=true then
   bnd (ycn l.yi (IntKind.i64.wrap (at0 - l.yn)) l.yi.length) fun l_1=>
   bnd (zgb l_1) fun r0_1=>
   some ((yag.mk at0 r0.1 r0_1),(0:Int))
  else
    some ((yag.mk (0:Int) (0:Int) ([])),(2:Int))
def zje (l:yag)(at0 term:Int)(v22:Bool):Option yag:=
  if v22=true then
   bnd (zic l at0) fun r0_1=>
   some r0_1.1
  else
    some (yag.mk at0 term ([]))
def zld (l:yag)(at0:Int)(term:Int):Option yag:=
  bnd (zbn l at0) fun r0=>
  if r0.2=true then
   zje l at0 term (decide (r0.1=term))
  else
    zje l at0 term false
def zdg (x0:yj)(r0:(Bool × yd))(m_60 m_70:Int)(m_80:(List yk))(m_90:Int)(zd:(List Int)):Option yd:=
  bnd (zdf x0.From (yj.mk (6:Int) (0:Int) (0:Int) (0:Int) r0.2.yb.yc m_90 (0:Int) (0:Int) true ([]) ([])) (yd.mk (ye.mk r0.2.yb.Id r0.2.yb.N r0.2.yb.yc r0.2.yb.yan r0.2.yb.ym r0.2.yb.yak (yag.mk m_60 m_70 m_80) m_90 zd r0.2.yb.yq r0.2.yb.Next r0.2.yb.yaa r0.2.yb.yu r0.2.yb.yam) r0.2.f_out)) fun r0_2=>
  some r0_2
def zfg (x0:yj)(m:yd):Option yd:=
  bnd (zff x0 m) fun r0=>
  if r0.1=true then
   if (decide (r0.2.yb.yl < x0.At)) = true then
    bnd (zld r0.2.yb.yg x0.At x0.ybf) fun r0_1=>
    if (yeq (x0.yck).length) = true then
     zdg x0 r0 r0_1.yn r0_1.yv r0_1.yi x0.At x0.yck
     else none
   else
     zdg x0 r0 r0.2.yb.yg.yn r0.2.yb.yg.yv r0.2.yb.yg.yi r0.2.yb.yl r0.2.yb.yaf
  else
    some r0.2
def znt:Option Bool:=some true
def zhg (id n0:Int)(v20:Bool):Option (ye × Int):=
  if v20=true then
   some ((ye.mk (0:Int) (0:Int) (0:Int) (0:Int) (0:Int) (0:Int) (yag.mk (0:Int) (0:Int) ([])) (0:Int) ([]) ([]) ([]) ([]) (0:Int) (0:Int)),(2:Int))
  else
    some ((ye.mk id n0 (0:Int) (0:Int) (0:Int) (0:Int) (yag.mk (0:Int) (0:Int) ([])) (0:Int) ([]) ([]) ([]) ([]) (0:Int) (IntKind.i64.wrap ((10:Int) + id))),(0:Int))
def zll (id:Int)(n0:Int):Option (ye × Int):=
  if (decide (n0 < (1:Int))) = true then
   zhg id n0 true
  else
    if (decide ((7:Int) < n0)) = true then
     zhg id n0 true
    else
      if (decide (id < (1:Int))) = true then
       zhg id n0 true
      else
        zhg id n0 (decide (n0 < id))
def zha(zay:Int->Int->Option Int)(v39:Int)(e:yk)(v51:Bool):Option Int:=
  if v51=true then
   some (1:Int)
  else
    zay e.yc (IntKind.i64.wrap (v39 + (1:Int)))
def zhi (l:yag)(zay:Int->Int->Option Int)(term v39:Int):Option Int:=
  if (decide (v39 < (l.yi.length:Int))) = true then
   bnd (ydd l.yi v39) fun e=>
   if (decide (e.yc < term)) = true then
    zha zay v39 e true
   else
     zha zay v39 e (decide ((1099511627776:Int) < e.yc))
  else
    some (0:Int)
def zcz (l:yag):Nat->Int->Int->Option Int
  | 0,_,_=>none
  | n + 1,term,v39=>zhi l (zcz l n) term v39
def zcy (l:yag)(v32:Bool):Option Int:=
  if v32=true then
   some (1:Int)
  else
    zcz l ((((l.yi.length:Int)) - ((0:Int))).toNat + 1) (if l.yv < (1:Int) then (1:Int) else l.yv) (0:Int)
def zlc (l:yag):Option Int:=
  if (decide (l.yn < (0:Int))) = true then
   zcy l true
  else
    if (decide ((1099511627776:Int) < l.yn)) = true then
     zcy l true
    else
      if (decide (l.yv < (0:Int))) = true then
       zcy l true
      else
        if (decide ((1099511627776:Int) < l.yv)) = true then
         zcy l true
        else
          zcy l (!(((decide (l.yn=(0:Int))) == (decide (l.yv=(0:Int))))))
def zbc (term vote:Int)(l:yag)(snap:(List Int))(r0:(ye × Int))(v27:Bool):Option (ye × Int):=
  if v27=true then
   some ((ye.mk (0:Int) (0:Int) (0:Int) (0:Int) (0:Int) (0:Int) (yag.mk (0:Int) (0:Int) ([])) (0:Int) ([]) ([]) ([]) ([]) (0:Int) (0:Int)),(1:Int))
  else
    bnd (zeu l) fun r0_3=>
    if (yeq (snap).length) = true then
     some ((ye.mk r0.1.Id r0.1.N term vote r0.1.ym r0.1.yak r0_3 l.yn snap r0.1.yq r0.1.Next r0.1.yaa r0.1.yu r0.1.yam),(0:Int))
     else none
def zie (id:Int)(n0:Int)(term:Int)(vote:Int)(l:yag)(snap:(List Int)):Option (ye × Int):=
  bnd (zll id n0) fun r0=>
  if (decide (r0.2≠(0:Int))) = true then
   some ((ye.mk (0:Int) (0:Int) (0:Int) (0:Int) (0:Int) (0:Int) (yag.mk (0:Int) (0:Int) ([])) (0:Int) ([]) ([]) ([]) ([]) (0:Int) (0:Int)),r0.2)
  else
    if (decide (term < (0:Int))) = true then
     zbc term vote l snap r0 true
    else
      if (decide ((1099511627776:Int) < term)) = true then
       zbc term vote l snap r0 true
      else
        if (decide (vote < (0:Int))) = true then
         zbc term vote l snap r0 true
        else
          if (decide (n0 < vote)) = true then
           zbc term vote l snap r0 true
          else
            bnd (zek l) fun r0_1=>
            if (decide (term < r0_1)) = true then
             zbc term vote l snap r0 true
            else
              bnd (zlc l) fun r0_2=>
              zbc term vote l snap r0 (decide (r0_2≠(0:Int)))
def zgu (l:(List TOp))(zhz:Int->Option Bool)(i:Int):Option Bool:=
  if (decide (i < (l.length:Int))) = true then
   bnd (ydd l i) fun e=>
   if (decide ((20:Int) < (e.yck.length:Int))) = true then
    some false
   else
     zhz (IntKind.i64.wrap (i + (1:Int)))
  else
    some true
def zdp (l:(List TOp)):Nat->Int->Option Bool
  | 0,_=>none
  | n + 1,i=>zgu l (zdp l n) i
def zkg (l:(List TOp)):Option Bool:=
  if (decide ((250:Int) < (l.length:Int))) = true then
   some false
  else
    zdp l ((((l.length:Int)) - ((0:Int))).toNat + 1) (0:Int)
def zgr (n0:Int)(zhx:Int->(List ye)->Option yab)(i:Int)(w_00:(List ye)):Option yab:=
  if (decide (i<=n0)) = true then
   bnd (zll i n0) fun r0=>
   if (yeq (w_00.length + 1)) = true then
    zhx (IntKind.i64.wrap (i + (1:Int))) (w_00++[r0.1])
    else none
  else
    some (yab.mk w_00 ([]))
def zdj (n0:Int):Nat->Int->(List ye)->Option yab
  | 0,_,_=>none
  | n + 1,i,w_00=>zgr n0 (zdj n0 n) i w_00
def zkf (n0:Int):Option yab:=
  zdj n0 (((n0) - ((1:Int)) + 1).toNat + 1) (1:Int) ([])
def zlb (n0:Int):Option Int:=
  some (IntKind.i64.wrap ((1:Int) + ((IntKind.i64.wrap n0).tmod (5:Int))))
def zjv (m_00 m_10 m_20 m_30 m_40 m_50 m_60 m_70:Int)(m_80:(List yk))(m_90 ze zh:Int)(zd:(List Int))(zf:(List Bool))(zb zg:(List Int))(zi:(List yj)):Option (ye × (List yj)):=
  bnd (zgx (yd.mk (ye.mk m_00 m_10 m_20 m_30 m_40 m_50 (yag.mk m_60 m_70 m_80) m_90 zd zf zb zg ze zh) zi)) fun r0_4=>
  some (r0_4.1,r0_4.2)
def zif (draw:Int)(r0_1:yd)(v41:Bool):Option (ye × (List yj)):=
  if v41=true then
   bnd (zfz draw (yd.mk (ye.mk r0_1.yb.Id r0_1.yb.N r0_1.yb.yc r0_1.yb.yan r0_1.yb.ym r0_1.yb.yak r0_1.yb.yg r0_1.yb.yl r0_1.yb.yaf r0_1.yb.yq r0_1.yb.Next r0_1.yb.yaa (IntKind.i64.wrap (r0_1.yb.yu + (1:Int))) r0_1.yb.yam) r0_1.f_out)) fun r0_3=>
   zjv r0_3.yb.Id r0_3.yb.N r0_3.yb.yc r0_3.yb.yan r0_3.yb.ym r0_3.yb.yak r0_3.yb.yg.yn r0_3.yb.yg.yv r0_3.yb.yg.yi r0_3.yb.yl r0_3.yb.yu r0_3.yb.yam r0_3.yb.yaf r0_3.yb.yq r0_3.yb.Next r0_3.yb.yaa r0_3.f_out
  else
    zjv r0_1.yb.Id r0_1.yb.N r0_1.yb.yc r0_1.yb.yan r0_1.yb.ym r0_1.yb.yak r0_1.yb.yg.yn r0_1.yb.yg.yv r0_1.yb.yg.yi r0_1.yb.yl (IntKind.i64.wrap (r0_1.yb.yu + (1:Int))) r0_1.yb.yam r0_1.yb.yaf r0_1.yb.yq r0_1.yb.Next r0_1.yb.yaa r0_1.f_out
def zju (draw:Int)(r0_1:yd)(v18:Bool):Option (ye × (List yj)):=
  if v18=true then
   bnd (zhk (yd.mk (ye.mk r0_1.yb.Id r0_1.yb.N r0_1.yb.yc r0_1.yb.yan r0_1.yb.ym r0_1.yb.yak r0_1.yb.yg r0_1.yb.yl r0_1.yb.yaf r0_1.yb.yq r0_1.yb.Next r0_1.yb.yaa (0:Int) r0_1.yb.yam) r0_1.f_out)) fun r0_2=>
   zjv r0_2.yb.Id r0_2.yb.N r0_2.yb.yc r0_2.yb.yan r0_2.yb.ym r0_2.yb.yak r0_2.yb.yg.yn r0_2.yb.yg.yv r0_2.yb.yg.yi r0_2.yb.yl r0_2.yb.yu r0_2.yb.yam r0_2.yb.yaf r0_2.yb.yq r0_2.yb.Next r0_2.yb.yaa r0_2.f_out
  else
    if (decide (r0_1.yb.ym≠(3:Int))) = true then
     zif draw r0_1 (decide (r0_1.yb.yam<=(IntKind.i64.wrap (r0_1.yb.yu + (1:Int)))))
    else
      zif draw r0_1 false
def zly (r0:ye)(draw:Int):Option (ye × (List yj)):=
  bnd (zjz r0) fun r0_1=>
  if (decide (r0_1.yb.ym=(3:Int))) = true then
   zju draw r0_1 (decide ((2:Int)<=(IntKind.i64.wrap (r0_1.yb.yu + (1:Int)))))
  else
    zju draw r0_1 false
def zjs (r0:ye)(data:(List Int)):Option (ye × Int × (List yj) × Int):=
  bnd (zjz r0) fun r0_1=>
  if (decide (r0_1.yb.ym≠(3:Int))) = true then
   some (r0_1.yb,(0:Int),[],(15:Int))
  else
    bnd (zgg data r0_1) fun r0_2=>
    bnd (zgx r0_2) fun r0_3=>
    bnd (zaf r0_3.1.yg) fun r0_4=>
    some (r0_3.1,r0_4,r0_3.2,(0:Int))
def zfx (upto:Int)(snap:(List Int))(r0_1:yd)(v29:Bool):Option (ye × Int):=
  if v29=true then
   some (r0_1.yb,(2:Int))
  else
    bnd (zic r0_1.yb.yg upto) fun r0_2=>
    if (decide (r0_2.2≠(0:Int))) = true then
     some (r0_1.yb,r0_2.2)
    else
      if (yeq (snap).length) = true then
       some ((ye.mk r0_1.yb.Id r0_1.yb.N r0_1.yb.yc r0_1.yb.yan r0_1.yb.ym r0_1.yb.yak r0_2.1 r0_1.yb.yl snap r0_1.yb.yq r0_1.yb.Next r0_1.yb.yaa r0_1.yb.yu r0_1.yb.yam),(0:Int))
       else none
def zjr (r0:ye)(upto:Int)(snap:(List Int)):Option (ye × Int):=
  bnd (zjz r0) fun r0_1=>
  if (decide (upto<=r0_1.yb.yg.yn)) = true then
   zfx upto snap r0_1 true
  else
    zfx upto snap r0_1 (decide (r0_1.yb.yl < upto))
def zdq (k:Int)(n0:Int):Option Int:=
  if (decide ((IntKind.u64.wrap n0) = 0)) = true then none else some (IntKind.i64.wrap ((IntKind.u64.wrap k).tmod (IntKind.u64.wrap n0)))
def zfo (w:yab)(i:Int)(r0:ye)(l:(List yj)):Option yab:=
  if (yeq (w.R).length) = true then
   bnd (ydd w.R i) fun e=>
   if (yeq (w.Net).length) = true then
    if (yeq ((w.Net).length + l.length)) = true then
     if (decide ((60:Int) < ((((w.Net).length + l.length):Nat):Int))) = true then
      bnd (ycn (w.Net++l) (IntKind.i64.wrap (((((w.Net).length + l.length):Nat):Int) - (60:Int))) (w.Net++l).length) fun l_1=>
      some (yab.mk (ybl w.R i r0) l_1)
     else
       some (yab.mk (ybl w.R i r0) (w.Net++l))
     else none
    else none
   else none
def zgz (w:yab)(k:Int)(e:yj)(out_1:(List yj)):Option (yab × yj):=
  bnd (ycn w.Net (IntKind.i64.wrap (k + (1:Int))) w.Net.length) fun l_1=>
  if (yeq (out_1.length + l_1.length)) = true then
   some ((yab.mk w.R (out_1++l_1)),e)
   else none
def zjo (w:yab)(k:Int)(keep:Bool):Option (yab × yj):=
  bnd (ydd w.Net k) fun e=>
  bnd (ycn w.Net 0 k) fun l=>
  if (yeq l.length) = true then
   if keep=true then
    if (yeq (l.length + 1)) = true then
     zgz w k e (l++[e])
     else none
   else
     zgz w k e l
   else none
def zak (zsx zsy zsz zta ztb ztc ztd zte:Int)(ztf:(List yk))(ztg zse zsf:Int)(zsa:(List Int))(zsb:(List Bool))(zsc zsd:(List Int))(zsg:(List yj)):Option (ye × (List yj)):=
  bnd (zgx (yd.mk (ye.mk zsx zsy zsz zta ztb ztc (yag.mk ztd zte ztf) ztg zsa zsb zsc zsd zse zsf) zsg)) fun r0_13=>
  some (r0_13.1,r0_13.2)
def zei (v158:Bool)(zrg zrh zri zrj zrk zrl zrm zrn zrp zqh zqi:Int)(zro:(List yk))(zqd:(List Int))(zqe:(List Bool))(zqf zqg:(List Int))(zqj:(List yj)):Option (ye × (List yj)):=
  if v158=true then
   bnd (zdd (yd.mk (ye.mk zrg zrh zri zrj zrk zrl (yag.mk zrm zrn zro) zrp zqd zqe zqf zqg zqh zqi) zqj)) fun r0_9=>
   zak r0_9.yb.Id r0_9.yb.N r0_9.yb.yc r0_9.yb.yan r0_9.yb.ym r0_9.yb.yak r0_9.yb.yg.yn r0_9.yb.yg.yv r0_9.yb.yg.yi r0_9.yb.yl r0_9.yb.yu r0_9.yb.yam r0_9.yb.yaf r0_9.yb.yq r0_9.yb.Next r0_9.yb.yaa r0_9.f_out
  else
    zak zrg zrh zri zrj zrk zrl zrm zrn zro zrp zqh zqi zqd zqe zqf zqg zqj
def zcv (v123:Bool)(zbo zbp zbq zbr zbs zbt zbu zbv zbx zar zas:Int)(zbw:(List yk))(zao:(List Int))(zap:(List Bool))(zx zaq:(List Int))(zat:(List yj)):Option (ye × (List yj)):=
  if v123=true then
   bnd (zev (yd.mk (ye.mk zbo zbp zbq zbr zbs zbt (yag.mk zbu zbv zbw) zbx zao zap zx zaq zar zas) zat)) fun r0_6=>
   zak r0_6.yb.Id r0_6.yb.N r0_6.yb.yc r0_6.yb.yan r0_6.yb.ym r0_6.yb.yak r0_6.yb.yg.yn r0_6.yb.yg.yv r0_6.yb.yg.yi r0_6.yb.yl r0_6.yb.yu r0_6.yb.yam r0_6.yb.yaf r0_6.yb.yq r0_6.yb.Next r0_6.yb.yaa r0_6.f_out
  else
    zak zbo zbp zbq zbr zbs zbt zbu zbv zbw zbx zar zas zao zap zx zaq zat
def zfy (x0:yj)(m_00 m_10 m_20 m_30 m_40 m_50 m_60 m_70 m_90 ze zh:Int)(m_80:(List yk))(zd:(List Int))(zf:(List Bool))(zb zg:(List Int))(zi:(List yj)):Option (ye × (List yj)):=
  if (decide (x0.yae=(1:Int))) = true then
   bnd (zeo x0 (yd.mk (ye.mk m_00 m_10 m_20 m_30 m_40 m_50 (yag.mk m_60 m_70 m_80) m_90 zd zf zb zg ze zh) zi)) fun r0_4=>
   zak r0_4.yb.Id r0_4.yb.N r0_4.yb.yc r0_4.yb.yan r0_4.yb.ym r0_4.yb.yak r0_4.yb.yg.yn r0_4.yb.yg.yv r0_4.yb.yg.yi r0_4.yb.yl r0_4.yb.yu r0_4.yb.yam r0_4.yb.yaf r0_4.yb.yq r0_4.yb.Next r0_4.yb.yaa r0_4.f_out
  else
    if (decide (x0.yae=(2:Int))) = true then
     if x0.Ok=true then
      if (decide (m_40=(1:Int))) = true then
       if (decide (x0.yc=(IntKind.i64.wrap (m_20 + (1:Int))))) = true then
        bnd (zca x0.From (yd.mk (ye.mk m_00 m_10 m_20 m_30 m_40 m_50 (yag.mk m_60 m_70 m_80) m_90 zd zf zb zg ze zh) zi)) fun r0_5=>
        zcv r0_5.1 r0_5.2.yb.Id r0_5.2.yb.N r0_5.2.yb.yc r0_5.2.yb.yan r0_5.2.yb.ym r0_5.2.yb.yak r0_5.2.yb.yg.yn r0_5.2.yb.yg.yv r0_5.2.yb.yl r0_5.2.yb.yu r0_5.2.yb.yam r0_5.2.yb.yg.yi r0_5.2.yb.yaf r0_5.2.yb.yq r0_5.2.yb.Next r0_5.2.yb.yaa r0_5.2.f_out
       else
         zcv false m_00 m_10 m_20 m_30 m_40 m_50 m_60 m_70 m_90 ze zh m_80 zd zf zb zg zi
      else
        zcv false m_00 m_10 m_20 m_30 m_40 m_50 m_60 m_70 m_90 ze zh m_80 zd zf zb zg zi
     else
       zcv false m_00 m_10 m_20 m_30 m_40 m_50 m_60 m_70 m_90 ze zh m_80 zd zf zb zg zi
    else
      if (decide (x0.yae=(3:Int))) = true then
       bnd (zfj x0 (yd.mk (ye.mk m_00 m_10 m_20 m_30 m_40 m_50 (yag.mk m_60 m_70 m_80) m_90 zd zf zb zg ze zh) zi)) fun r0_7=>
       zak r0_7.yb.Id r0_7.yb.N r0_7.yb.yc r0_7.yb.yan r0_7.yb.ym r0_7.yb.yak r0_7.yb.yg.yn r0_7.yb.yg.yv r0_7.yb.yg.yi r0_7.yb.yl r0_7.yb.yu r0_7.yb.yam r0_7.yb.yaf r0_7.yb.yq r0_7.yb.Next r0_7.yb.yaa r0_7.f_out
      else
        if (decide (x0.yae=(4:Int))) = true then
         if x0.Ok=true then
          if (decide (m_40=(2:Int))) = true then
           if (decide (x0.yc=m_20)) = true then
            bnd (zca x0.From (yd.mk (ye.mk m_00 m_10 m_20 m_30 m_40 m_50 (yag.mk m_60 m_70 m_80) m_90 zd zf zb zg ze zh) zi)) fun r0_8=>
            zei r0_8.1 r0_8.2.yb.Id r0_8.2.yb.N r0_8.2.yb.yc r0_8.2.yb.yan r0_8.2.yb.ym r0_8.2.yb.yak r0_8.2.yb.yg.yn r0_8.2.yb.yg.yv r0_8.2.yb.yl r0_8.2.yb.yu r0_8.2.yb.yam r0_8.2.yb.yg.yi r0_8.2.yb.yaf r0_8.2.yb.yq r0_8.2.yb.Next r0_8.2.yb.yaa r0_8.2.f_out
           else
             zei false m_00 m_10 m_20 m_30 m_40 m_50 m_60 m_70 m_90 ze zh m_80 zd zf zb zg zi
          else
            zei false m_00 m_10 m_20 m_30 m_40 m_50 m_60 m_70 m_90 ze zh m_80 zd zf zb zg zi
         else
           zei false m_00 m_10 m_20 m_30 m_40 m_50 m_60 m_70 m_90 ze zh m_80 zd zf zb zg zi
        else
          if (decide (x0.yae=(5:Int))) = true then
           bnd (zda x0 (yd.mk (ye.mk m_00 m_10 m_20 m_30 m_40 m_50 (yag.mk m_60 m_70 m_80) m_90 zd zf zb zg ze zh) zi)) fun r0_10=>
           zak r0_10.yb.Id r0_10.yb.N r0_10.yb.yc r0_10.yb.yan r0_10.yb.ym r0_10.yb.yak r0_10.yb.yg.yn r0_10.yb.yg.yv r0_10.yb.yg.yi r0_10.yb.yl r0_10.yb.yu r0_10.yb.yam r0_10.yb.yaf r0_10.yb.yq r0_10.yb.Next r0_10.yb.yaa r0_10.f_out
          else
            if (decide (x0.yae=(6:Int))) = true then
             bnd (zfi x0 (yd.mk (ye.mk m_00 m_10 m_20 m_30 m_40 m_50 (yag.mk m_60 m_70 m_80) m_90 zd zf zb zg ze zh) zi)) fun r0_11=>
             zak r0_11.yb.Id r0_11.yb.N r0_11.yb.yc r0_11.yb.yan r0_11.yb.ym r0_11.yb.yak r0_11.yb.yg.yn r0_11.yb.yg.yv r0_11.yb.yg.yi r0_11.yb.yl r0_11.yb.yu r0_11.yb.yam r0_11.yb.yaf r0_11.yb.yq r0_11.yb.Next r0_11.yb.yaa r0_11.f_out
            else
              if (decide (x0.yae=(7:Int))) = true then
               bnd (zfg x0 (yd.mk (ye.mk m_00 m_10 m_20 m_30 m_40 m_50 (yag.mk m_60 m_70 m_80) m_90 zd zf zb zg ze zh) zi)) fun r0_12=>
               zak r0_12.yb.Id r0_12.yb.N r0_12.yb.yc r0_12.yb.yan r0_12.yb.ym r0_12.yb.yak r0_12.yb.yg.yn r0_12.yb.yg.yv r0_12.yb.yg.yi r0_12.yb.yl r0_12.yb.yu r0_12.yb.yam r0_12.yb.yaf r0_12.yb.yq r0_12.yb.Next r0_12.yb.yaa r0_12.f_out
              else
                zak m_00 m_10 m_20 m_30 m_40 m_50 m_60 m_70 m_80 m_90 ze zh zd zf zb zg zi
def zcu (x0:yj)(r0_1:yd)(v83:Bool):Option (ye × (List yj)):=
  if v83=true then
   bnd (zam x0.yc (0:Int) r0_1) fun r0_3=>
   zfy x0 r0_3.yb.Id r0_3.yb.N r0_3.yb.yc r0_3.yb.yan r0_3.yb.ym r0_3.yb.yak r0_3.yb.yg.yn r0_3.yb.yg.yv r0_3.yb.yl r0_3.yb.yu r0_3.yb.yam r0_3.yb.yg.yi r0_3.yb.yaf r0_3.yb.yq r0_3.yb.Next r0_3.yb.yaa r0_3.f_out
  else
    zfy x0 r0_1.yb.Id r0_1.yb.N r0_1.yb.yc r0_1.yb.yan r0_1.yb.ym r0_1.yb.yak r0_1.yb.yg.yn r0_1.yb.yg.yv r0_1.yb.yl r0_1.yb.yu r0_1.yb.yam r0_1.yb.yg.yi r0_1.yb.yaf r0_1.yb.yq r0_1.yb.Next r0_1.yb.yaa r0_1.f_out
def zbb (x0:yj)(r0_1:yd)(v56:Bool):Option (ye × (List yj)):=
  if v56=true then
   bnd (zjw r0_1) fun r0_2=>
   some (r0_2.1,r0_2.2)
  else
    if (decide (r0_1.yb.yc < x0.yc)) = true then
     if (decide (x0.yae≠(1:Int))) = true then
      if (decide (x0.yae≠(2:Int))) = true then
       zcu x0 r0_1 true
      else
        zcu x0 r0_1 (!x0.Ok)
     else
       zcu x0 r0_1 false
    else
      zcu x0 r0_1 false
def zjt (r0:ye)(x0:yj):Option (ye × (List yj)):=
  bnd (zjz r0) fun r0_1=>
  if (decide (x0.To≠r0_1.yb.Id)) = true then
   zbb x0 r0_1 true
  else
    if (decide (x0.From < (1:Int))) = true then
     zbb x0 r0_1 true
    else
      if (decide (r0_1.yb.N < x0.From)) = true then
       zbb x0 r0_1 true
      else
        if (decide (x0.From=r0_1.yb.Id)) = true then
         zbb x0 r0_1 true
        else
          if (decide (x0.yc < (0:Int))) = true then
           zbb x0 r0_1 true
          else
            if (decide ((1099511627776:Int) < x0.yc)) = true then
             zbb x0 r0_1 true
            else
              zbb x0 r0_1 (decide (x0.At < (0:Int)))
def zdv (r0_4:(yab × yj))(v87:Bool):Option yab:=
  if v87=true then
   some r0_4.1
  else
    bnd (ydd r0_4.1.R (IntKind.i64.wrap (r0_4.2.To - (1:Int)))) fun e_1=>
    bnd (zjt e_1 r0_4.2) fun r0_5=>
    bnd (zfo r0_4.1 (IntKind.i64.wrap (r0_4.2.To - (1:Int))) r0_5.1 r0_5.2) fun r0_6=>
    some r0_6
def zco (w:yab)(o:TOp)(r0:Int)(e:ye)(v49:Bool):Option yab:=
  if v49=true then
   if (decide ((w.Net.length:Int) = (0:Int))) = true then
    some w
   else
     bnd (zdq o.N (w.Net.length:Int)) fun r0_3=>
     bnd (zjo w r0_3 (decide (o.yae=(3:Int)))) fun r0_4=>
     if (decide (o.yae=(2:Int))) = true then
      zdv r0_4 true
     else
       if (decide (r0_4.2.To < (1:Int))) = true then
        zdv r0_4 true
       else
         zdv r0_4 (decide ((w.R.length:Int) < r0_4.2.To))
  else
    if (decide (o.yae=(4:Int))) = true then
     bnd (zjs e o.yck) fun r0_7=>
     if (decide (r0_7.2.2.2≠(0:Int))) = true then
      some w
     else
       bnd (zfo w r0 r0_7.1 r0_7.2.2.1) fun r0_8=>
       some r0_8
    else
      if (decide (o.yae=(5:Int))) = true then
       bnd (zdq o.N (3:Int)) fun r0_9=>
       bnd (zjr e (IntKind.i64.wrap (e.yl - r0_9)) ([(IntKind.u8.wrap (IntKind.i64.wrap (e.yl - r0_9)))])) fun r0_10=>
       if (decide (r0_10.2≠(0:Int))) = true then
        some w
       else
         bnd (zfo w r0 r0_10.1 ([])) fun r0_11=>
         some r0_11
      else
        if (decide (o.yae=(6:Int))) = true then
         bnd (zie e.Id e.N e.yc e.yan e.yg e.yaf) fun r0_12=>
         if (decide (r0_12.2≠(0:Int))) = true then
          some w
         else
           bnd (zfo w r0 r0_12.1 ([])) fun r0_13=>
           some r0_13
        else
          some w
def zey (w:yab)(o:TOp):Option yab:=
  bnd (zdq o.Who (w.R.length:Int)) fun r0=>
  bnd (ydd w.R r0) fun e=>
  if (decide (o.yae=(0:Int))) = true then
   bnd (zly e o.N) fun r0_1=>
   bnd (zfo w r0 r0_1.1 r0_1.2) fun r0_2=>
   some r0_2
  else
    if (decide (o.yae=(1:Int))) = true then
     zco w o r0 e true
    else
      if (decide (o.yae=(2:Int))) = true then
       zco w o r0 e true
      else
        zco w o r0 e (decide (o.yae=(3:Int)))
def zew (l:yag):Option Int:=
  some (IntKind.i64.wrap (l.yn + (l.yi.length:Int)))
def zik (l:yag)(at0:Int)(v15:Bool):Option (yk × Bool):=
  if v15=true then
   some ((yk.mk (0:Int) ([])),false)
  else
    bnd (ydd l.yi (IntKind.i64.wrap ((IntKind.i64.wrap (at0 - l.yn)) - (1:Int)))) fun e=>
    some (e,true)
def ziy (l:yag)(at0:Int):Option (yk × Bool):=
  if (decide (at0<=l.yn)) = true then
   zik l at0 true
  else
    bnd (zew l) fun r0=>
    zik l at0 (decide (r0 < at0))
def zgl(zc:Bool->Int->Option Bool)(at0:Int)(met_2 v75:Bool):Option Bool:=
  if v75=true then
   some false
  else
    zc met_2 (IntKind.i64.wrap (at0 - (1:Int)))
def zgk(zc:Bool->Int->Option Bool)(at0:Int)(r0_2 r0_3:(yk × Bool))(met_1:Bool):Option Bool:=
  if met_1=true then
   if (decide (r0_2.1.yc≠r0_3.1.yc)) = true then
    zgl zc at0 true true
   else
     zgl zc at0 true (!(eqS (strI r0_2.1.yck) (strI r0_3.1.yck)))
  else
    zgl zc at0 false false
def zij(zc:Bool->Int->Option Bool)(met:Bool)(at0:Int)(r0_2 r0_3:(yk × Bool))(v50:Bool):Option Bool:=
  if v50=true then
   some false
  else
    if met=true then
     zgk zc at0 r0_2 r0_3 true
    else
      zgk zc at0 r0_2 r0_3 (decide (r0_2.1.yc=r0_3.1.yc))
def zfd(zc:Bool->Int->Option Bool)(a b:yag)(met:Bool)(at0:Int)(v30:Bool):Option Bool:=
  if v30=true then
   bnd (ziy a at0) fun r0_2=>
   bnd (ziy b at0) fun r0_3=>
   if r0_2.2=true then
    zij zc met at0 r0_2 r0_3 (!r0_3.2)
   else
     zij zc met at0 r0_2 r0_3 true
  else
    some true
def zgs (a b:yag)(zc:Bool->Int->Option Bool)(met:Bool)(at0:Int):Option Bool:=
  if (decide (a.yn < at0)) = true then
   zfd zc a b met at0 (decide (b.yn < at0))
  else
    zfd zc a b met at0 false
def zcm (a b:yag):Nat->Bool->Int->Option Bool
  | 0,_,_=>none
  | n + 1,met,at0=>zgs a b (zcm a b n) met at0
def zii (a b:yag)(last:Int):Option Bool:=
  zcm a b (1000000) false last
def zix (a:yag)(b:yag):Option Bool:=
  bnd (zew a) fun r0=>
  bnd (zew b) fun r0_1=>
  if (decide (r0_1 < r0)) = true then
   zii a b r0_1
  else
    zii a b r0
def zil(zan:Int->(List ye)->(List yj)->Option yab)(i:Int)(w_00:(List ye))(w_10:(List yj))(v11:Bool):Option yab:=
  if v11=true then
   bnd (zey (yab.mk w_00 w_10) (TOp.mk (1:Int) (0:Int) (0:Int) ([]))) fun r0=>
   zan (IntKind.i64.wrap (i + (1:Int))) r0.R r0.Net
  else
    some (yab.mk w_00 w_10)
def zgv (zan:Int->(List ye)->(List yj)->Option yab)(i:Int)(w_00:(List ye))(w_10:(List yj)):Option yab:=
  if (decide (i < (4000:Int))) = true then
   zil zan i w_00 w_10 (decide ((0:Int) < (w_10.length:Int)))
  else
    zil zan i w_00 w_10 false
def zdr:Nat->Int->(List ye)->(List yj)->Option yab
  | 0,_,_,_=>none
  | n + 1,i,w_00,w_10=>zgv (zdr n) i w_00 w_10
def zkh (w:yab):Option yab:=
  zdr ((((4000:Int)) - ((0:Int))).toNat + 1) (0:Int) w.R w.Net
def zgt (who times:Int)(zhy:Int->(List ye)->(List yj)->Option yab)(i:Int)(w_00:(List ye))(w_10:(List yj)):Option yab:=
  if (decide (i < times)) = true then
   bnd (zey (yab.mk w_00 w_10) (TOp.mk (0:Int) who who ([]))) fun r0=>
   bnd (zkh r0) fun r0_1=>
   zhy (IntKind.i64.wrap (i + (1:Int))) r0_1.R r0_1.Net
  else
    some (yab.mk w_00 w_10)
def zdo (who times:Int):Nat->Int->(List ye)->(List yj)->Option yab
  | 0,_,_,_=>none
  | n + 1,i,w_00,w_10=>zgt who times (zdo who times n) i w_00 w_10
def zhe (w:yab)(who:Int)(times:Int):Option yab:=
  zdo who times (((times) - ((0:Int))).toNat + 1) (0:Int) w.R w.Net
def zjh:Option Bool:=
  bnd (znt ) fun r0_11=>
  some r0_11
def zbf(zm:Int->Option Bool)(k_1:Int)(v153:Bool):Option Bool:=
  if v153=true then
   some false
  else
    zm (IntKind.i64.wrap (k_1 + (1:Int)))
def zdn (r0_7:yab)(e_3:ye)(zm:Int->Option Bool)(k_1:Int):Option Bool:=
  if (decide (k_1 < (r0_7.R.length:Int))) = true then
   bnd (ydd r0_7.R k_1) fun e_4=>
   if (decide (e_4.yc≠e_3.yc)) = true then
    zbf zm k_1 true
   else
     if (decide (e_4.yak≠e_3.Id)) = true then
      zbf zm k_1 true
     else
       if (decide (e_4.yl≠e_3.yl)) = true then
        zbf zm k_1 true
       else
         bnd (zew e_4.yg) fun r0_9=>
         if (decide (r0_9≠e_3.yl)) = true then
          zbf zm k_1 true
         else
           bnd (zix e_3.yg e_4.yg) fun r0_10=>
           zbf zm k_1 (!r0_10)
  else
    zjh
def zbh (r0_7:yab)(e_3:ye):Nat->Int->Option Bool
  | 0,_=>none
  | n + 1,k_1=>zdn r0_7 e_3 (zbh r0_7 e_3 n) k_1
def zet (r0_7:yab)(e_3:ye)(v106:Bool):Option Bool:=
  if v106=true then
   some false
  else
    zbh r0_7 e_3 ((((r0_7.R.length:Int)) - ((0:Int))).toNat + 1) (0:Int)
def zes (w_00_3:(List ye))(w_10_3:(List yj))(top_2:Int):Option Bool:=
  bnd (zhe (yab.mk w_00_3 w_10_3) top_2 (120:Int)) fun r0_7=>
  bnd (ydd r0_7.R top_2) fun e_3=>
  if (decide (e_3.ym≠(3:Int))) = true then
   zet r0_7 e_3 true
  else
    bnd (zew e_3.yg) fun r0_8=>
    zet r0_7 e_3 (decide (e_3.yl≠r0_8))
def zcs(zj:Int->Int->Option Bool)(k top_1:Int):Option Bool:=
  zj top_1 (IntKind.i64.wrap (k + (1:Int)))
def zbe(zj:Int->Int->Option Bool)(top k:Int)(v86:Bool):Option Bool:=
  if v86=true then
   zcs zj k k
  else
    zcs zj k top
def zdm (w_00_3:(List ye))(w_10_3:(List yj))(zj:Int->Int->Option Bool)(top k:Int):Option Bool:=
  if (decide (k < (w_00_3.length:Int))) = true then
   bnd (ydd w_00_3 k) fun e_1=>
   if (decide (e_1.ym=(3:Int))) = true then
    bnd (ydd w_00_3 top) fun e_2=>
    if (decide (e_2.ym≠(3:Int))) = true then
     zbe zj top k true
    else
      zbe zj top k (decide (e_2.yc < e_1.yc))
   else
     zbe zj top k false
  else
    zes w_00_3 w_10_3 top
def zal (w_00_3:(List ye))(w_10_3:(List yj)):Nat->Int->Int->Option Bool
  | 0,_,_=>none
  | n + 1,top,k=>zdm w_00_3 w_10_3 (zal w_00_3 w_10_3 n) top k
def zgp (w_00_3:(List ye))(w_10_3:(List yj)):Option Bool:=
  zal w_00_3 w_10_3 ((((w_00_3.length:Int)) - ((0:Int))).toNat + 1) (0:Int) (0:Int)
def zdl (zfc:Int->(List ye)->(List yj)->Option Bool)(i_1:Int)(w_00_2:(List ye))(w_10_2:(List yj)):Option Bool:=
  if (decide (i_1 < (IntKind.i64.wrap ((3:Int) * (w_00_2.length:Int))))) = true then
   if (decide ((w_00_2.length:Int) = 0)) = true then none else bnd (zhe (yab.mk w_00_2 w_10_2) (i_1.tmod (w_00_2.length:Int)) (60:Int)) fun r0_6=>
    zfc (IntKind.i64.wrap (i_1 + (1:Int))) r0_6.R r0_6.Net
  else
    zgp w_00_2 w_10_2
def zaa:Nat->Int->(List ye)->(List yj)->Option Bool
  | 0,_,_,_=>none
  | n + 1,i_1,w_00_2,w_10_2=>zdl (zaa n) i_1 w_00_2 w_10_2
def zer (w_00_1:(List ye))(w_10_1:(List yj)):Option Bool:=
  bnd (zkh (yab.mk w_00_1 w_10_1)) fun r0_5=>
  zaa (1000000) (0:Int) r0_5.R r0_5.Net
def zdk (l:(List TOp))(zfb:Int->(List ye)->(List yj)->Option Bool)(i:Int)(w_00:(List ye))(w_10:(List yj)):Option Bool:=
  if (decide (i < (l.length:Int))) = true then
   bnd (ydd l i) fun e=>
   bnd (zey (yab.mk w_00 w_10) e) fun r0_4=>
   zfb (IntKind.i64.wrap (i + (1:Int))) r0_4.R r0_4.Net
  else
    zer w_00 w_10
def zbg (l:(List TOp)):Nat->Int->(List ye)->(List yj)->Option Bool
  | 0,_,_,_=>none
  | n + 1,i,w_00,w_10=>zdk l (zbg l n) i w_00 w_10
def zir (n0:Int)(l:(List TOp)):Option Bool:=
  bnd (zkg l) fun r0=>
  if r0=true then
   bnd (zlb n0) fun r0_2=>
   bnd (zkf r0_2) fun r0_3=>
   zbg l ((((l.length:Int)) - ((0:Int))).toNat + 1) (0:Int) r0_3.R r0_3.Net
  else
    bnd (znt ) fun r0_1=>
    some r0_1
end Go.Proofs.Ytgoachcogmlhcaa.R
