/- Models of the functions. -/
import Derived.Test.YtgoachcogmlhcaaGreatMT
set_option maxRecDepth 100000
set_option maxHeartbeats 1600000
set_option linter.unusedVariables false
set_option linter.unusedSimpArgs false
set_option linter.defProp false
noncomputable section
namespace Go.Proofs.YtgoachcogmlhcaaGreat.R
open Go Nat
def zms (x0:Int):Option Bool:=
  some (decide (x0≠x0))
def znt (x0:Int)(y:Int):Option Bool:=
  bnd (zms x0) fun r0=>
  if r0=true then
   bnd (zms y) fun r0_1=>
   if r0_1=true then
    some (decide (x0 < y))
   else
     some true
  else
    some (decide (x0 < y))
def zbb(za:Int→(List Int)→Option (List Int))(i:Int)(data_3:(List Int)):Option (List Int):=
  za (IntKind.i64.wrap (i + (1:Int))) data_3
def zad(zk:Int→(List Int)→Option (List Int))(za:Int→(List Int)→Option (List Int))(i j:Int)(data_2:(List Int))(v30:Bool):Option (List Int):=
  if v30=true then
   bnd (ybu data_2 (IntKind.i64.wrap (j - (1:Int)))) fun e_2=>
   bnd (ybu data_2 j) fun e_3=>
   bnd (ybu (ybi data_2 j e_2) (IntKind.i64.wrap (j - (1:Int)))) fun e_4=>
   zk (IntKind.i64.wrap (j - (1:Int))) (ybi (ybi data_2 j e_2) (IntKind.i64.wrap (j - (1:Int))) e_3)
  else
    zbb za i data_2
def zaq(za:Int→(List Int)→Option (List Int))(a i:Int)(zk:Int→(List Int)→Option (List Int))(j:Int)(data_2:(List Int)):Option (List Int):=
  if (decide (a < j)) = true then
   bnd (ybu data_2 j) fun e=>
   bnd (ybu data_2 (IntKind.i64.wrap (j - (1:Int)))) fun e_1=>
   bnd (znt e e_1) fun r0=>
   zad zk za i j data_2 r0
  else
    zad zk za i j data_2 false
def zn(za:Int→(List Int)→Option (List Int))(a i:Int):Nat→Int→(List Int)→Option (List Int)
  | 0,_,_=>none
  | n + 1,j,data_2=>zaq za a i (zn za a i n) j data_2
def zap (a b:Int)(za:Int→(List Int)→Option (List Int))(i:Int)(data_1:(List Int)):Option (List Int):=
  if (decide (i < b)) = true then
   zn za a i (1000000) i data_1
  else
    some data_1
def zl (a b:Int):Nat→Int→(List Int)→Option (List Int)
  | 0,_,_=>none
  | n + 1,i,data_1=>zap a b (zl a b n) i data_1
def zbl (data:(List Int))(a:Int)(b:Int):Option (List Int):=
  zl a b (((b) - ((IntKind.i64.wrap (a + (1:Int))))).toNat + 1) (IntKind.i64.wrap (a + (1:Int))) data
def zdk (data:(List Int))(a b limit:Int)(zfr:Option (List Int)):Option (List Int):=
  if (decide ((IntKind.i64.wrap (b - a))≤(12:Int))) = true then
   bnd (zbl data a b) fun r0=>
   if (decide ((r0).length=(data).length)) = true then
    some r0
    else none
  else
    if (decide (limit=(0:Int))) = true then none else none
def zai (data:(List Int))(a b limit:Int):Nat→Option (List Int)
  | 0=>none
  | n + 1=>zdk data a b limit (zai data a b limit n)
def zfy (data:(List Int))(a:Int)(b:Int)(limit:Int):Option (List Int):=
  zai data a b limit (1000000)
def zhk (x0_3 n0_2:Int):Option Int:=
  bnd (nthS (⟨#[0,1,2,2,3,3,3,3,4,4,4,4,4,4,4,4,5,5,5,5,5,5,5,5,5,5,5,5,5,5,5,5,6,6,6,6,6,6,6,6,6,6,6,6,6,6,6,6,6,6,6,6,6,6,6,6,6,6,6,6,6,6,6,6,7,7,7,7,7,7,7,7,7,7,7,7,7,7,7,7,7,7,7,7,7,7,7,7,7,7,7,7,7,7,7,7,7,7,7,7,7,7,7,7,7,7,7,7,7,7,7,7,7,7,7,7,7,7,7,7,7,7,7,7,7,7,7,7,8,8,8,8,8,8,8,8,8,8,8,8,8,8,8,8,8,8,8,8,8,8,8,8,8,8,8,8,8,8,8,8,8,8,8,8,8,8,8,8,8,8,8,8,8,8,8,8,8,8,8,8,8,8,8,8,8,8,8,8,8,8,8,8,8,8,8,8,8,8,8,8,8,8,8,8,8,8,8,8,8,8,8,8,8,8,8,8,8,8,8,8,8,8,8,8,8,8,8,8,8,8,8,8,8,8,8,8,8,8,8,8,8,8,8,8,8,8,8,8,8,8,8,8,8,8,8,8]⟩) (IntKind.u8.wrap x0_3)) fun c=>
  some (IntKind.i64.wrap (n0_2 + (IntKind.i64.wrap c)))
def zhj (x0_2 n0_1:Int):Option Int:=
  if (decide ((256:Int)≤x0_2)) = true then
   zhk (shrI .u64 x0_2 (8:Int)) (IntKind.i64.wrap (n0_1 + (8:Int)))
  else
    zhk x0_2 n0_1
def zhi (x0_1 n0:Int):Option Int:=
  if (decide ((65536:Int)≤x0_1)) = true then
   zhj (shrI .u64 x0_1 (16:Int)) (IntKind.i64.wrap (n0 + (16:Int)))
  else
    zhj x0_1 n0
def zno (x0:Int):Option Int:=
  if (decide ((4294967296:Int)≤x0)) = true then
   zhi (shrI .u64 x0 (32:Int)) (32:Int)
  else
    zhi x0 (0:Int)
def zmw (x0:Int):Option Int:=
  bnd (zno x0) fun r0=>
  some r0
def zhb (x0:(List Int)):Option (List Int):=
  bnd (zmw (IntKind.u64.wrap ((x0.length:Nat):Int))) fun r0=>
  bnd (zfy x0 (0:Int) ((x0.length:Nat):Int) r0) fun r0_1=>
  if (decide ((r0_1).length=(x0).length)) = true then
   some r0_1
   else none
def zjc (l:(List yc))(zlb:Int→(List yc)→Option (List yc))(v8:Int)(out:(List yc)):Option (List yc):=
  if (decide (v8 < (l.length:Int))) = true then
   bnd (ybu l v8) fun e=>
   if (yco (e.ybq).length) = true then
    if (yco (out.length + 1)) = true then
     zlb (IntKind.i64.wrap (v8 + (1:Int))) (out++[e])
     else none
    else none
  else
    some out
def zem (l:(List yc)):Nat→Int→(List yc)→Option (List yc)
  | 0,_,_=>none
  | n + 1,v8,out=>zjc l (zem l n) v8 out
def zid (l:(List yc)):Option (List yc):=
  zem l ((((l.length:Int)) - ((0:Int))).toNat + 1) (0:Int) ([])
def zgd (l:yz):Option yz:=
  bnd (zid l.Entries) fun r0=>
  some (yz.mk l.yn l.yi r0)
def zta (r0:ye):Option ye:=
  bnd (zgd r0.yj) fun r0_1=>
  if (yco (r0.yy).length) = true then
   if (yco (r0.ym).length) = true then
    if (yco (r0.Next).length) = true then
     if (yco (r0.yr).length) = true then
      some (ye.mk r0.Id r0.N r0.Term r0.yac r0.yv r0.yaf r0_1 r0.yl r0.yy r0.ym r0.Next r0.yr r0.yu r0.yae)
      else none
     else none
    else none
   else none
def zoh (r0:ye):Option yd:=
  bnd (zta r0) fun r0_1=>
  some (yd.mk r0_1 ([]))
def zcy (to0:Int)(x0:yg)(m:yd):Option yd:=
  if (yco ((m.f_out).length + 1)) = true then
   some (yd.mk m.ya (m.f_out++[(yg.mk x0.yar x0.yct m.ya.Id to0 x0.Term x0.At x0.ybd x0.yl x0.Ok x0.Entries x0.ybq)]))
   else none
def zam (l:yz):Option Int:=
  some (IntKind.i64.wrap (l.yn + (l.Entries.length:Int)))
def znv (l:yz)(at0:Int)(v13:Bool):Option (Int × Bool):=
  if v13=true then
   some ((0:Int),false)
  else
    bnd (ybu l.Entries (IntKind.i64.wrap ((IntKind.i64.wrap (at0 - l.yn)) - (1:Int)))) fun e=>
    some (e.Term,true)
def zbv (l:yz)(at0:Int):Option (Int × Bool):=
  if (decide (at0=l.yn)) = true then
   some (l.yi,true)
  else
    if (decide (at0 < l.yn)) = true then
     znv l at0 true
    else
      bnd (zam l) fun r0=>
      znv l at0 (decide (r0 < at0))
def zlg (l:yz)(at0 most:Int)(v21:Bool):Option (List yc):=
  if v21=true then
   some ([])
  else
    bnd (yby l.Entries (IntKind.i64.wrap ((IntKind.i64.wrap (at0 - l.yn)) - (1:Int))) l.Entries.length) fun l_1=>
    bnd (yby l_1 0 (if (l_1.length:Int) < most then (l_1.length:Int) else most)) fun l_2=>
    bnd (zid l_2) fun r0_1=>
    some r0_1
def znl (l:yz)(at0:Int)(most:Int):Option (List yc):=
  if (decide (at0≤l.yn)) = true then
   zlg l at0 most true
  else
    bnd (zam l) fun r0=>
    if (decide (r0 < at0)) = true then
     zlg l at0 most true
    else
      zlg l at0 most (decide (most≤(0:Int)))
def zho (to0:Int)(m:yd)(x_0 x_5 x_6:Int)(x_9:(List yc))(x_10:(List Int)):Option yd:=
  bnd (zcy to0 (yg.mk x_0 (0:Int) (0:Int) (0:Int) m.ya.Term x_5 x_6 m.ya.yl false x_9 x_10) m) fun r0_2=>
  some r0_2
def zbc (to0:Int)(m:yd):Option yd:=
  bnd (ybu m.ya.Next (IntKind.i64.wrap (to0 - (1:Int)))) fun e=>
  if (decide (e≤m.ya.yj.yn)) = true then
   if (yco (m.ya.yy).length) = true then
    zho to0 m (7:Int) m.ya.yj.yn m.ya.yj.yi ([]) m.ya.yy
    else none
  else
    bnd (zbv m.ya.yj (IntKind.i64.wrap (e - (1:Int)))) fun r0=>
    bnd (znl m.ya.yj e (8:Int)) fun r0_1=>
    zho to0 m (5:Int) (IntKind.i64.wrap (e - (1:Int))) r0.1 r0_1 ([])
def zks(zaa:Int→Int→Int→Int→Int→Int→Int→Int→Int→(List yc)→Int→Int→Int→(List Int)→(List Bool)→(List Int)→(List Int)→(List yg)→Option yd)(to0 zbw zbx zby zbz zca zcb zcc zcd:Int)(zce:(List yc))(zcf zax zay:Int)(zau:(List Int))(zav:(List Bool))(zw zaw:(List Int))(zaz:(List yg)):Option yd:=
  zaa (IntKind.i64.wrap (to0 + (1:Int))) zbw zbx zby zbz zca zcb zcc zcd zce zcf zax zay zau zav zw zaw zaz
def znm (zaa:Int→Int→Int→Int→Int→Int→Int→Int→Int→(List yc)→Int→Int→Int→(List Int)→(List Bool)→(List Int)→(List Int)→(List yg)→Option yd)(to0 m_00 m_10 m_20 m_30 m_40 m_50 m_60 m_70:Int)(m_80:(List yc))(m_90 ze zh:Int)(zd:(List Int))(zf:(List Bool))(zc zg:(List Int))(zi:(List yg)):Option yd:=
  if (decide (to0≤m_10)) = true then
   if (decide (to0≠m_00)) = true then
    bnd (zbc to0 (yd.mk (ye.mk m_00 m_10 m_20 m_30 m_40 m_50 (yz.mk m_60 m_70 m_80) m_90 zd zf zc zg ze zh) zi)) fun r0=>
    zks zaa to0 r0.ya.Id r0.ya.N r0.ya.Term r0.ya.yac r0.ya.yv r0.ya.yaf r0.ya.yj.yn r0.ya.yj.yi r0.ya.yj.Entries r0.ya.yl r0.ya.yu r0.ya.yae r0.ya.yy r0.ya.ym r0.ya.Next r0.ya.yr r0.f_out
   else
     zks zaa to0 m_00 m_10 m_20 m_30 m_40 m_50 m_60 m_70 m_80 m_90 ze zh zd zf zc zg zi
  else
    some (yd.mk (ye.mk m_00 m_10 m_20 m_30 m_40 m_50 (yz.mk m_60 m_70 m_80) m_90 zd zf zc zg ze zh) zi)
def zfe:Nat→Int→Int→Int→Int→Int→Int→Int→Int→Int→(List yc)→Int→Int→Int→(List Int)→(List Bool)→(List Int)→(List Int)→(List yg)→Option yd
  | 0,_,_,_,_,_,_,_,_,_,_,_,_,_,_,_,_,_,_=>none
  | n + 1,to0,m_00,m_10,m_20,m_30,m_40,m_50,m_60,m_70,m_80,m_90,ze,zh,zd,zf,zc,zg,zi=>znm (zfe n) to0 m_00 m_10 m_20 m_30 m_40 m_50 m_60 m_70 m_80 m_90 ze zh zd zf zc zg zi
def zkh (m:yd):Option yd:=
  zfe (1000000) (1:Int) m.ya.Id m.ya.N m.ya.Term m.ya.yac m.ya.yv m.ya.yaf m.ya.yj.yn m.ya.yj.yi m.ya.yj.Entries m.ya.yl m.ya.yu m.ya.yae m.ya.yy m.ya.ym m.ya.Next m.ya.yr m.f_out
def zii(zp:Int→Int→Int→Int→Int→Int→Int→Int→Int→(List yc)→Int→Int→Int→(List Int)→(List Bool)→(List Int)→(List Int)→(List yg)→Option yd)(to0 zbw zbx zby zbz zca zcb zcc zcd:Int)(zce:(List yc))(zcf zax zay:Int)(zau:(List Int))(zav:(List Bool))(zw zaw:(List Int))(zaz:(List yg)):Option yd:=
  zp (IntKind.i64.wrap (to0 + (1:Int))) zbw zbx zby zbz zca zcb zcc zcd zce zcf zax zay zau zav zw zaw zaz
def zkt (zp:Int→Int→Int→Int→Int→Int→Int→Int→Int→(List yc)→Int→Int→Int→(List Int)→(List Bool)→(List Int)→(List Int)→(List yg)→Option yd)(to0 m_00 m_10 m_20 m_30 m_40 m_50 m_60 m_70:Int)(m_80:(List yc))(m_90 ze zh:Int)(zd:(List Int))(zf:(List Bool))(zc zg:(List Int))(zi:(List yg)):Option yd:=
  if (decide (to0≤m_10)) = true then
   if (decide (to0≠m_00)) = true then
    bnd (zbc to0 (yd.mk (ye.mk m_00 m_10 m_20 m_30 m_40 m_50 (yz.mk m_60 m_70 m_80) m_90 zd zf zc zg ze zh) zi)) fun r0=>
    zii zp to0 r0.ya.Id r0.ya.N r0.ya.Term r0.ya.yac r0.ya.yv r0.ya.yaf r0.ya.yj.yn r0.ya.yj.yi r0.ya.yj.Entries r0.ya.yl r0.ya.yu r0.ya.yae r0.ya.yy r0.ya.ym r0.ya.Next r0.ya.yr r0.f_out
   else
     zii zp to0 m_00 m_10 m_20 m_30 m_40 m_50 m_60 m_70 m_80 m_90 ze zh zd zf zc zg zi
  else
    some (yd.mk (ye.mk m_00 m_10 m_20 m_30 m_40 m_50 (yz.mk m_60 m_70 m_80) m_90 zd zf zc zg ze zh) zi)
def zda:Nat→Int→Int→Int→Int→Int→Int→Int→Int→Int→(List yc)→Int→Int→Int→(List Int)→(List Bool)→(List Int)→(List Int)→(List yg)→Option yd
  | 0,_,_,_,_,_,_,_,_,_,_,_,_,_,_,_,_,_,_=>none
  | n + 1,to0,m_00,m_10,m_20,m_30,m_40,m_50,m_60,m_70,m_80,m_90,ze,zh,zd,zf,zc,zg,zi=>zkt (zda n) to0 m_00 m_10 m_20 m_30 m_40 m_50 m_60 m_70 m_80 m_90 ze zh zd zf zc zg zi
def zhl (m:yd):Option yd:=
  zda (1000000) (1:Int) m.ya.Id m.ya.N m.ya.Term m.ya.yac m.ya.yv m.ya.yaf m.ya.yj.yn m.ya.yj.yi m.ya.yj.Entries m.ya.yl m.ya.yu m.ya.yae m.ya.yy m.ya.ym m.ya.Next m.ya.yr m.f_out
def zef (to0:Int)(x0:yg)(m:yd):Option yd:=
  if (yco ((m.f_out).length + 1)) = true then
   some (yd.mk m.ya (m.f_out++[(yg.mk x0.yar x0.yct m.ya.Id to0 x0.Term x0.At x0.ybd x0.yl x0.Ok ([]) ([]))]))
   else none
def zfs (l:yz):Option Int:=
  bnd (zam l) fun r0=>
  bnd (zbv l r0) fun r0_1=>
  some r0_1.1
def zei (to0:Int)(b1:yd):Option yd:=
  bnd (zam b1.ya.yj) fun r0=>
  bnd (zfs b1.ya.yj) fun r0_1=>
  bnd (zef to0 (yg.mk (3:Int) (0:Int) (0:Int) (0:Int) b1.ya.Term r0 r0_1 (0:Int) false ([]) ([])) b1) fun r0_2=>
  some r0_2
def zij(zq:Int→Int→Int→Int→Int→Int→Int→Int→Int→Int→Int→Int→(List yc)→(List Int)→(List Bool)→(List Int)→(List Int)→(List yg)→Option yd)(to0 zbw zbx zby zbz zca zcb zcc zcd zcf zax zay:Int)(zce:(List yc))(zau:(List Int))(zav:(List Bool))(zw zaw:(List Int))(zaz:(List yg)):Option yd:=
  zq (IntKind.i64.wrap (to0 + (1:Int))) zbw zbx zby zbz zca zcb zcc zcd zcf zax zay zce zau zav zw zaw zaz
def zku (zq:Int→Int→Int→Int→Int→Int→Int→Int→Int→Int→Int→Int→(List yc)→(List Int)→(List Bool)→(List Int)→(List Int)→(List yg)→Option yd)(to0 m_00 m_10 m_20 m_30 m_40 m_50 m_60 m_70 m_90 ze zh:Int)(m_80:(List yc))(zd:(List Int))(zf:(List Bool))(zc zg:(List Int))(zi:(List yg)):Option yd:=
  if (decide (to0≤m_10)) = true then
   if (decide (to0≠m_00)) = true then
    bnd (zei to0 (yd.mk (ye.mk m_00 m_10 m_20 m_30 m_40 m_50 (yz.mk m_60 m_70 m_80) m_90 zd zf zc zg ze zh) zi)) fun r0=>
    zij zq to0 r0.ya.Id r0.ya.N r0.ya.Term r0.ya.yac r0.ya.yv r0.ya.yaf r0.ya.yj.yn r0.ya.yj.yi r0.ya.yl r0.ya.yu r0.ya.yae r0.ya.yj.Entries r0.ya.yy r0.ya.ym r0.ya.Next r0.ya.yr r0.f_out
   else
     zij zq to0 m_00 m_10 m_20 m_30 m_40 m_50 m_60 m_70 m_90 ze zh m_80 zd zf zc zg zi
  else
    some (yd.mk (ye.mk m_00 m_10 m_20 m_30 m_40 m_50 (yz.mk m_60 m_70 m_80) m_90 zd zf zc zg ze zh) zi)
def zdb:Nat→Int→Int→Int→Int→Int→Int→Int→Int→Int→Int→Int→Int→(List yc)→(List Int)→(List Bool)→(List Int)→(List Int)→(List yg)→Option yd
  | 0,_,_,_,_,_,_,_,_,_,_,_,_,_,_,_,_,_,_=>none
  | n + 1,to0,m_00,m_10,m_20,m_30,m_40,m_50,m_60,m_70,m_90,ze,zh,m_80,zd,zf,zc,zg,zi=>zku (zdb n) to0 m_00 m_10 m_20 m_30 m_40 m_50 m_60 m_70 m_90 ze zh m_80 zd zf zc zg zi
def zhm (m:yd):Option yd:=
  zdb (1000000) (1:Int) m.ya.Id m.ya.N m.ya.Term m.ya.yac m.ya.yv m.ya.yaf m.ya.yj.yn m.ya.yj.yi m.ya.yl m.ya.yu m.ya.yae m.ya.yj.Entries m.ya.yy m.ya.ym m.ya.Next m.ya.yr m.f_out
def zfz (to0:Int)(b1:yd):Option yd:=
  bnd (zam b1.ya.yj) fun r0=>
  bnd (zfs b1.ya.yj) fun r0_1=>
  bnd (zef to0 (yg.mk (1:Int) (0:Int) (0:Int) (0:Int) (IntKind.i64.wrap (b1.ya.Term + (1:Int))) r0 r0_1 (0:Int) false ([]) ([])) b1) fun r0_2=>
  some r0_2
def zik(zr:Int→Int→Int→Int→Int→Int→Int→Int→Int→Int→Int→Int→(List yc)→(List Int)→(List Bool)→(List Int)→(List Int)→(List yg)→Option yd)(to0 zbw zbx zby zbz zca zcb zcc zcd zcf zax zay:Int)(zce:(List yc))(zau:(List Int))(zav:(List Bool))(zw zaw:(List Int))(zaz:(List yg)):Option yd:=
  zr (IntKind.i64.wrap (to0 + (1:Int))) zbw zbx zby zbz zca zcb zcc zcd zcf zax zay zce zau zav zw zaw zaz
def zkw (zr:Int→Int→Int→Int→Int→Int→Int→Int→Int→Int→Int→Int→(List yc)→(List Int)→(List Bool)→(List Int)→(List Int)→(List yg)→Option yd)(to0 m_00 m_10 m_20 m_30 m_40 m_50 m_60 m_70 m_90 ze zh:Int)(m_80:(List yc))(zd:(List Int))(zf:(List Bool))(zc zg:(List Int))(zi:(List yg)):Option yd:=
  if (decide (to0≤m_10)) = true then
   if (decide (to0≠m_00)) = true then
    bnd (zfz to0 (yd.mk (ye.mk m_00 m_10 m_20 m_30 m_40 m_50 (yz.mk m_60 m_70 m_80) m_90 zd zf zc zg ze zh) zi)) fun r0=>
    zik zr to0 r0.ya.Id r0.ya.N r0.ya.Term r0.ya.yac r0.ya.yv r0.ya.yaf r0.ya.yj.yn r0.ya.yj.yi r0.ya.yl r0.ya.yu r0.ya.yae r0.ya.yj.Entries r0.ya.yy r0.ya.ym r0.ya.Next r0.ya.yr r0.f_out
   else
     zik zr to0 m_00 m_10 m_20 m_30 m_40 m_50 m_60 m_70 m_90 ze zh m_80 zd zf zc zg zi
  else
    some (yd.mk (ye.mk m_00 m_10 m_20 m_30 m_40 m_50 (yz.mk m_60 m_70 m_80) m_90 zd zf zc zg ze zh) zi)
def zdc:Nat→Int→Int→Int→Int→Int→Int→Int→Int→Int→Int→Int→Int→(List yc)→(List Int)→(List Bool)→(List Int)→(List Int)→(List yg)→Option yd
  | 0,_,_,_,_,_,_,_,_,_,_,_,_,_,_,_,_,_,_=>none
  | n + 1,to0,m_00,m_10,m_20,m_30,m_40,m_50,m_60,m_70,m_90,ze,zh,m_80,zd,zf,zc,zg,zi=>zkw (zdc n) to0 m_00 m_10 m_20 m_30 m_40 m_50 m_60 m_70 m_90 ze zh m_80 zd zf zc zg zi
def zkv (m:yd):Option yd:=
  zdc (1000000) (1:Int) m.ya.Id m.ya.N m.ya.Term m.ya.yac m.ya.yv m.ya.yaf m.ya.yj.yn m.ya.yj.yi m.ya.yl m.ya.yu m.ya.yae m.ya.yj.Entries m.ya.yy m.ya.ym m.ya.Next m.ya.yr m.f_out
def zil(zt:Int→Int→Int→Int→Int→Int→Int→Int→Int→(List yc)→Int→Int→Int→(List Int)→(List Bool)→(List Int)→(List Int)→(List yg)→Option yd)(to0 zbw zbx zby zbz zca zcb zcc zcd:Int)(zce:(List yc))(zcf zax zay:Int)(zau:(List Int))(zav:(List Bool))(zw zaw:(List Int))(zaz:(List yg)):Option yd:=
  zt (IntKind.i64.wrap (to0 + (1:Int))) zbw zbx zby zbz zca zcb zcc zcd zce zcf zax zay zau zav zw zaw zaz
def zkx (zt:Int→Int→Int→Int→Int→Int→Int→Int→Int→(List yc)→Int→Int→Int→(List Int)→(List Bool)→(List Int)→(List Int)→(List yg)→Option yd)(to0 m_00 m_10 m_20 m_30 m_40 m_50 m_60 m_70:Int)(m_80:(List yc))(m_90 ze zh:Int)(zd:(List Int))(zf:(List Bool))(zc zg:(List Int))(zi:(List yg)):Option yd:=
  if (decide (to0≤m_10)) = true then
   if (decide (to0≠m_00)) = true then
    bnd (zbc to0 (yd.mk (ye.mk m_00 m_10 m_20 m_30 m_40 m_50 (yz.mk m_60 m_70 m_80) m_90 zd zf zc zg ze zh) zi)) fun r0=>
    zil zt to0 r0.ya.Id r0.ya.N r0.ya.Term r0.ya.yac r0.ya.yv r0.ya.yaf r0.ya.yj.yn r0.ya.yj.yi r0.ya.yj.Entries r0.ya.yl r0.ya.yu r0.ya.yae r0.ya.yy r0.ya.ym r0.ya.Next r0.ya.yr r0.f_out
   else
     zil zt to0 m_00 m_10 m_20 m_30 m_40 m_50 m_60 m_70 m_80 m_90 ze zh zd zf zc zg zi
  else
    some (yd.mk (ye.mk m_00 m_10 m_20 m_30 m_40 m_50 (yz.mk m_60 m_70 m_80) m_90 zd zf zc zg ze zh) zi)
def zdd:Nat→Int→Int→Int→Int→Int→Int→Int→Int→Int→(List yc)→Int→Int→Int→(List Int)→(List Bool)→(List Int)→(List Int)→(List yg)→Option yd
  | 0,_,_,_,_,_,_,_,_,_,_,_,_,_,_,_,_,_,_=>none
  | n + 1,to0,m_00,m_10,m_20,m_30,m_40,m_50,m_60,m_70,m_80,m_90,ze,zh,zd,zf,zc,zg,zi=>zkx (zdd n) to0 m_00 m_10 m_20 m_30 m_40 m_50 m_60 m_70 m_80 m_90 ze zh zd zf zc zg zi
def zhn (m:yd):Option yd:=
  zdd (1000000) (1:Int) m.ya.Id m.ya.N m.ya.Term m.ya.yac m.ya.yv m.ya.yaf m.ya.yj.yn m.ya.yj.yi m.ya.yj.Entries m.ya.yl m.ya.yu m.ya.yae m.ya.yy m.ya.ym m.ya.Next m.ya.yr m.f_out
def zjt (to0:Int)(m:yd)(x_0 x_5 x_6:Int)(x_9:(List yc))(x_10:(List Int)):Option yd:=
  bnd (zcy to0 (yg.mk x_0 (0:Int) (0:Int) (0:Int) m.ya.Term x_5 x_6 m.ya.yl false x_9 x_10) m) fun r0_2=>
  some r0_2
def zgo (to0:Int)(m:yd):Option yd:=
  bnd (ybu m.ya.Next (IntKind.i64.wrap (to0 - (1:Int)))) fun e=>
  if (decide (e≤m.ya.yj.yn)) = true then
   if (yco (m.ya.yy).length) = true then
    zjt to0 m (7:Int) m.ya.yj.yn m.ya.yj.yi ([]) m.ya.yy
    else none
  else
    bnd (zbv m.ya.yj (IntKind.i64.wrap (e - (1:Int)))) fun r0=>
    bnd (znl m.ya.yj e (8:Int)) fun r0_1=>
    zjt to0 m (5:Int) (IntKind.i64.wrap (e - (1:Int))) r0.1 r0_1 ([])
def zfm (lead:Int)(m:yd)(m_20 m_30:Int):Option yd:=
  some (yd.mk (ye.mk m.ya.Id m.ya.N m_20 m_30 (0:Int) lead m.ya.yj m.ya.yl m.ya.yy ([]) ([]) ([]) m.ya.yu m.ya.yae) m.f_out)
def zat (term:Int)(lead:Int)(m:yd):Option yd:=
  if (decide (m.ya.Term < term)) = true then
   zfm lead m term (0:Int)
  else
    zfm lead m m.ya.Term m.ya.yac
def zjs (n0:Int):Option Int:=
  if (decide (n0 < (1:Int))) = true then
   some (0:Int)
  else
    some (IntKind.i64.wrap ((IntKind.i64.wrap (n0.tdiv (2:Int))) + (1:Int)))
def zpr (l:(List Bool))(n0_1:Int):Option Bool:=
  if (decide ((0:Int) < (l.length:Int))) = true then
   bnd (zjs (l.length:Int)) fun r0=>
   some (decide (r0≤n0_1))
  else
    some false
def zkg (l:(List Bool))(ziq:Int→Int→Option Bool)(n0 v8:Int):Option Bool:=
  if (decide (v8 < (l.length:Int))) = true then
   bnd (ybu l v8) fun e=>
   if e=true then
    ziq (IntKind.i64.wrap (n0 + (1:Int))) (IntKind.i64.wrap (v8 + (1:Int)))
   else
     ziq n0 (IntKind.i64.wrap (v8 + (1:Int)))
  else
    zpr l n0
def zft (l:(List Bool)):Nat→Int→Int→Option Bool
  | 0,_,_=>none
  | n + 1,n0,v8=>zkg l (zft l n) n0 v8
def znw (l:(List Bool)):Option Bool:=
  zft l ((((l.length:Int)) - ((0:Int))).toNat + 1) (0:Int) (0:Int)
def zbt (who:Int)(m:yd):Option (Bool × yd):=
  bnd (ybu m.ya.ym (IntKind.i64.wrap (who - (1:Int)))) fun e=>
  bnd (znw (ybi m.ya.ym (IntKind.i64.wrap (who - (1:Int))) true)) fun r0=>
  some (r0,(yd.mk (ye.mk m.ya.Id m.ya.N m.ya.Term m.ya.yac m.ya.yv m.ya.yaf m.ya.yj m.ya.yl m.ya.yy (ybi m.ya.ym (IntKind.i64.wrap (who - (1:Int))) true) m.ya.Next m.ya.yr m.ya.yu m.ya.yae) m.f_out))
def zgg (lead:Int)(m:yd)(m_20 m_30:Int):Option yd:=
  some (yd.mk (ye.mk m.ya.Id m.ya.N m_20 m_30 (0:Int) lead m.ya.yj m.ya.yl m.ya.yy ([]) ([]) ([]) m.ya.yu m.ya.yae) m.f_out)
def zdf (term:Int)(lead:Int)(m:yd):Option yd:=
  if (decide (m.ya.Term < term)) = true then
   zgg lead m term (0:Int)
  else
    zgg lead m m.ya.Term m.ya.yac
def zip (l:(List Int))(n0:Int)(v15:Bool):Option (Int × Bool):=
  if v15=true then
   some ((0:Int),false)
  else
    if (yco (l).length) = true then
     bnd (zhb l) fun r0=>
     if (decide ((r0).length=(l).length)) = true then
      bnd (ybu r0 (IntKind.i64.wrap ((((l).length:Nat):Int) - n0))) fun e=>
      some (e,true)
      else none
     else none
def zom (l:(List Int))(n0:Int):Option (Int × Bool):=
  if (decide (n0 < (1:Int))) = true then
   zip l n0 true
  else
    zip l n0 (decide ((l.length:Int) < n0))
def zen (l:(List Int)):Option Int:=
  bnd (zjs (l.length:Int)) fun r0=>
  bnd (zom l r0) fun r0_1=>
  some r0_1.1
def zde (m:yd)(r0:Int)(v39:Bool):Option yd:=
  if v39=true then
   some (yd.mk (ye.mk m.ya.Id m.ya.N m.ya.Term m.ya.yac m.ya.yv m.ya.yaf m.ya.yj r0 m.ya.yy m.ya.ym m.ya.Next m.ya.yr m.ya.yu m.ya.yae) m.f_out)
  else
    some m
def zfg (m:yd):Option yd:=
  bnd (zen m.ya.yr) fun r0=>
  bnd (zbv m.ya.yj r0) fun r0_1=>
  if r0_1.2=true then
   if (decide (m.ya.yl < r0)) = true then
    zde m r0 (decide (r0_1.1=m.ya.Term))
   else
     zde m r0 false
  else
    zde m r0 false
def zkd (l:yz)(e:yc):Option yz:=
  bnd (zgd l) fun r0=>
  if (yco (e.ybq).length) = true then
   if (yco ((r0.Entries).length + 1)) = true then
    some (yz.mk r0.yn r0.yi (r0.Entries++[e]))
    else none
   else none
def zff (m:yd):Option yd:=
  bnd (zkd m.ya.yj (yc.mk m.ya.Term ([]))) fun r0=>
  bnd (zam r0) fun r0_1=>
  bnd (ybu m.ya.yr (IntKind.i64.wrap (m.ya.Id - (1:Int)))) fun e=>
  bnd (zfg (yd.mk (ye.mk m.ya.Id m.ya.N m.ya.Term m.ya.yac m.ya.yv m.ya.yaf r0 m.ya.yl m.ya.yy m.ya.ym m.ya.Next (ybi m.ya.yr (IntKind.i64.wrap (m.ya.Id - (1:Int))) r0_1) m.ya.yu m.ya.yae) m.f_out)) fun r0_2=>
  bnd (zhl r0_2) fun r0_3=>
  some r0_3
def zed (r0:yd)(zw:(List Int)):Option yd:=
  bnd (zff (yd.mk (ye.mk r0.ya.Id r0.ya.N r0.ya.Term r0.ya.yac (3:Int) r0.ya.yaf r0.ya.yj r0.ya.yl r0.ya.yy r0.ya.ym zw (List.replicate r0.ya.N.toNat (0:Int)) (0:Int) r0.ya.yae) r0.f_out)) fun r0_2=>
  some r0_2
def zdg (r0:yd)(zhe:Int→(List Int)→Option yd)(v49:Int)(zc:(List Int)):Option yd:=
  if (decide (v49 < ((r0.ya.N.toNat:Nat):Int))) = true then
   bnd (zam r0.ya.yj) fun r0_1=>
   bnd (ybu zc v49) fun e=>
   zhe (IntKind.i64.wrap (v49 + (1:Int))) (ybi zc v49 (IntKind.i64.wrap (r0_1 + (1:Int))))
  else
    zed r0 zc
def zu (r0:yd):Nat→Int→(List Int)→Option yd
  | 0,_,_=>none
  | n + 1,v49,zc=>zdg r0 (zu r0 n) v49 zc
def zcx (m:yd):Option yd:=
  bnd (zdf m.ya.Term m.ya.Id m) fun r0=>
  if (mkB r0.ya.N) = true then
   zu r0 (((((r0.ya.N.toNat:Nat):Int)) - ((0:Int))).toNat + 1) (0:Int) (List.replicate r0.ya.N.toNat (0:Int))
   else none
def zgb (m:yd):Option yd:=
  bnd (zdf (IntKind.i64.wrap (m.ya.Term + (1:Int))) (0:Int) m) fun r0=>
  if (mkB r0.ya.N) = true then
   bnd (zbt r0.ya.Id (yd.mk (ye.mk r0.ya.Id r0.ya.N r0.ya.Term r0.ya.Id (2:Int) r0.ya.yaf r0.ya.yj r0.ya.yl r0.ya.yy (List.replicate r0.ya.N.toNat false) r0.ya.Next r0.ya.yr (0:Int) r0.ya.yae) r0.f_out)) fun r0_1=>
   if r0_1.1=true then
    bnd (zcx r0_1.2) fun r0_2=>
    some r0_2
   else
     bnd (zhm r0_1.2) fun r0_3=>
     some r0_3
   else none
def zpf (draw:Int):Option Int:=
  some (IntKind.i64.wrap ((10:Int) + (IntKind.i64.wrap ((IntKind.u64.wrap draw).tmod (10:Int)))))
def zhy (draw:Int)(m:yd):Option yd:=
  bnd (zat m.ya.Term (0:Int) m) fun r0=>
  bnd (zpf draw) fun r0_1=>
  if (mkB r0.ya.N) = true then
   bnd (zbt r0.ya.Id (yd.mk (ye.mk r0.ya.Id r0.ya.N r0.ya.Term r0.ya.yac (1:Int) r0.ya.yaf r0.ya.yj r0.ya.yl r0.ya.yy (List.replicate r0.ya.N.toNat false) r0.ya.Next r0.ya.yr (0:Int) r0_1) r0.f_out)) fun r0_2=>
   if r0_2.1=true then
    bnd (zgb r0_2.2) fun r0_3=>
    some r0_3
   else
     bnd (zkv r0_2.2) fun r0_4=>
     some r0_4
   else none
def zjd (m:yd):Option (ye × (List yg)):=
  some (m.ya,m.f_out)
def znz (m:yd):Option (ye × (List yg)):=
  some (m.ya,m.f_out)
def zdn (m:yd)(r0:Int)(v39:Bool):Option yd:=
  if v39=true then
   some (yd.mk (ye.mk m.ya.Id m.ya.N m.ya.Term m.ya.yac m.ya.yv m.ya.yaf m.ya.yj r0 m.ya.yy m.ya.ym m.ya.Next m.ya.yr m.ya.yu m.ya.yae) m.f_out)
  else
    some m
def zfk (m:yd):Option yd:=
  bnd (zen m.ya.yr) fun r0=>
  bnd (zbv m.ya.yj r0) fun r0_1=>
  if r0_1.2=true then
   if (decide (m.ya.yl < r0)) = true then
    zdn m r0 (decide (r0_1.1=m.ya.Term))
   else
     zdn m r0 false
  else
    zdn m r0 false
def zim (data:(List Int))(m:yd):Option yd:=
  bnd (zkd m.ya.yj (yc.mk m.ya.Term data)) fun r0=>
  bnd (zam r0) fun r0_1=>
  bnd (ybu m.ya.yr (IntKind.i64.wrap (m.ya.Id - (1:Int)))) fun e=>
  bnd (zfk (yd.mk (ye.mk m.ya.Id m.ya.N m.ya.Term m.ya.yac m.ya.yv m.ya.yaf r0 m.ya.yl m.ya.yy m.ya.ym m.ya.Next (ybi m.ya.yr (IntKind.i64.wrap (m.ya.Id - (1:Int))) r0_1) m.ya.yu m.ya.yae) m.f_out)) fun r0_2=>
  bnd (zhn r0_2) fun r0_3=>
  some r0_3
def zcu (to0:Int)(x0:yg)(m:yd):Option yd:=
  if (yco ((m.f_out).length + 1)) = true then
   some (yd.mk m.ya (m.f_out++[(yg.mk x0.yar x0.yct m.ya.Id to0 x0.Term x0.At x0.ybd x0.yl x0.Ok ([]) ([]))]))
   else none
def zlp (l:yz)(term:Int)(at0:Int):Option Bool:=
  bnd (zfs l) fun r0=>
  if (decide (r0 < term)) = true then
   some true
  else
    if (decide (term=r0)) = true then
     bnd (zam l) fun r0_1=>
     some (decide (r0_1≤at0))
    else
      some false
def zdr (x0:yg)(m:yd)(ok_1:Bool)(term:Int):Option yd:=
  bnd (zcu x0.From (yg.mk (2:Int) (0:Int) (0:Int) (0:Int) term (0:Int) (0:Int) (0:Int) ok_1 ([]) ([])) m) fun r0_1=>
  some r0_1
def zcn (x0:yg)(m:yd)(ok:Bool):Option yd:=
  if ok=true then
   zdr x0 m true x0.Term
  else
    zdr x0 m false m.ya.Term
def zcm (x0:yg)(m:yd)(free:Bool):Option yd:=
  if (decide (m.ya.Term < x0.Term)) = true then
   if free=true then
    bnd (zlp m.ya.yj x0.ybd x0.At) fun r0=>
    zcn x0 m r0
   else
     zcn x0 m false
  else
    zcn x0 m false
def zga (x0:yg)(m:yd):Option yd:=
  if (decide (m.ya.yv≠(3:Int))) = true then
   if (decide (m.ya.yaf=(0:Int))) = true then
    zcm x0 m true
   else
     zcm x0 m (decide ((10:Int)≤m.ya.yu))
  else
    zcm x0 m false
def zco (who:Int)(m:yd):Option (Bool × yd):=
  bnd (ybu m.ya.ym (IntKind.i64.wrap (who - (1:Int)))) fun e=>
  bnd (znw (ybi m.ya.ym (IntKind.i64.wrap (who - (1:Int))) true)) fun r0=>
  some (r0,(yd.mk (ye.mk m.ya.Id m.ya.N m.ya.Term m.ya.yac m.ya.yv m.ya.yaf m.ya.yj m.ya.yl m.ya.yy (ybi m.ya.ym (IntKind.i64.wrap (who - (1:Int))) true) m.ya.Next m.ya.yr m.ya.yu m.ya.yae) m.f_out))
def zge (m:yd):Option yd:=
  bnd (zat (IntKind.i64.wrap (m.ya.Term + (1:Int))) (0:Int) m) fun r0=>
  if (mkB r0.ya.N) = true then
   bnd (zbt r0.ya.Id (yd.mk (ye.mk r0.ya.Id r0.ya.N r0.ya.Term r0.ya.Id (2:Int) r0.ya.yaf r0.ya.yj r0.ya.yl r0.ya.yy (List.replicate r0.ya.N.toNat false) r0.ya.Next r0.ya.yr (0:Int) r0.ya.yae) r0.f_out)) fun r0_1=>
   if r0_1.1=true then
    bnd (zcx r0_1.2) fun r0_2=>
    some r0_2
   else
     bnd (zhm r0_1.2) fun r0_3=>
     some r0_3
   else none
def zgr (x0:yg)(m:yd)(ok_1:Bool)(m_30 ze:Int):Option yd:=
  bnd (zcu x0.From (yg.mk (4:Int) (0:Int) (0:Int) (0:Int) m.ya.Term (0:Int) (0:Int) (0:Int) ok_1 ([]) ([])) (yd.mk (ye.mk m.ya.Id m.ya.N m.ya.Term m_30 m.ya.yv m.ya.yaf m.ya.yj m.ya.yl m.ya.yy m.ya.ym m.ya.Next m.ya.yr ze m.ya.yae) m.f_out)) fun r0_2=>
  some r0_2
def zan (x0:yg)(m:yd)(ok:Bool):Option yd:=
  if ok=true then
   zgr x0 m true x0.From (0:Int)
  else
    zgr x0 m false m.ya.yac m.ya.yu
def zgq (x0:yg)(m:yd):Option yd:=
  if (decide (x0.Term=m.ya.Term)) = true then
   if (decide (m.ya.yv=(0:Int))) = true then
    if (decide (m.ya.yac=(0:Int))) = true then
     bnd (zlp m.ya.yj x0.ybd x0.At) fun r0=>
     zan x0 m r0
    else
      if (decide (m.ya.yac=x0.From)) = true then
       bnd (zlp m.ya.yj x0.ybd x0.At) fun r0_1=>
       zan x0 m r0_1
      else
        zan x0 m false
   else
     zan x0 m false
  else
    zan x0 m false
def zlq (r0:yd)(zw:(List Int)):Option yd:=
  bnd (zff (yd.mk (ye.mk r0.ya.Id r0.ya.N r0.ya.Term r0.ya.yac (3:Int) r0.ya.yaf r0.ya.yj r0.ya.yl r0.ya.yy r0.ya.ym zw (List.replicate r0.ya.N.toNat (0:Int)) (0:Int) r0.ya.yae) r0.f_out)) fun r0_2=>
  some r0_2
def zgh (r0:yd)(zfi:Int→(List Int)→Option yd)(v49:Int)(zc:(List Int)):Option yd:=
  if (decide (v49 < ((r0.ya.N.toNat:Nat):Int))) = true then
   bnd (zam r0.ya.yj) fun r0_1=>
   bnd (ybu zc v49) fun e=>
   zfi (IntKind.i64.wrap (v49 + (1:Int))) (ybi zc v49 (IntKind.i64.wrap (r0_1 + (1:Int))))
  else
    zlq r0 zc
def zba (r0:yd):Nat→Int→(List Int)→Option yd
  | 0,_,_=>none
  | n + 1,v49,zc=>zgh r0 (zba r0 n) v49 zc
def zee (m:yd):Option yd:=
  bnd (zat m.ya.Term m.ya.Id m) fun r0=>
  if (mkB r0.ya.N) = true then
   zba r0 (((((r0.ya.N.toNat:Nat):Int)) - ((0:Int))).toNat + 1) (0:Int) (List.replicate r0.ya.N.toNat (0:Int))
   else none
def zeg (to0:Int)(x0:yg)(m:yd):Option yd:=
  if (yco ((m.f_out).length + 1)) = true then
   some (yd.mk m.ya (m.f_out++[(yg.mk x0.yar x0.yct m.ya.Id to0 x0.Term x0.At x0.ybd x0.yl x0.Ok ([]) ([]))]))
   else none
def zec (x0:yg)(m:yd)(v20:Bool):Option (Bool × yd):=
  if v20=true then
   bnd (zcu x0.From (yg.mk (6:Int) (0:Int) (0:Int) (0:Int) m.ya.Term (0:Int) (0:Int) (0:Int) false ([]) ([])) m) fun r0=>
   some (false,r0)
  else
    bnd (zat x0.Term x0.From m) fun r0_1=>
    some (true,(yd.mk (ye.mk r0_1.ya.Id r0_1.ya.N r0_1.ya.Term r0_1.ya.yac r0_1.ya.yv r0_1.ya.yaf r0_1.ya.yj r0_1.ya.yl r0_1.ya.yy r0_1.ya.ym r0_1.ya.Next r0_1.ya.yr (0:Int) r0_1.ya.yae) r0_1.f_out))
def zgm (x0:yg)(m:yd):Option (Bool × yd):=
  if (decide (x0.Term < m.ya.Term)) = true then
   zec x0 m true
  else
    zec x0 m (decide (m.ya.yv=(3:Int)))
def zmo (at0_1:Int)(entries_1:(List yc))(r0_7:yz)(out_2_1:(List yc)):Option (yz × Int × Bool):=
  some ((yz.mk r0_7.yn r0_7.yi out_2_1),(IntKind.i64.wrap (at0_1 + (entries_1.length:Int))),true)
def zmn (at0_1:Int)(entries_1:(List yc))(r0_7:yz)(v97:Int)(out_2:(List yc)):Option (yz × Int × Bool):=
  bnd (yby entries_1 v97 entries_1.length) fun l_3=>
  bnd (zid l_3) fun r0_8=>
  if (yco (out_2.length + r0_8.length)) = true then
   zmo at0_1 entries_1 r0_7 (out_2++r0_8)
   else none
def zmu (l:yz)(at0_1:Int)(entries_1:(List yc))(r0_7:yz)(znp:Int→Option (yz × Int × Bool))(v97:Int):Option (yz × Int × Bool):=
  if (decide (v97 < (entries_1.length:Int))) = true then
   bnd (ybu entries_1 v97) fun e=>
   if (decide ((IntKind.i64.wrap ((IntKind.i64.wrap (at0_1 + v97)) - l.yn)) < (((r0_7.Entries).length:Nat):Int))) = true then
    bnd (ybu r0_7.Entries (IntKind.i64.wrap ((IntKind.i64.wrap (at0_1 + v97)) - l.yn))) fun e_1=>
    if (decide (e_1.Term=e.Term)) = true then
     znp (IntKind.i64.wrap (v97 + (1:Int)))
    else
      bnd (yby r0_7.Entries 0 (IntKind.i64.wrap ((IntKind.i64.wrap (at0_1 + v97)) - l.yn))) fun l_2=>
      zmn at0_1 entries_1 r0_7 v97 l_2
   else
     zmn at0_1 entries_1 r0_7 v97 r0_7.Entries
  else
    zmo at0_1 entries_1 r0_7 r0_7.Entries
def zic (l:yz)(at0_1:Int)(entries_1:(List yc))(r0_7:yz):Nat→Int→Option (yz × Int × Bool)
  | 0,_=>none
  | n + 1,v97=>zmu l at0_1 entries_1 r0_7 (zic l at0_1 entries_1 r0_7 n) v97
def zoy (l:yz)(hint_1:Int):Option (yz × Int × Bool):=
  bnd (zgd l) fun r0_6=>
  some (r0_6,(if hint_1 < l.yn then l.yn else hint_1),false)
def zbp(zbh:Int→Int→Bool→Option (yz × Int × Bool))(l:yz)(hint:Int)(v78:Bool):Option (yz × Int × Bool):=
  if v78=true then
   bnd (zbv l (IntKind.i64.wrap (hint - (1:Int)))) fun r0_5=>
   zbh (IntKind.i64.wrap (hint - (1:Int))) r0_5.1 r0_5.2
  else
    zoy l hint
def zjr (l:yz)(r0_1:(Int × Bool))(zbh:Int→Int→Bool→Option (yz × Int × Bool))(hint t:Int)(ok:Bool):Option (yz × Int × Bool):=
  if ok=true then
   if (decide (t=r0_1.1)) = true then
    zbp zbh l hint (decide (l.yn < hint))
   else
     zbp zbh l hint false
  else
    zbp zbh l hint false
def zar (l:yz)(r0_1:(Int × Bool)):Nat→Int→Int→Bool→Option (yz × Int × Bool)
  | 0,_,_,_=>none
  | n + 1,hint,t,ok=>zjr l r0_1 (zar l r0_1 n) hint t ok
def zmm (l:yz)(at0_1 term_1:Int)(entries_1:(List yc)):Option (yz × Int × Bool):=
  bnd (zbv l at0_1) fun r0_1=>
  if r0_1.2=true then
   if (decide (r0_1.1≠term_1)) = true then
    bnd (zbv l (IntKind.i64.wrap (at0_1 - (1:Int)))) fun r0_4=>
    zar l r0_1 (1000000) (IntKind.i64.wrap (at0_1 - (1:Int))) r0_4.1 r0_4.2
   else
     bnd (zgd l) fun r0_7=>
     zic l at0_1 entries_1 r0_7 ((((entries_1.length:Int)) - ((0:Int))).toNat + 1) (0:Int)
  else
    bnd (zgd l) fun r0_2=>
    bnd (zam l) fun r0_3=>
    some (r0_2,r0_3,false)
def zrx (l:yz)(at0:Int)(term:Int)(entries:(List yc)):Option (yz × Int × Bool):=
  if (decide (at0 < l.yn)) = true then
   if (decide ((entries.length:Int) < (IntKind.i64.wrap (l.yn - at0)))) = true then
    bnd (zgd l) fun r0=>
    some (r0,l.yn,true)
   else
     bnd (yby entries (IntKind.i64.wrap (l.yn - at0)) entries.length) fun l_1=>
     zmm l l.yn l.yi l_1
  else
    zmm l at0 term entries
def zct (x0:yg)(r0:(Bool × yd))(r0_1:(yz × Int × Bool))(ok:Bool)(m_60 m_70:Int)(m_80:(List yc))(m_90:Int):Option yd:=
  bnd (zeg x0.From (yg.mk (6:Int) (0:Int) (0:Int) (0:Int) r0.2.ya.Term r0_1.2.1 (0:Int) (0:Int) ok ([]) ([])) (yd.mk (ye.mk r0.2.ya.Id r0.2.ya.N r0.2.ya.Term r0.2.ya.yac r0.2.ya.yv r0.2.ya.yaf (yz.mk m_60 m_70 m_80) m_90 r0.2.ya.yy r0.2.ya.ym r0.2.ya.Next r0.2.ya.yr r0.2.ya.yu r0.2.ya.yae) r0.2.f_out)) fun r0_2=>
  some r0_2
def zeb (x0:yg)(m:yd):Option yd:=
  bnd (zgm x0 m) fun r0=>
  if r0.1=true then
   bnd (zrx r0.2.ya.yj x0.At x0.ybd x0.Entries) fun r0_1=>
   if r0_1.2.2=true then
    zct x0 r0 r0_1 true r0_1.1.yn r0_1.1.yi r0_1.1.Entries (if r0.2.ya.yl < (if r0_1.2.1 < x0.yl then r0_1.2.1 else x0.yl) then (if r0_1.2.1 < x0.yl then r0_1.2.1 else x0.yl) else r0.2.ya.yl)
   else
     zct x0 r0 r0_1 false r0.2.ya.yj.yn r0.2.ya.yj.yi r0.2.ya.yj.Entries r0.2.ya.yl
  else
    some r0.2
def zdo (m:yd)(r0:Int)(v39:Bool):Option yd:=
  if v39=true then
   some (yd.mk (ye.mk m.ya.Id m.ya.N m.ya.Term m.ya.yac m.ya.yv m.ya.yaf m.ya.yj r0 m.ya.yy m.ya.ym m.ya.Next m.ya.yr m.ya.yu m.ya.yae) m.f_out)
  else
    some m
def zfl (m:yd):Option yd:=
  bnd (zen m.ya.yr) fun r0=>
  bnd (zbv m.ya.yj r0) fun r0_1=>
  if r0_1.2=true then
   if (decide (m.ya.yl < r0)) = true then
    zdo m r0 (decide (r0_1.1=m.ya.Term))
   else
     zdo m r0 false
  else
    zdo m r0 false
def zej (x0:yg)(m_00 m_10 m_20 m_30 m_40 m_50 m_60 m_70 m_90 ze zh:Int)(zd:(List Int))(zf:(List Bool))(zc zg:(List Int))(m_80:(List yc))(zi:(List yg)):Option yd:=
  bnd (zgo x0.From (yd.mk (ye.mk m_00 m_10 m_20 m_30 m_40 m_50 (yz.mk m_60 m_70 m_80) m_90 zd zf zc zg ze zh) zi)) fun r0_3=>
  some r0_3
def zbu (x0:yg)(m:yd)(v20:Bool):Option yd:=
  if v20=true then
   some m
  else
    if x0.Ok=true then
     bnd (ybu m.ya.yr (IntKind.i64.wrap (x0.From - (1:Int)))) fun e=>
     bnd (zam m.ya.yj) fun r0=>
     bnd (ybu m.ya.Next (IntKind.i64.wrap (x0.From - (1:Int)))) fun e_1=>
     bnd (ybu (ybi m.ya.yr (IntKind.i64.wrap (x0.From - (1:Int))) (if e < (if r0 < x0.At then r0 else x0.At) then (if r0 < x0.At then r0 else x0.At) else e)) (IntKind.i64.wrap (x0.From - (1:Int)))) fun e_2=>
     bnd (zfl (yd.mk (ye.mk m.ya.Id m.ya.N m.ya.Term m.ya.yac m.ya.yv m.ya.yaf m.ya.yj m.ya.yl m.ya.yy m.ya.ym (ybi m.ya.Next (IntKind.i64.wrap (x0.From - (1:Int))) (if e_1 < (IntKind.i64.wrap (e_2 + (1:Int))) then (IntKind.i64.wrap (e_2 + (1:Int))) else e_1)) (ybi m.ya.yr (IntKind.i64.wrap (x0.From - (1:Int))) (if e < (if r0 < x0.At then r0 else x0.At) then (if r0 < x0.At then r0 else x0.At) else e)) m.ya.yu m.ya.yae) m.f_out)) fun r0_1=>
     bnd (ybu r0_1.ya.Next (IntKind.i64.wrap (x0.From - (1:Int)))) fun e_3=>
     bnd (zam r0_1.ya.yj) fun r0_2=>
     if (decide (r0_2 < e_3)) = true then
      some r0_1
     else
       zej x0 r0_1.ya.Id r0_1.ya.N r0_1.ya.Term r0_1.ya.yac r0_1.ya.yv r0_1.ya.yaf r0_1.ya.yj.yn r0_1.ya.yj.yi r0_1.ya.yl r0_1.ya.yu r0_1.ya.yae r0_1.ya.yy r0_1.ya.ym r0_1.ya.Next r0_1.ya.yr r0_1.ya.yj.Entries r0_1.f_out
    else
      bnd (ybu m.ya.yr (IntKind.i64.wrap (x0.From - (1:Int)))) fun e_4=>
      bnd (ybu m.ya.Next (IntKind.i64.wrap (x0.From - (1:Int)))) fun e_5=>
      zej x0 m.ya.Id m.ya.N m.ya.Term m.ya.yac m.ya.yv m.ya.yaf m.ya.yj.yn m.ya.yj.yi m.ya.yl m.ya.yu m.ya.yae m.ya.yy m.ya.ym (ybi m.ya.Next (IntKind.i64.wrap (x0.From - (1:Int))) (if (IntKind.i64.wrap (e_4 + (1:Int))) < (IntKind.i64.wrap ((if x0.At < (IntKind.i64.wrap (e_5 - (2:Int))) then x0.At else (IntKind.i64.wrap (e_5 - (2:Int)))) + (1:Int))) then (IntKind.i64.wrap ((if x0.At < (IntKind.i64.wrap (e_5 - (2:Int))) then x0.At else (IntKind.i64.wrap (e_5 - (2:Int)))) + (1:Int))) else (IntKind.i64.wrap (e_4 + (1:Int))))) m.ya.yr m.ya.yj.Entries m.f_out
def zgp (x0:yg)(m:yd):Option yd:=
  if (decide (x0.Term < m.ya.Term)) = true then
   zbu x0 m true
  else
    zbu x0 m (decide (m.ya.yv≠(3:Int)))
def zlf (l:yz)(at0:Int):Option (yz × Int):=
  bnd (zbv l at0) fun r0=>
  if r0.2=true then
   bnd (yby l.Entries (IntKind.i64.wrap (at0 - l.yn)) l.Entries.length) fun l_1=>
   bnd (zid l_1) fun r0_1=>
   some ((yz.mk at0 r0.1 r0_1),(0:Int))
  else
    some ((yz.mk (0:Int) (0:Int) ([])),(2:Int))
def zmv (l:yz)(at0 term:Int)(v22:Bool):Option yz:=
  if v22=true then
   bnd (zlf l at0) fun r0_1=>
   some r0_1.1
  else
    some (yz.mk at0 term ([]))
def zqd (l:yz)(at0:Int)(term:Int):Option yz:=
  bnd (zbv l at0) fun r0=>
  if r0.2=true then
   zmv l at0 term (decide (r0.1=term))
  else
    zmv l at0 term false
def zeh (x0:yg)(r0:(Bool × yd))(m_60 m_70:Int)(m_80:(List yc))(m_90:Int)(zd:(List Int)):Option yd:=
  bnd (zeg x0.From (yg.mk (6:Int) (0:Int) (0:Int) (0:Int) r0.2.ya.Term m_90 (0:Int) (0:Int) true ([]) ([])) (yd.mk (ye.mk r0.2.ya.Id r0.2.ya.N r0.2.ya.Term r0.2.ya.yac r0.2.ya.yv r0.2.ya.yaf (yz.mk m_60 m_70 m_80) m_90 zd r0.2.ya.ym r0.2.ya.Next r0.2.ya.yr r0.2.ya.yu r0.2.ya.yae) r0.2.f_out)) fun r0_2=>
  some r0_2
def zgn (x0:yg)(m:yd):Option yd:=
  bnd (zgm x0 m) fun r0=>
  if r0.1=true then
   if (decide (r0.2.ya.yl < x0.At)) = true then
    bnd (zqd r0.2.ya.yj x0.At x0.ybd) fun r0_1=>
    if (yco (x0.ybq).length) = true then
     zeh x0 r0 r0_1.yn r0_1.yi r0_1.Entries x0.At x0.ybq
     else none
   else
     zeh x0 r0 r0.2.ya.yj.yn r0.2.ya.yj.yi r0.2.ya.yj.Entries r0.2.ya.yl r0.2.ya.yy
  else
    some r0.2
def zfh (r0:ye)(term:Int)(lead:Int):Option ye:=
  if (decide (r0.Term < term)) = true then
   some (ye.mk r0.Id r0.N term (0:Int) (0:Int) lead r0.yj r0.yl r0.yy ([]) ([]) ([]) r0.yu r0.yae)
  else
    some (ye.mk r0.Id r0.N r0.Term r0.yac (0:Int) lead r0.yj r0.yl r0.yy ([]) ([]) ([]) r0.yu r0.yae)
def zke (id n0:Int)(v20:Bool):Option (ye × Int):=
  if v20=true then
   some ((ye.mk (0:Int) (0:Int) (0:Int) (0:Int) (0:Int) (0:Int) (yz.mk (0:Int) (0:Int) ([])) (0:Int) ([]) ([]) ([]) ([]) (0:Int) (0:Int)),(2:Int))
  else
    some ((ye.mk id n0 (0:Int) (0:Int) (0:Int) (0:Int) (yz.mk (0:Int) (0:Int) ([])) (0:Int) ([]) ([]) ([]) ([]) (0:Int) (IntKind.i64.wrap ((10:Int) + id))),(0:Int))
def zqp (id:Int)(n0:Int):Option (ye × Int):=
  if (decide (n0 < (1:Int))) = true then
   zke id n0 true
  else
    if (decide ((7:Int) < n0)) = true then
     zke id n0 true
    else
      if (decide (id < (1:Int))) = true then
       zke id n0 true
      else
        zke id n0 (decide (n0 < id))
def zqr (yes_2 no_2:Int):Option Bool:=
  some (decide (no_2 < yes_2))
def zoc(zbo:Int→Int→Int→Option Bool)(i yes_1 no_1:Int):Option Bool:=
  zbo yes_1 no_1 (IntKind.i64.wrap (i + (1:Int)))
def zlt (l:(List Bool))(zbo:Int→Int→Int→Option Bool)(yes no i:Int):Option Bool:=
  if (decide (i < (l.length:Int))) = true then
   bnd (ybu l i) fun e=>
   if e=true then
    zoc zbo i (IntKind.i64.wrap (yes + (1:Int))) no
   else
     zoc zbo i yes (IntKind.i64.wrap (no + (1:Int)))
  else
    zqr yes no
def zgu (l:(List Bool)):Nat→Int→Int→Int→Option Bool
  | 0,_,_,_=>none
  | n + 1,yes,no,i=>zlt l (zgu l n) yes no i
def zph (l:(List Bool)):Option Bool:=
  zgu l ((((l.length:Int)) - ((0:Int))).toNat + 1) (0:Int) (0:Int) (0:Int)
def zle (l:(List Int))(who:Int)(n0:Int):Option (List Int):=
  if (yco l.length) = true then
   bnd (ybu l (IntKind.i64.wrap (who - (1:Int)))) fun e=>
   some (ybi l (IntKind.i64.wrap (who - (1:Int))) n0)
   else none
def zob (n0:Int):Option Int:=
  if (decide (n0 < (1:Int))) = true then
   some (0:Int)
  else
    if (decide ((n0.tmod (2:Int)) = (0:Int))) = true then
     some (IntKind.i64.wrap ((IntKind.i64.wrap (n0.tdiv (2:Int))) + (1:Int)))
    else
      some (IntKind.i64.wrap ((IntKind.i64.wrap ((IntKind.i64.wrap (n0 - (1:Int))).tdiv (2:Int))) + (1:Int)))
def zgt(zb:Int→Bool→Int→Option Int)(i best_1:Int)(found_2:Bool):Option Int:=
  zb best_1 found_2 (IntKind.i64.wrap (i + (1:Int)))
def zci(zb:Int→Bool→Int→Option Int)(l:(List Int))(best i:Int)(found_1 v47:Bool):Option Int:=
  if v47=true then
   bnd (ybu l i) fun e_3=>
   zgt zb i e_3 true
  else
    zgt zb i best found_1
def zjh(zb:Int→Bool→Int→Option Int)(l:(List Int))(best:Int)(found:Bool)(i n0_2:Int):Option Int:=
  bnd (zob (l.length:Int)) fun r0=>
  if (decide (r0≤n0_2)) = true then
   if found=true then
    bnd (ybu l i) fun e_2=>
    zci zb l best i true (decide (best < e_2))
   else
     zci zb l best i false true
  else
    zci zb l best i found false
def zjg(zaf:Int→Int→Option Int)(k n0_1:Int):Option Int:=
  zaf n0_1 (IntKind.i64.wrap (k + (1:Int)))
def zhs(zb:Int→Bool→Int→Option Int)(l:(List Int))(best:Int)(found:Bool)(i:Int)(zaf:Int→Int→Option Int)(n0 k:Int):Option Int:=
  if (decide (k < (l.length:Int))) = true then
   bnd (ybu l k) fun e=>
   bnd (ybu l i) fun e_1=>
   if (decide (e_1≤e)) = true then
    zjg zaf k (IntKind.i64.wrap (n0 + (1:Int)))
   else
     zjg zaf k n0
  else
    zjh zb l best found i n0
def zcj(zb:Int→Bool→Int→Option Int)(l:(List Int))(best:Int)(found:Bool)(i:Int):Nat→Int→Int→Option Int
  | 0,_,_=>none
  | n + 1,n0,k=>zhs zb l best found i (zcj zb l best found i n) n0 k
def zhr (l:(List Int))(zb:Int→Bool→Int→Option Int)(best:Int)(found:Bool)(i:Int):Option Int:=
  if (decide (i < (l.length:Int))) = true then
   zcj zb l best found i ((((l.length:Int)) - ((0:Int))).toNat + 1) (0:Int) (0:Int)
  else
    some best
def zak (l:(List Int)):Nat→Int→Bool→Int→Option Int
  | 0,_,_,_=>none
  | n + 1,best,found,i=>zhr l (zak l n) best found i
def zmz (l:(List Int)):Option Int:=
  zak l ((((l.length:Int)) - ((0:Int))).toNat + 1) (0:Int) false (0:Int)
def zfq (l:yz)(at0:Int)(zmd:Int→Option (Int × Bool))(i:Int):Option (Int × Bool):=
  if (decide (i < (l.Entries.length:Int))) = true then
   if (decide ((IntKind.i64.wrap ((IntKind.i64.wrap (l.yn + (1:Int))) + i)) = at0)) = true then
    bnd (ybu l.Entries i) fun e=>
    some (e.Term,true)
   else
     zmd (IntKind.i64.wrap (i + (1:Int)))
  else
    some ((0:Int),false)
def zch (l:yz)(at0:Int):Nat→Int→Option (Int × Bool)
  | 0,_=>none
  | n + 1,i=>zfq l at0 (zch l at0 n) i
def zbs (l:yz)(at0:Int):Option (Int × Bool):=
  if (decide (at0=l.yn)) = true then
   some (l.yi,true)
  else
    zch l at0 ((((l.Entries.length:Int)) - ((0:Int))).toNat + 1) (0:Int)
def zia (r0:ye)(r0_1:Int)(v28:Bool):Option Int:=
  if v28=true then
   some r0_1
  else
    some r0.yl
def zgy (r0:ye):Option Int:=
  bnd (zmz r0.yr) fun r0_1=>
  bnd (zbs r0.yj r0_1) fun r0_2=>
  if r0_2.2=true then
   if (decide (r0_2.1=r0.Term)) = true then
    zia r0 r0_1 (decide (r0.yl < r0_1))
   else
     zia r0 r0_1 false
  else
    zia r0 r0_1 false
def zmy(zo:Int→(List yc)→Option (List yc))(i:Int)(out_1:(List yc)):Option (List yc):=
  zo (IntKind.i64.wrap (i + (1:Int))) out_1
def zjv(zo:Int→(List yc)→Option (List yc))(l:yz)(at0 i:Int)(out:(List yc))(v24:Bool):Option (List yc):=
  if v24=true then
   if (decide (at0≤(IntKind.i64.wrap ((IntKind.i64.wrap (l.yn + (1:Int))) + i)))) = true then
    bnd (ybu l.Entries i) fun e=>
    if (yco (out.length + 1)) = true then
     zmy zo i (out++[e])
     else none
   else
     zmy zo i out
  else
    some out
def zki (l:yz)(at0 most:Int)(zo:Int→(List yc)→Option (List yc))(i:Int)(out:(List yc)):Option (List yc):=
  if (decide (i < (l.Entries.length:Int))) = true then
   zjv zo l at0 i out (decide (((out.length:Nat):Int) < most))
  else
    zjv zo l at0 i out false
def zfu (l:yz)(at0 most:Int):Nat→Int→(List yc)→Option (List yc)
  | 0,_,_=>none
  | n + 1,i,out=>zki l at0 most (zfu l at0 most n) i out
def zeq (l:yz)(at0:Int)(most:Int):Option (List yc):=
  if (decide (at0≤l.yn)) = true then
   some ([])
  else
    zfu l at0 most ((((l.Entries.length:Int)) - ((0:Int))).toNat + 1) (0:Int) ([])
def zjm (r0:ye)(to0:Int):Option yg:=
  bnd (ybu r0.Next (IntKind.i64.wrap (to0 - (1:Int)))) fun e=>
  if (decide (e≤r0.yj.yn)) = true then
   some (yg.mk (7:Int) (0:Int) r0.Id to0 r0.Term r0.yj.yn r0.yj.yi r0.yl false ([]) r0.yy)
  else
    bnd (zbs r0.yj (IntKind.i64.wrap (e - (1:Int)))) fun r0_1=>
    bnd (zeq r0.yj e (8:Int)) fun r0_2=>
    some (yg.mk (5:Int) (0:Int) r0.Id to0 r0.Term (IntKind.i64.wrap (e - (1:Int))) r0_1.1 r0.yl false r0_2 ([]))
def zjn(zag:Int→(List yg)→Option (List yg))(to0:Int)(out_1:(List yg)):Option (List yg):=
  zag (IntKind.i64.wrap (to0 + (1:Int))) out_1
def zky (r0:ye)(zag:Int→(List yg)→Option (List yg))(to0:Int)(out:(List yg)):Option (List yg):=
  if (decide (to0≤r0.N)) = true then
   if (decide (to0≠r0.Id)) = true then
    bnd (zjm r0 to0) fun r0_1=>
    if (yco (out.length + 1)) = true then
     zjn zag to0 (out++[r0_1])
     else none
   else
     zjn zag to0 out
  else
    some out
def zcl (r0:ye):Nat→Int→(List yg)→Option (List yg)
  | 0,_,_=>none
  | n + 1,to0,out=>zky r0 (zcl r0 n) to0 out
def zhv (r0:ye):Option (List yg):=
  zcl r0 (((r0.N) - ((1:Int)) + 1).toNat + 1) (1:Int) ([])
def zcg (l:yz):Option Int:=
  some (IntKind.i64.wrap (l.yn + (l.Entries.length:Int)))
def ziv (r0:ye)(data:(List Int)):Option (ye × (List yg)):=
  if (yco (r0.yj.Entries).length) = true then
   if (yco ((r0.yj.Entries).length + 1)) = true then
    bnd (zcg (yz.mk r0.yj.yn r0.yj.yi (r0.yj.Entries++[(yc.mk r0.Term data)]))) fun r0_1=>
    bnd (zle r0.yr r0.Id r0_1) fun r0_2=>
    bnd (zgy (ye.mk r0.Id r0.N r0.Term r0.yac r0.yv r0.yaf (yz.mk r0.yj.yn r0.yj.yi (r0.yj.Entries++[(yc.mk r0.Term data)])) r0.yl r0.yy r0.ym r0.Next r0_2 r0.yu r0.yae)) fun r0_3=>
    bnd (zhv (ye.mk r0.Id r0.N r0.Term r0.yac r0.yv r0.yaf (yz.mk r0.yj.yn r0.yj.yi (r0.yj.Entries++[(yc.mk r0.Term data)])) r0_3 r0.yy r0.ym r0.Next r0_2 r0.yu r0.yae)) fun r0_4=>
    some ((ye.mk r0.Id r0.N r0.Term r0.yac r0.yv r0.yaf (yz.mk r0.yj.yn r0.yj.yi (r0.yj.Entries++[(yc.mk r0.Term data)])) r0_3 r0.yy r0.ym r0.Next r0_2 r0.yu r0.yae),r0_4)
    else none
   else none
def zni (r0_1:ye)(q_12_1 q_13_1:(List Int)):Option (ye × (List yg)):=
  bnd (ziv (ye.mk r0_1.Id r0_1.N r0_1.Term r0_1.yac (3:Int) r0_1.yaf r0_1.yj r0_1.yl r0_1.yy ([]) q_12_1 q_13_1 (0:Int) r0_1.yae) ([])) fun r0_3=>
  some (r0_3.1,r0_3.2)
def zkk (r0 r0_1:ye)(zmg:Int→(List Int)→(List Int)→Option (ye × (List yg)))(i:Int)(q_12 q_13:(List Int)):Option (ye × (List yg)):=
  if (decide (i < r0.N)) = true then
   bnd (zcg r0.yj) fun r0_2=>
   if (yco (q_12.length + 1)) = true then
    if (yco (q_13.length + 1)) = true then
     zmg (IntKind.i64.wrap (i + (1:Int))) (q_12++[(IntKind.i64.wrap (r0_2 + (1:Int)))]) (q_13++[(0:Int)])
     else none
    else none
  else
    zni r0_1 q_12 q_13
def zea (r0 r0_1:ye):Nat→Int→(List Int)→(List Int)→Option (ye × (List yg))
  | 0,_,_,_=>none
  | n + 1,i,q_12,q_13=>zkk r0 r0_1 (zea r0 r0_1 n) i q_12 q_13
def zjl (r0:ye):Option (ye × (List yg)):=
  bnd (zfh r0 r0.Term r0.Id) fun r0_1=>
  zea r0 r0_1 (((r0.N) - ((0:Int))).toNat + 1) (0:Int) ([]) ([])
def zer (l:yz)(at0 term:Int)(v20:Bool):Option yz:=
  if v20=true then
   bnd (zeq l (IntKind.i64.wrap (at0 + (1:Int))) (l.Entries.length:Int)) fun r0_1=>
   some (yz.mk at0 term r0_1)
  else
    some (yz.mk at0 term ([]))
def zmr (l:yz)(at0:Int)(term:Int):Option yz:=
  bnd (zbs l at0) fun r0=>
  if r0.2=true then
   zer l at0 term (decide (r0.1=term))
  else
    zer l at0 term false
def zhq (l:yz)(k_1:Int):Option Int:=
  if (decide (k_1 < l.yn)) = true then
   some l.yn
  else
    some k_1
def zhz (l:yz)(r0:(Int × Bool))(zme:Int→Option Int)(k:Int):Option Int:=
  if (decide (l.yn < k)) = true then
   bnd (zbs l k) fun r0_1=>
   if (decide (r0_1.1≠r0.1)) = true then
    zhq l k
   else
     zme (IntKind.i64.wrap (k - (1:Int)))
  else
    zhq l k
def zdy (l:yz)(r0:(Int × Bool)):Nat→Int→Option Int
  | 0,_=>none
  | n + 1,k=>zhz l r0 (zdy l r0 n) k
def zoa (l:yz)(at0:Int):Option Int:=
  bnd (zbs l at0) fun r0=>
  zdy l r0 (1000000) (IntKind.i64.wrap (at0 - (1:Int)))
def zlk(zbn:Int→(List yc)→Option (List yc))(l:yz)(i:Int)(out:(List yc))(v20:Bool):Option (List yc):=
  if v20=true then
   bnd (ybu l.Entries i) fun e=>
   if (yco (out.length + 1)) = true then
    zbn (IntKind.i64.wrap (i + (1:Int))) (out++[e])
    else none
  else
    some out
def zls (l:yz)(at0:Int)(zbn:Int→(List yc)→Option (List yc))(i:Int)(out:(List yc)):Option (List yc):=
  if (decide (i < (l.Entries.length:Int))) = true then
   zlk zbn l i out (decide ((IntKind.i64.wrap ((IntKind.i64.wrap (l.yn + (1:Int))) + i))≤at0))
  else
    zlk zbn l i out false
def zgs (l:yz)(at0:Int):Nat→Int→(List yc)→Option (List yc)
  | 0,_,_=>none
  | n + 1,i,out=>zls l at0 (zgs l at0 n) i out
def zre (l:yz)(at0:Int):Option (List yc):=
  zgs l at0 ((((l.Entries.length:Int)) - ((0:Int))).toNat + 1) (0:Int) ([])
def zqq (l:yz)(from0:Int)(rest:(List yc)):Option (yz × Int × Bool):=
  some (l,(IntKind.i64.wrap (from0 + (rest.length:Int))),true)
def ziu(zbm:Int→Option (yz × Int × Bool))(l:yz)(from0:Int)(rest:(List yc))(i:Int)(v94:Bool):Option (yz × Int × Bool):=
  if v94=true then
   zbm (IntKind.i64.wrap (i + (1:Int)))
  else
    bnd (zre l (IntKind.i64.wrap (from0 + i))) fun r0_4=>
    if (yco r0_4.length) = true then
     bnd (yby rest i rest.length) fun l_2=>
     if (yco (r0_4.length + l_2.length)) = true then
      some ((yz.mk l.yn l.yi (r0_4++l_2)),(IntKind.i64.wrap (from0 + (rest.length:Int))),true)
      else none
     else none
def zlr (l:yz)(from0:Int)(rest:(List yc))(zbm:Int→Option (yz × Int × Bool))(i:Int):Option (yz × Int × Bool):=
  if (decide (i < (rest.length:Int))) = true then
   bnd (zbs l (IntKind.i64.wrap ((IntKind.i64.wrap (from0 + (1:Int))) + i))) fun r0_3=>
   if r0_3.2=true then
    bnd (ybu rest i) fun e=>
    ziu zbm l from0 rest i (decide (r0_3.1=e.Term))
   else
     ziu zbm l from0 rest i false
  else
    zqq l from0 rest
def zds (l:yz)(from0:Int)(rest:(List yc)):Nat→Int→Option (yz × Int × Bool)
  | 0,_=>none
  | n + 1,i=>zlr l from0 rest (zds l from0 rest n) i
def zlj (l:yz)(from0 want:Int)(rest:(List yc)):Option (yz × Int × Bool):=
  bnd (zbs l from0) fun r0=>
  if r0.2=true then
   if (decide (r0.1≠want)) = true then
    bnd (zoa l from0) fun r0_2=>
    some (l,r0_2,false)
   else
     zds l from0 rest ((((rest.length:Int)) - ((0:Int))).toNat + 1) (0:Int)
  else
    bnd (zcg l) fun r0_1=>
    some (l,r0_1,false)
def zpg (l:yz)(at0:Int)(term:Int)(entries:(List yc)):Option (yz × Int × Bool):=
  if (decide (at0 < l.yn)) = true then
   if (decide ((entries.length:Int) < (IntKind.i64.wrap (l.yn - at0)))) = true then
    some (l,l.yn,true)
   else
     bnd (yby entries (IntKind.i64.wrap (l.yn - at0)) entries.length) fun l_1=>
     zlj l l.yn l.yi l_1
  else
    zlj l at0 term entries
def zlv (l:yz):Option Int:=
  bnd (zcg l) fun r0=>
  bnd (zbs l r0) fun r0_1=>
  some r0_1.1
def zny (m_00 m_10 m_20 m_30 m_40 m_50 m_60 m_70:Int)(m_80:(List yc))(m_90 ze zh:Int)(zd:(List Int))(zf:(List Bool))(zc zg:(List Int))(zi:(List yg)):Option (ye × (List yg)):=
  bnd (zjd (yd.mk (ye.mk m_00 m_10 m_20 m_30 m_40 m_50 (yz.mk m_60 m_70 m_80) m_90 zd zf zc zg ze zh) zi)) fun r0_4=>
  some (r0_4.1,r0_4.2)
def zli (draw:Int)(r0_1:yd)(v41:Bool):Option (ye × (List yg)):=
  if v41=true then
   bnd (zhy draw (yd.mk (ye.mk r0_1.ya.Id r0_1.ya.N r0_1.ya.Term r0_1.ya.yac r0_1.ya.yv r0_1.ya.yaf r0_1.ya.yj r0_1.ya.yl r0_1.ya.yy r0_1.ya.ym r0_1.ya.Next r0_1.ya.yr (IntKind.i64.wrap (r0_1.ya.yu + (1:Int))) r0_1.ya.yae) r0_1.f_out)) fun r0_3=>
   zny r0_3.ya.Id r0_3.ya.N r0_3.ya.Term r0_3.ya.yac r0_3.ya.yv r0_3.ya.yaf r0_3.ya.yj.yn r0_3.ya.yj.yi r0_3.ya.yj.Entries r0_3.ya.yl r0_3.ya.yu r0_3.ya.yae r0_3.ya.yy r0_3.ya.ym r0_3.ya.Next r0_3.ya.yr r0_3.f_out
  else
    zny r0_1.ya.Id r0_1.ya.N r0_1.ya.Term r0_1.ya.yac r0_1.ya.yv r0_1.ya.yaf r0_1.ya.yj.yn r0_1.ya.yj.yi r0_1.ya.yj.Entries r0_1.ya.yl (IntKind.i64.wrap (r0_1.ya.yu + (1:Int))) r0_1.ya.yae r0_1.ya.yy r0_1.ya.ym r0_1.ya.Next r0_1.ya.yr r0_1.f_out
def znx (draw:Int)(r0_1:yd)(v18:Bool):Option (ye × (List yg)):=
  if v18=true then
   bnd (zkh (yd.mk (ye.mk r0_1.ya.Id r0_1.ya.N r0_1.ya.Term r0_1.ya.yac r0_1.ya.yv r0_1.ya.yaf r0_1.ya.yj r0_1.ya.yl r0_1.ya.yy r0_1.ya.ym r0_1.ya.Next r0_1.ya.yr (0:Int) r0_1.ya.yae) r0_1.f_out)) fun r0_2=>
   zny r0_2.ya.Id r0_2.ya.N r0_2.ya.Term r0_2.ya.yac r0_2.ya.yv r0_2.ya.yaf r0_2.ya.yj.yn r0_2.ya.yj.yi r0_2.ya.yj.Entries r0_2.ya.yl r0_2.ya.yu r0_2.ya.yae r0_2.ya.yy r0_2.ya.ym r0_2.ya.Next r0_2.ya.yr r0_2.f_out
  else
    if (decide (r0_1.ya.yv≠(3:Int))) = true then
     zli draw r0_1 (decide (r0_1.ya.yae≤(IntKind.i64.wrap (r0_1.ya.yu + (1:Int)))))
    else
      zli draw r0_1 false
def zpe (r0:ye)(draw:Int):Option (ye × (List yg)):=
  bnd (zoh r0) fun r0_1=>
  if (decide (r0_1.ya.yv=(3:Int))) = true then
   znx draw r0_1 (decide ((2:Int)≤(IntKind.i64.wrap (r0_1.ya.yu + (1:Int)))))
  else
    znx draw r0_1 false
def zit (r0:ye)(data:(List Int)):Option (ye × Int × (List yg) × Int):=
  bnd (zoh r0) fun r0_1=>
  if (decide (r0_1.ya.yv≠(3:Int))) = true then
   some (r0_1.ya,(0:Int),[],(15:Int))
  else
    bnd (zim data r0_1) fun r0_2=>
    bnd (zjd r0_2) fun r0_3=>
    bnd (zam r0_3.1.yj) fun r0_4=>
    some (r0_3.1,r0_4,r0_3.2,(0:Int))
def zhw (upto:Int)(snap:(List Int))(r0_1:yd)(v29:Bool):Option (ye × Int):=
  if v29=true then
   some (r0_1.ya,(2:Int))
  else
    bnd (zlf r0_1.ya.yj upto) fun r0_2=>
    if (decide (r0_2.2≠(0:Int))) = true then
     some (r0_1.ya,r0_2.2)
    else
      if (yco (snap).length) = true then
       some ((ye.mk r0_1.ya.Id r0_1.ya.N r0_1.ya.Term r0_1.ya.yac r0_1.ya.yv r0_1.ya.yaf r0_2.1 r0_1.ya.yl snap r0_1.ya.ym r0_1.ya.Next r0_1.ya.yr r0_1.ya.yu r0_1.ya.yae),(0:Int))
       else none
def zis (r0:ye)(upto:Int)(snap:(List Int)):Option (ye × Int):=
  bnd (zoh r0) fun r0_1=>
  if (decide (upto≤r0_1.ya.yj.yn)) = true then
   zhw upto snap r0_1 true
  else
    zhw upto snap r0_1 (decide (r0_1.ya.yl < upto))
def zdm (k:Int)(n0:Int):Option Int:=
  if (decide ((IntKind.u64.wrap n0) = 0)) = true then none else some (IntKind.i64.wrap ((IntKind.u64.wrap k).tmod (IntKind.u64.wrap n0)))
def zpk (n0:Int)(who:Int):Option (List Bool):=
  if (mkB n0) = true then
   bnd (ybu (List.replicate n0.toNat false) (IntKind.i64.wrap (who - (1:Int)))) fun e=>
   some (ybi (List.replicate n0.toNat false) (IntKind.i64.wrap (who - (1:Int))) true)
   else none
def zkl(zao:Int→(List yg)→Option (List yg))(to0:Int)(out_1:(List yg)):Option (List yg):=
  zao (IntKind.i64.wrap (to0 + (1:Int))) out_1
def zmc (r0:ye)(kind term:Int)(zao:Int→(List yg)→Option (List yg))(to0:Int)(out:(List yg)):Option (List yg):=
  if (decide (to0≤r0.N)) = true then
   if (decide (to0≠r0.Id)) = true then
    bnd (zcg r0.yj) fun r0_1=>
    bnd (zlv r0.yj) fun r0_2=>
    if (yco (out.length + 1)) = true then
     zkl zao to0 (out++[(yg.mk kind (0:Int) r0.Id to0 term r0_1 r0_2 (0:Int) false ([]) ([]))])
     else none
   else
     zkl zao to0 out
  else
    some out
def zcr (r0:ye)(kind term:Int):Nat→Int→(List yg)→Option (List yg)
  | 0,_,_=>none
  | n + 1,to0,out=>zmc r0 kind term (zcr r0 kind term n) to0 out
def zha (r0:ye)(kind:Int)(term:Int):Option (List yg):=
  zcr r0 kind term (((r0.N) - ((1:Int)) + 1).toNat + 1) (1:Int) ([])
def zie (r0:ye):Option (ye × (List yg)):=
  bnd (zfh r0 (IntKind.i64.wrap (r0.Term + (1:Int))) (0:Int)) fun r0_1=>
  bnd (zpk r0.N r0.Id) fun r0_2=>
  if (decide (r0.N=(1:Int))) = true then
   bnd (zjl (ye.mk r0_1.Id r0_1.N r0_1.Term r0.Id (2:Int) r0_1.yaf r0_1.yj r0_1.yl r0_1.yy r0_2 ([]) ([]) (0:Int) r0_1.yae)) fun r0_3=>
   some (r0_3.1,r0_3.2)
  else
    bnd (zha (ye.mk r0_1.Id r0_1.N r0_1.Term r0.Id (2:Int) r0_1.yaf r0_1.yj r0_1.yl r0_1.yy r0_2 ([]) ([]) (0:Int) r0_1.yae) (3:Int) r0_1.Term) fun r0_4=>
    some ((ye.mk r0_1.Id r0_1.N r0_1.Term r0.Id (2:Int) r0_1.yaf r0_1.yj r0_1.yl r0_1.yy r0_2 ([]) ([]) (0:Int) r0_1.yae),r0_4)
def zpi (r0:ye)(draw:Int):Option (ye × (List yg)):=
  bnd (zfh r0 r0.Term (0:Int)) fun r0_1=>
  bnd (zpk r0.N r0.Id) fun r0_2=>
  if (decide (r0.N=(1:Int))) = true then
   bnd (zie (ye.mk r0_1.Id r0_1.N r0_1.Term r0_1.yac (1:Int) r0_1.yaf r0_1.yj r0_1.yl r0_1.yy r0_2 ([]) ([]) (0:Int) (IntKind.i64.wrap ((10:Int) + (IntKind.i64.wrap ((IntKind.u64.wrap draw).tmod (10:Int))))))) fun r0_3=>
   some (r0_3.1,r0_3.2)
  else
    bnd (zha (ye.mk r0_1.Id r0_1.N r0_1.Term r0_1.yac (1:Int) r0_1.yaf r0_1.yj r0_1.yl r0_1.yy r0_2 ([]) ([]) (0:Int) (IntKind.i64.wrap ((10:Int) + (IntKind.i64.wrap ((IntKind.u64.wrap draw).tmod (10:Int)))))) (1:Int) (IntKind.i64.wrap (r0_1.Term + (1:Int)))) fun r0_4=>
    some ((ye.mk r0_1.Id r0_1.N r0_1.Term r0_1.yac (1:Int) r0_1.yaf r0_1.yj r0_1.yl r0_1.yy r0_2 ([]) ([]) (0:Int) (IntKind.i64.wrap ((10:Int) + (IntKind.i64.wrap ((IntKind.u64.wrap draw).tmod (10:Int)))))),r0_4)
def zqe (r0:ye)(draw:Int):Option (ye × (List yg)):=
  if (decide (r0.yv≠(3:Int))) = true then
   if (decide (r0.yae≤(IntKind.i64.wrap (r0.yu + (1:Int))))) = true then
    bnd (zpi (ye.mk r0.Id r0.N r0.Term r0.yac r0.yv r0.yaf r0.yj r0.yl r0.yy r0.ym r0.Next r0.yr (IntKind.i64.wrap (r0.yu + (1:Int))) r0.yae) draw) fun r0_1=>
    some (r0_1.1,r0_1.2)
   else
     some ((ye.mk r0.Id r0.N r0.Term r0.yac r0.yv r0.yaf r0.yj r0.yl r0.yy r0.ym r0.Next r0.yr (IntKind.i64.wrap (r0.yu + (1:Int))) r0.yae),[])
  else
    if (decide ((IntKind.i64.wrap (r0.yu + (1:Int))) < (2:Int))) = true then
     some ((ye.mk r0.Id r0.N r0.Term r0.yac r0.yv r0.yaf r0.yj r0.yl r0.yy r0.ym r0.Next r0.yr (IntKind.i64.wrap (r0.yu + (1:Int))) r0.yae),[])
    else
      bnd (zhv (ye.mk r0.Id r0.N r0.Term r0.yac r0.yv r0.yaf r0.yj r0.yl r0.yy r0.ym r0.Next r0.yr (0:Int) r0.yae)) fun r0_2=>
      some ((ye.mk r0.Id r0.N r0.Term r0.yac r0.yv r0.yaf r0.yj r0.yl r0.yy r0.ym r0.Next r0.yr (0:Int) r0.yae),r0_2)
def zjf(zae:Int→Option Bool)(i:Int)(v42:Bool):Option Bool:=
  if v42=true then
   some false
  else
    zae (IntKind.i64.wrap (i + (1:Int)))
def zhp (a b:(List yc))(zae:Int→Option Bool)(i:Int):Option Bool:=
  if (decide (i < (a.length:Int))) = true then
   bnd (ybu a i) fun e=>
   bnd (ybu b i) fun e_1=>
   if (decide (e.Term≠e_1.Term)) = true then
    zjf zae i true
   else
     zjf zae i (!(eqS (yoz e.ybq) (yoz e_1.ybq)))
  else
    some true
def zcz (a b:(List yc)):Nat→Int→Option Bool
  | 0,_=>none
  | n + 1,i=>zhp a b (zcz a b n) i
def zju (a:(List yc))(b:(List yc)):Option Bool:=
  if (decide ((a.length:Int)≠(b.length:Int))) = true then
   some false
  else
    zcz a b ((((a.length:Int)) - ((0:Int))).toNat + 1) (0:Int)
def zry (a:yz)(b:yz):Option Bool:=
  if (decide (a.yn=b.yn)) = true then
   if (decide (a.yi=b.yi)) = true then
    bnd (zju a.Entries b.Entries) fun r0=>
    some r0
   else
     some false
  else
    some false
def zjk (a b:(List Bool))(zlc:Int→Option Bool)(i:Int):Option Bool:=
  if (decide (i < (a.length:Int))) = true then
   bnd (ybu a i) fun e=>
   bnd (ybu b i) fun e_1=>
   if (e == e_1) = true then
    zlc (IntKind.i64.wrap (i + (1:Int)))
   else
     some false
  else
    some true
def zew (a b:(List Bool)):Nat→Int→Option Bool
  | 0,_=>none
  | n + 1,i=>zjk a b (zew a b n) i
def zpa (a:(List Bool))(b:(List Bool)):Option Bool:=
  if (decide ((a.length:Int)≠(b.length:Int))) = true then
   some false
  else
    zew a b ((((a.length:Int)) - ((0:Int))).toNat + 1) (0:Int)
def zkj (a b:(List Int))(zmf:Int→Option Bool)(i:Int):Option Bool:=
  if (decide (i < (a.length:Int))) = true then
   bnd (ybu a i) fun e=>
   bnd (ybu b i) fun e_1=>
   if (decide (e≠e_1)) = true then
    some false
   else
     zmf (IntKind.i64.wrap (i + (1:Int)))
  else
    some true
def zfv (a b:(List Int)):Nat→Int→Option Bool
  | 0,_=>none
  | n + 1,i=>zkj a b (zfv a b n) i
def zod (a:(List Int))(b:(List Int)):Option Bool:=
  if (decide ((a.length:Int)≠(b.length:Int))) = true then
   some false
  else
    zfv a b ((((a.length:Int)) - ((0:Int))).toNat + 1) (0:Int)
def zht (a b:ye)(v72:Bool):Option Bool:=
  if v72=true then
   some false
  else
    bnd (zry a.yj b.yj) fun r0=>
    if r0=true then
     bnd (zpa a.ym b.ym) fun r0_1=>
     if r0_1=true then
      bnd (zod a.Next b.Next) fun r0_2=>
      if r0_2=true then
       bnd (zod a.yr b.yr) fun r0_3=>
       some r0_3
      else
        some false
     else
       some false
    else
      some false
def zdz (a b:ye)(v44:Bool):Option Bool:=
  if v44=true then
   some false
  else
    if (decide (a.yl≠b.yl)) = true then
     zht a b true
    else
      if (decide (a.yu≠b.yu)) = true then
       zht a b true
      else
        if (decide (a.yae≠b.yae)) = true then
         zht a b true
        else
          zht a b (!(eqS (yoz a.yy) (yoz b.yy)))
def zdp (a:ye)(b:ye):Option Bool:=
  if (decide (a.Id≠b.Id)) = true then
   zdz a b true
  else
    if (decide (a.N≠b.N)) = true then
     zdz a b true
    else
      if (decide (a.Term≠b.Term)) = true then
       zdz a b true
      else
        if (decide (a.yac≠b.yac)) = true then
         zdz a b true
        else
          if (decide (a.yv≠b.yv)) = true then
           zdz a b true
          else
            zdz a b (decide (a.yaf≠b.yaf))
def zal (a b:yg)(v65:Bool):Option Bool:=
  if v65=true then
   some false
  else
    bnd (zju a.Entries b.Entries) fun r0=>
    if r0=true then
     some (eqS (yoz a.ybq) (yoz b.ybq))
    else
      some false
def zne (a:yg)(b:yg):Option Bool:=
  if (decide (a.yar≠b.yar)) = true then
   zal a b true
  else
    if (decide (a.yct≠b.yct)) = true then
     zal a b true
    else
      if (decide (a.From≠b.From)) = true then
       zal a b true
      else
        if (decide (a.To≠b.To)) = true then
         zal a b true
        else
          if (decide (a.Term≠b.Term)) = true then
           zal a b true
          else
            if (decide (a.At≠b.At)) = true then
             zal a b true
            else
              if (decide (a.ybd≠b.ybd)) = true then
               zal a b true
              else
                if (decide (a.yl≠b.yl)) = true then
                 zal a b true
                else
                  zal a b (!((a.Ok == b.Ok)))
def zgx (a b:(List yg))(zio:Int→Option Bool)(i:Int):Option Bool:=
  if (decide (i < (a.length:Int))) = true then
   bnd (ybu a i) fun e=>
   bnd (ybu b i) fun e_1=>
   bnd (zne e e_1) fun r0=>
   if r0=true then
    zio (IntKind.i64.wrap (i + (1:Int)))
   else
     some false
  else
    some true
def zcq (a b:(List yg)):Nat→Int→Option Bool
  | 0,_=>none
  | n + 1,i=>zgx a b (zcq a b n) i
def zdj (a:(List yg))(b:(List yg)):Option Bool:=
  if (decide ((a.length:Int)≠(b.length:Int))) = true then
   some false
  else
    zcq a b ((((a.length:Int)) - ((0:Int))).toNat + 1) (0:Int)
def zas (zabl zabm zabn zabo zabp zabq zabr zabs:Int)(zabt:(List yc))(zabu zaac zaad:Int)(zzy:(List Int))(zzz:(List Bool))(zaaa zaab:(List Int))(zaae:(List yg)):Option (ye × (List yg)):=
  bnd (zjd (yd.mk (ye.mk zabl zabm zabn zabo zabp zabq (yz.mk zabr zabs zabt) zabu zzy zzz zaaa zaab zaac zaad) zaae)) fun r0_13=>
  some (r0_13.1,r0_13.2)
def zfp (v158:Bool)(zzb zzc zzd zze zzf zzg zzh zzi zzk zxd zxe:Int)(zzj:(List yc))(zwz:(List Int))(zxa:(List Bool))(zxb zxc:(List Int))(zxf:(List yg)):Option (ye × (List yg)):=
  if v158=true then
   bnd (zee (yd.mk (ye.mk zzb zzc zzd zze zzf zzg (yz.mk zzh zzi zzj) zzk zwz zxa zxb zxc zxd zxe) zxf)) fun r0_9=>
   zas r0_9.ya.Id r0_9.ya.N r0_9.ya.Term r0_9.ya.yac r0_9.ya.yv r0_9.ya.yaf r0_9.ya.yj.yn r0_9.ya.yj.yi r0_9.ya.yj.Entries r0_9.ya.yl r0_9.ya.yu r0_9.ya.yae r0_9.ya.yy r0_9.ya.ym r0_9.ya.Next r0_9.ya.yr r0_9.f_out
  else
    zas zzb zzc zzd zze zzf zzg zzh zzi zzj zzk zxd zxe zwz zxa zxb zxc zxf
def zdv (v123:Bool)(zbw zbx zby zbz zca zcb zcc zcd zcf zax zay:Int)(zce:(List yc))(zau:(List Int))(zav:(List Bool))(zw zaw:(List Int))(zaz:(List yg)):Option (ye × (List yg)):=
  if v123=true then
   bnd (zge (yd.mk (ye.mk zbw zbx zby zbz zca zcb (yz.mk zcc zcd zce) zcf zau zav zw zaw zax zay) zaz)) fun r0_6=>
   zas r0_6.ya.Id r0_6.ya.N r0_6.ya.Term r0_6.ya.yac r0_6.ya.yv r0_6.ya.yaf r0_6.ya.yj.yn r0_6.ya.yj.yi r0_6.ya.yj.Entries r0_6.ya.yl r0_6.ya.yu r0_6.ya.yae r0_6.ya.yy r0_6.ya.ym r0_6.ya.Next r0_6.ya.yr r0_6.f_out
  else
    zas zbw zbx zby zbz zca zcb zcc zcd zce zcf zax zay zau zav zw zaw zaz
def zhx (x0:yg)(m_00 m_10 m_20 m_30 m_40 m_50 m_60 m_70 m_90 ze zh:Int)(m_80:(List yc))(zd:(List Int))(zf:(List Bool))(zc zg:(List Int))(zi:(List yg)):Option (ye × (List yg)):=
  if (decide (x0.yar=(1:Int))) = true then
   bnd (zga x0 (yd.mk (ye.mk m_00 m_10 m_20 m_30 m_40 m_50 (yz.mk m_60 m_70 m_80) m_90 zd zf zc zg ze zh) zi)) fun r0_4=>
   zas r0_4.ya.Id r0_4.ya.N r0_4.ya.Term r0_4.ya.yac r0_4.ya.yv r0_4.ya.yaf r0_4.ya.yj.yn r0_4.ya.yj.yi r0_4.ya.yj.Entries r0_4.ya.yl r0_4.ya.yu r0_4.ya.yae r0_4.ya.yy r0_4.ya.ym r0_4.ya.Next r0_4.ya.yr r0_4.f_out
  else
    if (decide (x0.yar=(2:Int))) = true then
     if x0.Ok=true then
      if (decide (m_40=(1:Int))) = true then
       if (decide (x0.Term=(IntKind.i64.wrap (m_20 + (1:Int))))) = true then
        bnd (zco x0.From (yd.mk (ye.mk m_00 m_10 m_20 m_30 m_40 m_50 (yz.mk m_60 m_70 m_80) m_90 zd zf zc zg ze zh) zi)) fun r0_5=>
        zdv r0_5.1 r0_5.2.ya.Id r0_5.2.ya.N r0_5.2.ya.Term r0_5.2.ya.yac r0_5.2.ya.yv r0_5.2.ya.yaf r0_5.2.ya.yj.yn r0_5.2.ya.yj.yi r0_5.2.ya.yl r0_5.2.ya.yu r0_5.2.ya.yae r0_5.2.ya.yj.Entries r0_5.2.ya.yy r0_5.2.ya.ym r0_5.2.ya.Next r0_5.2.ya.yr r0_5.2.f_out
       else
         zdv false m_00 m_10 m_20 m_30 m_40 m_50 m_60 m_70 m_90 ze zh m_80 zd zf zc zg zi
      else
        zdv false m_00 m_10 m_20 m_30 m_40 m_50 m_60 m_70 m_90 ze zh m_80 zd zf zc zg zi
     else
       zdv false m_00 m_10 m_20 m_30 m_40 m_50 m_60 m_70 m_90 ze zh m_80 zd zf zc zg zi
    else
      if (decide (x0.yar=(3:Int))) = true then
       bnd (zgq x0 (yd.mk (ye.mk m_00 m_10 m_20 m_30 m_40 m_50 (yz.mk m_60 m_70 m_80) m_90 zd zf zc zg ze zh) zi)) fun r0_7=>
       zas r0_7.ya.Id r0_7.ya.N r0_7.ya.Term r0_7.ya.yac r0_7.ya.yv r0_7.ya.yaf r0_7.ya.yj.yn r0_7.ya.yj.yi r0_7.ya.yj.Entries r0_7.ya.yl r0_7.ya.yu r0_7.ya.yae r0_7.ya.yy r0_7.ya.ym r0_7.ya.Next r0_7.ya.yr r0_7.f_out
      else
        if (decide (x0.yar=(4:Int))) = true then
         if x0.Ok=true then
          if (decide (m_40=(2:Int))) = true then
           if (decide (x0.Term=m_20)) = true then
            bnd (zco x0.From (yd.mk (ye.mk m_00 m_10 m_20 m_30 m_40 m_50 (yz.mk m_60 m_70 m_80) m_90 zd zf zc zg ze zh) zi)) fun r0_8=>
            zfp r0_8.1 r0_8.2.ya.Id r0_8.2.ya.N r0_8.2.ya.Term r0_8.2.ya.yac r0_8.2.ya.yv r0_8.2.ya.yaf r0_8.2.ya.yj.yn r0_8.2.ya.yj.yi r0_8.2.ya.yl r0_8.2.ya.yu r0_8.2.ya.yae r0_8.2.ya.yj.Entries r0_8.2.ya.yy r0_8.2.ya.ym r0_8.2.ya.Next r0_8.2.ya.yr r0_8.2.f_out
           else
             zfp false m_00 m_10 m_20 m_30 m_40 m_50 m_60 m_70 m_90 ze zh m_80 zd zf zc zg zi
          else
            zfp false m_00 m_10 m_20 m_30 m_40 m_50 m_60 m_70 m_90 ze zh m_80 zd zf zc zg zi
         else
           zfp false m_00 m_10 m_20 m_30 m_40 m_50 m_60 m_70 m_90 ze zh m_80 zd zf zc zg zi
        else
          if (decide (x0.yar=(5:Int))) = true then
           bnd (zeb x0 (yd.mk (ye.mk m_00 m_10 m_20 m_30 m_40 m_50 (yz.mk m_60 m_70 m_80) m_90 zd zf zc zg ze zh) zi)) fun r0_10=>
           zas r0_10.ya.Id r0_10.ya.N r0_10.ya.Term r0_10.ya.yac r0_10.ya.yv r0_10.ya.yaf r0_10.ya.yj.yn r0_10.ya.yj.yi r0_10.ya.yj.Entries r0_10.ya.yl r0_10.ya.yu r0_10.ya.yae r0_10.ya.yy r0_10.ya.ym r0_10.ya.Next r0_10.ya.yr r0_10.f_out
          else
            if (decide (x0.yar=(6:Int))) = true then
             bnd (zgp x0 (yd.mk (ye.mk m_00 m_10 m_20 m_30 m_40 m_50 (yz.mk m_60 m_70 m_80) m_90 zd zf zc zg ze zh) zi)) fun r0_11=>
             zas r0_11.ya.Id r0_11.ya.N r0_11.ya.Term r0_11.ya.yac r0_11.ya.yv r0_11.ya.yaf r0_11.ya.yj.yn r0_11.ya.yj.yi r0_11.ya.yj.Entries r0_11.ya.yl r0_11.ya.yu r0_11.ya.yae r0_11.ya.yy r0_11.ya.ym r0_11.ya.Next r0_11.ya.yr r0_11.f_out
            else
              if (decide (x0.yar=(7:Int))) = true then
               bnd (zgn x0 (yd.mk (ye.mk m_00 m_10 m_20 m_30 m_40 m_50 (yz.mk m_60 m_70 m_80) m_90 zd zf zc zg ze zh) zi)) fun r0_12=>
               zas r0_12.ya.Id r0_12.ya.N r0_12.ya.Term r0_12.ya.yac r0_12.ya.yv r0_12.ya.yaf r0_12.ya.yj.yn r0_12.ya.yj.yi r0_12.ya.yj.Entries r0_12.ya.yl r0_12.ya.yu r0_12.ya.yae r0_12.ya.yy r0_12.ya.ym r0_12.ya.Next r0_12.ya.yr r0_12.f_out
              else
                zas m_00 m_10 m_20 m_30 m_40 m_50 m_60 m_70 m_80 m_90 ze zh zd zf zc zg zi
def zdu (x0:yg)(r0_1:yd)(v83:Bool):Option (ye × (List yg)):=
  if v83=true then
   bnd (zat x0.Term (0:Int) r0_1) fun r0_3=>
   zhx x0 r0_3.ya.Id r0_3.ya.N r0_3.ya.Term r0_3.ya.yac r0_3.ya.yv r0_3.ya.yaf r0_3.ya.yj.yn r0_3.ya.yj.yi r0_3.ya.yl r0_3.ya.yu r0_3.ya.yae r0_3.ya.yj.Entries r0_3.ya.yy r0_3.ya.ym r0_3.ya.Next r0_3.ya.yr r0_3.f_out
  else
    zhx x0 r0_1.ya.Id r0_1.ya.N r0_1.ya.Term r0_1.ya.yac r0_1.ya.yv r0_1.ya.yaf r0_1.ya.yj.yn r0_1.ya.yj.yi r0_1.ya.yl r0_1.ya.yu r0_1.ya.yae r0_1.ya.yj.Entries r0_1.ya.yy r0_1.ya.ym r0_1.ya.Next r0_1.ya.yr r0_1.f_out
def zbg (x0:yg)(r0_1:yd)(v56:Bool):Option (ye × (List yg)):=
  if v56=true then
   bnd (znz r0_1) fun r0_2=>
   some (r0_2.1,r0_2.2)
  else
    if (decide (r0_1.ya.Term < x0.Term)) = true then
     if (decide (x0.yar≠(1:Int))) = true then
      if (decide (x0.yar≠(2:Int))) = true then
       zdu x0 r0_1 true
      else
        zdu x0 r0_1 (!x0.Ok)
     else
       zdu x0 r0_1 false
    else
      zdu x0 r0_1 false
def zlh (r0:ye)(x0:yg):Option (ye × (List yg)):=
  bnd (zoh r0) fun r0_1=>
  if (decide (x0.To≠r0_1.ya.Id)) = true then
   zbg x0 r0_1 true
  else
    if (decide (x0.From < (1:Int))) = true then
     zbg x0 r0_1 true
    else
      if (decide (r0_1.ya.N < x0.From)) = true then
       zbg x0 r0_1 true
      else
        if (decide (x0.From=r0_1.ya.Id)) = true then
         zbg x0 r0_1 true
        else
          if (decide (x0.Term < (0:Int))) = true then
           zbg x0 r0_1 true
          else
            if (decide ((1099511627776:Int) < x0.Term)) = true then
             zbg x0 r0_1 true
            else
              zbg x0 r0_1 (decide (x0.At < (0:Int)))
def zmq (l:yz)(term:Int)(at0:Int):Option Bool:=
  bnd (zcg l) fun r0=>
  bnd (zbs l r0) fun r0_1=>
  if (decide (term≠r0_1.1)) = true then
   some (decide (r0_1.1 < term))
  else
    some (decide (r0≤at0))
def zev (r0:ye)(x0:yg)(kind:Int)(term:Int)(at0:Int)(ok:Bool):Option (List yg):=
  some ([(yg.mk kind (0:Int) r0.Id x0.From term at0 (0:Int) (0:Int) ok ([]) ([]))])
def zgk (r0:ye)(x0:yg)(v37:Bool):Option (ye × (List yg)):=
  if v37=true then
   bnd (zev r0 x0 (2:Int) x0.Term (0:Int) true) fun r0_2=>
   some (r0,r0_2)
  else
    bnd (zev r0 x0 (2:Int) r0.Term (0:Int) false) fun r0_3=>
    some (r0,r0_3)
def zgj (r0:ye)(x0:yg)(loyal:Bool):Option (ye × (List yg)):=
  if (decide (r0.Term < x0.Term)) = true then
   if loyal=true then
    zgk r0 x0 false
   else
     bnd (zmq r0.yj x0.ybd x0.At) fun r0_1=>
     zgk r0 x0 r0_1
  else
    zgk r0 x0 false
def zoz (r0:ye)(x0:yg):Option (ye × (List yg)):=
  if (decide (r0.yv=(3:Int))) = true then
   zgj r0 x0 true
  else
    if (decide (r0.yaf≠(0:Int))) = true then
     zgj r0 x0 (decide (r0.yu < (10:Int)))
    else
      zgj r0 x0 false
def zfx (r0:ye)(x0:yg)(v41:Bool):Option (ye × (List yg)):=
  if v41=true then
   bnd (zev r0 x0 (4:Int) r0.Term (0:Int) false) fun r0_2=>
   some (r0,r0_2)
  else
    bnd (zev (ye.mk r0.Id r0.N r0.Term x0.From r0.yv r0.yaf r0.yj r0.yl r0.yy r0.ym r0.Next r0.yr (0:Int) r0.yae) x0 (4:Int) r0.Term (0:Int) true) fun r0_3=>
    some ((ye.mk r0.Id r0.N r0.Term x0.From r0.yv r0.yaf r0.yj r0.yl r0.yy r0.ym r0.Next r0.yr (0:Int) r0.yae),r0_3)
def zkb (r0:ye)(x0:yg)(free:Bool):Option (ye × (List yg)):=
  if (decide (x0.Term≠r0.Term)) = true then
   zfx r0 x0 true
  else
    if (decide (r0.yv≠(0:Int))) = true then
     zfx r0 x0 true
    else
      if free=true then
       bnd (zmq r0.yj x0.ybd x0.At) fun r0_1=>
       zfx r0 x0 (!r0_1)
      else
        zfx r0 x0 true
def zqg (r0:ye)(x0:yg):Option (ye × (List yg)):=
  if (decide (r0.yac=(0:Int))) = true then
   zkb r0 x0 true
  else
    zkb r0 x0 (decide (r0.yac=x0.From))
def zpj (l:(List Bool))(who:Int):Option (List Bool):=
  if (yco l.length) = true then
   bnd (ybu l (IntKind.i64.wrap (who - (1:Int)))) fun e=>
   some (ybi l (IntKind.i64.wrap (who - (1:Int))) true)
   else none
def zgz (r0:ye)(q_11_1:(List Bool)):Option (ye × (List yg)):=
  some ((ye.mk r0.Id r0.N r0.Term r0.yac r0.yv r0.yaf r0.yj r0.yl r0.yy q_11_1 r0.Next r0.yr r0.yu r0.yae),[])
def zck (r0:ye)(x0:yg)(q_11:(List Bool))(v51:Bool):Option (ye × (List yg)):=
  if v51=true then
   bnd (zpj r0.ym x0.From) fun r0_4=>
   bnd (zph r0_4) fun r0_5=>
   if r0_5=true then
    bnd (zjl (ye.mk r0.Id r0.N r0.Term r0.yac r0.yv r0.yaf r0.yj r0.yl r0.yy r0_4 r0.Next r0.yr r0.yu r0.yae)) fun r0_6=>
    some (r0_6.1,r0_6.2)
   else
     zgz r0 r0_4
  else
    zgz r0 q_11
def zex (r0:ye)(x0:yg)(q_11:(List Bool)):Option (ye × (List yg)):=
  if (decide (r0.yv=(2:Int))) = true then
   if (decide (x0.yar=(4:Int))) = true then
    zck r0 x0 q_11 (decide (x0.Term=r0.Term))
   else
     zck r0 x0 q_11 false
  else
    zck r0 x0 q_11 false
def zbk (r0:ye)(x0:yg)(v23:Bool):Option (ye × (List yg)):=
  if v23=true then
   bnd (zpj r0.ym x0.From) fun r0_1=>
   bnd (zph r0_1) fun r0_2=>
   if r0_2=true then
    bnd (zie (ye.mk r0.Id r0.N r0.Term r0.yac r0.yv r0.yaf r0.yj r0.yl r0.yy r0_1 r0.Next r0.yr r0.yu r0.yae)) fun r0_3=>
    some (r0_3.1,r0_3.2)
   else
     zex r0 x0 r0_1
  else
    zex r0 x0 r0.ym
def zhu (r0:ye)(x0:yg):Option (ye × (List yg)):=
  if (decide (r0.yv=(1:Int))) = true then
   if (decide (x0.yar=(2:Int))) = true then
    zbk r0 x0 (decide (x0.Term=(IntKind.i64.wrap (r0.Term + (1:Int)))))
   else
     zbk r0 x0 false
  else
    zbk r0 x0 false
def znh (x0:yg)(r0_2:ye)(r0_5:(yz × Int × Bool))(q_9_1:Int):Option (ye × (List yg)):=
  bnd (zev (ye.mk r0_2.Id r0_2.N r0_2.Term r0_2.yac r0_2.yv r0_2.yaf r0_5.1 q_9_1 r0_2.yy ([]) ([]) ([]) (0:Int) r0_2.yae) x0 (6:Int) r0_2.Term r0_5.2.1 true) fun r0_7=>
  some ((ye.mk r0_2.Id r0_2.N r0_2.Term r0_2.yac r0_2.yv r0_2.yaf r0_5.1 q_9_1 r0_2.yy ([]) ([]) ([]) (0:Int) r0_2.yae),r0_7)
def zng (x0:yg)(r0_2:ye)(r0_5:(yz × Int × Bool))(c:Int):Option (ye × (List yg)):=
  if (decide (r0_2.yl < c)) = true then
   znh x0 r0_2 r0_5 c
  else
    znh x0 r0_2 r0_5 r0_2.yl
def znf (x0:yg)(r0_2:ye)(q_6 q_7:Int)(q_8:(List yc))(q_9:Int)(q_10:(List Int)):Option (ye × (List yg)):=
  bnd (zev (ye.mk r0_2.Id r0_2.N r0_2.Term r0_2.yac r0_2.yv r0_2.yaf (yz.mk q_6 q_7 q_8) q_9 q_10 ([]) ([]) ([]) (0:Int) r0_2.yae) x0 (6:Int) r0_2.Term q_9 true) fun r0_4=>
  some ((ye.mk r0_2.Id r0_2.N r0_2.Term r0_2.yac r0_2.yv r0_2.yaf (yz.mk q_6 q_7 q_8) q_9 q_10 ([]) ([]) ([]) (0:Int) r0_2.yae),r0_4)
def zbq (r0:ye)(x0:yg)(v20:Bool):Option (ye × (List yg)):=
  if v20=true then
   bnd (zev r0 x0 (6:Int) r0.Term (0:Int) false) fun r0_1=>
   some (r0,r0_1)
  else
    bnd (zfh r0 x0.Term x0.From) fun r0_2=>
    if (decide (x0.yar=(7:Int))) = true then
     if (decide (r0_2.yl < x0.At)) = true then
      bnd (zmr r0_2.yj x0.At x0.ybd) fun r0_3=>
      znf x0 r0_2 r0_3.yn r0_3.yi r0_3.Entries x0.At x0.ybq
     else
       znf x0 r0_2 r0_2.yj.yn r0_2.yj.yi r0_2.yj.Entries r0_2.yl r0_2.yy
    else
      bnd (zpg r0_2.yj x0.At x0.ybd x0.Entries) fun r0_5=>
      if r0_5.2.2=true then
       if (decide (r0_5.2.1 < x0.yl)) = true then
        zng x0 r0_2 r0_5 r0_5.2.1
       else
         zng x0 r0_2 r0_5 x0.yl
      else
        bnd (zev (ye.mk r0_2.Id r0_2.N r0_2.Term r0_2.yac r0_2.yv r0_2.yaf r0_2.yj r0_2.yl r0_2.yy ([]) ([]) ([]) (0:Int) r0_2.yae) x0 (6:Int) r0_2.Term r0_5.2.1 false) fun r0_6=>
        some ((ye.mk r0_2.Id r0_2.N r0_2.Term r0_2.yac r0_2.yv r0_2.yaf r0_2.yj r0_2.yl r0_2.yy ([]) ([]) ([]) (0:Int) r0_2.yae),r0_6)
def zlu (r0:ye)(x0:yg):Option (ye × (List yg)):=
  if (decide (x0.Term < r0.Term)) = true then
   zbq r0 x0 true
  else
    zbq r0 x0 (decide (r0.yv=(3:Int)))
def zka (r0:ye)(x0:yg)(r0_1 match0 next_2:Int):Option (ye × (List yg)):=
  bnd (zle r0.yr x0.From match0) fun r0_4=>
  bnd (zle r0.Next x0.From next_2) fun r0_5=>
  bnd (zgy (ye.mk r0.Id r0.N r0.Term r0.yac r0.yv r0.yaf r0.yj r0.yl r0.yy r0.ym r0_5 r0_4 r0.yu r0.yae)) fun r0_6=>
  if (decide (r0_1 < next_2)) = true then
   some ((ye.mk r0.Id r0.N r0.Term r0.yac r0.yv r0.yaf r0.yj r0_6 r0.yy r0.ym r0_5 r0_4 r0.yu r0.yae),[])
  else
    bnd (zjm (ye.mk r0.Id r0.N r0.Term r0.yac r0.yv r0.yaf r0.yj r0_6 r0.yy r0.ym r0_5 r0_4 r0.yu r0.yae) x0.From) fun r0_7=>
    some ((ye.mk r0.Id r0.N r0.Term r0.yac r0.yv r0.yaf r0.yj r0_6 r0.yy r0.ym r0_5 r0_4 r0.yu r0.yae),[r0_7])
def zjz (r0:ye)(x0:yg)(e_1 r0_1 match0:Int):Option (ye × (List yg)):=
  if (decide (e_1≤match0)) = true then
   zka r0 x0 r0_1 match0 (IntKind.i64.wrap (match0 + (1:Int)))
  else
    zka r0 x0 r0_1 match0 e_1
def zjy (r0:ye)(x0:yg)(e e_1 r0_1 far:Int):Option (ye × (List yg)):=
  if (decide (e < far)) = true then
   zjz r0 x0 e_1 r0_1 far
  else
    zjz r0 x0 e_1 r0_1 e
def zjx (r0:ye)(x0:yg)(next_1:Int):Option (ye × (List yg)):=
  bnd (zle r0.Next x0.From next_1) fun r0_2=>
  bnd (zjm (ye.mk r0.Id r0.N r0.Term r0.yac r0.yv r0.yaf r0.yj r0.yl r0.yy r0.ym r0_2 r0.yr r0.yu r0.yae) x0.From) fun r0_3=>
  some ((ye.mk r0.Id r0.N r0.Term r0.yac r0.yv r0.yaf r0.yj r0.yl r0.yy r0.ym r0_2 r0.yr r0.yu r0.yae),[r0_3])
def zjw (r0:ye)(x0:yg)(e next:Int):Option (ye × (List yg)):=
  if (decide (next≤e)) = true then
   zjx r0 x0 (IntKind.i64.wrap (e + (1:Int)))
  else
    zjx r0 x0 next
def zfw (r0:ye)(x0:yg)(v20:Bool):Option (ye × (List yg)):=
  if v20=true then
   some (r0,[])
  else
    bnd (ybu r0.yr (IntKind.i64.wrap (x0.From - (1:Int)))) fun e=>
    bnd (ybu r0.Next (IntKind.i64.wrap (x0.From - (1:Int)))) fun e_1=>
    bnd (zcg r0.yj) fun r0_1=>
    if x0.Ok=true then
     if (decide (r0_1 < x0.At)) = true then
      zjy r0 x0 e e_1 r0_1 r0_1
     else
       zjy r0 x0 e e_1 r0_1 x0.At
    else
      if (decide (x0.At < (IntKind.i64.wrap ((IntKind.i64.wrap (e_1 - (1:Int))) - (1:Int))))) = true then
       zjw r0 x0 e (IntKind.i64.wrap (x0.At + (1:Int)))
      else
        zjw r0 x0 e (IntKind.i64.wrap (e_1 - (1:Int)))
def zqf (r0:ye)(x0:yg):Option (ye × (List yg)):=
  if (decide (x0.Term < r0.Term)) = true then
   zfw r0 x0 true
  else
    zfw r0 x0 (decide (r0.yv≠(3:Int)))
def zjj (q_0 q_1 q_2 q_3 q_4 q_5 q_6 q_7:Int)(q_8:(List yc))(q_9:Int)(q_10:(List Int))(q_11:(List Bool))(q_12 q_13:(List Int))(q_14 q_15:Int):Option (ye × (List yg)):=
  some ((ye.mk q_0 q_1 q_2 q_3 q_4 q_5 (yz.mk q_6 q_7 q_8) q_9 q_10 q_11 q_12 q_13 q_14 q_15),[])
def zji (x0:yg)(q_0 q_1 q_2 q_3 q_4 q_5 q_6 q_7:Int)(q_8:(List yc))(q_9:Int)(q_10:(List Int))(q_11:(List Bool))(q_12 q_13:(List Int))(q_14 q_15:Int)(v100:Bool):Option (ye × (List yg)):=
  if v100=true then
   bnd (zlu (ye.mk q_0 q_1 q_2 q_3 q_4 q_5 (yz.mk q_6 q_7 q_8) q_9 q_10 q_11 q_12 q_13 q_14 q_15) x0) fun r0_5=>
   some (r0_5.1,r0_5.2)
  else
    if (decide (x0.yar=(6:Int))) = true then
     bnd (zqf (ye.mk q_0 q_1 q_2 q_3 q_4 q_5 (yz.mk q_6 q_7 q_8) q_9 q_10 q_11 q_12 q_13 q_14 q_15) x0) fun r0_6=>
     some (r0_6.1,r0_6.2)
    else
      zjj q_0 q_1 q_2 q_3 q_4 q_5 q_6 q_7 q_8 q_9 q_10 q_11 q_12 q_13 q_14 q_15
def zeu (x0:yg)(q_0 q_1 q_2 q_3 q_4 q_5 q_6 q_7:Int)(q_8:(List yc))(q_9:Int)(q_10:(List Int))(q_11:(List Bool))(q_12 q_13:(List Int))(q_14 q_15:Int)(v90:Bool):Option (ye × (List yg)):=
  if v90=true then
   if x0.Ok=true then
    bnd (zhu (ye.mk q_0 q_1 q_2 q_3 q_4 q_5 (yz.mk q_6 q_7 q_8) q_9 q_10 q_11 q_12 q_13 q_14 q_15) (yg.mk x0.yar x0.yct x0.From x0.To x0.Term x0.At x0.ybd x0.yl true x0.Entries x0.ybq)) fun r0_4=>
    some (r0_4.1,r0_4.2)
   else
     zjj q_0 q_1 q_2 q_3 q_4 q_5 q_6 q_7 q_8 q_9 q_10 q_11 q_12 q_13 q_14 q_15
  else
    if (decide (x0.yar=(5:Int))) = true then
     zji x0 q_0 q_1 q_2 q_3 q_4 q_5 q_6 q_7 q_8 q_9 q_10 q_11 q_12 q_13 q_14 q_15 true
    else
      zji x0 q_0 q_1 q_2 q_3 q_4 q_5 q_6 q_7 q_8 q_9 q_10 q_11 q_12 q_13 q_14 q_15 (decide (x0.yar=(7:Int)))
def zgw (x0:yg)(q_0 q_1 q_2 q_3 q_4 q_5 q_6 q_7:Int)(q_8:(List yc))(q_9:Int)(q_10:(List Int))(q_11:(List Bool))(q_12 q_13:(List Int))(q_14 q_15:Int):Option (ye × (List yg)):=
  if (decide (x0.yar=(1:Int))) = true then
   bnd (zoz (ye.mk q_0 q_1 q_2 q_3 q_4 q_5 (yz.mk q_6 q_7 q_8) q_9 q_10 q_11 q_12 q_13 q_14 q_15) x0) fun r0_2=>
   some (r0_2.1,r0_2.2)
  else
    if (decide (x0.yar=(3:Int))) = true then
     bnd (zqg (ye.mk q_0 q_1 q_2 q_3 q_4 q_5 (yz.mk q_6 q_7 q_8) q_9 q_10 q_11 q_12 q_13 q_14 q_15) x0) fun r0_3=>
     some (r0_3.1,r0_3.2)
    else
      if (decide (x0.yar=(2:Int))) = true then
       zeu x0 q_0 q_1 q_2 q_3 q_4 q_5 q_6 q_7 q_8 q_9 q_10 q_11 q_12 q_13 q_14 q_15 true
      else
        zeu x0 q_0 q_1 q_2 q_3 q_4 q_5 q_6 q_7 q_8 q_9 q_10 q_11 q_12 q_13 q_14 q_15 (decide (x0.yar=(4:Int)))
def zgv (r0:ye)(x0:yg)(v69:Bool):Option (ye × (List yg)):=
  if v69=true then
   bnd (zfh r0 x0.Term (0:Int)) fun r0_1=>
   zgw x0 r0_1.Id r0_1.N r0_1.Term r0_1.yac r0_1.yv r0_1.yaf r0_1.yj.yn r0_1.yj.yi r0_1.yj.Entries r0_1.yl r0_1.yy ([]) ([]) ([]) r0_1.yu r0_1.yae
  else
    zgw x0 r0.Id r0.N r0.Term r0.yac r0.yv r0.yaf r0.yj.yn r0.yj.yi r0.yj.Entries r0.yl r0.yy r0.ym r0.Next r0.yr r0.yu r0.yae
def zet (r0:ye)(x0:yg)(quiet:Bool):Option (ye × (List yg)):=
  if (decide (r0.Term < x0.Term)) = true then
   zgv r0 x0 (!quiet)
  else
    zgv r0 x0 false
def zac (r0:ye)(x0:yg)(v46:Bool):Option (ye × (List yg)):=
  if v46=true then
   some (r0,[])
  else
    if (decide (x0.yar=(1:Int))) = true then
     zet r0 x0 true
    else
      if (decide (x0.yar=(2:Int))) = true then
       zet r0 x0 x0.Ok
      else
        zet r0 x0 false
def znc (r0:ye)(x0:yg):Option (ye × (List yg)):=
  if (decide (x0.To≠r0.Id)) = true then
   zac r0 x0 true
  else
    if (decide (x0.From < (1:Int))) = true then
     zac r0 x0 true
    else
      if (decide (r0.N < x0.From)) = true then
       zac r0 x0 true
      else
        if (decide (x0.From=r0.Id)) = true then
         zac r0 x0 true
        else
          if (decide (x0.Term < (0:Int))) = true then
           zac r0 x0 true
          else
            if (decide ((1099511627776:Int) < x0.Term)) = true then
             zac r0 x0 true
            else
              zac r0 x0 (decide (x0.At < (0:Int)))
def znb (r0:ye)(data:(List Int)):Option (ye × Int × (List yg) × Int):=
  if (decide (r0.yv≠(3:Int))) = true then
   some (r0,(0:Int),[],(15:Int))
  else
    bnd (ziv r0 data) fun r0_1=>
    bnd (zcg r0_1.1.yj) fun r0_2=>
    some (r0_1.1,r0_2,r0_1.2,(0:Int))
def zmx (l:yz)(at0:Int):Option (yz × Int):=
  bnd (zbs l at0) fun r0=>
  if r0.2=true then
   bnd (zeq l (IntKind.i64.wrap (at0 + (1:Int))) (l.Entries.length:Int)) fun r0_1=>
   some ((yz.mk at0 r0.1 r0_1),(0:Int))
  else
    some ((yz.mk (0:Int) (0:Int) ([])),(2:Int))
def zes (r0:ye)(upto:Int)(snap:(List Int))(v21:Bool):Option (ye × Int):=
  if v21=true then
   some (r0,(2:Int))
  else
    bnd (zmx r0.yj upto) fun r0_1=>
    if (decide (r0_1.2≠(0:Int))) = true then
     some (r0,r0_1.2)
    else
      some ((ye.mk r0.Id r0.N r0.Term r0.yac r0.yv r0.yaf r0_1.1 r0.yl snap r0.ym r0.Next r0.yr r0.yu r0.yae),(0:Int))
def zna (r0:ye)(upto:Int)(snap:(List Int)):Option (ye × Int):=
  if (decide (upto≤r0.yj.yn)) = true then
   zes r0 upto snap true
  else
    zes r0 upto snap (decide (r0.yl < upto))
def zhh(zbd:Int→Int→Option Int)(v39:Int)(e:yc)(v51:Bool):Option Int:=
  if v51=true then
   some (1:Int)
  else
    zbd e.Term (IntKind.i64.wrap (v39 + (1:Int)))
def zfo (l:yz)(zbd:Int→Int→Option Int)(term v39:Int):Option Int:=
  if (decide (v39 < (l.Entries.length:Int))) = true then
   bnd (ybu l.Entries v39) fun e=>
   if (decide (e.Term < term)) = true then
    zhh zbd v39 e true
   else
     zhh zbd v39 e (decide ((1099511627776:Int) < e.Term))
  else
    some (0:Int)
def zah (l:yz):Nat→Int→Int→Option Int
  | 0,_,_=>none
  | n + 1,term,v39=>zfo l (zah l n) term v39
def zcw (l:yz)(v32:Bool):Option Int:=
  if v32=true then
   some (1:Int)
  else
    zah l ((((l.Entries.length:Int)) - ((0:Int))).toNat + 1) (if l.yi < (1:Int) then (1:Int) else l.yi) (0:Int)
def zlo (l:yz):Option Int:=
  if (decide (l.yn < (0:Int))) = true then
   zcw l true
  else
    if (decide ((1099511627776:Int) < l.yn)) = true then
     zcw l true
    else
      if (decide (l.yi < (0:Int))) = true then
       zcw l true
      else
        if (decide ((1099511627776:Int) < l.yi)) = true then
         zcw l true
        else
          zcw l (!(((decide (l.yn=(0:Int))) == (decide (l.yi=(0:Int))))))
def zaj (term vote:Int)(l:yz)(snap:(List Int))(r0:(ye × Int))(v27:Bool):Option (ye × Int):=
  if v27=true then
   some ((ye.mk (0:Int) (0:Int) (0:Int) (0:Int) (0:Int) (0:Int) (yz.mk (0:Int) (0:Int) ([])) (0:Int) ([]) ([]) ([]) ([]) (0:Int) (0:Int)),(1:Int))
  else
    bnd (zgd l) fun r0_3=>
    if (yco (snap).length) = true then
     some ((ye.mk r0.1.Id r0.1.N term vote r0.1.yv r0.1.yaf r0_3 l.yn snap r0.1.ym r0.1.Next r0.1.yr r0.1.yu r0.1.yae),(0:Int))
     else none
def zfd (id:Int)(n0:Int)(term:Int)(vote:Int)(l:yz)(snap:(List Int)):Option (ye × Int):=
  bnd (zqp id n0) fun r0=>
  if (decide (r0.2≠(0:Int))) = true then
   some ((ye.mk (0:Int) (0:Int) (0:Int) (0:Int) (0:Int) (0:Int) (yz.mk (0:Int) (0:Int) ([])) (0:Int) ([]) ([]) ([]) ([]) (0:Int) (0:Int)),r0.2)
  else
    if (decide (term < (0:Int))) = true then
     zaj term vote l snap r0 true
    else
      if (decide ((1099511627776:Int) < term)) = true then
       zaj term vote l snap r0 true
      else
        if (decide (vote < (0:Int))) = true then
         zaj term vote l snap r0 true
        else
          if (decide (n0 < vote)) = true then
           zaj term vote l snap r0 true
          else
            bnd (zfs l) fun r0_1=>
            if (decide (term < r0_1)) = true then
             zaj term vote l snap r0 true
            else
              bnd (zlo l) fun r0_2=>
              zaj term vote l snap r0 (decide (r0_2≠(0:Int)))
def zll (id n0:Int)(v20:Bool):Option (ye × Int):=
  if v20=true then
   some ((ye.mk (0:Int) (0:Int) (0:Int) (0:Int) (0:Int) (0:Int) (yz.mk (0:Int) (0:Int) ([])) (0:Int) ([]) ([]) ([]) ([]) (0:Int) (0:Int)),(2:Int))
  else
    some ((ye.mk id n0 (0:Int) (0:Int) (0:Int) (0:Int) (yz.mk (0:Int) (0:Int) ([])) (0:Int) ([]) ([]) ([]) ([]) (0:Int) (IntKind.i64.wrap ((10:Int) + id))),(0:Int))
def ztb (id:Int)(n0:Int):Option (ye × Int):=
  if (decide (n0 < (1:Int))) = true then
   zll id n0 true
  else
    if (decide ((7:Int) < n0)) = true then
     zll id n0 true
    else
      if (decide (id < (1:Int))) = true then
       zll id n0 true
      else
        zll id n0 (decide (n0 < id))
def zep(zx:Int→Option Int)(i:Int)(v84:Bool):Option Int:=
  if v84=true then
   some (1:Int)
  else
    zx (IntKind.i64.wrap (i + (1:Int)))
def zje (l:yz)(zx:Int→Option Int)(i:Int):Option Int:=
  if (decide (i < (l.Entries.length:Int))) = true then
   bnd (ybu l.Entries i) fun e=>
   if (decide (e.Term < (1:Int))) = true then
    zep zx i true
   else
     if (decide ((1099511627776:Int) < e.Term)) = true then
      zep zx i true
     else
       if (decide (e.Term < l.yi)) = true then
        zep zx i true
       else
         if (decide ((0:Int) < i)) = true then
          bnd (ybu l.Entries (IntKind.i64.wrap (i - (1:Int)))) fun e_1=>
          zep zx i (decide (e.Term < e_1.Term))
         else
           zep zx i false
  else
    some (0:Int)
def zab (l:yz):Nat→Int→Option Int
  | 0,_=>none
  | n + 1,i=>zje l (zab l n) i
def zeo (l:yz)(v43:Bool):Option Int:=
  if v43=true then
   some (1:Int)
  else
    zab l ((((l.Entries.length:Int)) - ((0:Int))).toNat + 1) (0:Int)
def zgi (l:yz)(v25:Bool):Option Int:=
  if v25=true then
   some (1:Int)
  else
    if (decide (l.yn=(0:Int))) = true then
     if (decide (l.yi≠(0:Int))) = true then
      zeo l true
     else
       if (decide (l.yn≠(0:Int))) = true then
        zeo l (decide (l.yi=(0:Int)))
       else
         zeo l false
    else
      if (decide (l.yn≠(0:Int))) = true then
       zeo l (decide (l.yi=(0:Int)))
      else
        zeo l false
def zmp (l:yz):Option Int:=
  if (decide (l.yn < (0:Int))) = true then
   zgi l true
  else
    if (decide ((1099511627776:Int) < l.yn)) = true then
     zgi l true
    else
      if (decide (l.yi < (0:Int))) = true then
       zgi l true
      else
        zgi l (decide ((1099511627776:Int) < l.yi))
def zbj (term vote:Int)(l:yz)(snap:(List Int))(r0:(ye × Int))(v59:Bool):Option (ye × Int):=
  if v59=true then
   some ((ye.mk (0:Int) (0:Int) (0:Int) (0:Int) (0:Int) (0:Int) (yz.mk (0:Int) (0:Int) ([])) (0:Int) ([]) ([]) ([]) ([]) (0:Int) (0:Int)),(1:Int))
  else
    some ((ye.mk r0.1.Id r0.1.N term vote r0.1.yv r0.1.yaf l l.yn snap r0.1.ym r0.1.Next r0.1.yr r0.1.yu r0.1.yae),(0:Int))
def znd (id:Int)(n0:Int)(term:Int)(vote:Int)(l:yz)(snap:(List Int)):Option (ye × Int):=
  bnd (ztb id n0) fun r0=>
  if (decide (r0.2≠(0:Int))) = true then
   some ((ye.mk (0:Int) (0:Int) (0:Int) (0:Int) (0:Int) (0:Int) (yz.mk (0:Int) (0:Int) ([])) (0:Int) ([]) ([]) ([]) ([]) (0:Int) (0:Int)),r0.2)
  else
    bnd (zcg l) fun r0_1=>
    bnd (zbs l r0_1) fun r0_2=>
    if (decide (term < (0:Int))) = true then
     zbj term vote l snap r0 true
    else
      if (decide ((1099511627776:Int) < term)) = true then
       zbj term vote l snap r0 true
      else
        if (decide (vote < (0:Int))) = true then
         zbj term vote l snap r0 true
        else
          if (decide (n0 < vote)) = true then
           zbj term vote l snap r0 true
          else
            if (decide (term < r0_2.1)) = true then
             zbj term vote l snap r0 true
            else
              bnd (zmp l) fun r0_3=>
              zbj term vote l snap r0 (decide (r0_3≠(0:Int)))
def zhf (w:ybb)(i:Int)(r0:ye)(l:(List yg)):Option ybb:=
  if (yco (w.R).length) = true then
   bnd (ybu w.R i) fun e=>
   if (yco (w.Net).length) = true then
    if (yco ((w.Net).length + l.length)) = true then
     if (decide ((60:Int) < ((((w.Net).length + l.length):Nat):Int))) = true then
      bnd (yby (w.Net++l) (IntKind.i64.wrap (((((w.Net).length + l.length):Nat):Int) - (60:Int))) (w.Net++l).length) fun l_1=>
      some (ybb.mk (ybi w.R i r0) l_1)
     else
       some (ybb.mk (ybi w.R i r0) (w.Net++l))
     else none
    else none
   else none
def zjq (w:ybb)(k:Int)(e:yg)(out_1:(List yg)):Option (ybb × yg):=
  bnd (yby w.Net (IntKind.i64.wrap (k + (1:Int))) w.Net.length) fun l_1=>
  if (yco (out_1.length + l_1.length)) = true then
   some ((ybb.mk w.R (out_1++l_1)),e)
   else none
def zqc (w:ybb)(k:Int)(keep:Bool):Option (ybb × yg):=
  bnd (ybu w.Net k) fun e=>
  bnd (yby w.Net 0 k) fun l=>
  if (yco l.length) = true then
   if keep=true then
    if (yco (l.length + 1)) = true then
     zjq w k e (l++[e])
     else none
   else
     zjq w k e l
   else none
def zjb (l:(List TOp))(zla:Int→Option Bool)(i:Int):Option Bool:=
  if (decide (i < (l.length:Int))) = true then
   bnd (ybu l i) fun e=>
   if (decide ((20:Int) < (e.ybq.length:Int))) = true then
    some false
   else
     zla (IntKind.i64.wrap (i + (1:Int)))
  else
    some true
def zel (l:(List TOp)):Nat→Int→Option Bool
  | 0,_=>none
  | n + 1,i=>zjb l (zel l n) i
def zox (l:(List TOp)):Option Bool:=
  if (decide ((250:Int) < (l.length:Int))) = true then
   some false
  else
    zel l ((((l.length:Int)) - ((0:Int))).toNat + 1) (0:Int)
def ztn:Option Bool:=some true
def zja (n0:Int)(zkz:Int→(List ye)→Option ybb)(i:Int)(w_00:(List ye)):Option ybb:=
  if (decide (i≤n0)) = true then
   bnd (zqp i n0) fun r0=>
   if (yco (w_00.length + 1)) = true then
    zkz (IntKind.i64.wrap (i + (1:Int))) (w_00++[r0.1])
    else none
  else
    some (ybb.mk w_00 ([]))
def zek (n0:Int):Nat→Int→(List ye)→Option ybb
  | 0,_,_=>none
  | n + 1,i,w_00=>zja n0 (zek n0 n) i w_00
def zow (n0:Int):Option ybb:=
  zek n0 (((n0) - ((1:Int)) + 1).toNat + 1) (1:Int) ([])
def zqb (n0:Int):Option Int:=
  some (IntKind.i64.wrap ((1:Int) + ((IntKind.i64.wrap n0).tmod (5:Int))))
def zmt (w:ybb)(e_1:yg)(v97:Bool):Option Bool:=
  if v97=true then
   some false
  else
    bnd (ybu w.R (IntKind.i64.wrap (e_1.To - (1:Int)))) fun e_2=>
    bnd (zlh e_2 e_1) fun r0_6=>
    bnd (znc e_2 e_1) fun r0_7=>
    bnd (zdp r0_6.1 r0_7.1) fun r0_8=>
    if r0_8=true then
     bnd (zdj r0_6.2 r0_7.2) fun r0_9=>
     some r0_9
    else
      some false
def zhg (w:ybb)(o:TOp)(e:ye)(v70:Bool):Option Bool:=
  if v70=true then
   if (decide ((w.Net.length:Int) = (0:Int))) = true then
    some true
   else
     bnd (zdm o.N (w.Net.length:Int)) fun r0_5=>
     bnd (ybu w.Net r0_5) fun e_1=>
     if (decide (e_1.To < (1:Int))) = true then
      zmt w e_1 true
     else
       zmt w e_1 (decide ((w.R.length:Int) < e_1.To))
  else
    if (decide (o.yar=(4:Int))) = true then
     bnd (zit e o.ybq) fun r0_10=>
     bnd (znb e o.ybq) fun r0_11=>
     if (decide (r0_10.2.2.2=r0_11.2.2.2)) = true then
      if (decide (r0_10.2.1=r0_11.2.1)) = true then
       bnd (zdp r0_10.1 r0_11.1) fun r0_12=>
       if r0_12=true then
        bnd (zdj r0_10.2.2.1 r0_11.2.2.1) fun r0_13=>
        some r0_13
       else
         some false
      else
        some false
     else
       some false
    else
      if (decide (o.yar=(5:Int))) = true then
       bnd (zdm o.N (3:Int)) fun r0_14=>
       bnd (zis e (IntKind.i64.wrap (e.yl - r0_14)) o.ybq) fun r0_15=>
       bnd (zna e (IntKind.i64.wrap (e.yl - r0_14)) o.ybq) fun r0_16=>
       if (decide (r0_15.2=r0_16.2)) = true then
        bnd (zdp r0_15.1 r0_16.1) fun r0_17=>
        some r0_17
       else
         some false
      else
        if (decide (o.yar=(6:Int))) = true then
         bnd (zfd e.Id e.N e.Term e.yac e.yj e.yy) fun r0_18=>
         bnd (znd e.Id e.N e.Term e.yac e.yj e.yy) fun r0_19=>
         if (decide (r0_18.2=r0_19.2)) = true then
          bnd (zdp r0_18.1 r0_19.1) fun r0_20=>
          some r0_20
         else
           some false
        else
          some true
def znu (w:ybb)(o:TOp):Option Bool:=
  bnd (zdm o.Who (w.R.length:Int)) fun r0=>
  bnd (ybu w.R r0) fun e=>
  if (decide (o.yar=(0:Int))) = true then
   bnd (zpe e o.N) fun r0_1=>
   bnd (zqe e o.N) fun r0_2=>
   bnd (zdp r0_1.1 r0_2.1) fun r0_3=>
   if r0_3=true then
    bnd (zdj r0_1.2 r0_2.2) fun r0_4=>
    some r0_4
   else
     some false
  else
    if (decide (o.yar=(1:Int))) = true then
     zhg w o e true
    else
      zhg w o e (decide (o.yar=(3:Int)))
def zkc (r0_4:(ybb × yg))(v87:Bool):Option ybb:=
  if v87=true then
   some r0_4.1
  else
    bnd (ybu r0_4.1.R (IntKind.i64.wrap (r0_4.2.To - (1:Int)))) fun e_1=>
    bnd (zlh e_1 r0_4.2) fun r0_5=>
    bnd (zhf r0_4.1 (IntKind.i64.wrap (r0_4.2.To - (1:Int))) r0_5.1 r0_5.2) fun r0_6=>
    some r0_6
def zey (w:ybb)(o:TOp)(r0:Int)(e:ye)(v49:Bool):Option ybb:=
  if v49=true then
   if (decide ((w.Net.length:Int) = (0:Int))) = true then
    some w
   else
     bnd (zdm o.N (w.Net.length:Int)) fun r0_3=>
     bnd (zqc w r0_3 (decide (o.yar=(3:Int)))) fun r0_4=>
     if (decide (o.yar=(2:Int))) = true then
      zkc r0_4 true
     else
       if (decide (r0_4.2.To < (1:Int))) = true then
        zkc r0_4 true
       else
         zkc r0_4 (decide ((w.R.length:Int) < r0_4.2.To))
  else
    if (decide (o.yar=(4:Int))) = true then
     bnd (zit (ye.mk e.Id e.N e.Term e.yac e.yv e.yaf (yz.mk e.yj.yn e.yj.yi e.yj.Entries) e.yl e.yy e.ym e.Next e.yr e.yu e.yae) o.ybq) fun r0_7=>
     if (decide (r0_7.2.2.2≠(0:Int))) = true then
      some w
     else
       bnd (zhf w r0 r0_7.1 r0_7.2.2.1) fun r0_8=>
       some r0_8
    else
      if (decide (o.yar=(5:Int))) = true then
       bnd (zdm o.N (3:Int)) fun r0_9=>
       bnd (zis (ye.mk e.Id e.N e.Term e.yac e.yv e.yaf (yz.mk e.yj.yn e.yj.yi e.yj.Entries) e.yl e.yy e.ym e.Next e.yr e.yu e.yae) (IntKind.i64.wrap (e.yl - r0_9)) ([(IntKind.u8.wrap (IntKind.i64.wrap (e.yl - r0_9)))])) fun r0_10=>
       if (decide (r0_10.2≠(0:Int))) = true then
        some w
       else
         bnd (zhf w r0 r0_10.1 ([])) fun r0_11=>
         some r0_11
      else
        if (decide (o.yar=(6:Int))) = true then
         bnd (zfd e.Id e.N e.Term e.yac (yz.mk e.yj.yn e.yj.yi e.yj.Entries) e.yy) fun r0_12=>
         if (decide (r0_12.2≠(0:Int))) = true then
          some w
         else
           bnd (zhf w r0 r0_12.1 ([])) fun r0_13=>
           some r0_13
        else
          some w
def zqo (w:ybb)(o:TOp):Option ybb:=
  bnd (zdm o.Who (w.R.length:Int)) fun r0=>
  bnd (ybu w.R r0) fun e=>
  if (decide (o.yar=(0:Int))) = true then
   bnd (zpe (ye.mk e.Id e.N e.Term e.yac e.yv e.yaf (yz.mk e.yj.yn e.yj.yi e.yj.Entries) e.yl e.yy e.ym e.Next e.yr e.yu e.yae) o.N) fun r0_1=>
   bnd (zhf w r0 r0_1.1 r0_1.2) fun r0_2=>
   some r0_2
  else
    if (decide (o.yar=(1:Int))) = true then
     zey w o r0 e true
    else
      if (decide (o.yar=(2:Int))) = true then
       zey w o r0 e true
      else
        zey w o r0 e (decide (o.yar=(3:Int)))
def zpm:Option Bool:=
  bnd (ztn ) fun r0_6=>
  some r0_6
def zgl (l:(List TOp))(zin:Int→(List ye)→(List yg)→Option Bool)(i:Int)(w_00:(List ye))(w_10:(List yg)):Option Bool:=
  if (decide (i < (l.length:Int))) = true then
   bnd (ybu l i) fun e=>
   bnd (znu (ybb.mk w_00 w_10) e) fun r0_4=>
   if r0_4=true then
    bnd (zqo (ybb.mk w_00 w_10) e) fun r0_5=>
    zin (IntKind.i64.wrap (i + (1:Int))) r0_5.R r0_5.Net
   else
     some false
  else
    zpm
def zcp (l:(List TOp)):Nat→Int→(List ye)→(List yg)→Option Bool
  | 0,_,_,_=>none
  | n + 1,i,w_00,w_10=>zgl l (zcp l n) i w_00 w_10
def zol (n0:Int)(l:(List TOp)):Option Bool:=
  bnd (zox l) fun r0=>
  if r0=true then
   bnd (zqb n0) fun r0_2=>
   bnd (zow r0_2) fun r0_3=>
   zcp l ((((l.length:Int)) - ((0:Int))).toNat + 1) (0:Int) r0_3.R r0_3.Net
  else
    bnd (ztn ) fun r0_1=>
    some r0_1
end Go.Proofs.YtgoachcogmlhcaaGreat.R
