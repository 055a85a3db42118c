import Derived.Test.YtgoachcogmlhcaaTF
set_option maxRecDepth 100000
set_option linter.unusedVariables false
set_option linter.unusedSimpArgs false
noncomputable section
namespace Go.Proofs.Ytgoachcogmlhcaa.R
open Go
def yod(l:List ye):Int:=(l.map yew).sum
theorem yant:∀ {l:List ye} {i:Nat} {r q:ye},l[i]? = some r->yod (l.set i q) + yew r=yod l + yew q
  | [],i,r,q,h=>by simp at h
  | x :: l,0,r,q,h=>by
    simp at h
    subst h
    simp [yod]
    omega
  | x :: l,i + 1,r,q,h=>by
    have:=yant (q:=q) (show l[i]? = some r by simpa using h)
    unfold yod at *
    simp only [List.set_cons_succ,wr,List.sum_cons]
    omega
theorem ynk:∀ l:List ye,0<=yod l
  | []=>by simp [yod]
  | x :: l=>by
    have:=ynk l
    have:=yqi x
    unfold yod at *
    simp only [wr,List.sum_cons]
    omega
theorem yarl:∀ l:List ye,yod l<=2 * (l.length:Int)
  | []=>by simp [yod]
  | x :: l=>by
    have:=yarl l
    have:=yqi x
    unfold yod at *
    simp only [wr,List.sum_cons,ws]
    omega
def OkB(b:Int)(n:Nat)(w:yab):Prop:=∃ B:Int,20<=B/\OkW B n w/\B + yod w.R<=b
theorem OkB.up{b c:Int}{n:Nat}{w:yab}(h:OkB b n w)(hb:b<=c):OkB c n w:=by
  obtain ⟨B,h1,h2,h3⟩:=h
  exact ⟨B,h1,h2,by omega⟩
theorem OkB.w{b:Int}{n:Nat}{w:yab}(h:OkB b n w):OkW b n w:=by
  obtain ⟨B,h1,h2,h3⟩:=h
  have:=ynk w.R
  exact h2.mono (by omega)
theorem OkB.of{B:Int}{n:Nat}{w:yab}(h:OkW B n w)(hB:20<=B):OkB (B + 10) n w:=by
  have h1:=yarl w.R
  have h2:=h.len; have h3:=h.n1
  exact ⟨B,hB,h,by omega⟩
def ycw(w:yab):yab:=
  match w.Net with
  | []=>w
  | x :: net=>if x.To < 1\/(w.R.length:Int) < x.To then ⟨w.R,net⟩ else
    match w.R[(x.To - 1).toNat]? with
    | some r=>ypk ⟨w.R,net⟩ (x.To - 1) (yaj r x)
    | none=>⟨w.R,net⟩
def ygo(w:yab)(k:Nat):yab:=
  match w.R[k]? with
  | some r=>ypk w (k:Int) (ycj r (k:Int))
  | none=>w
def ybp:Nat->yab->yab
  | 0,w=>w
  | m + 1,w=>if w.Net = [] then w else ybp m (ycw w)
def yhm(w:yab):yab:=ybp 4000 w
def yda(k:Nat):Nat->yab->yab
  | 0,w=>w
  | m + 1,w=>yda k m (yhm (ygo w k))
section
variable {b:Int} {n:Nat} {w:yab}
theorem yava{v:yab}{i:Int}{r:ye}{p:ye × List yj}{B d e:Int}(h:OkW B n w)(hB:20<=B)(hvR:v.R=w.R)(hvN:∀ x∈v.Net,x∈w.Net)(h0:0<=i)(hi:w.R[i.toNat]? = some r)(hd:0<=d)(hp:ykw (B + d) r p)(hc:d + yew p.1<=yew r + e)(hb:B + yod w.R<=b):OkB (b + e) n (ypk v i p):=by
  refine ⟨B + d,by omega,?_,?_⟩
  .unfold ypk ybl
   rw [hvR]
   refine ybas h hi hd hp (yajs _) fun x hx=>?_
   rcases qt.1 (ymi hx) with hx | hx
   .exact (h.net x (hvN x hx)).mono (by omega)
   .exact (hp.msg x hx).1
  .show B + d + yod (ybl v.R i p.1)<=_
   rw [hvR]
   have:=yant (q:=p.1) hi
   unfold ybl
   omega
theorem ytn(c:Bool)(h:OkB b n w):ylz c w (ycw w)/\OkB b n (ycw w):=by
  obtain ⟨B,h1,h2,h3⟩:=h
  unfold ycw
  split
  .exact ⟨.less w.Net fun _ hx=>hx,B,h1,h2,h3⟩
  .rename_i x net hnet
   have hsub:∀ y∈net,y∈w.Net:=fun y hy=>by rw [hnet]; exact ql _ hy
   have hless:ylz c w ⟨w.R,net⟩/\OkB b n ⟨w.R,net⟩:=by
     refine ⟨.less net hsub,B,h1,⟨h2.n1,h2.len,h2.mem,?_,fun y hy=>h2.net y (hsub y hy)⟩,h3⟩
     have:=h2.nl
     rw [hnet] at this
     simp at this
     show net.length<=60
     omega
   split
   .exact hless
   .rename_i ht
    split
    .rename_i r hr
     obtain ⟨m1,m2,m3⟩:=h2.mem _ r hr
     have hx:x∈w.Net:=by rw [hnet]; exact qv
     obtain ⟨d,d1,d2,d3⟩:=yqu m1 (by omega) (h2.net x hx)
     refine ⟨?_,?_⟩
     .refine .act (x.To - 1).toNat r _ _ hr (.recv x hx) fun y hy=>?_
      rcases qt.1 (ymi hy) with hy | hy
      .exact .inl (hsub y hy)
      .exact .inr hy
     .have:=yava (v:=⟨w.R,net⟩) (e:=0) h2 h1 rfl hsub (by omega) hr d1 d2 (by omega) h3
      rwa [Int.add_zero] at this
    .exact hless
theorem yacg(c:Bool)(h:OkB b n w)(k:Nat):ylz c w (ygo w k)/\OkB (b + 5) n (ygo w k):=by
  obtain ⟨B,h1,h2,h3⟩:=h
  unfold ygo
  split
  .rename_i r hr
   obtain ⟨m1,m2,m3⟩:=h2.mem _ r hr
   have hp:=yahg m1 (by omega) (k:Int)
   have c1:=yqi r; have c2:=yqi (ycj r (k:Int)).1
   refine ⟨?_,yava (v:=w) (e:=5) h2 h1 rfl (fun _ hx=>hx) (by omega) (by simpa using hr) (by omega) hp (by omega) h3⟩
   have:=ylz.act (crash:=c) (w:=w) k r (ycj r (k:Int)) (last60 (w.Net++(ycj r (k:Int)).2)) hr (.tick _) fun y hy=>by
     rcases qt.1 (ymi hy) with hy | hy
     .exact .inl hy
     .exact .inr hy
   exact this
  .exact ⟨.less w.Net fun _ hx=>hx,B,h1,h2,by omega⟩
theorem ywl{x:yj}{net:List yj}(hnet:w.Net=x :: net):ycw w=if x.To < 1\/(w.R.length:Int) < x.To then ⟨w.R,net⟩ else
    match w.R[(x.To - 1).toNat]? with
    | some r=>ypk ⟨w.R,net⟩ (x.To - 1) (yaj r x)
    | none=>⟨w.R,net⟩:=by
  unfold ycw
  rw [hnet]
theorem ybvr(h:OkB b n w)(hb:b<=100000){o:TOp}(ho:o.yae=1)(hN:o.N=0):zey w o=some (ycw w):=by
  obtain ⟨B,hB0,h,h3⟩:=h
  have hcs:=ynk w.R
  have hwl:=h.len; have hn1:=h.n1; have hnl:=h.nl
  obtain ⟨p1,p2,p3⟩:=yud (k:=o.Who) (n:=w.R.length) (by omega) (by omega)
  have hlt:(yjd o.Who w.R.length).toNat < w.R.length:=by omega
  obtain ⟨r,hr⟩:∃ r,w.R[(yjd o.Who w.R.length).toNat]? = some r:=⟨_,qj hlt⟩
  unfold zey
  rw [p1,yx,ykt p2,hr,yx,ho,qf (by decide),qc (by decide),qg rfl,qe rfl]
  unfold zco
  rw [qe rfl]
  cases hnet:w.Net with
  | nil=>unfold ycw; simp [hnet]
  | cons x net=>
    have hz:¬ ((x :: net).length:Int) = 0:=by rw [ws]; omega
    have hpk:zdq o.N (((x :: net).length:Nat):Int) = some 0:=by
      have hle:(x :: net).length<=60:=by rw [← hnet]; exact hnl
      obtain ⟨q1,q2,q3⟩:=yud (k:=o.N) (n:=(x :: net).length) (by simp) (by omega)
      rw [q1,hN]
      rfl
    have hkl:0 < w.Net.length:=by rw [hnet]; simp
    have htk:=yavk (keep:=false) (k:=0) hkl (by omega)
    have hget:w.Net[0] = x:=by simp [hnet]
    have hls:yog w 0 false x = ⟨w.R,net⟩:=by unfold yog; simp [hnet]
    rw [hget,hls] at htk
    have htk:zjo w 0 false=some (⟨w.R,net⟩,x):=htk
    rw [ywl hnet,qf hz,qc (by decide),hpk,yx,ho,qf (show ¬ ((1:Int) = 3) by decide),htk,yx]
    simp only
    rw [qf (show ¬ ((1:Int) = 2) by decide),qc qw]
    have hxo:OkM B x:=h.net x (by rw [hnet]; exact qv)
    by_cases t1:x.To < 1
    .have t3:x.To < 1\/(w.R.length:Int) < x.To:=.inl t1
     rw [qg t1,qe t3]
     simp [zdv]
    .by_cases t2:(w.R.length:Int) < x.To
     .have t3:x.To < 1\/(w.R.length:Int) < x.To:=.inr t2
      rw [qf t1,qg t2,qe t3]
      simp [zdv]
     .have t3:¬ (x.To < 1\/(w.R.length:Int) < x.To):=by omega
      rw [qf t1,qf t2,qc t3]
      have hlt2:(x.To - 1).toNat < w.R.length:=by omega
      obtain ⟨r2,hr2⟩:∃ r2,w.R[(x.To - 1).toNat]? = some r2:=⟨_,qj hlt2⟩
      obtain ⟨c1,c2,c3⟩:=h.mem _ r2 hr2
      have hsub:∀ y∈net,y∈w.Net:=fun y hy=>by rw [hnet]; exact ql _ hy
      have hnl2:net.length<=60:=by rw [hnet] at hnl; simp at hnl; omega
      obtain ⟨s1,s2,s3⟩:=ypf (c:=false) (v:=⟨w.R,net⟩) (i:=x.To - 1) h hB0 rfl hsub hnl2 (by omega) hr2 (.recv x (by rw [hnet]; exact qv))
      have e1:(x.To - 1) = IntKind.i64.wrap (x.To - 1):=(ybs (by omega)).symm
      rw [hr2]
      unfold zdv
      simp only [qr,wn]
      rw [← e1,ykt (by omega),hr2,yx,yakl c1 (by omega) (by omega) hxo,yx,s1,yx]
end
end Go.Proofs.Ytgoachcogmlhcaa.R
set_option maxRecDepth 100000
set_option linter.unusedVariables false
set_option linter.unusedSimpArgs false
noncomputable section
namespace Go.Proofs.Ytgoachcogmlhcaa.R
open Go
section
variable {B b:Int} {r:ye} {x:yj}
theorem ybhk{ents:List yk}:∀ (k:Nat) (new:List yk),(yhk ents k new).length<=ents.length\/(yhk ents k new).length<=k + new.length:=by
  intro k new
  induction new generalizing k with
  | nil=>exact .inl (qk _)
  | cons e r ih=>
    unfold yhk
    split
    .split
     .have:=ih (k + 1)
      simp only [ws]
      omega
     .exact .inr (by simp; omega)
    .rename_i hg
     have:=kg.1 hg
     exact .inr (by simp; omega)
theorem yaok{l:yag}{at0 term:Int}{es:List yk}(h1:l.yn<=at0)(ha:yac l<=b)(hb:at0 + (es.length:Int)<=b):yac (ylm l at0 term es).1<=b:=by
  unfold ylm
  split
  .exact ha
  .split
   .exact ha
   .have:=ybhk (ents:=l.yi) (at0 - l.yn).toNat es
    unfold yac at ha ⊢
    show l.yn + ((yhk _ _ _).length:Int)<=b
    omega
theorem ybrl{l:yag}{at0 term:Int}{es:List yk}(ha:yac l<=b)(hb:at0 + (es.length:Int)<=b):yac (yev l at0 term es).1<=b:=by
  unfold yev
  split
  .split
   .exact ha
   .exact yaok (qh _) ha (by simp; omega)
  .exact yaok (by omega) ha hb
theorem yawv{l:yag}{i term:Int}(ha:yac l<=b)(hi:i<=b):yac (ykc l i term)<=b:=by
  unfold ykc
  split
  .rename_i hh
   have:=ymn hh
   unfold yac at ha this ⊢
   show i + ((l.yi.drop _).length:Int)<=b
   simp
   omega
  .show i + ((([]:List yk).length:Nat):Int)<=b
   simp
   exact hi
def yci(r:ye):Int:=yac r.yg + if r.ym=1\/r.ym=2 then 1 else 0
structure MsgL (b:Int) (x:yj):Prop where
  e:x.yae=5->x.At + (x.yi.length:Int)<=b
  s:x.yae=7->x.At<=b
theorem yhz(r:ye):yac r.yg<=yci r:=by unfold yci; split <;> omega
theorem yqp(r:ye):yac (yco r).1.yg=yac r.yg + 1:=by
  show yac (ybm (ydf (yft r) [])).yg=_
  rw [ygi]
  unfold ydf yac
  show r.yg.yn + ((r.yg.yi++[_]).length:Int) = _
  simp
  omega
theorem yaeu(r:ye):yci (yco r).1=yac r.yg + 1:=by
  unfold yci
  rw [yqp,yia]
  simp
theorem yvj(r:ye):yci (yea r).1=yac r.yg + 1:=by
  unfold yea
  split
  .rw [yaeu]
   rfl
  .show yci (yas r) = _
   unfold yci yas
   simp [yai]
theorem yaot(ha:yci r<=b)(hx:MsgL b x):yci (ydq r x).1<=b:=by
  have hl:=yhz r
  have h0:∀ {q:ye},q.ym=0->yac q.yg<=b->yci q<=b:=fun h1 h2=>by unfold yci; rw [h1]; simpa using h2
  unfold ydq
  split
  .exact ha
  split
  .unfold yit
   split
   .rename_i hk
    have e:yci r=yac r.yg + 1:=by unfold yci; rw [hk.2.1]; simp
    split
    .rw [yvj]
     show yac r.yg + 1<=b
     omega
    .exact ha
   .exact ha
  split
  .unfold yjf
   split
   .exact ha
   .exact ha
  split
  .unfold ygb
   split
   .rename_i hk
    have e:yci r=yac r.yg + 1:=by unfold yci; rw [hk.2.1]; simp
    split
    .rw [yaeu]
     show yac r.yg + 1<=b
     omega
    .exact ha
   .exact ha
  split
  .rename_i h5
   unfold yfo
   split
   .exact ha
   .simp only
    split
    .exact h0 rfl (ybrl (by omega) (hx.e h5))
    .exact h0 rfl (by show yac r.yg<=b; omega)
  split
  .unfold yfx
   split
   .exact ha
   .have e:yci (ybe r x) = yci r:=by unfold yci ybe; rw [ygi,yer]
    split
    .split
     .show yci (ybe r x)<=b
      omega
     .show yci (ybe r x)<=b
      omega
    .exact ha
  split
  .rename_i h7
   unfold yky
   split
   .exact ha
   .simp only
    split
    .exact h0 rfl (yawv (by omega) (hx.s h7))
    .exact h0 rfl (by show yac r.yg<=b; omega)
  .exact ha
theorem yabx(ha:yci r<=b)(hx:MsgL b x):yci (yaj r x).1<=b:=by
  unfold yaj
  split
  .exact ha
  .split
   .refine yaot ?_ hx
    have:=yhz r
    unfold yci yai
    simp
    omega
   .exact yaot ha hx
def yma(p:ye × List yj):Prop:=∀ y∈p.2,y.yae=5\/y.yae=7->p.1.ym=3/\∃ to,1<=to/\to<=p.1.N/\y=ybj p.1 to
theorem yma.no{p:ye × List yj}(h:∀ y∈p.2,y.yae≠5/\y.yae≠7):yma p:=fun y hy hk=>by
  have:=h y hy
  omega
theorem yaas(h:OkR B r)(h3:r.ym=3)(data:List Int):yma (yct r data):=by
  intro y hy _
  have hy:y∈(yca r).map (ybj (ybm (ydf r data))):=hy
  obtain ⟨to,ht,rfl⟩:=wh.1 hy
  obtain ⟨t1,t2,_⟩:=ygl h ht
  have hn:(ybm (ydf r data)).N=r.N:=yfn
  exact ⟨by show (ybm _).ym=3; rw [yer]; exact h3,to,t1,by show to<=(ybm _).N; rw [hn]; exact t2,rfl⟩
theorem yaju(h:OkR B r)(hB0:0<=B):yma (yco r):=yaas (yux h hB0) rfl []
theorem yafg(h:OkR B r)(hB0:0<=B):yma (yea r):=by
  unfold yea
  split
  .exact yaju (yll h hB0) (by omega)
  .refine .no fun y hy=>?_
   obtain ⟨to,_,rfl⟩:=wh.1 hy
   exact ⟨by show (3:Int)≠5; decide,by show (3:Int)≠7; decide⟩
theorem ybjp(h:OkR B r)(hB0:0<=B)(draw:Int):yma (yhx r draw):=by
  unfold yhx
  split
  .exact yafg (yrh h hB0 draw) hB0
  .refine .no fun y hy=>?_
   obtain ⟨to,_,rfl⟩:=wh.1 hy
   exact ⟨by show (1:Int)≠5; decide,by show (1:Int)≠7; decide⟩
theorem yalb(h:OkR B r)(hB0:0<=B)(draw:Int):yma (ycj r draw):=by
  have hz:∀ q:ye,yma (q,[]):=fun q y hy=>nomatch hy
  unfold ycj
  simp only
  split
  .rename_i h3
   split
   .intro y hy _
    obtain ⟨to,ht,rfl⟩:=wh.1 hy
    obtain ⟨t1,t2,_⟩:=ygl h ht
    exact ⟨h3,to,t1,t2,rfl⟩
   .exact hz _
  .split
   .exact ybjp (ypm h) (by omega) draw
   .exact hz _
theorem yaky(h:OkR B r)(hB0:0<=B)(hx:OkM B x)(h1:1<=x.From)(h2:x.From<=r.N):yma (ydq r x):=by
  have hz:∀ q:ye,yma (q,[]):=fun q y hy=>nomatch hy
  have one:∀ (q:ye) (k t a:Int) (o:Bool) (q':ye),k≠5->k≠7->yma (q,[ydr q' x k t a o]):=fun q k t a o q' hk hk'=>.no fun y hy=>by
    rw [wb] at hy
    subst hy
    exact ⟨hk,hk'⟩
  unfold ydq
  split
  .exact one _ 2 _ _ _ _ (by decide) (by decide)
  split
  .unfold yit
   split
   .split
    .exact yafg (yfr (x:=x) h true) hB0
    .exact hz _
   .exact hz _
  split
  .unfold yjf
   split
   .exact one _ 4 _ _ _ _ (by decide) (by decide)
   .exact one _ 4 _ _ _ _ (by decide) (by decide)
  split
  .unfold ygb
   split
   .split
    .exact yaju (yfr (x:=x) h true) hB0
    .exact hz _
   .exact hz _
  split
  .unfold yfo
   split
   .exact one _ 6 _ _ _ _ (by decide) (by decide)
   .simp only
    split
    .exact one _ 6 _ _ _ _ (by decide) (by decide)
    .exact one _ 6 _ _ _ _ (by decide) (by decide)
  split
  .unfold yfx
   split
   .exact hz _
   .rename_i hr
    have h3:r.ym=3:=by
      rcases Classical.em (r.ym=3) with h | h
      .exact h
      .exact absurd (.inr h) hr
    have e2:(ybe r x).N=r.N:=yfn
    have e3:(ybe r x).ym=3:=by unfold ybe; rw [yer]; exact h3
    split
    .split
     .exact hz _
     .intro y hy _
      rw [wb] at hy
      exact ⟨e3,x.From,h1,by show x.From<=(ybe r x).N; omega,hy⟩
    .intro y hy _
     rw [wb] at hy
     exact ⟨h3,x.From,h1,h2,hy⟩
  split
  .unfold yky
   split
   .exact one _ 6 _ _ _ _ (by decide) (by decide)
   .simp only
    split
    .exact one _ 6 _ _ _ _ (by decide) (by decide)
    .exact one _ 6 _ _ _ _ (by decide) (by decide)
  .exact hz _
theorem yth(h:OkR B r)(hB0:0<=B)(hx:OkM B x):yma (yaj r x):=by
  unfold yaj
  split
  .intro y hy; exact nomatch hy
  .rename_i hr
   have hv:ydg r x=false:=by simpa using hr
   unfold ydg at hv
   simp only [js,jk] at hv
   split
   .exact yaky (yjj h (t:=x.yc) (l:=0) hx.term.2) hB0 hx (by omega) (by show x.From<=r.N; omega)
   .exact yaky h hB0 hx (by omega) (by omega)
theorem ybqz{to:Int}(h:OkT B r)(h1:1<=to)(h2:to<=r.N):yax r to∈r.Next:=by
  obtain ⟨e,_⟩:=yub h h1 h2
  unfold ydd at e
  rw [qe (by omega)] at e
  exact wa e
theorem ybiu(h:OkR B r)(h3:r.ym=3)(hn:∀ v∈r.Next,v<=yac r.yg + 1)(hb:yac r.yg<=b){to:Int}(h1:1<=to)(h2:to<=r.N):MsgL b (ybj r to):=by
  have hx:=hn _ (ybqz (h.tell h3) h1 h2)
  unfold ybj
  split
  .refine ⟨fun hk=>absurd hk (show ¬ (7:Int) = 5 by decide),fun _=>?_⟩
   show r.yg.yn<=b
   unfold yac at hb
   omega
  .refine ⟨fun _=>?_,fun hk=>absurd hk (show ¬ (5:Int) = 7 by decide)⟩
   show yax r to - 1 + ((ykf r.yg (yax r to)).length:Int)<=b
   unfold ykf
   split
   .simp; omega
   .rename_i hc
    unfold yac at hb hc hx
    simp
    omega
end
end Go.Proofs.Ytgoachcogmlhcaa.R
set_option maxRecDepth 100000
set_option linter.unusedVariables false
set_option linter.unusedSimpArgs false
noncomputable section
namespace Go.Proofs.Ytgoachcogmlhcaa.R
open Go
section
variable {B b W:Int} {r:ye} {x y:yj}
structure ydl (r:ye):Prop where
  m0:∀ to,1<=to->to<=r.N->to≠r.Id->0<=yar r to
  mn:∀ to,1<=to->to<=r.N->to≠r.Id->yar r to + 1<=yax r to
  nl:∀ to,1<=to->to<=r.N->to≠r.Id->yax r to<=yac r.yg + 1
def muR(r:ye)(to:Int):Int:=(yax r to - yar r to - 1) + (yac r.yg - yar r to)
theorem yqq(h:ydl r){to:Int}(h1:1<=to)(h2:to<=r.N)(h3:to≠r.Id):0<=muR r to/\muR r to<=2 * yac r.yg:=by
  have a:=h.m0 to h1 h2 h3; have c:=h.mn to h1 h2 h3; have d:=h.nl to h1 h2 h3
  unfold muR
  omega
theorem ypi{to u v:Int}{l m:List Int}(hl:(to - 1).toNat < l.length)(h1:1<=to)(h2:1<=u):((ybl l (to - 1) v)[(u - 1).toNat]?).getD 0=if u=to then v else (l[(u - 1).toNat]?).getD 0:=by
  unfold ybl
  by_cases he:u=to
  .subst he
   rw [qe rfl,wu hl]
   rfl
  .rw [qc he,ja (by omega)]
theorem ytc(h:OkR B r)(h3:r.ym=3)(h1:1<=x.From)(h2:x.From<=r.N){u:Int}(hu:1<=u):yax (ybe r x) u=(if u=x.From then ykh r x else yax r u)/\yar (ybe r x) u=(if u=x.From then yhh r x else yar r u):=by
  have hn:=h.na h3; have hm:=h.ma h3
  have e1:(ybe r x).Next=ybl r.Next (x.From - 1) (ykh r x):=by unfold ybe; rw [yqf]
  have e2:(ybe r x).yaa=ybl r.yaa (x.From - 1) (yhh r x):=by unfold ybe; unfold ybm; split <;> rfl
  unfold yax yar
  rw [e1,e2]
  exact ⟨ypi (m:=[]) (by omega) h1 hu,ypi (m:=[]) (by omega) h1 hu⟩
theorem yqy(h:OkR B r)(h3:r.ym=3)(h1:1<=x.From)(h2:x.From<=r.N){u:Int}(hu:1<=u):yax (yhq r x) u=(if u=x.From then yol r x else yax r u)/\yar (yhq r x) u=yar r u:=by
  have hn:=h.na h3
  unfold yax
  exact ⟨ypi (m:=[]) (by omega) h1 hu,rfl⟩
theorem yadn(a b:Int):yil a b=max a b:=by unfold yil; omega
theorem yamk(a b:Int):yim a b=min a b:=by unfold yim; omega
theorem yahj:yhh r x=max (yar r x.From) (min x.At (yac r.yg)):=by unfold yhh; rw [yadn,yamk]
theorem yahk:ykh r x=max (yax r x.From) (yhh r x + 1):=by unfold ykh; rw [yadn]
theorem yahi:yol r x=max (yar r x.From + 1) (min (yax r x.From - 2) x.At + 1):=by unfold yol; rw [yadn,yamk]
theorem ynw:(ybe r x).yg=r.yg:=by unfold ybe; rw [ygi]
theorem ytu(h:OkR B r)(h3:r.ym=3)(hl:ydl r)(h1:1<=x.From)(h2:x.From<=r.N)(hne:x.From≠r.Id):ydl (ybe r x):=by
  have hN:(ybe r x).N=r.N:=yfn
  have hI:(ybe r x).Id=r.Id:=ygj
  have a:=hl.m0 _ h1 h2 hne; have c:=hl.mn _ h1 h2 hne; have d:=hl.nl _ h1 h2 hne
  have e:=yahj (r:=r) (x:=x); have f:=yahk (r:=r) (x:=x)
  refine ⟨fun to t1 t2 t3=>?_,fun to t1 t2 t3=>?_,fun to t1 t2 t3=>?_⟩ <;> rw [hN] at t2 <;> rw [hI] at t3 <;> obtain ⟨q1,q2⟩:=ytc (x:=x) h h3 h1 h2 t1
  .rw [q2]
   split
   .omega
   .exact hl.m0 to t1 t2 t3
  .rw [q1,q2]
   split
   .omega
   .exact hl.mn to t1 t2 t3
  .rw [q1,ynw]
   split
   .omega
   .exact hl.nl to t1 t2 t3
theorem yzz(h:OkR B r)(h3:r.ym=3)(hl:ydl r)(h1:1<=x.From)(h2:x.From<=r.N)(hne:x.From≠r.Id):ydl (yhq r x):=by
  have a:=hl.m0 _ h1 h2 hne; have c:=hl.mn _ h1 h2 hne; have d:=hl.nl _ h1 h2 hne
  have f:=yahi (r:=r) (x:=x)
  refine ⟨fun to t1 t2 t3=>?_,fun to t1 t2 t3=>?_,fun to t1 t2 t3=>?_⟩ <;> obtain ⟨q1,q2⟩:=yqy (x:=x) h h3 h1 h2 t1
  .rw [q2]; exact hl.m0 to t1 t2 t3
  .rw [q1,q2]
   split
   .rename_i e; subst e; omega
   .exact hl.mn to t1 t2 t3
  .rw [q1]
   show _<=yac r.yg + 1
   split
   .omega
   .exact hl.nl to t1 t2 t3
def yor(r:ye)(x:yj):Prop:=(x.Ok=true/\(yar r x.From < x.At\/yac r.yg<=yar r x.From))\/(x.Ok=false/\yar r x.From + 2<=yax r x.From)
def ymu(r:ye)(x:yj):Prop:=(yar r x.To < x.At\/(x.yae=5/\yar r x.To < x.At + (x.yi.length:Int))\/yac r.yg<=yar r x.To)/\(x.yae=7\/x.At<=yar r x.To\/yar r x.To + 2<=yax r x.To)
open Classical in
def wtA(W:Int)(r:ye)(x:yj):Int:=
  if r.ym=3 then (if x.yc=r.yc then 2 + 2 * muR r x.To + (if ymu r x then 0 else 2) else W + 1) else if r.ym=0 then 2 else W + 1
open Classical in
def wtB(W:Int)(r:ye)(x:yj):Int:=
  if r.ym=3 then (if x.yc=r.yc then 1 + 2 * muR r x.From + (if yor r x then 0 else 2) else 1) else if r.ym=0 then 1 else W
def ycx(W:Int)(r:ye):Int:=if r.ym=1 then 4 * (W + 1) + 8 else if r.ym=2 then 4 * (W + 1) else 0
theorem yel(to:Int):(ybj r to).To=to/\(ybj r to).From=r.Id/\(ybj r to).yc=r.yc/\((ybj r to).yae=5\/(ybj r to).yae=7):=by
  unfold ybj
  split
  .exact ⟨rfl,rfl,rfl,.inr rfl⟩
  .exact ⟨rfl,rfl,rfl,.inl rfl⟩
theorem yawx(hl:ydl r)(hb:0<=r.yg.yn){to:Int}(h1:1<=to)(h2:to<=r.N)(h3:to≠r.Id):ymu r (ybj r to):=by
  have a:=hl.m0 to h1 h2 h3; have c:=hl.mn to h1 h2 h3; have d:=hl.nl to h1 h2 h3
  unfold ymu
  rw [(yel to).1]
  unfold ybj
  split
  .rename_i hc
   refine ⟨.inl ?_,.inl rfl⟩
   show yar r to < r.yg.yn
   omega
  .rename_i hc
   refine ⟨?_,.inr ?_⟩
   .show yar r to < yax r to - 1\/((5:Int) = 5/\yar r to < yax r to - 1 + ((ykf r.yg (yax r to)).length:Int))\/yac r.yg<=yar r to
    by_cases he:yar r to < yax r to - 1
    .exact .inl he
    .by_cases hc2:yac r.yg < yax r to
     .exact .inr (.inr (by omega))
     .refine .inr (.inl ⟨rfl,?_⟩)
      unfold ykf
      rw [qc (by omega)]
      unfold yac at hc2 d
      simp
      omega
   .show yax r to - 1<=yar r to\/_
    omega
theorem yaaa(hr:r.ym=3)(hl:ydl r)(hb:0<=r.yg.yn){to:Int}(h1:1<=to)(h2:to<=r.N)(h3:to≠r.Id):wtA W r (ybj r to) = 2 + 2 * muR r to:=by
  unfold wtA
  rw [qe hr,(yel to).2.2.1,qe rfl,qe (yawx hl hb h1 h2 h3),(yel to).1]
  omega
def yhr(W:Int)(r q:ye):Prop:=∀ y:yj,(1<=y.To->y.To<=r.N->y.To≠r.Id->wtA W q y<=wtA W r y)/\(1<=y.From->y.From<=r.N->y.From≠r.Id->wtB W q y<=wtB W r y)
theorem yhr.refl:yhr W r r:=fun y=>⟨fun _ _ _=>qh _,fun _ _ _=>qh _⟩
theorem yhr.down{q:ye}(hq:q.ym=0)(hW:3<=W)(hl:r.ym=3->ydl r):yhr W r q:=by
  intro y
  have e0:¬ (q.ym=3):=by omega
  constructor
  .intro h1 h2 h3
   unfold wtA
   rw [qc e0,qe hq]
   split
   .rename_i hr
    have:=(yqq (hl hr) h1 h2 h3).1
    split
    .split <;> omega
    .omega
   .split <;> omega
  .intro h1 h2 h3
   unfold wtB
   rw [qc e0,qe hq]
   split
   .rename_i hr
    have:=(yqq (hl hr) h1 h2 h3).1
    split
    .split <;> omega
    .omega
   .split <;> omega
theorem yhr.same{q:ye}(h1:q.ym=r.ym)(h2:q.yc=r.yc)(h3:q.Next=r.Next)(h4:q.yaa=r.yaa)(h5:q.yg=r.yg):yhr W r q:=by
  have e1:∀ to,yax q to=yax r to:=fun to=>by unfold yax; rw [h3]
  have e2:∀ to,yar q to=yar r to:=fun to=>by unfold yar; rw [h4]
  intro y
  have f1:∀ to,muR q to=muR r to:=fun to=>by unfold muR; rw [h5,e1,e2]
  have f2:ymu q y=ymu r y:=by unfold ymu; rw [h5,e1,e2]
  have f3:yor q y=yor r y:=by unfold yor; rw [h5,e1,e2]
  have e3:wtA W q y=wtA W r y:=by unfold wtA; rw [h1,h2,f1,f2]
  have e4:wtB W q y=wtB W r y:=by unfold wtB; rw [h1,h2,f1,f3]
  exact ⟨fun _ _ _=>by omega,fun _ _ _=>by omega⟩
end
end Go.Proofs.Ytgoachcogmlhcaa.R
set_option maxRecDepth 100000
set_option linter.unusedVariables false
set_option linter.unusedSimpArgs false
noncomputable section
namespace Go.Proofs.Ytgoachcogmlhcaa.R
open Go
section
variable {B b W:Int} {r s:ye} {x y:yj}
def wtX(W:Int)(fr to:ye)(y:yj):Int:=if y.yae=5\/y.yae=7 then wtA W fr y else if y.yae=6 then wtB W to y else if y.yae=1\/y.yae=3 then 2 else 1
def ygg(W:Int)(fr to:ye)(l:List yj):Int:=(l.map (wtX W fr to)).sum
theorem yrw(fr to:ye)(y:yj):ygg W fr to [y] = wtX W fr to y:=by simp [ygg]
theorem yrv(fr to:ye):ygg W fr to [] = 0:=rfl
theorem yxt{fr to:ye}{c:Int}(hc:0<=c):∀ {l:List yj} {k:Nat},(∀ y∈l,wtX W fr to y<=c)->l.length<=k->ygg W fr to l<=(k:Int) * c
  | [],k,_,_=>by rw [yrv]; exact Int.mul_nonneg (by omega) hc
  | y :: l,k,h,hk=>by
    obtain ⟨k,rfl⟩:∃ k',k=k' + 1:=⟨k - 1,by simp at hk; omega⟩
    have h1:=yxt hc (l:=l) (k:=k) (fun z hz=>h z (ql _ hz)) (by simpa using hk)
    have h2:=h y qv
    have e:ygg W fr to (y :: l) = wtX W fr to y + ygg W fr to l:=by simp [ygg]
    have e2:((k + 1:Nat):Int) * c=(k:Int) * c + c:=by
      rw [show ((k + 1:Nat):Int) = (k:Int) + 1 from rfl,Int.add_mul,Int.one_mul]
    omega
theorem yhr.told{q:ye}(h3:r.ym=3)(h3':q.ym=3)(ht:q.yc=r.yc)(hl:q.yg=r.yg){f:Int}(ho:∀ u,1<=u->u≠f->yax q u=yax r u/\yar q u=yar r u)
    (hf:(yax q f=yax r f/\yar q f=yar r f)\/muR q f + 1<=muR r f):yhr W r q:=by
  have key:∀ u,1<=u->(yax q u=yax r u/\yar q u=yar r u)\/muR q u + 1<=muR r u:=fun u hu=>by
    by_cases he:u=f
    .subst he; exact hf
    .exact .inl (ho u hu he)
  intro y
  constructor
  .intro h1 _ _
   unfold wtA
   rw [qe h3,qe h3',ht]
   split
   .rcases key y.To h1 with ⟨e1,e2⟩ | e
    .have e3:muR q y.To=muR r y.To:=by unfold muR; rw [e1,e2,hl]
     have e4:ymu q y=ymu r y:=by unfold ymu; rw [e1,e2,hl]
     rw [e3,e4]
     exact qh _
    .split <;> split <;> omega
   .exact qh _
  .intro h1 _ _
   unfold wtB
   rw [qe h3,qe h3',ht]
   split
   .rcases key y.From h1 with ⟨e1,e2⟩ | e
    .have e3:muR q y.From=muR r y.From:=by unfold muR; rw [e1,e2,hl]
     have e4:yor q y=yor r y:=by unfold yor; rw [e1,e2,hl]
     rw [e3,e4]
     exact qh _
    .split <;> split <;> omega
   .exact qh _
structure Dec (W:Int) (r s:ye) (x:yj) (p:ye × List yj):Prop where
  mono:yhr W r p.1
  less:ycx W p.1 + ygg W p.1 s p.2 + 1<=ycx W r + wtX W s r x
theorem ybbg(hW:1<=W)(hl:r.ym=3->ydl r)(h1:1<=x.From)(h2:x.From<=r.N)(h3:x.From≠r.Id):1<=wtB W r x:=by
  unfold wtB
  split
  .rename_i hr
   have:=(yqq (hl hr) h1 h2 h3).1
   split
   .split <;> omega
   .omega
  .split <;> omega
theorem yaxi{Nx Mt At L tM tN:Int}(em:tM=max Mt (min At L))(en:tN=max Nx (tM + 1))(c:Mt + 1<=Nx):(tN=Nx/\tM=Mt)\/(tN - tM - 1) + (L - tM) + 1<=(Nx - Mt - 1) + (L - Mt):=by omega
theorem ybug{Nx Mt At L tM tN:Int}(em:tM=max Mt (min At L))(en:tN=max Nx (tM + 1))(c:Mt + 1<=Nx)(hn:¬ L < tN)(hf:Mt < At\/L<=Mt):(tN - tM - 1) + (L - tM) + 1<=(Nx - Mt - 1) + (L - Mt):=by omega
theorem yaxh{Nx Mt At tB:Int}(eb:tB=max (Mt + 1) (min (Nx - 2) At + 1))(c:Mt + 1<=Nx):tB=Nx\/tB + 1<=Nx:=by omega
theorem ybuf{Nx Mt At tB:Int}(eb:tB=max (Mt + 1) (min (Nx - 2) At + 1))(hf:Mt + 2<=Nx):tB + 1<=Nx:=by omega
open Classical in
theorem ycbp(h:OkR B r)(hl:r.ym=3->ydl r)(hW:1<=W)(hb:0<=r.yg.yn)(hk:x.yae=6)(hx0:0<=x.At)(h1:1<=x.From)(h2:x.From<=r.N)(hne:x.From≠r.Id)(ht:¬ r.yc < x.yc):Dec W r s x (yfx r x):=by
  have ewx:wtX W s r x=wtB W r x:=by unfold wtX; rw [qc (by omega),qe hk]
  have hp1:=ybbg hW hl h1 h2 hne
  unfold yfx
  split
  .refine ⟨.refl,?_⟩
   rw [ewx]
   show ycx W r + ygg W r s [] + 1<=_
   rw [yrv]
   omega
  .rename_i hc
   have h3:r.ym=3:=by
     rcases Classical.em (r.ym=3) with h | h
     .exact h
     .exact absurd (.inr h) hc
   have hT:x.yc=r.yc:=by
     have:¬ x.yc < r.yc:=fun hh=>hc (.inl hh)
     omega
   have hL:=hl h3
   have a:=hL.m0 _ h1 h2 hne; have c:=hL.mn _ h1 h2 hne; have d:=hL.nl _ h1 h2 hne
   have em:=yahj (r:=r) (x:=x); have en:=yahk (r:=r) (x:=x); have eb:=yahi (r:=r) (x:=x)
   have e3:(ybe r x).ym=3:=by unfold ybe; rw [yer]; exact h3
   have eT:(ybe r x).yc=r.yc:=by unfold ybe; unfold ybm; split <;> rfl
   have eN:(ybe r x).N=r.N:=yfn
   have eI:(ybe r x).Id=r.Id:=ygj
   have epr:ycx W r=0:=by unfold ycx; rw [h3]; rfl
   have epq:ycx W (ybe r x) = 0:=by unfold ycx; rw [e3]; rfl
   have e3p:(yhq r x).ym=3:=h3
   have epp:ycx W (yhq r x) = 0:=by unfold ycx; rw [e3p]; rfl
   have ew:wtB W r x=1 + 2 * muR r x.From + (if yor r x then 0 else 2):=by unfold wtB; rw [qe h3,qe hT]
   obtain ⟨q1,q2⟩:=ytc (x:=x) h h3 h1 h2 h1
   rw [qe rfl] at q1 q2
   obtain ⟨p1,p2⟩:=yqy (x:=x) h h3 h1 h2 h1
   rw [qe rfl] at p1
   have hmq:muR (ybe r x) x.From=(ykh r x - yhh r x - 1) + (yac r.yg - yhh r x):=by unfold muR; rw [q1,q2,ynw]
   have hmp:muR (yhq r x) x.From=(yol r x - yar r x.From - 1) + (yac r.yg - yar r x.From):=by unfold muR; rw [p1,p2]; rfl
   have hmr:muR r x.From=(yax r x.From - yar r x.From - 1) + (yac r.yg - yar r x.From):=rfl
   have monoQ:yhr W r (ybe r x):=by
     refine .told h3 e3 eT ynw (f:=x.From) (fun u hu hne=>?_) ?_
     .obtain ⟨a1,a2⟩:=ytc (x:=x) h h3 h1 h2 hu
      rw [qc hne] at a1 a2
      exact ⟨a1,a2⟩
     .rw [q1,q2,hmq,hmr]
      exact yaxi em en c
   have monoP:yhr W r (yhq r x):=by
     refine .told h3 h3 rfl rfl (f:=x.From) (fun u hu hne=>?_) ?_
     .obtain ⟨a1,a2⟩:=yqy (x:=x) h h3 h1 h2 hu
      rw [qc hne] at a1
      exact ⟨a1,a2⟩
     .rw [p1,p2,hmp,hmr]
      have:=yaxh eb c
      clear em en eb
      omega
   have as:=yaxi em en c
   have af:=fun hn=>ybug (L:=yac r.yg) em en c hn
   have ab:=yaxh eb c
   have abf:=fun hf=>ybuf eb hf
   clear em en eb
   split
   .rename_i hok
    split
    .refine ⟨monoQ,?_⟩
     show ycx W (ybe r x) + ygg W (ybe r x) s [] + 1<=_
     rw [yrv,ewx]
     omega
    .rename_i hlast
     refine ⟨monoQ,?_⟩
     show ycx W (ybe r x) + ygg W (ybe r x) s [ybj (ybe r x) x.From] + 1<=_
     have hLq:=ytu (x:=x) h h3 hL h1 h2 hne
     have et:wtX W (ybe r x) s (ybj (ybe r x) x.From) = 2 + 2 * muR (ybe r x) x.From:=by
       unfold wtX
       rw [qe (yel _).2.2.2,yaaa e3 hLq (by rw [ynw]; exact hb) h1 (by rw [eN]; exact h2) (by rw [eI]; exact hne)]
     rw [yrw,et,ewx,ew,epr,epq,hmq,hmr]
     split
     .rename_i hf
      rcases hf with ⟨_,hf⟩ | ⟨hf,_⟩
      .have:=af hlast hf
       omega
      .rw [hok] at hf; cases hf
     .omega
   .rename_i hok
    refine ⟨monoP,?_⟩
    show ycx W (yhq r x) + ygg W (yhq r x) s [ybj (yhq r x) x.From] + 1<=_
    have hLp:=yzz (x:=x) h h3 hL h1 h2 hne
    have et:wtX W (yhq r x) s (ybj (yhq r x) x.From) = 2 + 2 * muR (yhq r x) x.From:=by
      unfold wtX
      rw [qe (yel _).2.2.2,yaaa (r:=yhq r x) h3 hLp hb h1 h2 hne]
    rw [yrw,et,ewx,ew,epr,epp,hmp,hmr]
    split
    .rename_i hf
     rcases hf with ⟨hf,_⟩ | ⟨_,hf⟩
     .exact absurd hf hok
     .have:=abf hf
      omega
    .omega
end
end Go.Proofs.Ytgoachcogmlhcaa.R
set_option maxRecDepth 100000
set_option linter.unusedVariables false
set_option linter.unusedSimpArgs false
noncomputable section
namespace Go.Proofs.Ytgoachcogmlhcaa.R
open Go
section
variable {B b W:Int} {r s q:ye} {x y:yj}
theorem yhr.mid(h1:r.ym=1\/r.ym=2)(h2:q.ym=1\/q.ym=2):yhr W r q:=by
  have a1:¬ r.ym=3:=by omega
  have a2:¬ r.ym=0:=by omega
  have a3:¬ q.ym=3:=by omega
  have a4:¬ q.ym=0:=by omega
  intro y
  constructor
  .intro _ _ _
   unfold wtA
   rw [qc a1,qc a2,qc a3,qc a4]
   exact qh _
  .intro _ _ _
   unfold wtB
   rw [qc a1,qc a2,qc a3,qc a4]
   exact qh _
theorem yhr.lead(h1:r.ym=1\/r.ym=2)(h2:q.ym=3)(hN:q.N=r.N)(hI:q.Id=r.Id)(hl:ydl q)(hW:4 * yac q.yg + 3<=W)(hL:0<=yac q.yg):yhr W r q:=by
  have a1:¬ r.ym=3:=by omega
  have a2:¬ r.ym=0:=by omega
  intro y
  constructor
  .intro t1 t2 t3
   have:=yqq hl t1 (by omega) (by omega)
   unfold wtA
   rw [qc a1,qc a2,qe h2]
   split
   .split <;> omega
   .omega
  .intro t1 t2 t3
   have:=yqq hl t1 (by omega) (by omega)
   unfold wtB
   rw [qc a1,qc a2,qe h2]
   split
   .split <;> omega
   .omega
theorem ybal{n:Nat}{v:Int}{i:Nat}(h:i < n):((List.replicate n v)[i]?).getD 0=v:=by simp [h]
theorem ybgz(h:OkR B r){to:Int}(h1:1<=to)(h2:to<=r.N)(h3:to≠r.Id):yax (yco r).1 to=yac r.yg + 1/\yar (yco r).1 to=0:=by
  have hid:=h.id
  have e1:(yco r).1.Next=List.replicate r.N.toNat (yac r.yg + 1):=by
    show (ybm (ydf (yft r) [])).Next=_
    rw [yqf]
    rfl
  have e2:(yco r).1.yaa=ybl (List.replicate r.N.toNat 0) (r.Id - 1) (yac r.yg + 1):=by
    show (ybm (ydf (yft r) [])).yaa=_
    unfold ybm
    split <;> rfl
  unfold yax yar
  rw [e1,e2,ybal (by omega)]
  refine ⟨rfl,?_⟩
  rw [ypi (m:=[]) (by simp; omega) (by omega) h1,qc h3,ybal (by omega)]
theorem yrm(r:ye):(yco r).1.Id=r.Id/\(yco r).1.N=r.N/\(yco r).1.yc=r.yc:=by
  refine ⟨ygj,yfn,?_⟩
  show (ybm (ydf (yft r) [])).yc=r.yc
  have e:∀ q:ye,(ybm q).yc=q.yc:=fun q=>by unfold ybm; split <;> rfl
  rw [e]
  show (if r.yc < r.yc then _ else r.yc) = r.yc
  rw [qc (Int.lt_irrefl _)]
theorem yym(h:OkR B r):ydl (yco r).1:=by
  obtain ⟨i1,i2,_⟩:=yrm r
  have hl:=ymj h.log
  refine ⟨fun to t1 t2 t3=>?_,fun to t1 t2 t3=>?_,fun to t1 t2 t3=>?_⟩ <;> rw [i2] at t2 <;> rw [i1] at t3 <;> obtain ⟨q1,q2⟩:=ybgz h t1 t2 t3
  .rw [q2]; exact qh _
  .rw [q1,q2]; omega
  .rw [q1,yqp]; omega
theorem yyt{id:Int}:∀ (k:Nat) (a:Int),a<=id->id < a + k->(yga id k a).length + 1<=k
  | 0,a,h1,h2=>by omega
  | k + 1,a,h1,h2=>by
    unfold yga
    split
    .have:=yyt (id:=id) k (a + 1) (by omega) (by omega)
     simp
     omega
    .have:=ysi (id:=id) k (a + 1)
     omega
theorem yyu(h:OkR B r)(hN:r.N<=5):(yca r).length<=4:=by
  have hid:=h.id
  have:=yyt (id:=r.Id) r.N.toNat 1 (by omega) (by omega)
  unfold yca
  omega
theorem ybgy(r:ye):(yco r).1.yg.yn=r.yg.yn:=by
  show (ybm (ydf (yft r) [])).yg.yn=_
  rw [ygi]
  rfl
theorem yafz(h:OkR B r)(hN:r.N<=5)(hW:4 * (yac r.yg + 1) + 3<=W):ygg W (yco r).1 s (yco r).2<=4 * (W + 1):=by
  obtain ⟨i1,i2,_⟩:=yrm r
  have hl:=ymj h.log
  have hL:=yym h
  have:=yxt (W:=W) (fr:=(yco r).1) (to:=s) (c:=W + 1) (by omega) (l:=(yco r).2) (k:=4) (fun y hy=>?_) (by
    show ((yca (yft r)).map _).length<=4
    rw [wj]
    show (yca r).length<=4
    exact yyu h hN)
  .exact this
  .have hy:y∈(yca (yft r)).map (ybj (yco r).1):=hy
   obtain ⟨to,ht,rfl⟩:=wh.1 hy
   obtain ⟨t1,t2,t3⟩:=ygl h (show to∈yca r from ht)
   unfold wtX
   rw [qe (yel _).2.2.2,yaaa yia hL (by rw [ybgy]; exact h.log.b) t1 (by omega) (by omega)]
   have:=yqq hL t1 (by omega) (by omega)
   rw [yqp] at this
   omega
theorem yaod(h:OkR B r)(h1:r.ym=1\/r.ym=2)(hW:4 * (yac r.yg + 1) + 3<=W):yhr W r (yco r).1:=by
  obtain ⟨i1,i2,_⟩:=yrm r
  have hl:=ymj h.log
  exact .lead h1 yia i2 i1 (yym h) (by rw [yqp]; exact hW) (by rw [yqp]; omega)
theorem yceh(hW3:3<=W)(hl:s.ym=3->ydl s)(hL:s.ym=3->4 * yac s.yg + 3<=W)(hxk:x.yae=5\/x.yae=7)(hyf:y.From=x.To)(h1:1<=x.To)(h2:x.To<=s.N)(h3:x.To≠s.Id)
    (hf:s.ym=3->x.yc=s.yc->y.yc=s.yc->ymu s x->yor s y):wtB W s y + 1<=wtA W s x:=by
  unfold wtA wtB
  by_cases hs:s.ym=3
  .have hm:=yqq (hl hs) h1 h2 h3
   have hw:=hL hs
   rw [qe hs,qe hs,hyf]
   by_cases ht:x.yc=s.yc
   .rw [qe ht]
    by_cases hty:y.yc=s.yc
    .rw [qe hty]
     have:=hf hs ht hty
     by_cases hA:ymu s x
     .rw [qe hA,qe (this hA)]
      omega
     .rw [qc hA]
      split <;> omega
    .rw [qc hty]
     split <;> omega
   .rw [qc ht]
    split
    .split <;> omega
    .omega
  .rw [qc hs,qc hs]
   split <;> omega
end
end Go.Proofs.Ytgoachcogmlhcaa.R
set_option maxRecDepth 100000
set_option linter.unusedVariables false
set_option linter.unusedSimpArgs false
noncomputable section
namespace Go.Proofs.Ytgoachcogmlhcaa.R
open Go
section
variable {B b W:Int} {r s q:ye} {x y:yj}
theorem yhr.trans{q':ye}(h:yhr W r q)(h':yhr W q q')(hN:q.N=r.N)(hI:q.Id=r.Id):yhr W r q':=fun y=>
  ⟨fun a b c=>kd ((h' y).1 a (by omega) (by omega)) ((h y).1 a b c),fun a b c=>kd ((h' y).2 a (by omega) (by omega)) ((h y).2 a b c)⟩
theorem ybrk{l:yag}{at0 term:Int}{es:List yk}(h:(ylm l at0 term es).2.2=true):(ylm l at0 term es).2.1=at0 + (es.length:Int):=by
  unfold ylm at h ⊢
  split at h
  .cases h
  .split at h
   .cases h
   .rename_i hm hne
    rw [qc hne]
theorem ybrm{l:yag}{at0 term:Int}{es:List yk}(h:(yev l at0 term es).2.2=true):at0 + (es.length:Int)<=(yev l at0 term es).2.1:=by
  unfold yev at h ⊢
  split at h
  .rename_i h1
   rw [qe h1]
   split at h
   .rename_i h2
    rw [qe h2]
    show _<=l.yn
    omega
   .rename_i h2
    rw [qc h2,ybrk h]
    simp
    omega
  .rename_i h1
   rw [qc h1,ybrk h]
   exact qh _
structure Got (B b W:Int) (r s:ye) (x:yj):Prop where
  ok:OkR B r
  n5:r.N<=5
  rl:r.ym=3->ydl r
  sl:s.ym=3->ydl s
  sN:s.N=r.N
  sI:s.Id=x.From
  rb:yci r<=b
  sb:yac s.yg<=b
  b0:0<=b
  w:4 * b + 3<=W
  at0:0<=x.At
  to:x.To=r.Id
  f1:1<=x.From
  f2:x.From<=r.N
  fn:x.From≠r.Id
  acc:x.yae=5->s.ym=3->x.yc=s.yc->r.yc<=x.yc->x.At<=yar s r.Id->(yev r.yg x.At x.ybf x.yi).2.2=true
  one:s.ym=3->r.ym=3->s.yc=r.yc->False
theorem yabq(W:Int)(h:r.ym=0):ycx W r=0:=by unfold ycx; rw [h]; rfl
theorem yrs(hW:0<=W)(r:ye):0<=ycx W r:=by unfold ycx; split; omega; split <;> omega
theorem Got.back(g:Got B b W r s x)(hk:x.yae=5\/x.yae=7)(hy6:y.yae=6)(hyf:y.From=r.Id)(hm:yhr W r q)(hp:ycx W q<=ycx W r)
    (hf:s.ym=3->x.yc=s.yc->y.yc=s.yc->ymu s x->yor s y):Dec W r s x (q,[y]):=by
  have hid:=g.ok.id
  refine ⟨hm,?_⟩
  have:=yceh (W:=W) (s:=s) (x:=x) (y:=y) (by have:=g.w; have:=g.b0; omega) g.sl (fun _=>by have:=g.sb; have:=g.w; omega) hk (by rw [hyf,g.to]) (by rw [g.to]; omega) (by rw [g.to,g.sN]; omega) (by rw [g.to,g.sI]; exact fun e=>g.fn e.symm) hf
  show ycx W q + ygg W q s [y] + 1<=_
  have e1:wtX W q s y=wtB W s y:=by unfold wtX; rw [qc (by omega),qe hy6]
  have e2:wtX W s r x=wtA W s x:=by unfold wtX; rw [qe hk]
  rw [yrw,e1,e2]
  omega
theorem yavj(g:Got B b W r s x)(hT:x.yae=1\/(x.yae=2/\x.Ok=true)\/x.yc<=r.yc):Dec W r s x (ydq r x):=by
  have hb0:=g.b0; have hw:=g.w; have hrb:=g.rb; have hlv:=yhz r
  have hw1:∀ k:Int,x.yae=k->k≠5->k≠7->k≠6->wtX W s r x=if k=1\/k=3 then 2 else 1:=fun k e a1 a2 a3=>by
    unfold wtX
    rw [qc (by omega),qc (by omega),e]
  have hyo:∀ (q:ye) (k t a:Int) (o:Bool) (q':ye),k=2\/k=4->wtX W q s (ydr q' x k t a o) = 1:=fun q k t a o q' hk=>by
    unfold wtX
    have:(ydr q' x k t a o).yae=k:=rfl
    rw [this,qc (by omega),qc (by omega),qc (by omega)]
  have stay:∀ {q:ye},yhr W r q->ycx W q<=ycx W r->1<=wtX W s r x->Dec W r s x (q,[]):=fun {q} hm hp h1=>⟨hm,by show ycx W q + ygg W q s [] + 1<=_; rw [yrv]; omega⟩
  unfold ydq
  split
  .rename_i hk
   refine ⟨.refl,?_⟩
   show ycx W r + ygg W r s [_] + 1<=_
   rw [yrw,hyo _ _ _ _ _ _ (.inl rfl),hw1 1 hk (by decide) (by decide) (by decide),qe (.inl rfl)]
   omega
  split
  .rename_i hk
   have e1:=hw1 2 hk (by decide) (by decide) (by decide)
   rw [qc (by decide)] at e1
   unfold yit
   split
   .rename_i hg
    have hr:r.ym=1:=hg.2.1
    have hgo:=yfr (x:=x) g.ok true
    have epr:ycx W r=4 * (W + 1) + 8:=by unfold ycx; rw [qe hr]
    have elv:yci r=yac r.yg + 1:=by unfold yci; rw [hr]; simp
    split
    .unfold yea
     split
     .have hq:=yll (r:=yat r x) hgo (by have:=g.ok.term; omega)
      have hs:=yafz (W:=W) (s:=s) hq g.n5 (by show 4 * (yac r.yg + 1) + 3<=W; omega)
      have hm1:yhr W r (yas (yat r x)):=.mid (.inl hr) (.inr rfl)
      have hm2:=yaod (W:=W) hq (.inr rfl) (by show 4 * (yac r.yg + 1) + 3<=W; omega)
      refine ⟨hm1.trans hm2 rfl rfl,?_⟩
      have e2:ycx W (yco (yas (yat r x))).1=0:=by unfold ycx; rw [yia]; rfl
      rw [e1,epr,e2]
      omega
     .refine ⟨.mid (.inl hr) (.inr rfl),?_⟩
      have e2:ycx W (yas (yat r x)) = 4 * (W + 1):=rfl
      have hs:=yxt (W:=W) (fr:=yas (yat r x)) (to:=s) (c:=2) (by omega) (l:=(yca (yat r x)).map (yex (yas (yat r x)))) (k:=4) (fun y hy=>by
        obtain ⟨to,_,rfl⟩:=wh.1 hy
        exact qh _) (by
        rw [wj]
        show (yca r).length<=4
        exact yyu g.ok g.n5)
      show ycx W (yas (yat r x)) + ygg W (yas (yat r x)) s ((yca (yat r x)).map (yex (yas (yat r x)))) + 1<=_
      rw [e1,epr,e2]
      omega
    .exact stay (.same rfl rfl rfl rfl rfl) (qh _) (by omega)
   .exact stay .refl (qh _) (by omega)
  split
  .rename_i hk
   have e1:=hw1 3 hk (by decide) (by decide) (by decide)
   rw [qe (.inr rfl)] at e1
   unfold yjf
   split
   .refine ⟨.same rfl rfl rfl rfl rfl,?_⟩
    show ycx W r + ygg W _ s [_] + 1<=_
    rw [yrw,hyo _ _ _ _ _ _ (.inr rfl),e1]
    omega
   .refine ⟨.refl,?_⟩
    show ycx W r + ygg W r s [_] + 1<=_
    rw [yrw,hyo _ _ _ _ _ _ (.inr rfl),e1]
    omega
  split
  .rename_i hk
   have e1:=hw1 4 hk (by decide) (by decide) (by decide)
   rw [qc (by decide)] at e1
   unfold ygb
   split
   .rename_i hg
    have hr:r.ym=2:=hg.2.1
    have hgo:=yfr (x:=x) g.ok true
    have epr:ycx W r=4 * (W + 1):=by unfold ycx; rw [qc (by omega),qe hr]
    have elv:yci r=yac r.yg + 1:=by unfold yci; rw [hr]; simp
    split
    .have hs:=yafz (W:=W) (s:=s) hgo g.n5 (by show 4 * (yac r.yg + 1) + 3<=W; omega)
     have hm1:yhr W r (yat r x):=.same rfl rfl rfl rfl rfl
     have hm2:=yaod (W:=W) hgo (.inr hr) (by show 4 * (yac r.yg + 1) + 3<=W; omega)
     refine ⟨hm1.trans hm2 rfl rfl,?_⟩
     have e2:ycx W (yco (yat r x)).1=0:=by unfold ycx; rw [yia]; rfl
     rw [e1,epr,e2]
     omega
    .exact stay (.same rfl rfl rfl rfl rfl) (qh _) (by omega)
   .exact stay .refl (qh _) (by omega)
  split
  .rename_i hk
   have hT':x.yc<=r.yc:=by omega
   unfold yfo
   split
   .rename_i hd
    refine g.back (.inl hk) rfl rfl .refl (qh _) fun h3 ht hty _=>?_
    exfalso
    unfold yld at hd
    simp only [ju,wv] at hd
    have hty:r.yc=s.yc:=hty
    rcases hd with hd | hd
    .omega
    .exact g.one h3 hd hty.symm
   .have hz:ycx W (yec r x)<=ycx W r:=by rw [yabq W (show (yec r x).ym=0 from rfl)]; exact yrs (by omega) r
    have hmh:∀ {q:ye},q.ym=0->yhr W r q:=fun hq=>.down hq (by omega) g.rl
    have hd:¬ yld r x=true:=by assumption
    simp only
    split
    .rename_i hok
     refine g.back (.inl hk) rfl rfl (hmh rfl) ?_ fun h3 ht hty hA=>.inl ⟨rfl,?_⟩
     .rw [yabq W (by rfl)]; exact yrs (by omega) r
     .have hn:=ybrm hok
      have hAt:=hA.1
      rw [g.to] at hAt
      show yar s r.Id < (yev r.yg x.At x.ybf x.yi).2.1\/yac s.yg<=yar s r.Id
      omega
    .rename_i hok
     refine g.back (.inl hk) rfl rfl (hmh rfl) hz fun h3 ht hty hA=>.inr ⟨rfl,?_⟩
     have hty:(yec r x).yc=s.yc:=hty
     have hA2:=hA.2
     rw [g.to] at hA2
     rcases hA2 with h7 | hle | h
     .omega
     .exact absurd (g.acc hk h3 ht (by
        unfold yec yai at hty
        simp only at hty
        split at hty <;> omega) hle) hok
     .exact h
  split
  .rename_i hk
   exact ycbp g.ok g.rl (by omega) g.ok.log.b hk g.at0 g.f1 g.f2 g.fn (by omega)
  split
  .rename_i hk
   have hT':x.yc<=r.yc:=by omega
   unfold yky
   split
   .rename_i hd
    refine g.back (.inr hk) rfl rfl .refl (qh _) fun h3 ht hty _=>?_
    exfalso
    unfold yld at hd
    simp only [ju,wv] at hd
    have hty:r.yc=s.yc:=hty
    rcases hd with hd | hd
    .omega
    .exact g.one h3 hd hty.symm
   .have hmh:∀ {q:ye},q.ym=0->yhr W r q:=fun hq=>.down hq (by omega) g.rl
    simp only
    split
    .refine g.back (.inr hk) rfl rfl (hmh rfl) (by rw [yabq W (by rfl)]; exact yrs (by omega) r) fun h3 ht hty hA=>.inl ⟨rfl,?_⟩
     have hAt:=hA.1
     rw [g.to] at hAt
     show yar s r.Id < x.At\/yac s.yg<=yar s r.Id
     omega
    .refine g.back (.inr hk) rfl rfl (hmh rfl) (by rw [yabq W (by rfl)]; exact yrs (by omega) r) fun h3 ht hty hA=>.inl ⟨rfl,?_⟩
     have hAt:=hA.1
     rw [g.to] at hAt
     show yar s r.Id < r.yl\/yac s.yg<=yar s r.Id
     omega
  .refine stay .refl (qh _) ?_
   unfold wtX
   rw [qc (by omega),qc (by omega)]
   split <;> omega
theorem Got.follow(g:Got B b W r s x)(hx:x.yc<=B)(hr:r.yc < x.yc):Got B b W (yai r x.yc 0) s x:=by
  have hlv:=yhz r; have hrb:=g.rb
  refine { g with ok:=yjj g.ok hx,rl:=fun h=>absurd (show (0:Int) = 3 from h) (by decide),rb:=?_,acc:=fun a1 a2 a3 _ a5=>g.acc a1 a2 a3 (Int.le_of_lt hr) a5,one:=fun _ h=>absurd (show (0:Int) = 3 from h) (by decide) }
  unfold yci
  have e:(yai r x.yc 0).ym=0:=rfl
  rw [e,qc (by decide)]
  show yac r.yg + 0<=b
  omega
theorem yaws(g:Got B b W r s x)(hx:OkM B x)(hB:B<=1000000):Dec W r s x (yaj r x):=by
  have hxt:=hx.term; have hf1:=g.f1; have hf2:=g.f2; have hfn:=g.fn; have hat:=g.at0; have hto:=g.to
  have hb0:=g.b0; have hw:=g.w
  have hrf:ydg r x=false:=by
    unfold ydg
    simp only [js,jk]
    omega
  unfold yaj
  rw [hrf,qc qw]
  by_cases hr:yje r x=true
  .rw [qe hr]
   unfold yje at hr
   simp only [qq,wv] at hr
   have gf:=g.follow hxt.2 hr.1
   have hd:=yavj gf (.inr (.inr (by
     show x.yc<=(if r.yc < x.yc then x.yc else r.yc)
     rw [qe hr.1]
     exact qh _)))
   have hm:yhr W r (yai r x.yc 0):=.down rfl (by omega) g.rl
   refine ⟨hm.trans hd.mono rfl rfl,?_⟩
   have h1:=hd.less
   rw [yabq W (show (yai r x.yc 0).ym=0 from rfl)] at h1
   have h2:=yrs (W:=W) (by omega) r
   have h3:wtX W s (yai r x.yc 0) x<=wtX W s r x:=by
     unfold wtX
     split
     .exact qh _
     .split
      .exact (hm x).2 hf1 hf2 hfn
      .exact qh _
   omega
  .rw [qc hr]
   refine yavj g ?_
   unfold yje at hr
   simp only [qq,wv,ju,not_and,not_or,Bool.not_eq_true',jq] at hr
   by_cases ht:x.yc<=r.yc
   .exact .inr (.inr ht)
   .by_cases hk:x.yae=1
    .exact .inl hk
    .obtain ⟨h1,h2⟩:=hr (by omega) hk
     exact .inr (.inl ⟨h1,by simpa using h2⟩)
end
end Go.Proofs.Ytgoachcogmlhcaa.R
set_option maxRecDepth 100000
set_option linter.unusedVariables false
set_option linter.unusedSimpArgs false
noncomputable section
namespace Go.Proofs.Ytgoachcogmlhcaa.R
open Go
section
variable {B b W:Int} {r s q:ye} {x y:yj}
def rOf(R:List ye)(id:Int):ye:=(R[(id - 1).toNat]?).getD ylo
def wtW(W:Int)(R:List ye)(x:yj):Int:=wtX W (rOf R x.From) (rOf R x.To) x
def ykg(W:Int)(R:List ye)(l:List yj):Int:=(l.map (wtW W R)).sum
def yva(W:Int)(l:List ye):Int:=(l.map (ycx W)).sum
def phi(W:Int)(w:yab):Int:=ykg W w.R w.Net + yva W w.R
theorem yagj:∀ {l:List ye} {i:Nat} {r q:ye},l[i]? = some r->yva W (l.set i q) + ycx W r=yva W l + ycx W q
  | [],i,r,q,h=>by simp at h
  | x :: l,0,r,q,h=>by
    simp at h
    subst h
    simp [yva]
    omega
  | x :: l,i + 1,r,q,h=>by
    have:=yagj (q:=q) (show l[i]? = some r by simpa using h)
    unfold yva at *
    simp only [List.set_cons_succ,wr,List.sum_cons]
    omega
theorem yagf(R:List ye)(l m:List yj):ykg W R (l++m) = ykg W R l + ykg W R m:=by simp [ykg]
theorem ylw(R:List ye)(x:yj)(l:List yj):ykg W R (x :: l) = wtW W R x + ykg W R l:=by simp [ykg]
def ysb(n:Nat)(x:yj):Prop:=1<=x.From/\x.From<=(n:Int)/\1<=x.To/\x.To<=(n:Int)/\x.From≠x.To
theorem yja{R:List ye}{i:Nat}(hi:i < R.length){id:Int}(h1:1<=id):rOf (R.set i q) id=if id=(i:Int) + 1 then q else rOf R id:=by
  unfold rOf
  by_cases he:id=(i:Int) + 1
  .have e:(id - 1).toNat=i:=by omega
   rw [qe he,e,wu hi]
   rfl
  .rw [qc he,ja (by omega)]
theorem yamy{R:List ye}{i:Nat}(h:R[i]? = some r):rOf R ((i:Int) + 1) = r:=by
  unfold rOf
  have e:((i:Int) + 1 - 1).toNat=i:=by omega
  rw [e,h]
  rfl
theorem ycbw{n:Nat}{R:List ye}{i:Nat}(h:R[i]? = some r)(hid:r.Id=(i:Int) + 1)(hN:r.N=(n:Int))(hm:yhr W r q)(ha:ysb n y):wtW W (R.set i q) y<=wtW W R y:=by
  obtain ⟨a1,a2,a3,a4,a5⟩:=ha
  have hi:i < R.length:=by
    rcases qz i R.length with h' | h'
    .exact h'
    .rw [qm h'] at h; cases h
  unfold wtW wtX
  rw [yja hi a1,yja hi a3]
  split
  .split
   .rename_i e
    rw [e,yamy h]
    exact (hm y).1 a3 (by omega) (by omega)
   .exact qh _
  .split
   .split
    .rename_i e
     rw [e,yamy h]
     exact (hm y).2 a1 (by omega) (by omega)
    .exact qh _
   .exact qh _
theorem ywd{n:Nat}{R:List ye}{i:Nat}(h:R[i]? = some r)(hid:r.Id=(i:Int) + 1)(hN:r.N=(n:Int))(hm:yhr W r q):∀ {l:List yj},(∀ y∈l,ysb n y)->ykg W (R.set i q) l<=ykg W R l
  | [],_=>qh _
  | y :: l,ha=>by
    have h1:=ycbw h hid hN hm (ha y qv)
    have h2:=ywd h hid hN hm (l:=l) fun z hz=>ha z (ql _ hz)
    rw [ylw,ylw]
    omega
theorem ydhi(hW:1<=W)(hl:r.ym=3->ydl r)(h1:1<=x.To)(h2:x.To<=r.N)(h3:x.To≠r.Id):0<=wtA W r x:=by
  unfold wtA
  split
  .rename_i hr
   have:=(yqq (hl hr) h1 h2 h3).1
   split
   .split <;> omega
   .omega
  .split <;> omega
theorem yamt{R:List ye}{i:Nat}(hi:i < R.length){id:Int}(hq:q.Id=(i:Int) + 1):∀ {l:List yj},(∀ y∈l,y.From=q.Id/\1<=y.To/\(y.yae=6->y.To=id/\id≠q.Id))->ykg W (R.set i q) l=ygg W q (rOf R id) l
  | [],_=>rfl
  | y :: l,h=>by
    obtain ⟨h1,h2,h3⟩:=h y qv
    have ih:=yamt hi hq (id:=id) (l:=l) fun z hz=>h z (ql _ hz)
    have e:wtW W (R.set i q) y=wtX W q (rOf R id) y:=by
      have e0:y.From=(i:Int) + 1:=by omega
      unfold wtW wtX
      rw [yja (q:=q) (id:=y.From) hi (by omega),qe e0,yja (q:=q) (id:=y.To) hi h2]
      split
      .rfl
      .split
       .rename_i h6
        obtain ⟨e1,e2⟩:=h3 h6
        rw [qc (by omega),e1]
       .rfl
    have e2:ygg W q (rOf R id) (y :: l) = wtX W q (rOf R id) y + ygg W q (rOf R id) l:=by simp [ygg]
    rw [ylw,e,ih,e2]
end
end Go.Proofs.Ytgoachcogmlhcaa.R
set_option maxRecDepth 100000
set_option linter.unusedVariables false
set_option linter.unusedSimpArgs false
noncomputable section
namespace Go.Proofs.Ytgoachcogmlhcaa.R
open Go
section
variable {B b W:Int} {r s q:ye} {x y:yj}
structure yon (r:ye) (f:Int) (p:ye × List yj):Prop where
  a:∀ y∈p.2,y.From=r.Id/\1<=y.To/\y.To<=r.N/\y.To≠r.Id/\(y.yae=6->y.To=f)
  l:p.1.ym=3->ydl p.1
theorem yon.none{f:Int}(h:q.ym=3->ydl q):yon r f (q,[]):=⟨fun y hy=>absurd hy wz,h⟩
theorem yon.back{k t a:Int}{o:Bool}{q':ye}(h:q.ym=3->ydl q)(hq:q'.Id=r.Id)(h1:1<=x.From)(h2:x.From<=r.N)(h3:x.From≠r.Id):yon r x.From (q,[ydr q' x k t a o]):=
  ⟨fun y hy=>by
    rw [wb] at hy
    subst hy
    exact ⟨hq,h1,h2,h3,fun _=>rfl⟩,h⟩
theorem yaoe(h:OkR B r)(f:Int):yon r f (yco r):=by
  obtain ⟨i1,i2,_⟩:=yrm r
  refine ⟨fun y hy=>?_,fun _=>yym h⟩
  have hy:y∈(yca r).map (ybj (yco r).1):=hy
  obtain ⟨to,ht,rfl⟩:=wh.1 hy
  obtain ⟨t1,t2,t3⟩:=ygl h ht
  obtain ⟨e1,e2,e3,e4⟩:=yel (r:=(yco r).1) to
  rw [e1,e2,i1]
  exact ⟨rfl,t1,t2,t3,fun h6=>by omega⟩
theorem yaku(h:OkR B r)(hB0:0<=B)(f:Int):yon r f (yea r):=by
  unfold yea
  split
  .obtain ⟨a,l⟩:=yaoe (yll h hB0) f
   exact ⟨a,l⟩
  .refine ⟨fun y hy=>?_,fun h3=>absurd (show (2:Int) = 3 from h3) (by decide)⟩
   obtain ⟨to,ht,rfl⟩:=wh.1 hy
   obtain ⟨t1,t2,t3⟩:=ygl h ht
   exact ⟨rfl,t1,t2,t3,fun h6=>absurd (show (3:Int) = 6 from h6) (by decide)⟩
theorem ybuj(h:OkR B r)(hB0:0<=B)(draw f:Int):yon r f (yhx r draw):=by
  unfold yhx
  split
  .obtain ⟨a,l⟩:=yaku (yrh h hB0 draw) hB0 f
   exact ⟨a,l⟩
  .refine ⟨fun y hy=>?_,fun h3=>absurd (show (1:Int) = 3 from h3) (by decide)⟩
   obtain ⟨to,ht,rfl⟩:=wh.1 hy
   obtain ⟨t1,t2,t3⟩:=ygl h ht
   exact ⟨rfl,t1,t2,t3,fun h6=>absurd (show (1:Int) = 6 from h6) (by decide)⟩
theorem ydl.of(h:ydl r)(h1:q.Id=r.Id)(h2:q.N=r.N)(h3:q.Next=r.Next)(h4:q.yaa=r.yaa)(h5:q.yg=r.yg):ydl q:=by
  have e1:∀ to,yax q to=yax r to:=fun to=>by unfold yax; rw [h3]
  have e2:∀ to,yar q to=yar r to:=fun to=>by unfold yar; rw [h4]
  exact ⟨fun to a b c=>by rw [e2]; exact h.m0 to a (by omega) (by omega),fun to a b c=>by rw [e1,e2]; exact h.mn to a (by omega) (by omega),fun to a b c=>by rw [e1,h5]; exact h.nl to a (by omega) (by omega)⟩
theorem ytb(h:OkR B r)(hB0:0<=B)(hl:r.ym=3->ydl r)(draw f:Int):yon r f (ycj r draw):=by
  unfold ycj
  simp only
  split
  .rename_i h3
   have hL:=hl h3
   split
   .refine ⟨fun y hy=>?_,fun _=>hL.of rfl rfl rfl rfl rfl⟩
    obtain ⟨to,ht,rfl⟩:=wh.1 hy
    obtain ⟨t1,t2,t3⟩:=ygl h ht
    obtain ⟨e1,e2,e3,e4⟩:=yel (r:={ r with yu:=0 }) to
    rw [e1,e2]
    exact ⟨rfl,t1,t2,t3,fun h6=>by omega⟩
   .exact .none fun _=>hL.of rfl rfl rfl rfl rfl
  .rename_i h3
   split
   .obtain ⟨a,l⟩:=ybuj (ypm h) (by omega) draw f
    exact ⟨a,l⟩
   .exact .none fun h=>absurd h h3
theorem yaov(h:OkR B r)(hB0:0<=B)(hl:r.ym=3->ydl r)(h1:1<=x.From)(h2:x.From<=r.N)(h3:x.From≠r.Id):yon r x.From (ydq r x):=by
  have h0:∀ {q:ye},q.ym=0->q.ym=3->ydl q:=fun a b=>by omega
  unfold ydq
  split
  .exact .back hl rfl h1 h2 h3
  split
  .unfold yit
   split
   .rename_i hg
    split
    .obtain ⟨a,l⟩:=yaku (yfr (x:=x) h true) hB0 x.From
     exact ⟨a,l⟩
    .exact .none fun h=>by
       have h:r.ym=3:=h
       omega
   .exact .none hl
  split
  .unfold yjf
   split
   .exact .back (q:={ r with yan:=x.From,yu:=0 }) (fun h=>(hl h).of rfl rfl rfl rfl rfl) rfl h1 h2 h3
   .exact .back hl rfl h1 h2 h3
  split
  .unfold ygb
   split
   .rename_i hg
    split
    .obtain ⟨a,l⟩:=yaoe (yfr (x:=x) h true) x.From
     exact ⟨a,l⟩
    .exact .none fun h=>by
       have h:r.ym=3:=h
       omega
   .exact .none hl
  split
  .unfold yfo
   split
   .exact .back hl rfl h1 h2 h3
   .simp only
    split
    .exact .back (h0 rfl) rfl h1 h2 h3
    .exact .back (h0 rfl) rfl h1 h2 h3
  split
  .unfold yfx
   split
   .exact .none hl
   .rename_i hr
    have hr3:r.ym=3:=by
      rcases Classical.em (r.ym=3) with h | h
      .exact h
      .exact absurd (.inr h) hr
    have hL:=hl hr3
    have e2:(ybe r x).N=r.N:=yfn
    have e1:(ybe r x).Id=r.Id:=ygj
    have hq:=ytu (x:=x) h hr3 hL h1 h2 h3
    have hp:=yzz (x:=x) h hr3 hL h1 h2 h3
    have one:∀ {q:ye},q.Id=r.Id->ydl q->yon r x.From (q,[ybj q x.From]):=fun {q} ei hq=>⟨fun y hy=>by
      rw [wb] at hy
      subst hy
      obtain ⟨a1,a2,a3,a4⟩:=yel (r:=q) x.From
      rw [a1,a2,ei]
      exact ⟨rfl,h1,h2,h3,fun _=>rfl⟩,fun _=>hq⟩
    split
    .split
     .exact .none fun _=>hq
     .exact one e1 hq
    .exact one rfl hp
  split
  .unfold yky
   split
   .exact .back hl rfl h1 h2 h3
   .simp only
    split
    .exact .back (h0 rfl) rfl h1 h2 h3
    .exact .back (h0 rfl) rfl h1 h2 h3
  .exact .none hl
theorem yqv(h:OkR B r)(hB0:0<=B)(hx:x.yc<=B)(hl:r.ym=3->ydl r)(h1:1<=x.From)(h2:x.From<=r.N)(h3:x.From≠r.Id):yon r x.From (yaj r x):=by
  unfold yaj
  split
  .exact .none hl
  .split
   .obtain ⟨a,l⟩:=yaov (yjj h (t:=x.yc) (l:=0) hx) hB0 (fun h=>absurd (show (0:Int) = 3 from h) (by decide)) h1 h2 h3
    exact ⟨a,l⟩
   .exact yaov h hB0 hl h1 h2 h3
end
end Go.Proofs.Ytgoachcogmlhcaa.R
set_option maxRecDepth 100000
set_option linter.unusedVariables false
set_option linter.unusedSimpArgs false
noncomputable section
namespace Go.Proofs.Ytgoachcogmlhcaa.R
open Go
structure yju (B b:Int) (n:Nat) (g:Gh) (w:yab):Prop where
  ok:OkB B n w
  lead:∀ (k:Nat) (r:ye),w.R[k]? = some r->r.ym=3->ydl r
  last:∀ (k:Nat) (r:ye),w.R[k]? = some r->yci r<=b
  addr:∀ x∈w.Net,ysb n x
  msg:∀ x∈w.Net,MsgL b x
  gh:InvG n w g
section
variable {B b W:Int} {n:Nat} {g:Gh} {w:yab} {r s q:ye} {x y:yj}
theorem yavb{R:List ye}{i k:Nat}{q p:ye}(hi:R[i]? = some r)(h:(R.set i p)[k]? = some q):(k=i/\q=p)\/(k≠i/\R[k]? = some q):=by
  have hlt:i < R.length:=by
    rcases qz i R.length with h' | h'
    .exact h'
    .rw [qm h'] at hi; cases hi
  by_cases hk:k=i
  .subst hk
   rw [wu hlt] at h
   exact .inl ⟨rfl,(qd h).symm⟩
  .rw [ja (fun e=>hk e.symm)] at h
   exact .inr ⟨hk,h⟩
theorem yju.act{g':Gh}{i:Nat}{p:ye × List yj}{net:List yj}{B' b' f:Int}(h:yju B b n g w)(hi:w.R[i]? = some r)(hbb:b<=b')(hok:OkB B' n ⟨w.R.set i p.1,net⟩)(hg:InvG n ⟨w.R.set i p.1,net⟩ g')
    (hs:yon r f p) (ht:yma p) (hl:yci p.1<=b') (hn:∀ y∈net,y∈w.Net\/y∈p.2):yju B' b' n g' ⟨w.R.set i p.1,net⟩:=by
  obtain ⟨B0,hB0,hw0,_⟩:=h.ok
  obtain ⟨m1,m2,m3⟩:=hw0.mem i r hi
  have hlt:i < w.R.length:=by
    rcases qz i w.R.length with h' | h'
    .exact h'
    .rw [qm h'] at hi; cases hi
  have hself:(w.R.set i p.1)[i]? = some p.1:=wu hlt
  refine ⟨hok,fun k q hq h3=>?_,fun k q hq=>?_,fun y hy=>?_,fun y hy=>?_,hg⟩
  .rcases yavb hi hq with ⟨_,rfl⟩ | ⟨_,hq⟩
   .exact hs.l h3
   .exact h.lead k q hq h3
  .rcases yavb hi hq with ⟨_,rfl⟩ | ⟨_,hq⟩
   .exact hl
   .have:=h.last k q hq; omega
  .rcases hn y hy with hy | hy
   .exact h.addr y hy
   .obtain ⟨a1,a2,a3,a4,_⟩:=hs.a y hy
    have:=m1.id
    exact ⟨by omega,by omega,a2,by omega,by omega⟩
  .rcases hn y hy with hy | hy
   .have:=h.msg y hy
    exact ⟨fun e=>by have:=this.e e; omega,fun e=>by have:=this.s e; omega⟩
   .by_cases hk:y.yae=5\/y.yae=7
    .obtain ⟨h3,to,t1,t2,rfl⟩:=ht y hy hk
     obtain ⟨B1,hB1,hw1,_⟩:=hok
     have hm:=hg.mem i p.1 hself
     have hb:=yhz p.1
     exact ybiu (hw1.mem i p.1 hself).1 h3 (hm.lead h3).x (by omega) t1 t2
    .exact ⟨fun e=>absurd (.inl e) hk,fun e=>absurd (.inr e) hk⟩
theorem ybjg(hi:ydy n g)(hr:yej n g r)(hs:yej n g s)(hm:yhb n g x)(h5:x.yae=5)(h3:s.ym=3)(ht:x.yc=s.yc)(hle:r.yc<=x.yc)(h1:1<=r.Id)(hat0:0<=x.At)(hat:x.At<=yar s r.Id):(yev r.yg x.At x.ybf x.yi).2.2=true:=by
  obtain ⟨e1,e2,e3,e4,_⟩:=hm.ents h5
  have hl:=hr.log
  have hb0:=hl.b0; have hb:=hl.b
  have hA:x.At<=(g.A r.Id x.yc:Int):=by
    unfold yar at hat
    cases hv:s.yaa[(r.Id - 1).toNat]? with
    | none=>
      rw [hv] at hat
      simp at hat
      omega
    | some v=>
      rw [hv] at hat
      have:=(hs.lead h3).m _ v hv
      rw [show (((r.Id - 1).toNat:Nat):Int) + 1=r.Id by omega,← ht] at this
      simp at hat
      omega
  have key:r.yg.yn<=x.At->ycz r.yg x.At=some x.ybf:=by
    intro hbase
    by_cases hlt:r.yc < x.yc
    .have h0:=hi.a0 r.Id x.yc (by rw [hr.T]; exact hlt)
     have hz:x.At=0:=by omega
     rw [hz] at e4 hbase ⊢
     rw [hl.term_at hbase (by simp),e4]
     simp [yagz]
    .have hT:g.T r.Id=x.yc:=by rw [hr.T]; omega
     obtain ⟨f1,f2⟩:=hi.aF r.Id
     rw [hT] at f1 f2
     rw [hl.term_at hbase (by omega),e4]
     congr 1
     exact yjq (by omega) f1
  unfold yev
  split
  .split
   .rfl
   .unfold ylm
    have:ycz r.yg r.yg.yn=some r.yg.yv:=by unfold ycz; rw [qe rfl]
    rw [this]
    simp
  .unfold ylm
   rw [key (by omega)]
   simp
end
end Go.Proofs.Ytgoachcogmlhcaa.R
set_option maxRecDepth 100000
set_option linter.unusedVariables false
set_option linter.unusedSimpArgs false
noncomputable section
namespace Go.Proofs.Ytgoachcogmlhcaa.R
open Go
section
variable {B b W:Int} {n:Nat} {g:Gh} {w:yab} {r s q:ye} {x y:yj}
theorem yju.at_(h:yju B b n g w){id:Int}(h1:1<=id)(h2:id<=(n:Int)):∃ r,w.R[(id - 1).toNat]? = some r/\rOf w.R id=r/\OkR B r/\r.Id=id/\r.N=(n:Int):=by
  have hw:=h.ok.w
  have hl:=hw.len
  have hlt:(id - 1).toNat < w.R.length:=by omega
  have e:=qj hlt
  obtain ⟨m1,m2,m3⟩:=hw.mem _ _ e
  refine ⟨_,e,?_,m1,by omega,m3⟩
  unfold rOf
  rw [e]
  rfl
theorem yafp(h:yju B b n g w){net:List yj}(hnet:w.Net=x :: net):∃ r,w.R[(x.To - 1).toNat]? = some r/\rOf w.R x.To=r/\OkR B r/\r.Id=x.To/\r.N=(n:Int) /\
    ycw w = ⟨w.R.set (x.To - 1).toNat (yaj r x).1,last60 (net++(yaj r x).2)⟩:=by
  obtain ⟨a1,a2,a3,a4,a5⟩:=h.addr x (by rw [hnet]; exact qv)
  obtain ⟨r,e1,e2,e3,e4,e5⟩:=h.at_ a3 a4
  have hl:=h.ok.w.len
  refine ⟨r,e1,e2,e3,e4,e5,?_⟩
  rw [ywl hnet,qc (by omega),e1]
  rfl
theorem yaay(h:yju B b n g w):∃ k g',yfy k g g'/\yju B b n g' (ycw w):=by
  cases hnet:w.Net with
  | nil=>
    have:ycw w=w:=by unfold ycw; rw [hnet]
    rw [this]
    exact ⟨0,g,yfy.refl _ _,h⟩
  | cons x net=>
    obtain ⟨st,hok⟩:=ytn false h.ok
    obtain ⟨B0,hB0,_,_⟩:=h.ok
    obtain ⟨r,e1,e2,e3,e4,e5,e6⟩:=yafp h hnet
    have hB1:0<=B:=by have:=e3.term; omega
    obtain ⟨k,g',he,hg⟩:=yacd h.ok.w hB1 h.gh st
    have hx:x∈w.Net:=by rw [hnet]; exact qv
    obtain ⟨a1,a2,a3,a4,a5⟩:=h.addr x hx
    have hxo:=h.ok.w.net x hx
    rw [e6] at hok hg ⊢
    refine ⟨k,g',he,h.act e1 (qh _) hok hg (yqv e3 hB1 hxo.term.2 (h.lead _ _ e1) a1 (by omega) (by omega)) (yth e3 hB1 hxo) (yabx (h.last _ _ e1) (h.msg x hx)) fun y hy=>?_⟩
    rcases qt.1 (ymi hy) with hy | hy
    .exact .inl (by rw [hnet]; exact ql _ hy)
    .exact .inr hy
theorem yamm(hW:1<=W)(h:yju B b n g w):∀ {l:List yj},(∀ y∈l,ysb n y)->0<=ykg W w.R l
  | [],_=>qh _
  | y :: l,ha=>by
    obtain ⟨a1,a2,a3,a4,a5⟩:=ha y qv
    have ih:=yamm hW h (l:=l) fun z hz=>ha z (ql _ hz)
    obtain ⟨r,e1,e2,e3,e4,e5⟩:=h.at_ a1 a2
    obtain ⟨s,f1,f2,f3,f4,f5⟩:=h.at_ a3 a4
    have:0<=wtW W w.R y:=by
      unfold wtW wtX
      rw [e2,f2]
      split
      .exact ydhi hW (h.lead _ _ e1) a3 (by omega) (by omega)
      .split
       .have:=ybbg hW (h.lead _ _ f1) (x:=y) a1 (by omega) (by omega)
        omega
       .split <;> omega
    rw [ylw]
    omega
theorem yaes(hW:1<=W)(h:yju B b n g w){l:List yj}(ha:∀ y∈l,ysb n y):ykg W w.R (last60 l)<=ykg W w.R l:=by
  unfold last60
  split
  .have e:ykg W w.R l=ykg W w.R (l.take (l.length - 60)) + ykg W w.R (l.drop (l.length - 60)):=by rw [← yagf,List.take_append_drop]
   have:=yamm hW h (l:=l.take (l.length - 60)) fun y hy=>ha y (List.mem_of_mem_take hy)
   omega
  .exact qh _
theorem ybck(h:yju B b n g w)(hB:B<=1000000)(hb:0<=b)(hW:4 * b + 3<=W)(hne:w.Net≠[]):phi W (ycw w) + 1<=phi W w:=by
  cases hnet:w.Net with
  | nil=>exact absurd hnet hne
  | cons x net=>
    obtain ⟨k,g',he,hi'⟩:=yaay h
    obtain ⟨r,e1,e2,e3,e4,e5,e6⟩:=yafp h hnet
    have hx:x∈w.Net:=by rw [hnet]; exact qv
    obtain ⟨a1,a2,a3,a4,a5⟩:=h.addr x hx
    obtain ⟨s,f1,f2,f3,f4,f5⟩:=h.at_ a1 a2
    have hxo:=h.ok.w.net x hx
    have hn5:=h.ok.w.n1
    have hB1:0<=B:=by have:=e3.term; omega
    have mr:=h.gh.mem _ _ e1
    have ms:=h.gh.mem _ _ f1
    have hgot:Got B b W r s x:={
      ok:=e3,n5:=by omega,rl:=h.lead _ _ e1,sl:=h.lead _ _ f1,sN:=by omega,sI:=f4,rb:=h.last _ _ e1,
      sb:=by have:=h.last _ _ f1; have:=yhz s; omega,b0:=hb,w:=hW,at0:=hxo.at0.1,to:=e4.symm,f1:=a1,f2:=by omega,fn:=by omega,
      acc:=fun k5 k3 kt kle kat=>ybjg h.gh.inv mr ms (h.gh.net x hx) k5 k3 kt kle (by omega) hxo.at0.1 kat,
      one:=fun k3 kr kt=>by
        have l1:=(ms.lead k3).l
        have l2:=(mr.lead kr).l
        rw [kt,l2] at l1
        omega }
    have hd:=yaws hgot hxo hB
    have hsent:=yqv e3 hB1 hxo.term.2 (h.lead _ _ e1) a1 (by omega) (by omega)
    have hlt:(x.To - 1).toNat < w.R.length:=by have:=h.ok.w.len; omega
    have hrec:=yqu e3 hB1 hxo
    obtain ⟨d,_,hout,_⟩:=hrec
    have hqi:(yaj r x).1.Id=(((x.To - 1).toNat:Nat):Int) + 1:=by rw [hout.id]; omega
    have hsum:=yamt (W:=W) (R:=w.R) hlt hqi (id:=x.From) (l:=(yaj r x).2) fun y hy=>by
      obtain ⟨b1,b2,b3,b4,b5⟩:=hsent.a y hy
      exact ⟨by rw [hout.id]; exact b1,b2,fun h6=>⟨b5 h6,by rw [hout.id]; omega⟩⟩
    have haddr:∀ y∈net++(yaj r x).2,ysb n y:=fun y hy=>by
      rcases qt.1 hy with hy | hy
      .exact h.addr y (by rw [hnet]; exact ql _ hy)
      .obtain ⟨b1,b2,b3,b4,_⟩:=hsent.a y hy
       exact ⟨by omega,by omega,b2,by omega,by omega⟩
    have hR:(ycw w).R=w.R.set (x.To - 1).toNat (yaj r x).1:=by rw [e6]
    have hN:(ycw w).Net=last60 (net++(yaj r x).2):=by rw [e6]
    have h60:=yaes (W:=W) (by omega) hi' haddr
    have hmono:=ywd (W:=W) e1 (by omega) e5 hd.mono (l:=net) fun y hy=>haddr y (wc _ hy)
    have hpot:=yagj (W:=W) (q:=(yaj r x).1) e1
    have hless:=hd.less
    rw [yagf,hR,hsum,f2] at h60
    have hw1:ykg W w.R w.Net=wtW W w.R x + ykg W w.R net:=by rw [hnet,ylw]
    have hw2:wtW W w.R x=wtX W s r x:=by unfold wtW; rw [e2,f2]
    unfold phi
    rw [hN,hR,hw1,hw2]
    omega
end
end Go.Proofs.Ytgoachcogmlhcaa.R
set_option maxRecDepth 100000
set_option linter.unusedVariables false
set_option linter.unusedSimpArgs false
noncomputable section
namespace Go.Proofs.Ytgoachcogmlhcaa.R
open Go
section
variable {B b W:Int} {n:Nat} {g:Gh} {w:yab} {r s q:ye} {x y:yj}
theorem ybah(hW:0<=W):∀ l:List ye,0<=yva W l
  | []=>qh _
  | r :: l=>by
    have h1:=ybah hW l
    have h2:=yrs hW r
    unfold yva at *
    simp only [wr,List.sum_cons]
    omega
theorem ydfs(hW:1<=W)(h:yju B b n g w):0<=phi W w:=by
  have h1:=yamm hW h (l:=w.Net) h.addr
  have h2:=ybah (W:=W) (by omega) w.R
  unfold phi
  omega
theorem yakk(hB:B<=1000000)(hb:0<=b)(hW:4 * b + 3<=W):∀ (m:Nat) {w:yab} {g:Gh},yju B b n g w->phi W (ybp m w)<=phi W w/\((ybp m w).Net = []\/phi W (ybp m w) + (m:Int)<=phi W w)
  | 0,w,g,h=>⟨qh _,.inr (by show phi W w + 0<=_; omega)⟩
  | m + 1,w,g,h=>by
    unfold ybp
    split
    .rename_i he
     exact ⟨qh _,.inl he⟩
    .rename_i he
     obtain ⟨k,g',_,h'⟩:=yaay h
     have h1:=ybck h hB hb hW he
     obtain ⟨h2,h3⟩:=yakk hB hb hW m h'
     refine ⟨by omega,?_⟩
     rcases h3 with h3 | h3
     .exact .inl h3
     .exact .inr (by omega)
theorem yaus(hb:B<=100000):∀ (d i f:Nat) {w:yab},4000 - i=d->i<=4000->d < f->OkB B n w->zdr f (i:Int) w.R w.Net=some (ybp d w)
  | 0,i,f,w,hd,hi,hf,h=>by
    obtain ⟨f,rfl⟩:∃ f',f=f' + 1:=⟨f - 1,by omega⟩
    have h1:¬ ((i:Int) < 4000):=by omega
    rw [zdr,zgv,qf h1,qc qw]
    rfl
  | d + 1,i,f,w,hd,hi,hf,h=>by
    obtain ⟨f,rfl⟩:∃ f',f=f' + 1:=⟨f - 1,by omega⟩
    have h1:((i:Int) < 4000):=by omega
    rw [zdr,zgv,qg h1,qe rfl]
    unfold zil ybp
    by_cases he:w.Net = []
    .rw [qe he,he,qf (by simp),qc qw,← he]
    .have hl:(0:Int) < (w.Net.length:Int):=by
       have:=List.length_pos_iff.2 he
       omega
     have e:yab.mk w.R w.Net=w:=rfl
     rw [qc he,qg hl,qe rfl,e,ybvr h hb rfl rfl,yx,ygy (by omega)]
     exact yaus hb d (i + 1) f (by omega) (by omega) (by omega) (ytn false h).2
theorem yaur(hb:B<=100000)(h:OkB B n w):zkh w=some (yhm w):=
  yaus hb 4000 0 _ rfl (jb _) (by decide) h
theorem yaoo:∀ (m:Nat) {w:yab},OkB B n w->OkB B n (ybp m w)
  | 0,w,h=>h
  | m + 1,w,h=>by
    unfold ybp
    split
    .exact h
    .exact yaoo m (ytn false h).2
end
end Go.Proofs.Ytgoachcogmlhcaa.R
set_option maxRecDepth 100000
set_option linter.unusedVariables false
set_option linter.unusedSimpArgs false
noncomputable section
namespace Go.Proofs.Ytgoachcogmlhcaa.R
open Go
section
variable {B b W:Int} {n:Nat} {g:Gh} {w:yab}
theorem ybrh{k n:Nat}(h:k < n)(hn:n<=100000):zdq (k:Int) (n:Int) = some (k:Int):=by
  obtain ⟨q1,q2,q3⟩:=yud (k:=(k:Int)) (n:=n) (by omega) hn
  rw [q1]
  congr 1
  unfold yjd
  rw [yavn (by omega) (by omega)]
  exact Int.emod_eq_of_lt (by omega) (by omega)
theorem ycbn(hb:B<=100000)(h:OkB B n w){k:Nat}(hk:k < n):zey w ⟨0,(k:Int),(k:Int),[]⟩ = some (ygo w k):=by
  obtain ⟨B0,hB0,hw,h3⟩:=h
  have hcs:=ynk w.R
  have hwl:=hw.len; have hn1:=hw.n1; have hnl:=hw.nl
  have hlt:k < w.R.length:=by omega
  have hr:w.R[k]? = some w.R[k]:=qj hlt
  obtain ⟨m1,m2,m3⟩:=hw.mem _ _ hr
  have hp:zdq (k:Int) (w.R.length:Int) = some (k:Int):=ybrh hlt (by omega)
  unfold zey ygo
  simp only
  rw [hp,yx,yku,hr,yx,qg trivial,qe rfl,ybbd m1 (by omega) (by omega),yx]
  obtain ⟨s1,s2,s3⟩:=ypf (c:=false) (v:=w) (i:=(k:Int)) hw hB0 rfl (fun _ hx=>hx) hnl (by omega) (show w.R[((k:Int)).toNat]? = some w.R[k] by rw [km]; exact hr) (.tick (k:Int))
  rw [s1,yx]
theorem yaqw{k:Nat}{times:Nat}(hk:k < n)(ht:times<=1000):∀ (d i f:Nat) {w:yab} {B:Int},times - i=d->i<=times->d < f->B + 5 * d<=100000->OkB B n w->zdo (k:Int) (times:Int) f (i:Int) w.R w.Net=some (yda k d w)
  | 0,i,f,w,B,hd,hi,hf,hb,h=>by
    obtain ⟨f,rfl⟩:∃ f',f=f' + 1:=⟨f - 1,by omega⟩
    have h1:¬ ((i:Int) < (times:Int)):=by omega
    rw [zdo,zgt,qf h1,qc qw]
    rfl
  | d + 1,i,f,w,B,hd,hi,hf,hb,h=>by
    obtain ⟨f,rfl⟩:∃ f',f=f' + 1:=⟨f - 1,by omega⟩
    have h1:((i:Int) < (times:Int)):=by omega
    have e:yab.mk w.R w.Net=w:=rfl
    have h2:=(yacg false h k).2
    rw [zdo,zgt,qg h1,qe rfl,e,ycbn (by omega) h hk,yx,yaur (B:=B + 5) (by omega) h2,yx,ygy (by omega)]
    exact yaqw hk ht d (i + 1) f (by omega) (by omega) (by omega) (by omega) (yaoo 4000 h2)
theorem yaqv{k times:Nat}(hk:k < n)(ht:times<=1000)(hb:B + 5 * times<=100000)(h:OkB B n w):zhe w (k:Int) (times:Int) = some (yda k times w):=
  yaqw hk ht times 0 _ rfl (jb _) (by omega) hb h
end
end Go.Proofs.Ytgoachcogmlhcaa.R
set_option maxRecDepth 100000
set_option linter.unusedVariables false
set_option linter.unusedSimpArgs false
noncomputable section
namespace Go.Proofs.Ytgoachcogmlhcaa.R
open Go
section
variable {B b W:Int} {n:Nat} {g:Gh} {w:yab} {r s q:ye} {x y:yj}
theorem ydl.of'(h:ydl r)(h1:q.Id=r.Id)(h2:q.N=r.N)(h3:q.Next=r.Next)(h4:q.yaa=r.yaa)(h5:yac r.yg<=yac q.yg):ydl q:=by
  have e1:∀ to,yax q to=yax r to:=fun to=>by unfold yax; rw [h3]
  have e2:∀ to,yar q to=yar r to:=fun to=>by unfold yar; rw [h4]
  exact ⟨fun to a b c=>by rw [e2]; exact h.m0 to a (by omega) (by omega),fun to a b c=>by rw [e1,e2]; exact h.mn to a (by omega) (by omega),fun to a b c=>by rw [e1]; have:=h.nl to a (by omega) (by omega); omega⟩
theorem yavy(h:OkR B r)(h3:r.ym=3)(hl:ydl r)(data:List Int):ydl (yct r data).1:=by
  have hm:=h.ma h3; have hid:=h.id
  have e1:(yct r data).1.Next=r.Next:=by show (ybm (ydf r data)).Next=_; rw [yqf]; rfl
  have e2:(yct r data).1.yaa=ybl r.yaa (r.Id - 1) (yac r.yg + 1):=by show (ybm (ydf r data)).yaa=_; unfold ybm; split <;> rfl
  have e3:yac (yct r data).1.yg=yac r.yg + 1:=by
    show yac (ybm (ydf r data)).yg=_
    rw [ygi]
    unfold ydf yac
    simp
    omega
  have e4:(yct r data).1.Id=r.Id:=ygj
  have e5:(yct r data).1.N=r.N:=yfn
  have n1:∀ to,yax (yct r data).1 to=yax r to:=fun to=>by unfold yax; rw [e1]
  have m1:∀ to,1<=to->to≠r.Id->yar (yct r data).1 to=yar r to:=fun to t1 t3=>by
    unfold yar
    rw [e2,ypi (m:=[]) (by omega) (by omega) t1,qc t3]
  exact ⟨fun to t1 t2 t3=>by rw [m1 to t1 (by omega)]; exact hl.m0 to t1 (by omega) (by omega),fun to t1 t2 t3=>by rw [n1,m1 to t1 (by omega)]; exact hl.mn to t1 (by omega) (by omega),fun to t1 t2 t3=>by rw [n1,e3]; have:=hl.nl to t1 (by omega) (by omega); omega⟩
theorem yaqz(h3:r.ym=3)(data:List Int):yci (yct r data).1=yac r.yg + 1:=by
  have e0:(yct r data).1.ym=3:=by show (ybm (ydf r data)).ym=3; rw [yer]; exact h3
  unfold yci
  rw [e0]
  show yac (ybm (ydf r data)).yg + _=_
  rw [ygi]
  unfold ydf yac
  simp
  omega
theorem ybtk(ha:yci r<=b)(draw:Int):yci (ycj r draw).1<=b + 1:=by
  have hl:=yhz r
  have same:∀ {q:ye},q.ym=r.ym->q.yg=r.yg->yci q<=b + 1:=fun {q} h1 h2=>by
    have:yci q=yci r:=by unfold yci; rw [h1,h2]
    omega
  unfold ycj
  simp only
  split
  .split
   .exact same rfl rfl
   .exact same rfl rfl
  .split
   .unfold yhx
    split
    .rw [yvj]
     show yac r.yg + 1<=_
     omega
    .show yac r.yg + (if (1:Int) = 1\/(1:Int) = 2 then 1 else 0)<=_
     rw [qe (.inl rfl)]
     omega
   .exact same rfl rfl
theorem yavz(h:OkR B r)(h3:r.ym=3)(hl:ydl r)(data:List Int)(f:Int):yon r f (yct r data):=by
  have e4:(yct r data).1.Id=r.Id:=ygj
  refine ⟨fun y hy=>?_,fun _=>yavy h h3 hl data⟩
  have hy:y∈(yca r).map (ybj (yct r data).1):=hy
  obtain ⟨to,ht,rfl⟩:=wh.1 hy
  obtain ⟨t1,t2,t3⟩:=ygl h ht
  obtain ⟨a1,a2,a3,a4⟩:=yel (r:=(yct r data).1) to
  rw [a1,a2,e4]
  exact ⟨rfl,t1,t2,t3,fun h6=>by omega⟩
theorem yaad{l:yag}{i:Int}(h1:l.yn<=i)(h2:i<=yac l):yac (yix l i) = yac l:=by
  unfold yix yac at *
  show i + ((l.yi.drop (i - l.yn).toNat).length:Int) = _
  simp
  omega
theorem ybtg{c:Bool}{w':yab}{B':Int}(h:yju B b n g w)(hs:ylz c w w')(hok:OkB B' n w'):∃ g',yju B' (b + 1) n g' w':=by
  obtain ⟨B0,hB0,hw0,_⟩:=h.ok
  obtain ⟨k,g',he,hg⟩:=yacd h.ok.w (by have:=ynk w.R; omega) h.gh hs
  cases hs with
  | less net hn=>exact ⟨g',hok,h.lead,fun k r hr=>by have:=h.last k r hr; omega,fun y hy=>h.addr y (hn y hy),fun y hy=>by have:=h.msg y (hn y hy); exact ⟨fun e=>by have:=this.e e; omega,fun e=>by have:=this.s e; omega⟩,hg⟩
  | act i r p net hi ha hn=>
    obtain ⟨m1,m2,m3⟩:=hw0.mem i r hi
    have hl:=h.lead i r hi
    have hv:=h.last i r hi
    have hlv:=yhz r
    have none:∀ q:ye,yma (q,[]):=fun q y hy=>absurd hy wz
    refine ⟨g',?_⟩
    cases ha with
    | tick draw=>exact h.act (f:=0) hi (by omega) hok hg (ytb m1 (by omega) hl draw 0) (yalb m1 (by omega) draw) (ybtk hv draw) hn
    | recv x hx=>
      obtain ⟨a1,a2,a3,a4,a5⟩:=h.addr x hx
      have hxo:=hw0.net x hx
      by_cases ht:x.To=r.Id
      .exact h.act hi (by omega) hok hg (yqv m1 (by omega) hxo.term.2 hl a1 (by omega) (by omega)) (yth m1 (by omega) hxo) (by have:=yabx hv (h.msg x hx); omega) hn
      .have e:yaj r x=(r,[]):=by
         unfold yaj
         have:ydg r x=true:=by unfold ydg; simp [ht]
         rw [qe this]
       rw [e] at hok hg hn ⊢
       exact h.act (f:=0) (p:=(r,[])) hi (by omega) hok hg (.none hl) (none r) (by show yci r<=_; omega) hn
    | prop data hd h3=>exact h.act (f:=0) hi (by omega) hok hg (yavz m1 h3 (hl h3) data 0) (yaas m1 h3 data) (by rw [yaqz h3]; omega) hn
    | comp upto snap hsn hc=>
      unfold yiw at hc
      simp only [qq,wv] at hc
      obtain ⟨c1,c2,c3⟩:=hc
      obtain ⟨t,ht⟩:=Option.isSome_iff_exists.1 c3
      have hts:=ymn ht
      have el:yac (yjv r upto snap).yg=yac r.yg:=yaad hts.1 hts.2
      have ev:yci (yjv r upto snap) = yci r:=by unfold yci; rw [el]; rfl
      exact h.act (f:=0) (p:=(yjv r upto snap,[])) hi (by omega) hok hg (.none fun h3=>(hl h3).of' rfl rfl rfl rfl (by rw [el]; exact qh _)) (none _) (by show yci (yjv r upto snap)<=_; omega) hn
    | fall hc=>
      have ev:yci (ygx r) = yac r.yg:=by unfold yci; show yac r.yg + (if (0:Int) = 1\/(0:Int) = 2 then 1 else 0) = _; rw [qc (by decide)]; omega
      exact h.act (f:=0) (p:=(ygx r,[])) hi (by omega) hok hg (.none fun h3=>absurd (show (0:Int) = 3 from h3) (by decide)) (none _) (by show yci (ygx r)<=_; omega) hn
end
end Go.Proofs.Ytgoachcogmlhcaa.R
set_option maxRecDepth 100000
set_option linter.unusedVariables false
set_option linter.unusedSimpArgs false
noncomputable section
namespace Go.Proofs.Ytgoachcogmlhcaa.R
open Go
section
variable {B b W:Int} {n:Nat} {g:Gh} {w:yab} {r s q:ye} {x y:yj}
theorem ydhh(hW:4 * b + 3<=W)(hb:0<=b)(hr:yci r<=b)(hl:r.ym=3->ydl r)(h1:1<=x.To)(h2:x.To<=r.N)(h3:x.To≠r.Id):wtA W r x<=W + 1:=by
  have hv:=yhz r
  unfold wtA
  split
  .rename_i h
   have:=yqq (hl h) h1 h2 h3
   split
   .split <;> omega
   .omega
  .split <;> omega
theorem ydhj(hW:4 * b + 3<=W)(hb:0<=b)(hr:yci r<=b)(hl:r.ym=3->ydl r)(h1:1<=x.From)(h2:x.From<=r.N)(h3:x.From≠r.Id):wtB W r x<=W:=by
  have hv:=yhz r
  unfold wtB
  split
  .rename_i h
   have:=yqq (hl h) h1 h2 h3
   split
   .split <;> omega
   .omega
  .split <;> omega
theorem ydhk(h:yju B b n g w)(hW:4 * b + 3<=W)(hb:0<=b)(ha:ysb n y):wtW W w.R y<=W + 1:=by
  obtain ⟨a1,a2,a3,a4,a5⟩:=ha
  obtain ⟨r,e1,e2,e3,e4,e5⟩:=h.at_ a1 a2
  obtain ⟨s,f1,f2,f3,f4,f5⟩:=h.at_ a3 a4
  unfold wtW wtX
  rw [e2,f2]
  split
  .exact ydhh hW hb (h.last _ _ e1) (h.lead _ _ e1) a3 (by omega) (by omega)
  .split
   .have:=ydhj (x:=y) hW hb (h.last _ _ f1) (h.lead _ _ f1) a1 (by omega) (by omega)
    omega
   .split <;> omega
theorem ybab(h:yju B b n g w)(hW:4 * b + 3<=W)(hb:0<=b):∀ {l:List yj},(∀ y∈l,ysb n y)->ykg W w.R l<=(l.length:Int) * (W + 1)
  | [],_=>by show (0:Int)<=0 * (W + 1); omega
  | y :: l,ha=>by
    have h1:=ydhk h hW hb (ha y qv)
    have h2:=ybab h hW hb (l:=l) fun z hz=>ha z (ql _ hz)
    rw [ylw,ws,show ((l.length + 1:Nat):Int) = (l.length:Int) + 1 from rfl,Int.add_mul,Int.one_mul]
    omega
theorem ybag(hW:0<=W):∀ l:List ye,yva W l<=(l.length:Int) * (4 * (W + 1) + 8)
  | []=>by show (0:Int)<=0 * (4 * (W + 1) + 8); omega
  | r :: l=>by
    have h1:=ybag hW l
    have h2:ycx W r<=4 * (W + 1) + 8:=by unfold ycx; split; omega; split <;> omega
    have e:yva W (r :: l) = ycx W r + yva W l:=by simp [yva]
    rw [e,ws,show ((l.length + 1:Nat):Int) = (l.length:Int) + 1 from rfl,Int.add_mul,Int.one_mul]
    omega
theorem ydfr(h:yju B b n g w)(hW:4 * b + 3<=W)(hb:0<=b):phi W w<=60 * (W + 1) + 5 * (4 * (W + 1) + 8):=by
  have h1:=ybab h hW hb h.addr
  have h2:=ybag (W:=W) (by omega) w.R
  have hw:=h.ok.w
  have h3:=hw.nl; have h4:=hw.len; have h5:=hw.n1
  have e1:(w.Net.length:Int) * (W + 1)<=60 * (W + 1):=Int.mul_le_mul_of_nonneg_right (by omega) (by omega)
  have e2:(w.R.length:Int) * (4 * (W + 1) + 8)<=5 * (4 * (W + 1) + 8):=Int.mul_le_mul_of_nonneg_right (by omega) (by omega)
  unfold phi
  omega
end
end Go.Proofs.Ytgoachcogmlhcaa.R
set_option maxRecDepth 100000
set_option linter.unusedVariables false
set_option linter.unusedSimpArgs false
noncomputable section
namespace Go.Proofs.Ytgoachcogmlhcaa.R
open Go
section
variable {B b W:Int} {n:Nat} {g:Gh} {w:yab} {r s q:ye} {x y:yj}
theorem yamu{g':Gh}{i:Nat}{p:ye × List yj}{c:Int}{B' b':Int}(h:yju B b n g w)(hi:w.R[i]? = some r)(hW:1<=W)(hi':yju B' b' n g' ⟨w.R.set i p.1,last60 (w.Net++p.2)⟩)(hs:yon r 0 p)(hid:p.1.Id=r.Id)
    (hm:∀ {l:List yj},(∀ y∈l,y∈w.Net)->ykg W (w.R.set i p.1) l<=ykg W w.R l) (hc:ygg W p.1 ylo p.2 + ycx W p.1<=ycx W r + c) (h6:∀ y∈p.2,y.yae≠6) :
    phi W ⟨w.R.set i p.1,last60 (w.Net++p.2)⟩<=phi W w + c:=by
  obtain ⟨m1,m2,m3⟩:=h.ok.w.mem i r hi
  have hlt:i < w.R.length:=by
    rcases qz i w.R.length with h' | h'
    .exact h'
    .rw [qm h'] at hi; cases hi
  have haddr:∀ y∈w.Net++p.2,ysb n y:=fun y hy=>by
    rcases qt.1 hy with hy | hy
    .exact h.addr y hy
    .obtain ⟨b1,b2,b3,b4,_⟩:=hs.a y hy
     have:=m1.id
     exact ⟨by omega,by omega,b2,by omega,by omega⟩
  have h60:=yaes hW hi' haddr
  have hmono:=hm (l:=w.Net) fun y hy=>hy
  have hpot:=yagj (W:=W) (q:=p.1) hi
  have hsum:=yamt (W:=W) (R:=w.R) hlt (q:=p.1) (by omega) (id:=0) (l:=p.2) fun y hy=>by
    obtain ⟨b1,b2,b3,b4,b5⟩:=hs.a y hy
    exact ⟨by omega,b2,fun h=>absurd h (h6 y hy)⟩
  have hz:∀ l:List yj,(∀ y∈l,y.yae≠6)->ygg W p.1 (rOf w.R 0) l=ygg W p.1 ylo l:=by
    intro l
    induction l with
    | nil=>intro _; rfl
    | cons y l ih=>
      intro hl
      have e:∀ t:ye,ygg W p.1 t (y :: l) = wtX W p.1 t y + ygg W p.1 t l:=fun t=>by simp [ygg]
      rw [e,e,ih fun z hz=>hl z (ql _ hz)]
      have:wtX W p.1 (rOf w.R 0) y=wtX W p.1 ylo y:=by
        unfold wtX
        rw [qc (hl y qv),qc (hl y qv)]
      rw [this]
  rw [yagf,hsum,hz _ h6] at h60
  unfold phi
  simp only at h60 ⊢
  omega
theorem yzt(to:Int):(ybj r to).yae≠6:=by
  have:=(yel (r:=r) to).2.2.2
  omega
theorem ybun(h:OkR B r)(hN:r.N<=5)(h3:r.ym=3)(hl:ydl r)(hb:yci r<=b)(hW:4 * b + 3<=W)(hb0:0<=b)(draw:Int):ygg W (ycj r draw).1 ylo (ycj r draw).2 + ycx W (ycj r draw).1<=ycx W r + (if 2<=r.yu + 1 then 4 * (W + 1) else 0):=by
  have hv:=yhz r
  have e0:ycx W r=0:=by unfold ycx; rw [h3]; rfl
  unfold ycj
  simp only
  rw [qe h3]
  split
  .have hL:ydl { r with yu:=0 }:=hl.of rfl rfl rfl rfl rfl
   have e1:ycx W { r with yu:=0 } = ycx W r:=rfl
   have:=yxt (W:=W) (fr:={ r with yu:=0 }) (to:=ylo) (c:=W + 1) (by omega) (l:=(yca r).map (ybj { r with yu:=0 })) (k:=4) (fun y hy=>by
     obtain ⟨to,ht,rfl⟩:=wh.1 hy
     obtain ⟨t1,t2,t3⟩:=ygl h ht
     unfold wtX
     rw [qe (yel _).2.2.2,yaaa (r:={ r with yu:=0 }) h3 hL h.log.b t1 t2 t3]
     have:=yqq hL t1 t2 t3
     have e:yac ({ r with yu:=0 }:ye).yg=yac r.yg:=rfl
     omega) (by rw [wj]; exact yyu h hN)
   simp only
   omega
  .have e1:ycx W { r with yu:=r.yu + 1 } = ycx W r:=rfl
   simp only
   rw [yrv]
   omega
end
end Go.Proofs.Ytgoachcogmlhcaa.R
set_option maxRecDepth 100000
set_option linter.unusedVariables false
set_option linter.unusedSimpArgs false
noncomputable section
namespace Go.Proofs.Ytgoachcogmlhcaa.R
open Go
section
variable {B b W:Int} {n:Nat} {g:Gh} {w:yab} {r s q:ye} {x y:yj}
def Behind(P:yj->Prop)(k:Nat)(l:List yj):Prop:=∀ y∈l.drop k,P y
theorem Behind.mono{P:yj->Prop}{k j:Nat}{l:List yj}(h:Behind P k l)(hj:k<=j):Behind P j l:=fun y hy=>by
  obtain ⟨d,rfl⟩:∃ d,j=k + d:=⟨j - k,by omega⟩
  rw [← jp] at hy
  exact h y (jg hy)
theorem Behind.last60{P:yj->Prop}{k:Nat}{l:List yj}(h:Behind P k l):Behind P k (last60 l):=by
  unfold R.last60
  split
  .intro y hy
   rw [jp] at hy
   exact h.mono (by omega) y hy
  .exact h
theorem Behind.deliv{P:yj->Prop}{k:Nat}{net out:List yj}(h:Behind P (k + 1) (x :: net))(ho:∀ y∈out,P y):Behind P k (R.last60 (net++out)):=by
  refine Behind.last60 fun y hy=>?_
  rw [List.drop_append] at hy
  rcases qt.1 hy with hy | hy
  .exact h y (by simpa using hy)
  .exact ho y (jg hy)
end
end Go.Proofs.Ytgoachcogmlhcaa.R
set_option maxRecDepth 100000
set_option linter.unusedVariables false
set_option linter.unusedSimpArgs false
noncomputable section
namespace Go.Proofs.Ytgoachcogmlhcaa.R
open Go
section
variable {B b W:Int} {n:Nat} {g:Gh} {w:yab} {r s q:ye} {x y:yj}
def ynf(r:ye):Prop:=r.ym≠3/\r.yam<=r.yu + 1
theorem yzx(h:¬ ynf r)(draw:Int):yci (ycj r draw).1=yci r:=by
  have same:∀ {q:ye},q.ym=r.ym->q.yg=r.yg->yci q=yci r:=fun {q} h1 h2=>by unfold yci; rw [h1,h2]
  unfold ycj
  simp only
  split
  .split
   .exact same rfl rfl
   .exact same rfl rfl
  .rename_i h3
   split
   .rename_i hw
    exact absurd ⟨h3,hw⟩ h
   .exact same rfl rfl
theorem yala(h:ynf r)(draw:Int):yci (ycj r draw).1=yac r.yg + 1:=by
  unfold ycj
  simp only
  rw [qc h.1,qe h.2]
  unfold yhx
  split
  .rw [yvj]
   rfl
  .show yac r.yg + (if (1:Int) = 1\/(1:Int) = 2 then 1 else 0) = _
   rw [qe (.inl rfl)]
theorem yry{k:Nat}(hr:w.R[k]? = some r):ygo w k = ⟨w.R.set k (ycj r (k:Int)).1,last60 (w.Net++(ycj r (k:Int)).2)⟩:=by
  unfold ygo ypk ybl
  rw [hr,km]
theorem yzw(h:yju B b n g w){k:Nat}(hr:w.R[k]? = some r){b':Int}(hbb:b<=b')(hl:yci (ycj r (k:Int)).1<=b'):∃ j g',yfy j g g'/\yju (B + 5) b' n g' (ygo w k):=by
  obtain ⟨st,hok⟩:=yacg false h.ok k
  obtain ⟨B0,hB0,hw0,_⟩:=h.ok
  obtain ⟨m1,m2,m3⟩:=hw0.mem k r hr
  obtain ⟨j,g',he,hg⟩:=yacd h.ok.w (by have:=ynk w.R; omega) h.gh st
  rw [yry hr] at hok hg ⊢
  refine ⟨j,g',he,h.act (f:=0) hr hbb hok hg (ytb m1 (by omega) (h.lead k r hr) k 0) (yalb m1 (by omega) k) hl fun y hy=>?_⟩
  exact qt.1 (ymi hy)
end
end Go.Proofs.Ytgoachcogmlhcaa.R
set_option maxRecDepth 100000
set_option linter.unusedVariables false
set_option linter.unusedSimpArgs false
noncomputable section
namespace Go.Proofs.Ytgoachcogmlhcaa.R
open Go
section
variable {B b W:Int} {n:Nat} {g:Gh} {w:yab} {r s q:ye} {x y:yj}
theorem ybtl(h:yju B b n g w)(hb0:0<=b)(hW:4 * b + 3<=W){k:Nat}(hr:w.R[k]? = some r)(h3:r.ym=3):phi W (ygo w k)<=phi W w + (if 2<=r.yu + 1 then 4 * (W + 1) else 0):=by
  obtain ⟨m1,m2,m3⟩:=h.ok.w.mem k r hr
  have hn:=h.ok.w.n1
  have hL:=h.lead k r hr h3
  have hv:=h.last k r hr
  have hB1:0<=B:=by have:=m1.term; omega
  obtain ⟨j,g',_,hi⟩:=yzw h hr (b':=b) (qh _) (by rw [yzx (fun a=>a.1 h3)]; exact hv)
  have ht:=yry hr
  rw [ht] at hi ⊢
  have hro:(ycj r (k:Int)).1.ym=r.ym/\(ycj r (k:Int)).1.yc=r.yc/\(ycj r (k:Int)).1.Next=r.Next/\(ycj r (k:Int)).1.yaa=r.yaa/\(ycj r (k:Int)).1.yg=r.yg/\(ycj r (k:Int)).1.Id=r.Id:=by
    unfold ycj
    simp only
    rw [qe h3]
    split <;> exact ⟨rfl,rfl,rfl,rfl,rfl,rfl⟩
  obtain ⟨c1,c2,c3,c4,c5,c6⟩:=hro
  refine yamu h hr (by omega) hi (ytb m1 hB1 (h.lead k r hr) k 0) c6 (fun {l} hl=>ywd hr m2 m3 (.same c1 c2 c3 c4 c5) fun y hy=>h.addr y (hl y hy)) (ybun m1 (by omega) h3 hL hv hW hb0 k) fun y hy=>?_
  intro h6
  have:=(ytb m1 hB1 (h.lead k r hr) (k:Int) 0).a y hy
  have:=this.2.2.2.2 h6
  omega
end
end Go.Proofs.Ytgoachcogmlhcaa.R
set_option maxRecDepth 100000
set_option linter.unusedVariables false
set_option linter.unusedSimpArgs false
noncomputable section
namespace Go.Proofs.Ytgoachcogmlhcaa.R
open Go
section
variable {B b W:Int} {n:Nat} {g:Gh} {w:yab} {r s q:ye} {x y:yj}
def yrd(id:Int)(l:List yj):Prop:=∀ y∈l,(y.yae=5\/y.yae=7->y.From≠id)/\(y.yae=6->y.To≠id)
theorem yaep{R:List ye}{i:Nat}(hi:i < R.length):∀ {l:List yj},yrd ((i:Int) + 1) l->(∀ y∈l,ysb n y)->ykg W (R.set i q) l=ykg W R l
  | [],_,_=>rfl
  | y :: l,h,ha=>by
    have ih:=yaep hi (l:=l) (fun z hz=>h z (ql _ hz)) fun z hz=>ha z (ql _ hz)
    obtain ⟨a1,a2,a3,a4,a5⟩:=ha y qv
    obtain ⟨h1,h2⟩:=h y qv
    have e:wtW W (R.set i q) y=wtW W R y:=by
      unfold wtW wtX
      rw [yja (q:=q) (id:=y.From) hi a1,yja (q:=q) (id:=y.To) hi a3]
      split
      .rename_i hk
       rw [qc (h1 hk)]
      .split
       .rename_i hk
        rw [qc (h2 hk)]
       .rfl
    rw [ylw,ylw,e,ih]
theorem ycee(h:OkR B r)(hB0:0<=B)(hN:r.N<=5)(hW:4 * (yac r.yg + 1) + 3<=W)(draw:Int):ygg W (yhx r draw).1 ylo (yhx r draw).2 + ycx W (yhx r draw).1<=4 * (W + 1) + 16:=by
  have hl:=ymj h.log
  have two:∀ (fr:ye) (f:Int->yj),(∀ to,wtX W fr ylo (f to) = 2)->ygg W fr ylo ((yca r).map f)<=8:=fun fr f hf=>by
    have:=yxt (W:=W) (fr:=fr) (to:=ylo) (c:=2) (by omega) (l:=(yca r).map f) (k:=4) (fun y hy=>by
      obtain ⟨to,_,rfl⟩:=wh.1 hy
      rw [hf]
      exact qh _) (by rw [wj]; exact yyu h hN)
    omega
  unfold yhx
  split
  .unfold yea
   split
   .have hq:=yll (yrh h hB0 draw) hB0
    have hs:=yafz (W:=W) (s:=ylo) hq hN (by show 4 * (yac r.yg + 1) + 3<=W; exact hW)
    have e2:ycx W (yco (yas (ygu r draw))).1=0:=by unfold ycx; rw [yia]; rfl
    omega
   .have e2:ycx W (yas (ygu r draw)) = 4 * (W + 1):=rfl
    have:=two (yas (ygu r draw)) (yex (yas (ygu r draw))) fun to=>rfl
    show ygg W (yas (ygu r draw)) ylo ((yca r).map (yex (yas (ygu r draw)))) + ycx W (yas (ygu r draw))<=_
    omega
  .have e2:ycx W (ygu r draw) = 4 * (W + 1) + 8:=rfl
   have:=two (ygu r draw) (yij (ygu r draw)) fun to=>rfl
   show ygg W (ygu r draw) ylo ((yca r).map (yij (ygu r draw))) + ycx W (ygu r draw)<=_
   omega
end
end Go.Proofs.Ytgoachcogmlhcaa.R
set_option maxRecDepth 100000
set_option linter.unusedVariables false
set_option linter.unusedSimpArgs false
noncomputable section
namespace Go.Proofs.Ytgoachcogmlhcaa.R
open Go
section
variable {B b:Int} {n:Nat} {w:yab} {r q:ye} {x y:yj}
structure yin (r:ye):Prop where
  wait:10<=r.yam
  clock:r.ym=3->r.yu<=1
  own:r.ym=3->yar r r.Id=yac r.yg
  term:r.ym=3->ycz r.yg (yac r.yg) = some r.yc
  com:r.ym=3->yff r.yaa=yac r.yg->yac r.yg<=r.yl
theorem yin.low(h:10<=q.yam)(h3:q.ym≠3):yin q:=⟨h,fun e=>absurd e h3,fun e=>absurd e h3,fun e=>absurd e h3,fun e=>absurd e h3⟩
theorem yin.of(h:yin r)(h1:q.yam=r.yam)(h2:q.ym=r.ym)(h3:q.yu<=1\/q.yu=r.yu)(h4:q.Id=r.Id)(h5:q.yaa=r.yaa)(h6:q.yg=r.yg)(h7:q.yc=r.yc)(h8:q.yl=r.yl):yin q:=by
  refine ⟨by rw [h1]; exact h.wait,fun e=>?_,fun e=>?_,fun e=>?_,fun e=>?_⟩
  .have:=h.clock (by omega); omega
  .unfold yar; rw [h4,h5,h6]; exact h.own (by omega)
  .rw [h6,h7]; exact h.term (by omega)
  .rw [h5,h6,h8]; exact h.com (by omega)
theorem yaac:(ybm r).yaa=r.yaa:=by unfold ybm; split <;> rfl
theorem yark:(ybm r).yam=r.yam:=by unfold ybm; split <;> rfl
theorem yoz:(ybm r).yu=r.yu:=by unfold ybm; split <;> rfl
theorem yaic(h1:10<=r.yam)(h2:r.yu<=1)(h3:yar r r.Id=yac r.yg)(h4:ycz r.yg (yac r.yg) = some r.yc):yin (ybm r):=by
  refine ⟨by rw [yark]; exact h1,fun _=>by rw [yoz]; exact h2,fun _=>?_,fun _=>?_,fun _ hr=>?_⟩
  .unfold yar; rw [yaac,ygi,ygj]; exact h3
  .rw [ygi,yuj]; exact h4
  .rw [yaac,ygi] at hr
   rw [ygi]
   unfold ybm
   split
   .show _<=yff r.yaa
    omega
   .rename_i hn
    rcases jz r.yl (yac r.yg) with hl | hl
    .exact absurd ⟨by rw [hr]; exact h4,by omega⟩ hn
    .exact hl
theorem yaeb(r:ye)(data:List Int):yac (ydf r data).yg=yac r.yg + 1:=by
  unfold ydf yac
  simp
  omega
theorem ybti(b t:Int)(es:List yk)(e:yk):ycz ⟨b,t,es++[e]⟩ (b + (es.length:Int) + 1) = some e.yc:=by
  unfold ycz
  simp only
  rw [qc (by omega),qc (by unfold yac; simp; omega)]
  have h:(b + (es.length:Int) + 1 - b - 1).toNat=es.length:=by omega
  rw [h]
  simp
theorem yahu(h:OkR B r)(h3:r.ym=3)(hw:10<=r.yam)(hc:r.yu<=1)(data:List Int):yin (yct r data).1:=by
  have hm:=h.ma h3; have hid:=h.id
  refine yaic hw hc ?_ ?_
  .rw [yaeb]
   unfold yar ydf
   show ((ybl r.yaa (r.Id - 1) (yac r.yg + 1))[(r.Id - 1).toNat]?).getD 0=_
   rw [ypi (m:=[]) (by omega) hid.1 hid.1,qe rfl]
  .rw [yaeb]
   exact ybti _ _ _ ⟨r.yc,data⟩
theorem yatk(h:OkR B r)(hB0:0<=B)(hw:10<=r.yam):yin (yco r).1:=yahu (yux h hB0) rfl hw (by show (0:Int)<=1; decide) []
theorem yaos(h:OkR B r)(hB0:0<=B)(hw:10<=r.yam):yin (yea r).1:=by
  unfold yea
  split
  .exact yatk (yll h hB0) (by omega) hw
  .exact .low hw (by show (2:Int)≠3; decide)
theorem ybbf(draw:Int):10<=ysp draw:=by
  unfold ysp
  have:=ko (IntKind.u64.wrap draw) (show (10:Int)≠0 by decide)
  omega
theorem ycbm(h:OkR B r)(hB0:0<=B)(c:yin r)(draw:Int):yin (ycj r draw).1:=by
  unfold ycj
  simp only
  split
  .rename_i h3
   split
   .exact c.of rfl rfl (.inl (by show (0:Int)<=1; decide)) rfl rfl rfl rfl rfl
   .rename_i hc
    exact c.of rfl rfl (.inl (by show r.yu + 1<=1; omega)) rfl rfl rfl rfl rfl
  .rename_i h3
   split
   .unfold yhx
    split
    .exact yaos (yrh (ypm h) (by omega) draw) (by omega) (ybbf draw)
    .exact .low (ybbf draw) (by show (1:Int)≠3; decide)
   .exact .low c.wait h3
theorem yavi(h:OkR B r)(hB0:0<=B)(c:yin r)(h1:1<=x.From)(h2:x.From<=r.N)(hne:x.From≠r.Id):yin (ydq r x).1:=by
  have hw:=c.wait; have hid:=h.id
  have z3:(0:Int)≠3:=by decide
  unfold ydq
  split
  .exact c
  split
  .unfold yit
   split
   .rename_i hg
    split
    .exact yaos (yfr (x:=x) h true) hB0 hw
    .exact .low hw (by show r.ym≠3; omega)
   .exact c
  split
  .unfold yjf
   split
   .rename_i hv
    unfold ymq at hv
    simp only [qq,wv] at hv
    exact .low hw (by show r.ym≠3; omega)
   .exact c
  split
  .unfold ygb
   split
   .rename_i hg
    split
    .exact yatk (yfr (x:=x) h true) hB0 hw
    .exact .low hw (by show r.ym≠3; omega)
   .exact c
  split
  .unfold yfo
   split
   .exact c
   .simp only
    split
    .exact .low hw z3
    .exact .low hw z3
  split
  .unfold yfx
   split
   .exact c
   .rename_i hr
    have h3:r.ym=3:=by
      rcases Classical.em (r.ym=3) with h | h
      .exact h
      .exact absurd (.inr h) hr
    have hm:=h.ma h3
    have hQ:yin (ybe r x):=by
      refine yaic hw (c.clock h3) ?_ (c.term h3)
      unfold yar
      show ((ybl r.yaa (x.From - 1) (yhh r x))[(r.Id - 1).toNat]?).getD 0=_
      rw [ypi (m:=[]) (by omega) h1 hid.1,qc (fun e=>hne e.symm)]
      exact c.own h3
    have hP:yin (yhq r x):=c.of rfl rfl (.inr rfl) rfl rfl rfl rfl rfl
    split
    .split
     .exact hQ
     .exact hQ
    .exact hP
  split
  .unfold yky
   split
   .exact c
   .simp only
    split
    .exact .low hw z3
    .exact .low hw z3
  .exact c
theorem yawr(h:OkR B r)(hB0:0<=B)(hx:x.yc<=B)(c:yin r):yin (yaj r x).1:=by
  unfold yaj
  split
  .exact c
  .rename_i hr
   have hv:ydg r x=false:=by simpa using hr
   unfold ydg at hv
   simp only [js,jk] at hv
   split
   .exact yavi (yjj h (t:=x.yc) (l:=0) hx) hB0 (.low c.wait (by show (0:Int)≠3; decide)) (by omega) (by show x.From<=r.N; omega) hv.2.2.2.1
   .exact yavi h hB0 c (by omega) (by omega) hv.2.2.2.1
theorem yawf(c:yin r){upto:Int}{snap:List Int}(hc:yiw r upto=true):yin (yjv r upto snap):=by
  unfold yiw at hc
  simp only [qq,wv] at hc
  obtain ⟨c1,c2,c3⟩:=hc
  obtain ⟨t,ht⟩:=Option.isSome_iff_exists.1 c3
  have hts:=ymn ht
  have el:yac (yjv r upto snap).yg=yac r.yg:=yaad hts.1 hts.2
  refine ⟨c.wait,c.clock,fun h3=>?_,fun h3=>?_,fun h3=>?_⟩
  .rw [el]; exact c.own h3
  .rw [el]
   have h:=c.term h3
   show ycz (yix r.yg upto) (yac r.yg) = some r.yc
   by_cases he:yac r.yg=upto
   .rw [he] at h ⊢
    have:ycz (yix r.yg upto) upto=some ((ycz r.yg upto).getD 0):=by
      show (if upto=upto then _ else _) = _
      rw [qe rfl]
      rfl
    rw [this,h]
    rfl
   .unfold yac at he hts h ⊢
    unfold ycz at h ⊢
    rw [qc (by omega),qc (by unfold yac; omega)] at h
    unfold yix
    simp only
    rw [qc (by omega),qc (by unfold yac; simp; omega),qo]
    rw [show (upto - r.yg.yn).toNat + (r.yg.yn + (r.yg.yi.length:Int) - upto - 1).toNat=(r.yg.yn + (r.yg.yi.length:Int) - r.yg.yn - 1).toNat by omega]
    exact h
  .rw [el]; exact c.com h3
def yapd(w:yab):Prop:=∀ (k:Nat) (r:ye),w.R[k]? = some r->yin r
theorem yagy{c:Bool}{w':yab}(hw:OkW B n w)(hB0:0<=B)(h:yapd w)(hs:ylz c w w'):yapd w':=by
  cases hs with
  | less net hn=>exact h
  | act i r p net hi ha hn=>
    obtain ⟨m1,m2,m3⟩:=hw.mem i r hi
    have hc:=h i r hi
    intro k q hq
    rcases yavb hi hq with ⟨_,rfl⟩ | ⟨_,hq⟩
    .cases ha with
     | tick draw=>exact ycbm m1 hB0 hc draw
     | recv x hx=>exact yawr m1 hB0 (hw.net x hx).term.2 hc
     | prop data hd h3=>exact yahu m1 h3 hc.wait (hc.clock h3) data
     | comp upto snap hs hcb=>exact yawf hc hcb
     | fall _=>exact .low (by show 10<=10 + r.Id; have:=m1.id; omega) (by show (0:Int)≠3; decide)
    .exact h k q hq
theorem ybjr(n:Nat):yapd (yms n):=by
  intro k r hr
  obtain ⟨hk,rfl⟩:=yss hr
  exact .low (by show (10:Int)<=10 + ((k:Int) + 1); omega) (by show (0:Int)≠3; decide)
end
end Go.Proofs.Ytgoachcogmlhcaa.R
set_option maxRecDepth 100000
set_option linter.unusedVariables false
set_option linter.unusedSimpArgs false
noncomputable section
namespace Go.Proofs.Ytgoachcogmlhcaa.R
open Go
section
variable {B b W:Int} {n:Nat} {g:Gh} {w:yab} {r s q:ye} {x y:yj}
theorem yafe(r:ye):(yea r).1.yu=0:=by
  unfold yea
  split
  .show (ybm (ydf (yft _) [])).yu=0
   rw [yoz]
   rfl
  .rfl
theorem yakw:(ydq r x).1.yu=r.yu\/(ydq r x).1.yu=0:=by
  unfold ydq
  split
  .exact .inl rfl
  split
  .unfold yit
   split
   .split
    .exact .inr (yafe _)
    .exact .inl rfl
   .exact .inl rfl
  split
  .unfold yjf
   split
   .exact .inr rfl
   .exact .inl rfl
  split
  .unfold ygb
   split
   .split
    .right
     show (ybm (ydf (yft _) [])).yu=0
     rw [yoz]
     rfl
    .exact .inl rfl
   .exact .inl rfl
  split
  .unfold yfo
   split
   .exact .inl rfl
   .simp only
    split <;> exact .inr rfl
  split
  .unfold yfx
   have hQ:(ybe r x).yu=r.yu:=by unfold ybe; rw [yoz]
   split
   .exact .inl rfl
   .split
    .split <;> exact .inl hQ
    .exact .inl rfl
  split
  .unfold yky
   split
   .exact .inl rfl
   .simp only
    split <;> exact .inr rfl
  .exact .inl rfl
theorem yapa:(yaj r x).1.yu=r.yu\/(yaj r x).1.yu=0:=by
  unfold yaj
  split
  .exact .inl rfl
  .split
   .exact yakw (r:=yai r x.yc 0)
   .exact yakw
theorem ybtf(h:y∈(yea r).2):y.yae≠6:=by
  unfold yea at h
  split at h
  .have h:y∈(yca (yft (yas r))).map (ybj _):=h
   obtain ⟨to,_,rfl⟩:=wh.1 h
   exact yzt to
  .obtain ⟨to,_,rfl⟩:=wh.1 h
   show (3:Int)≠6
   decide
theorem yavl(h:y∈(ydq r x).2)(h6:y.yae=6):x.yae=5\/x.yae=7:=by
  have one:∀ {k t a:Int} {o:Bool} {q:ye},y∈[ydr q x k t a o]->k≠6->x.yae=5\/x.yae=7:=fun hy hk=>by
    rw [wb] at hy
    rw [hy] at h6
    exact absurd h6 hk
  have none:y∈([]:List yj)->x.yae=5\/x.yae=7:=fun hy=>absurd hy wz
  unfold ydq at h
  split at h
  .exact one h (by decide)
  split at h
  .unfold yit at h
   split at h
   .split at h
    .exact absurd h6 (ybtf h)
    .exact none h
   .exact none h
  split at h
  .unfold yjf at h
   split at h
   .exact one h (by decide)
   .exact one h (by decide)
  split at h
  .unfold ygb at h
   split at h
   .split at h
    .have h:y∈(yca (yft (yat r x))).map (ybj _):=h
     obtain ⟨to,_,rfl⟩:=wh.1 h
     exact absurd h6 (yzt to)
    .exact none h
   .exact none h
  split at h
  .rename_i h5
   exact .inl h5
  split at h
  .unfold yfx at h
   have tell:∀ {q:ye},y∈[ybj q x.From]->x.yae=5\/x.yae=7:=fun hy=>by
     rw [wb] at hy
     rw [hy] at h6
     exact absurd h6 (yzt _)
   split at h
   .exact none h
   .split at h
    .split at h
     .exact none h
     .exact tell h
    .exact tell h
  split at h
  .rename_i h7
   exact .inr h7
  .exact none h
theorem yawu(h:y∈(yaj r x).2)(h6:y.yae=6):x.yae=5\/x.yae=7:=by
  unfold yaj at h
  split at h
  .exact absurd h wz
  .split at h
   .exact yavl h h6
   .exact yavl h h6
def Inw(B b:Int)(n:Nat)(w:yab):Prop:=(∃ g,yju B b n g w)/\yapd w
theorem Inw.okB(h:Inw B b n w):OkB B n w:=by
  obtain ⟨⟨g,h⟩,_⟩:=h
  exact h.ok
theorem ylv(h:Inw B b n w):Inw B b n (ycw w):=by
  obtain ⟨⟨g,h⟩,hc⟩:=h
  obtain ⟨k,g',_,h'⟩:=yaay h
  refine ⟨⟨g',h'⟩,?_⟩
  have hw:=h.ok.w
  exact yagy hw (by
    obtain ⟨B0,hB0,_,h3⟩:=h.ok
    have:=ynk w.R
    omega) hc (ytn false h.ok).1
theorem yli:∀ (m:Nat) {w:yab},Inw B b n w->Inw B b n (ybp m w)
  | 0,w,h=>h
  | m + 1,w,h=>by
    unfold ybp
    split
    .exact h
    .exact yli m (ylv h)
theorem Inw.at_(h:Inw B b n w){id:Int}(h1:1<=id)(h2:id<=(n:Int)):∃ r,w.R[(id - 1).toNat]? = some r/\rOf w.R id=r/\OkR B r/\r.Id=id/\r.N=(n:Int):=by
  obtain ⟨⟨g,h⟩,_⟩:=h
  exact h.at_ h1 h2
theorem yaij(h:Inw B b n w){net:List yj}(hnet:w.Net=x :: net):∃ r,rOf w.R x.To=r/\OkR B r/\r.Id=x.To/\r.N=(n:Int)/\yin r /\
    (∀ id:Int,1<=id->rOf (ycw w).R id=if id=x.To then (yaj r x).1 else rOf w.R id)/\(ycw w).Net=last60 (net++(yaj r x).2) /\
    yon r x.From (yaj r x)/\yma (yaj r x):=by
  obtain ⟨⟨g,h⟩,hc⟩:=h
  obtain ⟨r,e1,e2,e3,e4,e5,e6⟩:=yafp h hnet
  have hx:x∈w.Net:=by rw [hnet]; exact qv
  obtain ⟨a1,a2,a3,a4,a5⟩:=h.addr x hx
  have hxo:=h.ok.w.net x hx
  have hB1:0<=B:=by have:=e3.term; omega
  have hl:=h.ok.w.len
  refine ⟨r,e2,e3,e4,e5,hc _ _ e1,fun id h1=>?_,by rw [e6],yqv e3 hB1 hxo.term.2 (h.lead _ _ e1) a1 (by omega) (by omega),yth e3 hB1 hxo⟩
  rw [e6]
  show rOf (w.R.set (x.To - 1).toNat (yaj r x).1) id=_
  rw [yja (by omega) h1]
  have e:(((x.To - 1).toNat:Nat):Int) + 1=x.To:=by omega
  rw [e]
theorem yaei(h:Inw B b n w){id:Int}(h1:1<=id)(h2:id<=(n:Int)):(rOf (ycw w).R id).yu<=(rOf w.R id).yu:=by
  cases hnet:w.Net with
  | nil=>
    have:ycw w=w:=by unfold ycw; rw [hnet]
    rw [this]
    exact qh _
  | cons x net=>
    obtain ⟨r,e1,e2,e3,e4,e5,e6,e7,e8,e9⟩:=yaij h hnet
    rw [e6 id h1]
    split
    .rename_i e
     rw [e,e1]
     have:=e2.clock
     rcases yapa (r:=r) (x:=x) with h | h <;> omega
    .exact qh _
theorem yov{id:Int}(h1:1<=id)(h2:id<=(n:Int)):∀ (m:Nat) {w:yab},Inw B b n w->(rOf (ybp m w).R id).yu<=(rOf w.R id).yu
  | 0,w,h=>qh _
  | m + 1,w,h=>by
    unfold ybp
    split
    .exact qh _
    .exact kd (yov h1 h2 m (ylv h)) (yaei h h1 h2)
theorem yair{P:yj->Prop}{A J:yab->Prop}(hA:∀ w,A w->A (ycw w))(hJ:∀ w x net,J w->w.Net=x :: net->A (ycw w)\/(J (ycw w)/\∃ out,(ycw w).Net=R.last60 (net++out)/\∀ y∈out,P y)) :
    ∀ (m k:Nat) {w:yab},J w->Behind P k w.Net->k<=m->A (ybp m w)\/(J (ybp m w)/\∀ y∈(ybp m w).Net,P y)
  | 0,k,w,h,hb,hk=>.inr ⟨h,fun y hy=>hb y (by rw [show k=0 by omega]; exact hy)⟩
  | m + 1,k,w,h,hb,hk=>by
    unfold ybp
    split
    .rename_i he
     exact .inr ⟨h,fun y hy=>by rw [he] at hy; exact absurd hy wz⟩
    .rename_i he
     cases hnet:w.Net with
     | nil=>exact absurd hnet he
     | cons x net=>
       rcases hJ w x net h hnet with h1 | ⟨h1,out,h2,h3⟩
       .left
        have go:∀ (m:Nat) {w:yab},A w->A (ybp m w):=by
          intro m
          induction m with
          | zero=>exact fun h=>h
          | succ m ih=>
            intro w h
            unfold ybp
            split
            .exact h
            .exact ih (hA _ h)
        exact go m h1
       .rw [hnet] at hb
        refine yair hA hJ m (k - 1) h1 ?_ (by omega)
        rw [h2]
        exact Behind.deliv (hb.mono (by omega)) h3
theorem yfe:∀ (a c:Nat) (w:yab),ybp (a + c) w=ybp c (ybp a w)
  | 0,c,w=>by rw [Nat.zero_add]; rfl
  | a + 1,c,w=>by
    rw [show a + 1 + c=(a + c) + 1 by omega]
    by_cases he:w.Net = []
    .have e:∀ m:Nat,ybp m w=w:=fun m=>by
       cases m with
       | zero=>rfl
       | succ m=>unfold ybp; rw [qe he]
     rw [e,e,e]
    .have e:∀ m:Nat,ybp (m + 1) w=ybp m (ycw w):=fun m=>by
       show (if w.Net = [] then w else ybp m (ycw w)) = _
       rw [qc he]
     rw [e,e,yfe a c]
theorem yaez(h:Inw B b n w){id:Int}(h1:1<=id)(h2:id<=(n:Int)):(rOf (yhm w).R id).yu<=1\/yrd id (yhm w).Net:=by
  have key:∀ {v:yab} {x:yj} {net:List yj},Inw B b n v->(rOf v.R id).ym≠3->v.Net=x :: net->(rOf (ycw v).R id).yu<=1\/((rOf (ycw v).R id).ym≠3/\∃ out,(ycw v).Net=last60 (net++out)/\∀ y∈out,(y.yae=5\/y.yae=7->y.From≠id)/\(y.yae=6->(x.yae=5\/x.yae=7)/\y.To=x.From)):=by
    intro v x net hv hr hnet
    obtain ⟨r,e1,e2,e3,e4,e5,e6,e7,e8,e9⟩:=yaij hv hnet
    have hv':=ylv hv
    by_cases h3:(rOf (ycw v).R id).ym=3
    .left
     obtain ⟨q,q1,q2,_⟩:=hv'.at_ h1 h2
     rw [q2] at h3 ⊢
     exact (hv'.2 _ _ q1).clock h3
    .right
     refine ⟨h3,_,e7,fun y hy=>⟨fun hk hf=>?_,fun h6=>⟨yawu hy h6,(e8.a y hy).2.2.2.2 h6⟩⟩⟩
     obtain ⟨t3,_⟩:=e9 y hy hk
     have:=(e8.a y hy).1
     rw [e6 id h1,qe (by omega)] at h3
     exact h3 t3
  have hA:∀ v,(Inw B b n v/\(rOf v.R id).yu<=1)->(Inw B b n (ycw v)/\(rOf (ycw v).R id).yu<=1):=fun v ⟨a,c⟩=>⟨ylv a,kd (yaei a h1 h2) c⟩
  have hAm:∀ (m:Nat) {v},(Inw B b n v/\(rOf v.R id).yu<=1)->(rOf (ybp m v).R id).yu<=1:=fun m v ⟨a,c⟩=>kd (yov h1 h2 m a) c
  have hnl:=h.okB.w.nl
  by_cases h3:(rOf w.R id).ym=3
  .left
   obtain ⟨q,q1,q2,_⟩:=h.at_ h1 h2
   exact hAm 4000 ⟨h,by rw [q2] at h3 ⊢; exact (h.2 _ _ q1).clock h3⟩
  .have e:yhm w=ybp 3880 (ybp 60 (ybp 60 w)):=by
     unfold yhm
     rw [← yfe,← yfe]
   have all:∀ {P:yj->Prop} (l:List yj),l.length<=60->Behind P 60 l:=fun l hl y hy=>by
     rw [jv hl] at hy
     exact absurd hy wz
   have p1:=yair (P:=fun y=>y.yae=5\/y.yae=7->y.From≠id) (A:=fun v=>Inw B b n v/\(rOf v.R id).yu<=1) (J:=fun v=>Inw B b n v/\(rOf v.R id).ym≠3) hA (fun v x net ⟨j1,j2⟩ hn=>by
     rcases key j1 j2 hn with k | ⟨k1,out,k2,k3⟩
     .exact .inl ⟨ylv j1,k⟩
     .exact .inr ⟨⟨ylv j1,k1⟩,out,k2,fun y hy=>(k3 y hy).1⟩) 60 60 (w:=w) ⟨h,h3⟩ (all _ hnl) (qk _)
   rw [e]
   rcases p1 with p1 | ⟨⟨i1,i2⟩,p1⟩
   .left
    rw [← yfe]
    exact hAm _ p1
   .have hJ2:∀ v x net,(Inw B b n v/\(rOf v.R id).ym≠3/\∀ y∈v.Net,y.yae=5\/y.yae=7->y.From≠id)->v.Net=x :: net->(Inw B b n (ycw v)/\(rOf (ycw v).R id).yu<=1)\/((Inw B b n (ycw v)/\(rOf (ycw v).R id).ym≠3/\∀ y∈(ycw v).Net,y.yae=5\/y.yae=7->y.From≠id)/\∃ out,(ycw v).Net=R.last60 (net++out)/\∀ y∈out,(y.yae=5\/y.yae=7->y.From≠id)/\(y.yae=6->y.To≠id)):=fun v x net ⟨j1,j2,j3⟩ hn=>by
      rcases key j1 j2 hn with k | ⟨k1,out,k2,k3⟩
      .exact .inl ⟨ylv j1,k⟩
      .refine .inr ⟨⟨ylv j1,k1,fun y hy=>?_⟩,out,k2,fun y hy=>⟨(k3 y hy).1,fun h6=>?_⟩⟩
       .rw [k2] at hy
        rcases qt.1 (ymi hy) with hy | hy
        .exact j3 y (by rw [hn]; exact ql _ hy)
        .exact (k3 y hy).1
       .obtain ⟨a1,a2⟩:=(k3 y hy).2 h6
        rw [a2]
        exact j3 x (by rw [hn]; exact qv) a1
    have p2:=yair hA hJ2 60 60 (w:=ybp 60 w) ⟨i1,i2,p1⟩ (all _ i1.okB.w.nl) (qk _)
    rcases p2 with p2 | ⟨⟨i3,i4,i5⟩,p2⟩
    .exact .inl (hAm _ p2)
    .have p3:=yair (P:=fun y=>(y.yae=5\/y.yae=7->y.From≠id)/\(y.yae=6->y.To≠id)) hA hJ2 3880 0 (w:=ybp 60 (ybp 60 w)) ⟨i3,i4,i5⟩ (fun y hy=>p2 y hy) (jb _)
     rcases p3 with p3 | ⟨_,p3⟩
     .exact .inl p3.2
     .exact .inr p3
end
end Go.Proofs.Ytgoachcogmlhcaa.R
set_option maxRecDepth 100000
set_option linter.unusedVariables false
set_option linter.unusedSimpArgs false
noncomputable section
namespace Go.Proofs.Ytgoachcogmlhcaa.R
open Go
section
variable {B b W:Int} {n:Nat} {g:Gh} {w:yab} {r s q:ye} {x y:yj}
def ybn(k:Nat)(w:yab):yab:=yhm (ygo w k)
theorem yaaq(k:Nat):∀ (a c:Nat) (w:yab),yda k (a + c) w=yda k c (yda k a w)
  | 0,c,w=>by rw [Nat.zero_add]; rfl
  | a + 1,c,w=>by
    rw [show a + 1 + c=(a + c) + 1 by omega]
    exact yaaq k a c (yhm (ygo w k))
theorem yakz(draw:Int):(ycj r draw).1.yu=if r.ym=3 then (if 2<=r.yu + 1 then 0 else r.yu + 1) else if r.yam<=r.yu + 1 then 0 else r.yu + 1:=by
  unfold ycj
  simp only
  split
  .split <;> rfl
  .split
   .unfold yhx
    split
    .exact yafe _
    .rfl
   .rfl
theorem Inw.me(h:Inw B b n w){k:Nat}(hk:k < n):∃ r,w.R[k]? = some r/\rOf w.R ((k:Int) + 1) = r/\OkR B r/\r.Id=(k:Int) + 1/\r.N=(n:Int)/\yin r:=by
  obtain ⟨r,e1,e2,e3,e4,e5⟩:=h.at_ (id:=(k:Int) + 1) (by omega) (by omega)
  rw [show ((k:Int) + 1 - 1).toNat=k by omega] at e1
  exact ⟨r,e1,e2,e3,e4,e5,h.2 _ _ e1⟩
theorem Inw.nn(h:Inw B b n w):0<=B:=by
  obtain ⟨B0,hB0,_,h3⟩:=h.okB
  have:=ynk w.R
  omega
theorem yahf(h:Inw B b n w){k:Nat}(hr:w.R[k]? = some r){b':Int}(h1:b<=b')(h2:ynf r->b + 1<=b'):Inw (B + 5) b' n (ygo w k):=by
  obtain ⟨⟨g,hi⟩,hc⟩:=h
  have hv:=hi.last k r hr
  have hlv:=yhz r
  have hl:yci (ycj r (k:Int)).1<=b':=by
    by_cases ha:ynf r
    .rw [yala ha]
     have:=h2 ha
     omega
    .rw [yzx ha]
     omega
  obtain ⟨j,g',_,hi'⟩:=yzw hi hr h1 hl
  exact ⟨⟨g',hi'⟩,yagy hi.ok.w (Inw.nn ⟨⟨g,hi⟩,hc⟩) hc (yacg false hi.ok k).1⟩
theorem yahe{k:Nat}(hr:w.R[k]? = some r){id:Int}(h1:1<=id):rOf (ygo w k).R id=if id=(k:Int) + 1 then (ycj r (k:Int)).1 else rOf w.R id:=by
  have hlt:k < w.R.length:=by
    rcases qz k w.R.length with h' | h'
    .exact h'
    .rw [qm h'] at hr; cases hr
  rw [yry hr]
  exact yja hlt h1
theorem yzk(h:Inw B b n w){k:Nat}(hk:k < n){X:Int}(hX:10 * b + min (rOf w.R ((k:Int) + 1)).yu 10<=X) :
    ∃ b',b<=b'/\Inw (B + 5) b' n (ygo w k)/\Inw (B + 5) b' n (ybn k w)/\10 * b' + min (rOf (ybn k w).R ((k:Int) + 1)).yu 10<=X + 1:=by
  obtain ⟨r,e1,e2,e3,e4,e5,e6⟩:=h.me hk
  have hcl:=e3.clock; have hwt:=e6.wait
  have hg:=yahe (w:=w) e1 (id:=(k:Int) + 1) (by omega)
  rw [qe rfl] at hg
  have hct:=yakz (r:=r) (k:Int)
  rw [e2] at hX
  by_cases ha:ynf r
  .have hi:=yahf h e1 (b':=b + 1) (by omega) (fun _=>qh _)
   refine ⟨b + 1,by omega,hi,yli 4000 hi,?_⟩
   have hq:(rOf (ybn k w).R ((k:Int) + 1)).yu<=(rOf (ygo w k).R ((k:Int) + 1)).yu:=yov (by omega) (by omega) 4000 hi
   rw [hg,hct,qc ha.1,qe ha.2] at hq
   have:=ha.2
   omega
  .have hi:=yahf h e1 (b':=b) (qh _) (fun a=>absurd a ha)
   refine ⟨b,qh _,hi,yli 4000 hi,?_⟩
   have hq:(rOf (ybn k w).R ((k:Int) + 1)).yu<=(rOf (ygo w k).R ((k:Int) + 1)).yu:=yov (by omega) (by omega) 4000 hi
   rw [hg,hct] at hq
   split at hq
   .split at hq <;> omega
   .split at hq <;> omega
theorem ycbo(hi:yju B b n g w){k:Nat}(hr:w.R[k]? = some r){b':Int}(hb0:0<=b)(hbb:b<=b')(h2:ynf r->b + 1<=b')(hW:4 * b' + 3<=W)(hf:ynf r->yrd ((k:Int) + 1) w.Net) :
    phi W (ygo w k)<=phi W w + (if r.ym=3 then (if 2<=r.yu + 1 then 4 * (W + 1) else 0) else if r.yam<=r.yu + 1 then 4 * (W + 1) + 16 else 0):=by
  obtain ⟨m1,m2,m3⟩:=hi.ok.w.mem k r hr
  have hn:=hi.ok.w.n1
  have hv:=hi.last k r hr
  have hlv:=yhz r
  have hB1:0<=B:=by have:=m1.term; omega
  have hlt:k < w.R.length:=by
    rcases qz k w.R.length with h' | h'
    .exact h'
    .rw [qm h'] at hr; cases hr
  have hs:=ytb m1 hB1 (hi.lead k r hr) (k:Int) 0
  have h6:∀ y∈(ycj r (k:Int)).2,y.yae≠6:=fun y hy h6=>by
    have:=hs.a y hy
    have:=this.2.2.2.2 h6
    omega
  have hid:(ycj r (k:Int)).1.Id=r.Id:=(yahg m1 hB1 (k:Int)).id
  by_cases h3:r.ym=3
  .rw [qe h3]
   exact ybtl hi hb0 (by omega) hr h3
  .rw [qc h3]
   by_cases ha:r.yam<=r.yu + 1
   .rw [qe ha]
    have hA:ynf r:=⟨h3,ha⟩
    have hb1:=h2 hA
    obtain ⟨j,g',_,hi'⟩:=yzw hi hr (b':=b') hbb (by rw [yala hA]; omega)
    have ht:=yry hr
    rw [ht] at hi' ⊢
    have e:ycj r (k:Int) = yhx { r with yu:=r.yu + 1 } (k:Int):=by
      unfold ycj
      simp only
      rw [qc h3,qe ha]
    have hsum:=ycee (W:=W) (ypm m1) (by omega) (by show r.N<=5; omega) (by show 4 * (yac r.yg + 1) + 3<=W; omega) (k:Int)
    rw [← e] at hsum
    have hp:=yrs (W:=W) (by omega) r
    exact yamu hi hr (by omega) hi' hs hid (fun {l} hl=>by
      rw [yaep hlt (l:=l) (fun y hy=>hf hA y (hl y hy)) fun y hy=>hi.addr y (hl y hy)]
      exact qh _) (by omega) h6
   .rw [qc ha]
    obtain ⟨j,g',_,hi'⟩:=yzw hi hr (b':=b) (qh _) (by rw [yzx (fun a=>ha a.2)]; exact hv)
    have ht:=yry hr
    rw [ht] at hi' ⊢
    have e:ycj r (k:Int) = ({ r with yu:=r.yu + 1 },[]):=by
      unfold ycj
      simp only
      rw [qc h3,qc ha]
    rw [e] at hi' hs hid ⊢
    exact yamu (p:=({ r with yu:=r.yu + 1 },[])) hi hr (by omega) hi' hs hid (fun {l} hl=>ywd hr m2 m3 (yhr.same (q:={ r with yu:=r.yu + 1 }) rfl rfl rfl rfl rfl) fun y hy=>hi.addr y (hl y hy)) (by
      show ygg W _ ylo [] + ycx W r<=ycx W r + 0
      rw [yrv]
      omega) (by simp)
theorem ybcl(h:Inw B b n w)(hB:B<=100000)(hb0:0<=b){k:Nat}(hk:k < n){X S:Int}(hX:10 * b + min (rOf w.R ((k:Int) + 1)).yu 10<=X)(hX2:X < 2579)
    (hf:(rOf w.R ((k:Int) + 1)).yu<=1\/yrd ((k:Int) + 1) w.Net) (hS:phi 1031 w + min (rOf w.R ((k:Int) + 1)).yu 2 * 2072<=S) :
    (ybn k w).Net = []\/phi 1031 (ybn k w) + min (rOf (ybn k w).R ((k:Int) + 1)).yu 2 * 2072<=S - 1928:=by
  obtain ⟨r,e1,e2,e3,e4,e5,e6⟩:=h.me hk
  have hcl:=e3.clock; have hwt:=e6.wait
  obtain ⟨⟨g,hi⟩,hc⟩:=h
  rw [e2] at hX hf hS
  have hfl:ynf r->yrd ((k:Int) + 1) w.Net:=fun a=>by
    have:=a.2
    rcases hf with hf | hf
    .omega
    .exact hf
  obtain ⟨b',b1,b2,b3⟩:∃ b':Int,b<=b'/\(ynf r->b + 1<=b')/\b'<=257:=by
    by_cases ha:ynf r
    .have:=ha.2
     exact ⟨b + 1,by omega,fun _=>qh _,by omega⟩
    .exact ⟨b,by omega,fun a=>absurd a ha,by omega⟩
  have hphi:=ycbo hi e1 (W:=1031) hb0 b1 b2 (by omega) hfl
  have hi2:=yahf ⟨⟨g,hi⟩,hc⟩ e1 b1 b2
  obtain ⟨⟨g2,hg2⟩,hc2⟩:=hi2
  obtain ⟨d1,d2⟩:=yakk (W:=1031) (by omega) (by omega) (by omega) 4000 hg2
  have hq:(rOf (ybn k w).R ((k:Int) + 1)).yu<=(rOf (ygo w k).R ((k:Int) + 1)).yu:=yov (by omega) (by omega) 4000 ⟨⟨g2,hg2⟩,hc2⟩
  have hg:=yahe (w:=w) e1 (id:=(k:Int) + 1) (by omega)
  rw [qe rfl] at hg
  rw [hg,yakz (r:=r) (k:Int)] at hq
  rcases d2 with d2 | d2
  .exact .inl d2
  .right
   have d2:phi 1031 (ybn k w) + 4000<=phi 1031 (ygo w k):=d2
   by_cases h3:r.ym=3
   .have:=e6.clock h3
    rw [qe h3] at hphi hq
    split at hphi <;> rename_i hh
    .rw [qe hh] at hq; omega
    .rw [qc hh] at hq; omega
   .rw [qc h3] at hphi hq
    split at hphi <;> rename_i hh
    .rw [qe hh] at hq; omega
    .rw [qc hh] at hq; omega
theorem yarn{k:Nat}(hk:k < n):∀ (m:Nat) {w:yab} {B b X S:Int},Inw B b n w->B + 5 * m<=100000->0<=b->10 * b + min (rOf w.R ((k:Int) + 1)).yu 10<=X->X + m < 2579 ->
    ((rOf w.R ((k:Int) + 1)).yu<=1\/yrd ((k:Int) + 1) w.Net)->phi 1031 w + min (rOf w.R ((k:Int) + 1)).yu 2 * 2072<=S->S < 1928 * m ->
    ∃ t b',1<=t/\t<=m/\b<=b'/\Inw (B + 5 * (t:Int)) b' n (yda k t w)/\(yda k t w).Net = []/\10 * b' + min (rOf (yda k t w).R ((k:Int) + 1)).yu 10<=X + t
  | 0,w,B,b,X,S,h,hB,hb0,hX,hX2,hf,hS,hS2=>by
    obtain ⟨r,e1,e2,e3,e4,e5,e6⟩:=h.me hk
    have hcl:=e3.clock
    obtain ⟨⟨g,hi⟩,hc⟩:=h
    have:=ydfs (W:=1031) (by omega) hi
    rw [e2] at hS
    omega
  | m + 1,w,B,b,X,S,h,hB,hb0,hX,hX2,hf,hS,hS2=>by
    obtain ⟨b',b1,b2,b3,b4⟩:=yzk h hk hX
    rcases ybcl h (by omega) hb0 hk hX (by omega) hf hS with hd | hd
    .exact ⟨1,b',qk _,by omega,b1,b3,hd,b4⟩
    .obtain ⟨t,b2',t1,t2,t3,t4,t5,t6⟩:=yarn hk m b3 (by omega) (by omega) b4 (by omega) (yaez b2 (by omega) (by omega)) hd (by omega)
     refine ⟨t + 1,b2',by omega,by omega,by omega,?_,t5,?_⟩
     .have:B + 5 * ((t + 1:Nat):Int) = B + 5 + 5 * (t:Int):=by omega
      rw [this]
      exact t4
     .have:X + ((t + 1:Nat):Int) = X + 1 + (t:Int):=by omega
      rw [this]
      exact t6
theorem ydim(h:Inw B b n w)(hB:B + 5 * 45<=100000)(hb0:0<=b)(hb:b<=250){k:Nat}(hk:k < n)(hf:(rOf w.R ((k:Int) + 1)).yu<=1\/yrd ((k:Int) + 1) w.Net) :
    ∃ (t:Nat) (b':Int),1<=t/\t<=45/\b<=b'/\Inw (B + 5 * (t:Int)) b' n (yda k t w)/\(yda k t w).Net = []/\10 * b' + min (rOf (yda k t w).R ((k:Int) + 1)).yu 10<=10 * b + 10 + t:=by
  obtain ⟨r,e1,e2,e3,e4,e5,e6⟩:=h.me hk
  obtain ⟨⟨g,hi⟩,hc⟩:=h
  have hp:=ydfr (W:=1031) hi (by omega) hb0
  exact yarn hk 45 (S:=86744) (X:=10 * b + 10) ⟨⟨g,hi⟩,hc⟩ (by omega) hb0 (by omega) (by omega) hf (by omega) (by omega)
end
end Go.Proofs.Ytgoachcogmlhcaa.R
set_option maxRecDepth 100000
set_option linter.unusedVariables false
set_option linter.unusedSimpArgs false
noncomputable section
namespace Go.Proofs.Ytgoachcogmlhcaa.R
open Go
section
variable {B b W:Int} {n:Nat} {g:Gh} {w:yab} {r s q:ye} {x y:yj}
theorem yabj{l:List yj}(h:l.length<=60):last60 l=l:=by
  unfold last60
  rw [qc (by omega)]
theorem yarm{R:List ye}{x:yj}{net:List yj}(h1:1<=x.To)(h2:x.To<=(R.length:Int))(hl:(net++(yaj (rOf R x.To) x).2).length<=60) :
    ycw ⟨R,x :: net⟩ = ⟨R.set (x.To - 1).toNat (yaj (rOf R x.To) x).1,net++(yaj (rOf R x.To) x).2⟩:=by
  have hlt:(x.To - 1).toNat < R.length:=by omega
  have e:=qj hlt
  have e2:rOf R x.To=R[(x.To - 1).toNat]:=by
    unfold rOf
    rw [e]
    rfl
  rw [ywl (w:=⟨R,x :: net⟩) rfl,qc (by show ¬ (x.To < 1\/(R.length:Int) < x.To); omega)]
  show (match R[(x.To - 1).toNat]? with | some r=>ypk ⟨R,net⟩ (x.To - 1) (yaj r x) | none=>⟨R,net⟩) = _
  rw [e,e2]
  rw [e2] at hl
  unfold ypk ybl
  simp only
  rw [yabj hl]
theorem yakj{R:List ye}{x:yj}{net:List yj}(m:Nat):ybp (m + 1) ⟨R,x :: net⟩ = ybp m (ycw ⟨R,x :: net⟩):=by
  show (if (x :: net) = [] then _ else _) = _
  rw [qc (by simp)]
theorem yta{w:yab}(h:w.Net = [])(m:Nat):ybp m w=w:=by
  cases m with
  | zero=>rfl
  | succ m=>unfold ybp; rw [qe h]
theorem yakn{R:List ye}{J:List Int}{f a:Int->yj}(hr:∀ j∈J,1<=j/\j<=(R.length:Int))(hto:∀ j∈J,(f j).To=j)(hlen:J.length<=30)(ha:∀ j∈J,(yaj (rOf R j) (f j)).2 = [a j]) :
    ∀ (l done:List Int) (R1:List ye),J=done++l->l.Nodup->(∀ j∈l,j∉done)->R1.length=R.length->(∀ id,1<=id->rOf R1 id=if id∈done then (yaj (rOf R id) (f id)).1 else rOf R id) ->
    ∃ R',R'.length=R.length/\(∀ id,1<=id->rOf R' id=if id∈J then (yaj (rOf R id) (f id)).1 else rOf R id)/\ybp l.length ⟨R1,l.map f++done.map a⟩ = ⟨R',J.map a⟩
  | [],done,R1,hJ,_,_,hl1,hR=>by
    rw [jh] at hJ
    subst hJ
    exact ⟨R1,hl1,hR,rfl⟩
  | j :: l,done,R1,hJ,hnd,hdj,hl1,hR=>by
    have hj:j∈J:=by rw [hJ]; simp
    obtain ⟨j1,j2⟩:=hr j hj
    have hjd:=hdj j qv
    have e1:rOf R1 (f j).To=rOf R j:=by rw [hto j hj,hR j j1,qc hjd]
    have ho:(yaj (rOf R1 (f j).To) (f j)).2 = [a j]:=by rw [e1]; exact ha j hj
    have hJl:J.length=done.length + (l.length + 1):=by rw [hJ]; simp
    obtain ⟨n1,n2⟩:=List.nodup_cons.1 hnd
    have hd:=yarm (R:=R1) (x:=f j) (net:=l.map f++done.map a) (by rw [hto j hj]; exact j1) (by rw [hto j hj,hl1]; exact j2) (by
      rw [ho]
      simp
      omega)
    rw [ho,e1] at hd
    have ih:=yakn hr hto hlen ha l (done++[j]) (R1.set ((f j).To - 1).toNat (yaj (rOf R j) (f j)).1) (by rw [hJ]; simp) n2 (fun i hi h=>by
      rcases qt.1 h with h | h
      .exact hdj i (ql _ hi) h
      .rw [wb] at h
       subst h
       exact n1 hi) (by rw [kl]; exact hl1) (fun id h1=>by
      rw [yja (by rw [hto j hj]; omega) h1,hto j hj,show (((j - 1).toNat:Nat):Int) + 1=j by omega]
      by_cases he:id=j
      .rw [qe he,qe (by rw [he]; simp),he]
      .rw [qc he,hR id h1]
       by_cases hm:id∈done
       .rw [qe hm,qe (wc _ hm)]
       .rw [qc hm,qc (by simp [hm,he])])
    obtain ⟨R',i1,i2,i3⟩:=ih
    refine ⟨R',i1,i2,?_⟩
    show ybp (l.length + 1) ⟨R1,f j :: (l.map f++done.map a)⟩ = _
    rw [yakj,hd,← i3]
    simp
theorem yxs{R:List ye}{J:List Int}{f a:Int->yj}(hJ:J.Nodup)(hr:∀ j∈J,1<=j/\j<=(R.length:Int))(hto:∀ j∈J,(f j).To=j)(hlen:J.length<=30)(ha:∀ j∈J,(yaj (rOf R j) (f j)).2 = [a j]) :
    ∃ R',R'.length=R.length/\(∀ id,1<=id->rOf R' id=if id∈J then (yaj (rOf R id) (f id)).1 else rOf R id)/\ybp J.length ⟨R,J.map f⟩ = ⟨R',J.map a⟩:=by
  have:=yakn hr hto hlen ha J [] R rfl hJ (by simp) rfl (by simp)
  simpa using this
theorem yany{R:List ye}{J:List Int}{a:Int->yj}{K:Int}(k1:1<=K)(k2:K<=(R.length:Int))(hto:∀ j∈J,(a j).To=K)(hJ:J.Nodup)(hlen:J.length<=20){P:List Int->ye->List yj->Prop}
    (hs:∀ done j q outs,j∈J->j∉done->done.length < J.length->P done q outs->P (done++[j]) (yaj q (a j)).1 (outs++(yaj q (a j)).2)) (hP:∀ done q outs,P done q outs->outs.length<=40) :
    ∀ (l done:List Int) (R1:List ye) (q:ye) (outs:List yj),J=done++l->P done q outs->R1.length=R.length->(∀ id,1<=id->rOf R1 id=if id=K then q else rOf R id) ->
    ∃ R' q' outs',P J q' outs'/\R'.length=R.length/\(∀ id,1<=id->rOf R' id=if id=K then q' else rOf R id)/\ybp l.length ⟨R1,l.map a++outs⟩ = ⟨R',outs'⟩
  | [],done,R1,q,outs,hJe,hp,hl1,hR=>by
    rw [jh] at hJe
    subst hJe
    exact ⟨R1,q,outs,hp,hl1,hR,rfl⟩
  | j :: l,done,R1,q,outs,hJe,hp,hl1,hR=>by
    have hj:j∈J:=by rw [hJe]; simp
    have hjd:j∉done:=fun hd=>by
      rw [hJe] at hJ
      exact (kj.1 hJ).2.2 j hd j qv rfl
    have e1:rOf R1 (a j).To=q:=by rw [hto j hj,hR K k1,qe rfl]
    have hJl:J.length=done.length + (l.length + 1):=by rw [hJe]; simp
    have hp':=hs done j q outs hj hjd (by omega) hp
    have hol:=hP _ _ _ hp'
    have hd:=yarm (R:=R1) (x:=a j) (net:=l.map a++outs) (by rw [hto j hj]; exact k1) (by rw [hto j hj,hl1]; exact k2) (by
      rw [e1]
      simp at hol ⊢
      omega)
    rw [e1] at hd
    obtain ⟨R',q',outs',i1,i2,i3,i4⟩:=yany k1 k2 hto hJ hlen hs hP l (done++[j]) (R1.set ((a j).To - 1).toNat (yaj q (a j)).1) _ _ (by rw [hJe]; simp) hp' (by rw [kl]; exact hl1) (fun id h1=>by
      rw [yja (by rw [hto j hj]; omega) h1,hto j hj,show (((K - 1).toNat:Nat):Int) + 1=K by omega]
      by_cases he:id=K
      .rw [qe he,qe he]
      .rw [qc he,qc he,hR id h1,qc he])
    refine ⟨R',q',outs',i1,i2,i3,?_⟩
    show ybp (l.length + 1) ⟨R1,a j :: (l.map a++outs)⟩ = _
    rw [yakj,hd,← i4]
    simp
theorem yxg{R:List ye}{J:List Int}{a:Int->yj}{K:Int}(k1:1<=K)(k2:K<=(R.length:Int))(hto:∀ j∈J,(a j).To=K)(hJ:J.Nodup)(hlen:J.length<=20){P:List Int->ye->List yj->Prop}
    (hs:∀ done j q outs,j∈J->j∉done->done.length < J.length->P done q outs->P (done++[j]) (yaj q (a j)).1 (outs++(yaj q (a j)).2)) (hP:∀ done q outs,P done q outs->outs.length<=40) (h0:P [] (rOf R K) []) :
    ∃ R' q' outs',P J q' outs'/\R'.length=R.length/\(∀ id,1<=id->rOf R' id=if id=K then q' else rOf R id)/\ybp J.length ⟨R,J.map a⟩ = ⟨R',outs'⟩:=by
  have:=yany k1 k2 hto hJ hlen hs hP J [] R (rOf R K) [] rfl h0 rfl (fun id h1=>by
    by_cases he:id=K
    .rw [qe he,he]
    .rw [qc he])
  simpa using this
theorem yaew{id:Int}:∀ {k:Nat} {a to:Int},a<=to->to < a + k->to≠id->to∈yga id k a
  | 0,a,to,h1,h2,h3=>by omega
  | k + 1,a,to,h1,h2,h3=>by
    unfold yga
    by_cases he:to=a
    .subst he
     rw [qe h3]
     exact qv
    .have:=yaew (id:=id) (k:=k) (a:=a + 1) (to:=to) (by omega) (by omega) h3
     split
     .exact ql _ this
     .exact this
theorem ylb{id:Int}:∀ (k:Nat) (a:Int),(yga id k a).Nodup
  | 0,a=>List.nodup_nil
  | k + 1,a=>by
    unfold yga
    split
    .refine List.nodup_cons.2 ⟨fun h=>?_,ylb k (a + 1)⟩
     have:=you h
     omega
    .exact ylb k (a + 1)
def ybb(n:Nat)(K:Int):List Int:=yga K n 1
theorem ycl{K j:Int}:j∈ybb n K↔1<=j/\j<=(n:Int)/\j≠K:=by
  constructor
  .intro h
   have:=you h
   omega
  .rintro ⟨h1,h2,h3⟩
   exact yaew h1 (by omega) h3
theorem yams(h:r.N=(n:Int)):yca r=ybb n r.Id:=by
  unfold yca ybb
  rw [h]
  rfl
theorem yagi{K:Int}(h1:1<=K)(h2:K<=(n:Int))(hn:n<=5):(ybb n K).length<=4:=by
  have:=yyt (id:=K) n 1 h1 (by omega)
  unfold ybb
  omega
end
end Go.Proofs.Ytgoachcogmlhcaa.R
set_option maxRecDepth 100000
set_option linter.unusedVariables false
set_option linter.unusedSimpArgs false
noncomputable section
namespace Go.Proofs.Ytgoachcogmlhcaa.R
open Go
section
variable {B b W:Int} {n:Nat} {g:Gh} {w:yab} {r s q rk:ye} {x y:yj}
theorem yavt:∀ {a b:List Bool},a.length=b.length->(∀ j:Nat,a[j]? = some true->b[j]? = some true)->yke a<=yke b
  | [],[],_,_=>qk _
  | x :: a,y :: b,hl,h=>by
    have h0:=h 0
    have ih:=yavt (a:=a) (b:=b) (by simpa using hl) fun j hj=>h (j + 1) (by simpa using hj)
    rw [yvu,yvu]
    cases x <;> cases y <;> simp at h0 ⊢ <;> omega
theorem ycml{a b:List Bool}(hl:a.length=b.length)(h:∀ j:Nat,a[j]? = some true->b[j]? = some true)(ha:ydv a=true):ydv b=true:=by
  have:=yavt hl h
  unfold ydv at ha ⊢
  rw [wv] at ha ⊢
  omega
theorem ycmk{a:List Bool}(h0:0 < a.length)(h:∀ j:Nat,j < a.length->a[j]? = some true):ydv a=true:=by
  have:yke a=a.length:=by
    unfold yke
    rw [List.countP_eq_length]
    intro b hb
    obtain ⟨i,hi,e⟩:=List.mem_iff_getElem.1 hb
    have h:=h i hi
    rw [qj hi,e] at h
    exact qd h
  unfold ydv
  rw [wv,this]
  omega
theorem yow(h1:x.To=r.Id)(h2:1<=x.From)(h3:x.From<=r.N)(h4:x.From≠r.Id)(h5:0<=x.yc)(h6:x.yc<=1000000)(h7:0<=x.At):ydg r x=false:=by
  unfold ydg
  simp only [js,jk]
  omega
theorem yjo(h:ydg r x=false)(h2:yje r x=false):yaj r x=ydq r x:=by
  unfold yaj
  rw [qc (by simp [h]),qc (by simp [h2])]
theorem ywg(h:ydg r x=false)(h2:yje r x=true):yaj r x=ydq (yai r x.yc 0) x:=by
  unfold yaj
  rw [qc (by simp [h]),qe h2]
theorem yoj(h:x.yc<=r.yc):yje r x=false:=by
  unfold yje
  rw [qf (by omega)]
  rfl
theorem yzj(h:r.yc < x.yc)(h1:x.yae≠1)(h2:x.yae≠2\/x.Ok=false):yje r x=true:=by
  unfold yje
  rw [qg h,qg h1]
  rcases h2 with h2 | h2
  .rw [qg h2]; rfl
  .rw [h2]; simp
def okA(rk r:ye):Bool:=ywy r (yij rk 0)
def yjh(rk r:ye):yj:=ydr r (yij rk 0) 2 (if okA rk r=true then rk.yc + 1 else r.yc) 0 (okA rk r)
theorem ybzw{j:Int}(h:OkR B r)(hk:OkR B rk)(hB:B < 1000000)(h1:r.Id=j)(h2:rk.Id<=r.N)(h3:rk.Id≠j):yaj r (yij rk j) = (r,[yjh rk r]):=by
  have ht:=hk.term; have hid:=hk.id
  have hl:=ymj hk.log
  have hr:ydg r (yij rk j) = false:=yow h1.symm hid.1 h2 (by show rk.Id≠r.Id; omega) (by show 0<=rk.yc + 1; omega) (by show rk.yc + 1<=_; omega) hl.1
  have hs:yje r (yij rk j) = false:=by
    unfold yje
    rw [qf (show ¬ (yij rk j).yae≠1 from fun h=>h rfl)]
    simp
  rw [yjo hr hs]
  rfl
theorem ysz(h:okA rk r=true):r.yc<=rk.yc/\ykb r.yg (yee rk.yg) (yac rk.yg) = true:=by
  unfold okA ywy at h
  simp only [qq,wv] at h
  obtain ⟨h1,h2,h3⟩:=h
  have h1:r.yc < rk.yc + 1:=h1
  exact ⟨by omega,h3⟩
def Won1(n:Nat)(rk:ye)(R:List ye):Prop:=∃ G:List Bool,G.length=n/\ydv G=true/\∀ i:Nat,G[i]? = some true->(i:Int) + 1=rk.Id\/((i:Int) + 1∈ybb n rk.Id/\okA rk (rOf R ((i:Int) + 1)) = true)
structure St1 (n:Nat) (rk:ye) (R:List ye) (done:List Int) (q:ye) (outs:List yj):Prop where
  id:q.Id=rk.Id
  nn:q.N=rk.N
  log:q.yg=rk.yg
  lead:q.yak=0
  term:rk.yc<=q.yc
  wait:q.yam=rk.yam
  clock:q.yu=0
  refs:∀ j∈done,okA rk (rOf R j) = false->(rOf R j).yc<=q.yc
  max:outs = []->∀ M,rk.yc<=M->(∀ j∈ybb n rk.Id,(rOf R j).yc<=M)->q.yc<=M
  cs:(outs = []/\∃ G:List Bool,q = { rk with yq:=G }/\G.length=n/\ydv G=false/\(∀ i:Nat,G[i]? = some true->(i:Int) + 1=rk.Id\/((i:Int) + 1∈ybb n rk.Id/\okA rk (rOf R ((i:Int) + 1)) = true))/\(∀ j∈done,okA rk (rOf R j) = true->G[(j - 1).toNat]? = some true)/\G[(rk.Id - 1).toNat]? = some true) \/
   (q.ym=0/\outs = []/\∃ j∈ybb n rk.Id,okA rk (rOf R j) = false) \/
   (q=yas rk/\outs=(ybb n rk.Id).map (yex (yas rk))/\Won1 n rk R) \/
   (q.ym=0/\outs=(ybb n rk.Id).map (yex (yas rk))/\rk.yc + 1 < q.yc/\Won1 n rk R/\∃ j∈ybb n rk.Id,rk.yc + 1 < (rOf R j).yc)
theorem ynt{G:List Bool}{j:Int}(h1:1<=j)(h2:j<=(G.length:Int))(i:Nat):(ybl G (j - 1) true)[i]? = some true↔((i:Int) + 1=j\/G[i]? = some true):=by
  unfold ybl
  by_cases he:(j - 1).toNat=i
  .subst he
   rw [wu (by omega)]
   exact ⟨fun _=>.inl (by omega),fun _=>rfl⟩
  .rw [ja he]
   exact ⟨.inr,fun h=>by
     rcases h with h | h
     .omega
     .exact h⟩
theorem yzo{G:List Bool}{j:Int}:(ybl G j true).length=G.length:=by unfold ybl; rw [kl]
theorem ycbe{R:List ye}{done:List Int}{j:Int}{outs:List yj}(hk:OkR B rk)(hB:B < 1000000)(h1:rk.ym=1)(hl:rk.yak=0)(hnw:ydv (yfq rk) = false)(hN:rk.N=(n:Int))(hj:j∈ybb n rk.Id)(hr:OkR B (rOf R j))(hid:(rOf R j).Id=j)(hc:rk.yu=0)
    (h:St1 n rk R done q outs):St1 n rk R (done++[j]) (yaj q (yjh rk (rOf R j))).1 (outs++(yaj q (yjh rk (rOf R j))).2):=by
  obtain ⟨j1,j2,j3⟩:=ycl.1 hj
  have hkt:=hk.term; have hrt:=hr.term; have hki:=hk.id
  have mem:∀ {P:Int->Prop},(∀ i∈done,P i)->P j->∀ i∈done++[j],P i:=fun hd hp i hi=>by
    rcases qt.1 hi with hi | hi
    .exact hd i hi
    .rw [wb] at hi; rw [hi]; exact hp
  have nil:∀ l:List yj,l++[] = l:=jh
  have href:ydg q (yjh rk (rOf R j)) = false:=by
    refine yow (by rw [h.id]; rfl) (by show 1<=(rOf R j).Id; omega) (by show (rOf R j).Id<=q.N; rw [h.nn]; omega) (by show (rOf R j).Id≠q.Id; rw [h.id]; omega) ?_ ?_ (qh _)
    .show 0<=if okA rk (rOf R j) = true then rk.yc + 1 else (rOf R j).yc
     split <;> omega
    .show (if okA rk (rOf R j) = true then rk.yc + 1 else (rOf R j).yc)<=_
     split <;> omega
  by_cases hA:okA rk (rOf R j) = true
  .have hT:=(ysz hA).1
   have hok:(yjh rk (rOf R j)).Ok=true:=hA
   have hrise:yje q (yjh rk (rOf R j)) = false:=by
     unfold yje
     rw [hok,qf (show ¬ (yjh rk (rOf R j)).yae≠2 from fun h=>h rfl)]
     simp
   have htm:(yjh rk (rOf R j)).yc=rk.yc + 1:=by show (if okA rk (rOf R j) = true then rk.yc + 1 else _) = _; rw [qe hA]
   have htk:ydq q (yjh rk (rOf R j)) = yit q (yjh rk (rOf R j)):=rfl
   rw [yjo href hrise,htk]
   rcases h.cs with ⟨c1,G,c2,c3,c4,c5,c6,c7⟩ | c
   .subst c2
    have hu:yit { rk with yq:=G } (yjh rk (rOf R j)) = if ydv (ybl G (j - 1) true) = true then yea (yat { rk with yq:=G } (yjh rk (rOf R j))) else ({ rk with yq:=ybl G (j - 1) true },[]):=by
      unfold yit
      rw [qe ⟨hok,h1,htm⟩]
      have e:(yat { rk with yq:=G } (yjh rk (rOf R j))).yq=ybl G (j - 1) true:=by show ybl G ((rOf R j).Id - 1) true=_; rw [hid]
      have e2:yat { rk with yq:=G } (yjh rk (rOf R j)) = { rk with yq:=ybl G (j - 1) true }:=by
        show ({ rk with yq:=ybl G ((rOf R j).Id - 1) true }:ye) = _
        rw [hid]
      rw [e,e2]
    have hG5:∀ i:Nat,(ybl G (j - 1) true)[i]? = some true->(i:Int) + 1=rk.Id\/((i:Int) + 1∈ybb n rk.Id/\okA rk (rOf R ((i:Int) + 1)) = true):=fun i hi=>by
      rcases (ynt (G:=G) j1 (by omega) i).1 hi with hi | hi
      .rw [hi]; exact .inr ⟨hj,hA⟩
      .exact c5 i hi
    rw [hu]
    split
    .rename_i hw
     have e:yea (yat { rk with yq:=G } (yjh rk (rOf R j))) = (yas rk,(yca rk).map (yex (yas rk))):=by
       unfold yea
       have:ydv (yfq (yat { rk with yq:=G } (yjh rk (rOf R j)))) = false:=hnw
       rw [qc (by rw [this]; exact qw)]
       rfl
     rw [e,c1,yams hN]
     exact ⟨rfl,rfl,rfl,rfl,by show rk.yc<=if rk.yc < rk.yc + 1 then rk.yc + 1 else rk.yc; split <;> omega,rfl,rfl,fun i hi hf=>by
         show _<=if rk.yc < rk.yc + 1 then rk.yc + 1 else rk.yc
         rw [qe (by omega)]
         have:=mem (P:=fun i=>okA rk (rOf R i) = false->(rOf R i).yc<=rk.yc) h.refs (fun hf=>by rw [hA] at hf; cases hf) i hi hf
         omega,fun ho=>absurd ho (by
         rw [List.nil_append]
         intro e
         have:=List.map_eq_nil_iff.1 e
         rw [this] at hj
         exact absurd hj wz),.inr (.inr (.inl ⟨rfl,rfl,_,by rw [yzo]; exact c3,hw,hG5⟩))⟩
    .rename_i hw
     rw [nil]
     refine ⟨rfl,rfl,rfl,hl,qh _,rfl,hc,mem h.refs (fun hf=>by rw [hA] at hf; cases hf),h.max,.inl ⟨c1,_,rfl,by rw [yzo]; exact c3,by simpa using hw,hG5,mem (fun i hi hf=>?_) (fun _=>?_),?_⟩⟩
     .exact (ynt (G:=G) j1 (by omega) _).2 (.inr (c6 i hi hf))
     .exact (ynt (G:=G) j1 (by omega) _).2 (.inl (by omega))
     .exact (ynt (G:=G) j1 (by omega) _).2 (.inr c7)
   .have h1':q.ym≠1:=by
      rcases c with ⟨c,_⟩ | ⟨c,_⟩ | ⟨c,_⟩
      .omega
      .rw [c]; show (2:Int)≠1; decide
      .omega
    have hu:yit q (yjh rk (rOf R j)) = (q,[]):=by
      unfold yit
      rw [qc (fun hh=>h1' hh.2.1)]
    rw [hu,nil]
    exact ⟨h.id,h.nn,h.log,h.lead,h.term,h.wait,h.clock,mem h.refs (fun hf=>by rw [hA] at hf; cases hf),h.max,.inr c⟩
  .have hA:okA rk (rOf R j) = false:=by simpa using hA
   have hok:(yjh rk (rOf R j)).Ok=false:=hA
   have htm:(yjh rk (rOf R j)).yc=(rOf R j).yc:=by show (if okA rk (rOf R j) = true then _ else (rOf R j).yc) = _; rw [qc (by rw [hA]; exact qw)]
   have hno:∀ p:ye,ydq p (yjh rk (rOf R j)) = (p,[]):=fun p=>by
     show yit p (yjh rk (rOf R j)) = _
     unfold yit
     rw [qc (fun hh=>by rw [hok] at hh; exact qw hh.1)]
   by_cases ht:q.yc < (rOf R j).yc
   .rw [ywg href (yzj (by rw [htm]; exact ht) (by show (2:Int)≠1; decide) (.inr hok)),hno,nil,htm]
    have eT:(yai q (rOf R j).yc 0).yc=(rOf R j).yc:=by show (if q.yc < (rOf R j).yc then (rOf R j).yc else q.yc) = _; rw [qe ht]
    have hqt:=h.term
    refine ⟨h.id,h.nn,h.log,rfl,by rw [eT]; omega,h.wait,h.clock,mem (fun i hi hf=>?_) (fun _=>by rw [eT]; exact qh _),fun ho M hM1 hM2=>by rw [eT]; exact hM2 j hj,.inr ?_⟩
    .rw [eT]
     have:=h.refs i hi hf
     omega
    .rcases h.cs with ⟨c1,_⟩ | ⟨_,c1,_⟩ | ⟨c0,c1,c2⟩ | ⟨c0,c1,c2,c3,c4⟩
     .exact .inl ⟨rfl,c1,j,hj,hA⟩
     .exact .inl ⟨rfl,c1,j,hj,hA⟩
     .rw [c0] at ht
      have ht:(if rk.yc < rk.yc + 1 then rk.yc + 1 else rk.yc) < (rOf R j).yc:=ht
      rw [qe (by omega)] at ht
      exact .inr (.inr ⟨rfl,c1,by rw [eT]; exact ht,c2,j,hj,ht⟩)
     .exact .inr (.inr ⟨rfl,c1,by rw [eT]; omega,c3,c4⟩)
   .rw [yjo href (yoj (by rw [htm]; omega)),hno,nil]
    refine ⟨h.id,h.nn,h.log,h.lead,h.term,h.wait,h.clock,mem h.refs (fun _=>Int.not_lt.1 ht),h.max,?_⟩
    rcases h.cs with ⟨c1,G,c2,c3,c4,c5,c6,c7⟩ | c
    .exact .inl ⟨c1,G,c2,c3,c4,c5,mem c6 (fun hf=>by rw [hA] at hf; cases hf),c7⟩
    .exact .inr c
end
end Go.Proofs.Ytgoachcogmlhcaa.R
set_option maxRecDepth 100000
set_option linter.unusedVariables false
set_option linter.unusedSimpArgs false
noncomputable section
namespace Go.Proofs.Ytgoachcogmlhcaa.R
open Go
section
variable {B b W:Int} {n:Nat} {g:Gh} {w:yab} {r s q rk:ye} {x y:yj} {R:List ye}
def ygc(rk r:ye):ye:=if r.yc < rk.yc + 1 then yai r (rk.yc + 1) 0 else r
def okV(rk r:ye):Bool:=ymq (ygc rk r) (yex (yas rk) 0)
def ykp(rk r:ye):yj:=ydr (ygc rk r) (yex (yas rk) 0) 4 (ygc rk r).yc 0 (okV rk r)
def yqz(rk r:ye):ye:=if okV rk r=true then { ygc rk r with yan:=rk.Id,yu:=0 } else ygc rk r
theorem yox(rk:ye):(yas rk).yc=rk.yc + 1:=by
  show (if rk.yc < rk.yc + 1 then rk.yc + 1 else rk.yc) = _
  rw [qe (by omega)]
theorem ywt(rk r:ye):(ygc rk r).Id=r.Id/\(ygc rk r).N=r.N/\(ygc rk r).yg=r.yg/\((ygc rk r).yak=0\/(ygc rk r).yak=r.yak)/\((ygc rk r).ym=0\/ygc rk r=r)/\(ygc rk r).yc=max r.yc (rk.yc + 1):=by
  unfold ygc
  split
  .rename_i h
   refine ⟨rfl,rfl,rfl,.inl rfl,.inl rfl,?_⟩
   show (if r.yc < rk.yc + 1 then rk.yc + 1 else r.yc) = _
   rw [qe h]
   omega
  .exact ⟨rfl,rfl,rfl,.inr rfl,.inr rfl,by omega⟩
theorem yalc(rk r:ye):(yqz rk r).Id=r.Id/\(yqz rk r).yg=r.yg/\((yqz rk r).yak=0\/(yqz rk r).yak=r.yak)/\((yqz rk r).ym=0\/yqz rk r=r)/\(yqz rk r).yc=max r.yc (rk.yc + 1):=by
  obtain ⟨a1,a2,a3,a4,a5,a6⟩:=ywt rk r
  unfold yqz
  split
  .rename_i h
   unfold okV ymq at h
   simp only [qq,wv] at h
   exact ⟨a1,a3,a4,.inl h.2.1,a6⟩
  .exact ⟨a1,a3,a4,a5,a6⟩
theorem ybsb{j:Int}(h:OkR B r)(hk:OkR B rk)(hB:B < 1000000)(h1:r.Id=j)(h2:rk.Id<=r.N)(h3:rk.Id≠j):yaj r (yex (yas rk) j) = (yqz rk r,[ykp rk r]):=by
  have ht:=hk.term; have hid:=hk.id
  have hl:=ymj hk.log
  have hS:=yox rk
  have hr:ydg r (yex (yas rk) j) = false:=yow h1.symm hid.1 h2 (by show rk.Id≠r.Id; omega) (by show 0<=(yas rk).yc; omega) (by show (yas rk).yc<=_; omega) hl.1
  have hv:∀ p:ye,ydq p (yex (yas rk) j) = yjf p (yex (yas rk) 0):=fun p=>rfl
  have e:yjf (ygc rk r) (yex (yas rk) 0) = (yqz rk r,[ykp rk r]):=by
    unfold yqz ykp okV yjf
    split
    .rename_i hh
     rw [hh]
     rfl
    .rename_i hh
     have hh:ymq (ygc rk r) (yex (yas rk) 0) = false:=by simpa using hh
     rw [hh]
  have htm:(yex (yas rk) j).yc=rk.yc + 1:=hS
  by_cases hc:r.yc < rk.yc + 1
  .rw [ywg hr (yzj (by rw [htm]; exact hc) (by show (3:Int)≠1; decide) (.inl (by show (3:Int)≠2; decide))),hv,htm,← e]
   unfold ygc
   rw [qe hc]
  .rw [yjo hr (yoj (by rw [htm]; omega)),hv,← e]
   unfold ygc
   rw [qc hc]
theorem ycjk(h:okA rk r=true):okV rk r=true:=by
  obtain ⟨h1,h2⟩:=ysz h
  have e:ygc rk r=yai r (rk.yc + 1) 0:=by unfold ygc; rw [qe (by omega)]
  unfold okV ymq
  rw [e]
  have t:(yai r (rk.yc + 1) 0).yc=rk.yc + 1:=by show (if r.yc < rk.yc + 1 then _ else _) = _; rw [qe (by omega)]
  have v:(yai r (rk.yc + 1) 0).yan=0:=by show (if r.yc < rk.yc + 1 then _ else _) = _; rw [qe (by omega)]
  have hn:ykb (yai r (rk.yc + 1) 0).yg (yex (yas rk) 0).ybf (yex (yas rk) 0).At=true:=h2
  rw [t,v,hn,qg (show (yex (yas rk) 0).yc=rk.yc + 1 from yox rk),qg (show (yai r (rk.yc + 1) 0).ym=0 from rfl)]
  simp
def St2(n:Nat)(rk:ye)(R:List ye)(done:List Int)(q:ye)(outs:List yj):Prop:=
  (outs = []/\∃ G:List Bool,q = { yas rk with yq:=G }/\G.length=n/\ydv G=false/\(∀ j∈done,okV rk (rOf R j) = true->G[(j - 1).toNat]? = some true)/\G[(rk.Id - 1).toNat]? = some true) \/
    (q=(yco (yas rk)).1/\outs=(yco (yas rk)).2)
theorem ycbf{done:List Int}{j:Int}{outs:List yj}(hk:OkR B rk)(hB:B < 1000000)(hN:rk.N=(n:Int))(hj:j∈ybb n rk.Id)(hr:OkR B (rOf R j))(hid:(rOf R j).Id=j)(ht:(rOf R j).yc<=rk.yc + 1)
    (h:St2 n rk R done q outs):St2 n rk R (done++[j]) (yaj q (ykp rk (rOf R j))).1 (outs++(yaj q (ykp rk (rOf R j))).2):=by
  obtain ⟨j1,j2,j3⟩:=ycl.1 hj
  have hkt:=hk.term; have hrt:=hr.term; have hki:=hk.id
  obtain ⟨a1,a2,a3,a4,a5,a6⟩:=ywt rk (rOf R j)
  have hS:=yox rk
  obtain ⟨l1,l2,l3⟩:=yrm (yas rk)
  have htm:(ykp rk (rOf R j)).yc=rk.yc + 1:=by show (ygc rk (rOf R j)).yc=_; rw [a6]; omega
  have hq:q.Id=rk.Id/\q.N=rk.N/\q.yc=rk.yc + 1:=by
    rcases h with ⟨_,G,h2,_⟩ | ⟨h1,_⟩
    .rw [h2]; exact ⟨rfl,rfl,hS⟩
    .rw [h1]; exact ⟨l1,l2,by rw [l3]; exact hS⟩
  obtain ⟨q1,q2,q3⟩:=hq
  have href:ydg q (ykp rk (rOf R j)) = false:=
    yow (by rw [q1]; rfl) (by show 1<=(ygc rk (rOf R j)).Id; omega) (by show (ygc rk (rOf R j)).Id<=q.N; omega) (by show (ygc rk (rOf R j)).Id≠q.Id; omega) (by omega) (by omega) (qh _)
  rw [yjo href (yoj (by omega)),show ydq q (ykp rk (rOf R j)) = ygb q (ykp rk (rOf R j)) from rfl]
  rcases h with ⟨c1,G,c2,c3,c4,c6,c7⟩ | ⟨c1,c2⟩
  .subst c2
   by_cases hv:okV rk (rOf R j) = true
   .have e2:yat { yas rk with yq:=G } (ykp rk (rOf R j)) = { yas rk with yq:=ybl G (j - 1) true }:=by
      show ({ yas rk with yq:=ybl G ((ygc rk (rOf R j)).Id - 1) true }:ye) = _
      rw [a1,hid]
    have hu:ygb { yas rk with yq:=G } (ykp rk (rOf R j)) = if ydv (ybl G (j - 1) true) = true then yco { yas rk with yq:=ybl G (j - 1) true } else ({ yas rk with yq:=ybl G (j - 1) true },[]):=by
      unfold ygb
      rw [qe ⟨hv,rfl,by rw [htm]; exact hS.symm⟩,e2]
    rw [hu,c1]
    split
    .exact .inr ⟨rfl,rfl⟩
    .rename_i hw
     refine .inl ⟨rfl,_,rfl,by rw [yzo]; exact c3,by simpa using hw,fun i hi hf=>?_,?_⟩
     .rcases qt.1 hi with hi | hi
      .exact (ynt (G:=G) j1 (by omega) _).2 (.inr (c6 i hi hf))
      .rw [wb] at hi
       exact (ynt (G:=G) j1 (by omega) _).2 (.inl (by omega))
     .exact (ynt (G:=G) j1 (by omega) _).2 (.inr c7)
   .have hv:okV rk (rOf R j) = false:=by simpa using hv
    have hu:ygb { yas rk with yq:=G } (ykp rk (rOf R j)) = ({ yas rk with yq:=G },[]):=by
      unfold ygb
      rw [qc (fun hh=>by
       have:okV rk (rOf R j) = true:=hh.1
       rw [hv] at this
       exact qw this)]
    rw [hu,jh]
    refine .inl ⟨c1,G,rfl,c3,c4,fun i hi hf=>?_,c7⟩
    rcases qt.1 hi with hi | hi
    .exact c6 i hi hf
    .rw [wb] at hi
     rw [hi,hv] at hf
     cases hf
  .have hu:ygb q (ykp rk (rOf R j)) = (q,[]):=by
     unfold ygb
     rw [qc (fun hh=>by
      have h2:=hh.2.1
      rw [c1,yia] at h2
      exact absurd h2 (by decide))]
   rw [hu,jh]
   exact .inr ⟨c1,c2⟩
structure Rest (n:Nat) (rk:ye) (R R':List ye):Prop where
  role:(rOf R' rk.Id).ym≠3
  lead:(rOf R' rk.Id).yak=0
  log:(rOf R' rk.Id).yg=rk.yg
  term:rk.yc<=(rOf R' rk.Id).yc
  wait:(rOf R' rk.Id).yam=rk.yam
  clock:(rOf R' rk.Id).yu=0
  o:∀ j∈ybb n rk.Id,(rOf R' j).yg=(rOf R j).yg/\((rOf R' j).yak=0\/(rOf R' j).yak=(rOf R j).yak)/\((rOf R' j).ym=0\/rOf R' j=rOf R j)/\(rOf R' j).yc<=(rOf R' rk.Id).yc
  c:(Won1 n rk R/\∃ j∈ybb n rk.Id,rk.yc + 1 < (rOf R j).yc)\/((∀ j∈ybb n rk.Id,rOf R' j=rOf R j)/\∀ M,rk.yc<=M->(∀ j∈ybb n rk.Id,(rOf R j).yc<=M)->(rOf R' rk.Id).yc<=M)
  a:∃ j∈ybb n rk.Id,okA rk (rOf R j) = false
theorem ybjo(hn:2<=n/\n<=5)(hlen:R.length=n)(hR:∀ id:Int,1<=id->id<=(n:Int)->OkR B (rOf R id)/\(rOf R id).Id=id/\(rOf R id).N=(n:Int))(hB:B < 1000000)(hk:OkR B rk)(hN:rk.N=(n:Int))(he:rOf R rk.Id=rk)
    (h1:rk.ym=1) (hl:rk.yak=0) (hc:rk.yu=0) (hg:rk.yq=yfq rk) (hnw:ydv (yfq rk) = false) :
    ∃ m R',m<=16/\R'.length=n/\((ybp m ⟨R,(ybb n rk.Id).map (yij rk)⟩ = ⟨R',[]⟩/\Rest n rk R R') \/
      (ybp m ⟨R,(ybb n rk.Id).map (yij rk)⟩ = ⟨R',(yco (yas rk)).2⟩/\rOf R' rk.Id=(yco (yas rk)).1/\Won1 n rk R/\∀ j∈ybb n rk.Id,rOf R' j=yqz rk (rOf R j)/\(rOf R j).yc<=rk.yc + 1)):=by
  have hki:=hk.id; have hkt:=hk.term
  have hJ:(ybb n rk.Id).Nodup:=ylb n 1
  have hJ4:(ybb n rk.Id).length<=4:=yagi hki.1 (by omega) hn.2
  have hJm:∀ j∈ybb n rk.Id,1<=j/\j<=(n:Int)/\j≠rk.Id:=fun j hj=>ycl.1 hj
  have hra:∀ j∈ybb n rk.Id,yaj (rOf R j) (yij rk j) = (rOf R j,[yjh rk (rOf R j)]):=fun j hj=>by
    obtain ⟨j1,j2,j3⟩:=hJm j hj
    obtain ⟨o1,o2,o3⟩:=hR j j1 j2
    exact ybzw o1 hk hB o2 (by omega) (fun e=>j3 e.symm)
  obtain ⟨R1,s1,s2,s3⟩:=yxs (R:=R) (f:=yij rk) (a:=fun j=>yjh rk (rOf R j)) hJ (fun j hj=>by obtain ⟨j1,j2,j3⟩:=hJm j hj; omega) (fun j _=>rfl) (by show (ybb n rk.Id).length<=30; omega) (fun j hj=>by rw [hra j hj])
  have hR1:∀ id,1<=id->rOf R1 id=rOf R id:=fun id h=>by
    rw [s2 id h]
    split
    .rename_i hm
     rw [hra id hm]
    .rfl
  have hstep:∀ done j q outs,j∈ybb n rk.Id->j∉done->done.length < (ybb n rk.Id).length->St1 n rk R done q outs->St1 n rk R (done++[j]) (yaj q (yjh rk (rOf R j))).1 (outs++(yaj q (yjh rk (rOf R j))).2):=fun done j q outs hj _ _ hs=>by
    obtain ⟨j1,j2,j3⟩:=hJm j hj
    obtain ⟨o1,o2,o3⟩:=hR j j1 j2
    exact ycbe hk hB h1 hl hnw hN hj o1 o2 hc hs
  have hbound:∀ done q outs,St1 n rk R done q outs->outs.length<=40:=fun done q outs hs=>by
    rcases hs.cs with ⟨c,_⟩ | ⟨_,c,_⟩ | ⟨_,c,_⟩ | ⟨_,c,_⟩
    .rw [c]; simp
    .rw [c]; simp
    .rw [c,wj]; omega
    .rw [c,wj]; omega
  have hlen1:rk.yq.length=n:=by rw [hg]; unfold yfq; rw [yzo]; simp; omega
  have hone:∀ i:Nat,(yfq rk)[i]? = some true↔(i:Int) + 1=rk.Id:=fun i=>by
    unfold yfq
    have:=ynt (G:=List.replicate rk.N.toNat false) (j:=rk.Id) hki.1 (by simp; omega) i
    rw [this]
    constructor
    .rintro (h | h)
     .exact h
     .rw [kh] at h
      split at h <;> cases h
    .exact .inl
  have h0:St1 n rk R [] (rOf R1 rk.Id) []:=by
    rw [hR1 _ hki.1,he]
    exact ⟨rfl,rfl,rfl,hl,qh _,rfl,hc,by simp,fun _ M hM _=>hM,.inl ⟨rfl,rk.yq,rfl,hlen1,by rw [hg]; exact hnw,fun i hi=>.inl ((hone i).1 (by rw [← hg]; exact hi)),by simp,by rw [hg]; exact (hone _).2 (by omega)⟩⟩
  obtain ⟨R2,q,outs,t1,t2,t3,t4⟩:=yxg (R:=R1) (a:=fun j=>yjh rk (rOf R j)) (K:=rk.Id) hki.1 (by omega) (fun j _=>rfl) hJ (by omega) hstep hbound h0
  have e2:ybp ((ybb n rk.Id).length + (ybb n rk.Id).length) ⟨R,(ybb n rk.Id).map (yij rk)⟩ = ⟨R2,outs⟩:=by
    rw [yfe,show ybp (ybb n rk.Id).length ⟨R,(ybb n rk.Id).map (yij rk)⟩ = _ from s3,t4]
  have hK2:rOf R2 rk.Id=q:=by rw [t3 _ hki.1,qe rfl]
  have hO2:∀ j∈ybb n rk.Id,rOf R2 j=rOf R j:=fun j hj=>by
    obtain ⟨j1,j2,j3⟩:=hJm j hj
    rw [t3 j j1,qc j3,hR1 j j1]
  have hTq:∀ j∈ybb n rk.Id,(rOf R j).yc<=q.yc:=fun j hj=>by
    by_cases hA:okA rk (rOf R j) = true
    .have:=(ysz hA).1
     have:=t1.term
     omega
    .exact t1.refs j hj (by simpa using hA)
  have rest0:outs = []->q.ym≠3->(∃ j∈ybb n rk.Id,okA rk (rOf R j) = false)->Rest n rk R R2:=fun ho hr ha=>by
    refine ⟨by rw [hK2]; exact hr,by rw [hK2]; exact t1.lead,by rw [hK2]; exact t1.log,by rw [hK2]; exact t1.term,by rw [hK2]; exact t1.wait,by rw [hK2]; exact t1.clock,fun j hj=>?_,.inr ⟨hO2,?_⟩,ha⟩
    .rw [hO2 j hj,hK2]
     exact ⟨rfl,.inr rfl,.inr rfl,hTq j hj⟩
    .rw [hK2]; exact t1.max ho
  have hrv:∀ j∈ybb n rk.Id,yaj (rOf R2 j) (yex (yas rk) j) = (yqz rk (rOf R j),[ykp rk (rOf R j)]):=fun j hj=>by
    obtain ⟨j1,j2,j3⟩:=hJm j hj
    obtain ⟨o1,o2,o3⟩:=hR j j1 j2
    rw [hO2 j hj]
    exact ybsb o1 hk hB o2 (by omega) (fun e=>j3 e.symm)
  obtain ⟨R3,u1,u2,u3⟩:=yxs (R:=R2) (f:=yex (yas rk)) (a:=fun j=>ykp rk (rOf R j)) hJ (fun j hj=>by obtain ⟨j1,j2,j3⟩:=hJm j hj; omega) (fun j _=>rfl) (by show (ybb n rk.Id).length<=30; omega) (fun j hj=>by rw [hrv j hj])
  have hK3:rOf R3 rk.Id=q:=by rw [u2 _ hki.1,qc (fun hm=>(hJm _ hm).2.2 rfl),hK2]
  have hO3:∀ j∈ybb n rk.Id,rOf R3 j=yqz rk (rOf R j):=fun j hj=>by
    obtain ⟨j1,j2,j3⟩:=hJm j hj
    rw [u2 j j1,qe hj,hrv j hj]
  have hto:∀ j∈ybb n rk.Id,((fun j=>ykp rk (rOf R j)) j).To=rk.Id:=fun j _=>rfl
  rcases t1.cs with ⟨c1,G,c2,c3,c4,c5,c6,c7⟩ | ⟨c0,c1,c2⟩ | ⟨c0,c1,c2⟩ | ⟨c0,c1,c2,c3,c4⟩
  .refine ⟨(ybb n rk.Id).length + (ybb n rk.Id).length,R2,by omega,by omega,.inl ⟨by rw [e2,c1],rest0 c1 (by rw [c2]; show rk.ym≠3; omega) ?_⟩⟩
   rcases Classical.em (∃ j∈ybb n rk.Id,okA rk (rOf R j) = false) with h | h
   .exact h
   .have hall:∀ j∈ybb n rk.Id,okA rk (rOf R j) = true:=fun j hj=>by
      cases hA:okA rk (rOf R j) with
      | true=>rfl
      | false=>exact absurd ⟨j,hj,hA⟩ h
    have:ydv G=true:=ycmk (by omega) fun i hi=>by
      by_cases hi2:(i:Int) + 1=rk.Id
      .have:=c7
       rwa [show (rk.Id - 1).toNat=i by omega] at this
      .have hm:(i:Int) + 1∈ybb n rk.Id:=ycl.2 ⟨by omega,by omega,hi2⟩
       have:=c6 _ hm (hall _ hm)
       rwa [show ((i:Int) + 1 - 1).toNat=i by omega] at this
    rw [c4] at this
    cases this
  .exact ⟨(ybb n rk.Id).length + (ybb n rk.Id).length,R2,by omega,by omega,.inl ⟨by rw [e2,c1],rest0 c1 (by omega) c2⟩⟩
  .have hT:∀ j∈ybb n rk.Id,(rOf R j).yc<=rk.yc + 1:=fun j hj=>by
     have:=hTq j hj
     rw [c0,yox] at this
     exact this
   obtain ⟨R4,q4,outs4,v1,v2,v3,v4⟩:=yxg (R:=R3) (a:=fun j=>ykp rk (rOf R j)) (K:=rk.Id) hki.1 (by omega) hto hJ (by omega) (P:=St2 n rk R) (fun done j q outs hj _ _ hs=>by
     obtain ⟨j1,j2,j3⟩:=hJm j hj
     obtain ⟨o1,o2,o3⟩:=hR j j1 j2
     exact ycbf hk hB hN hj o1 o2 (hT j hj) hs) (fun done q outs hs=>by
     rcases hs with ⟨c,_⟩ | ⟨_,c⟩
     .rw [c]; simp
     .rw [c]
      show ((yca (yft (yas rk))).map _).length<=40
      rw [wj,yams (r:=yft (yas rk)) (n:=n) hN]
      show (ybb n rk.Id).length<=40
      omega) (by
     rw [hK3,c0]
     exact .inl ⟨rfl,yfq rk,rfl,by rw [← hg]; exact hlen1,hnw,by simp,(hone _).2 (by omega)⟩)
   have e4:ybp ((ybb n rk.Id).length + (ybb n rk.Id).length + ((ybb n rk.Id).length + (ybb n rk.Id).length)) ⟨R,(ybb n rk.Id).map (yij rk)⟩ = ⟨R4,outs4⟩:=by
     rw [yfe,e2,c1,yfe,show ybp (ybb n rk.Id).length ⟨R2,(ybb n rk.Id).map (yex (yas rk))⟩ = _ from u3,v4]
   rcases v1 with ⟨d1,G,d2,d3,d4,d5,d6⟩ | ⟨d1,d2⟩
   .exfalso
    obtain ⟨G1,w1,w2,w3⟩:=c2
    have:ydv G=true:=ycml (by omega) (fun i hi=>by
      rcases w3 i hi with hi2 | ⟨hi2,hA⟩
      .have:=d6
       rwa [show (rk.Id - 1).toNat=i by omega] at this
      .have:=d5 _ hi2 (ycjk hA)
       rwa [show ((i:Int) + 1 - 1).toNat=i by omega] at this) w2
    rw [d4] at this
    cases this
   .refine ⟨(ybb n rk.Id).length + (ybb n rk.Id).length + ((ybb n rk.Id).length + (ybb n rk.Id).length),R4,by omega,by omega,.inr ⟨by rw [e4,d2],by rw [v3 _ hki.1,qe rfl,d1],c2,fun j hj=>⟨?_,hT j hj⟩⟩⟩
    obtain ⟨j1,j2,j3⟩:=hJm j hj
    rw [v3 j j1,qc j3,hO3 j hj]
  .obtain ⟨R4,q4,outs4,v1,v2,v3,v4⟩:=yxg (R:=R3) (a:=fun j=>ykp rk (rOf R j)) (K:=rk.Id) hki.1 (by omega) hto hJ (by omega) (P:=fun _ q' o'=>q' = q/\o' = []) (fun done j q' o' hj _ _ hs=>by
     obtain ⟨j1,j2,j3⟩:=hJm j hj
     obtain ⟨o1,o2,o3⟩:=hR j j1 j2
     obtain ⟨rfl,rfl⟩:=hs
     obtain ⟨a1,a2,a3,a4,a5,a6⟩:=ywt rk (rOf R j)
     have htq:=hTq j hj
     have hot:=o1.term
     have htm:(ykp rk (rOf R j)).yc=max (rOf R j).yc (rk.yc + 1):=a6
     have hqi:=t1.id; have hqn:=t1.nn
     have href:ydg q' (ykp rk (rOf R j)) = false:=
       yow (by rw [hqi]; rfl) (by show 1<=(ygc rk (rOf R j)).Id; omega) (by show (ygc rk (rOf R j)).Id<=q'.N; omega) (by show (ygc rk (rOf R j)).Id≠q'.Id; omega) (by omega) (by omega) (qh _)
     have hu:yaj q' (ykp rk (rOf R j)) = (q',[]):=by
       rw [yjo href (yoj (by omega)),show ydq q' (ykp rk (rOf R j)) = ygb q' (ykp rk (rOf R j)) from rfl]
       unfold ygb
       rw [qc (fun hh=>by have:=hh.2.1; omega)]
     rw [hu]
     exact ⟨rfl,rfl⟩) (fun done q' o' hs=>by rw [hs.2]; simp) ⟨hK3,rfl⟩
   obtain ⟨d1,d2⟩:=v1
   have e4:ybp ((ybb n rk.Id).length + (ybb n rk.Id).length + ((ybb n rk.Id).length + (ybb n rk.Id).length)) ⟨R,(ybb n rk.Id).map (yij rk)⟩ = ⟨R4,[]⟩:=by
     rw [yfe,e2,c1,yfe,show ybp (ybb n rk.Id).length ⟨R2,(ybb n rk.Id).map (yex (yas rk))⟩ = _ from u3,v4,d2]
   have hK4:rOf R4 rk.Id=q:=by rw [v3 _ hki.1,qe rfl,d1]
   obtain ⟨jj,jm,jt⟩:=c4
   refine ⟨(ybb n rk.Id).length + (ybb n rk.Id).length + ((ybb n rk.Id).length + (ybb n rk.Id).length),R4,by omega,by omega,.inl ⟨e4,by rw [hK4]; omega,by rw [hK4]; exact t1.lead,by rw [hK4]; exact t1.log,by rw [hK4]; exact t1.term,by rw [hK4]; exact t1.wait,by rw [hK4]; exact t1.clock,fun j hj=>?_,.inl ⟨c3,jj,jm,jt⟩,jj,jm,?_⟩⟩
   .obtain ⟨j1,j2,j3⟩:=hJm j hj
    obtain ⟨f1,f2,f3,f4,f5⟩:=yalc rk (rOf R j)
    have htq:=hTq j hj
    rw [hK4,v3 j j1,qc j3,hO3 j hj]
    exact ⟨f2,f3,f4,by omega⟩
   .cases hA:okA rk (rOf R jj) with
    | false=>rfl
    | true=>have:=(ysz hA).1; omega
end
end Go.Proofs.Ytgoachcogmlhcaa.R
set_option maxRecDepth 100000
set_option linter.unusedVariables false
set_option linter.unusedSimpArgs false
noncomputable section
namespace Go.Proofs.Ytgoachcogmlhcaa.R
open Go
section
variable {B b W:Int} {n:Nat} {g:Gh} {w:yab} {r s q:ye} {x y:yj} {R:List ye}
def mk6(fr to t a:Int)(ok:Bool):yj:=⟨6,0,fr,to,t,a,0,0,ok,[],[]⟩
theorem ybsa(h:OkR B r)(hx:OkM B x)(hB:B < 1000000)(hk:x.yae=5\/x.yae=7)(hto:x.To=r.Id)(h1:1<=x.From)(h2:x.From<=r.N)(h3:x.From≠r.Id)(ht:x.yc < r.yc):yaj r x=(r,[mk6 r.Id x.From r.yc 0 false]):=by
  have hxt:=hx.term; have hxa:=hx.at0
  have hd:yld r x=true:=by unfold yld; rw [qg ht]; rfl
  rw [yjo (yow hto h1 h2 h3 (by omega) (by omega) (by omega)) (yoj (by omega))]
  unfold ydq
  rcases hk with hk | hk
  .rw [qc (by omega),qc (by omega),qc (by omega),qc (by omega),qe hk]
   unfold yfo
   rw [qe hd]
   rfl
  .rw [qc (by omega),qc (by omega),qc (by omega),qc (by omega),qc (by omega),qc (by omega),qe hk]
   unfold yky
   rw [qe hd]
   rfl
structure ybbj (r:ye) (x:yj) (p:ye) (a:Int) (ok:Bool):Prop where
  e:yaj r x=(p,[mk6 r.Id x.From x.yc a ok])
  a0:0<=a
  term:p.yc=x.yc
  role:p.ym=0
  lead:p.yak=x.From
  com:r.yl<=p.yl
  k5:x.yae=5->ok=(yev r.yg x.At x.ybf x.yi).2.2/\(ok=true->x.At + (x.yi.length:Int)<=a/\(x.yl<=p.yl\/a<=p.yl))
  k7:x.yae=7->ok=true/\x.At<=a
theorem yaop(h:OkR B r)(hx:OkM B x)(hB:B < 1000000)(hk:x.yae=5\/x.yae=7)(hto:x.To=r.Id)(h1:1<=x.From)(h2:x.From<=r.N)(h3:x.From≠r.Id)(ht:r.yc<=x.yc)(hr:¬ (r.ym=3/\r.yc=x.yc)) :
    ∃ p a ok,ybbj r x p a ok:=by
  have hxt:=hx.term; have hxa:=hx.at0; have hrt:=h.term; have hrc:=h.commit
  have href:=yow hto h1 h2 h3 (by omega) (by omega) (by omega)
  obtain ⟨r',e,i1,i2,i3,i4,i5⟩:∃ r',yaj r x=ydq r' x/\r'.Id=r.Id/\r'.yg=r.yg/\r'.yl=r.yl/\r'.yc=x.yc/\r'.ym≠3:=by
    by_cases hc:r.yc < x.yc
    .refine ⟨yai r x.yc 0,ywg href (yzj hc (by omega) (.inl (by omega))),rfl,rfl,rfl,?_,by show (0:Int)≠3; decide⟩
     show (if r.yc < x.yc then x.yc else r.yc) = _
     rw [qe hc]
    .exact ⟨r,yjo href (yoj (by omega)),rfl,rfl,rfl,by omega,fun h3=>hr ⟨h3,by omega⟩⟩
  have hd:yld r' x=false:=by unfold yld; rw [qf (by omega),qf i5]; rfl
  have hq:(yec r' x).yc=x.yc:=by
    show (if r'.yc < x.yc then x.yc else r'.yc) = _
    rw [qc (by omega)]
    exact i4
  have hm6:∀ a ok,ydr (yec r' x) x 6 (yec r' x).yc a ok=mk6 r.Id x.From x.yc a ok:=fun a ok=>by
    rw [hq]
    unfold ydr mk6
    rw [show (yec r' x).Id=r.Id from i1]
  obtain ⟨p1,p2,p3⟩:=ybak h.log (by omega) hx
  rcases hk with hk | hk
  .have e5:ydq r' x=yfo r' x:=by
     unfold ydq
     rw [qc (by omega),qc (by omega),qc (by omega),qc (by omega),qe hk]
   rw [e5] at e
   unfold yfo at e
   rw [qc (by rw [hd]; exact qw),i2,i3] at e
   simp only at e
   by_cases hp:(yev r.yg x.At x.ybf x.yi).2.2=true
   .rw [qe hp] at e
    have hm:(yil r.yl (yim x.yl (yev r.yg x.At x.ybf x.yi).2.1)) = max r.yl (min x.yl (yev r.yg x.At x.ybf x.yi).2.1):=by rw [yadn,yamk]
    rw [hm] at e
    refine ⟨{ yec r' x with yg:=(yev r.yg x.At x.ybf x.yi).1,yl:=max r.yl (min x.yl (yev r.yg x.At x.ybf x.yi).2.1) },(yev r.yg x.At x.ybf x.yi).2.1,true,?_,p2,hq,rfl,rfl,?_,fun _=>⟨hp.symm,fun _=>⟨ybrm hp,?_⟩⟩,fun h7=>by omega⟩
    .rw [e,hm6]
    .show r.yl<=max r.yl (min x.yl (yev r.yg x.At x.ybf x.yi).2.1)
     omega
    .show x.yl<=max r.yl (min x.yl (yev r.yg x.At x.ybf x.yi).2.1)\/(yev r.yg x.At x.ybf x.yi).2.1<=max r.yl (min x.yl (yev r.yg x.At x.ybf x.yi).2.1)
     omega
   .have hp:(yev r.yg x.At x.ybf x.yi).2.2=false:=by simpa using hp
    rw [qc (by rw [hp]; exact qw)] at e
    refine ⟨yec r' x,(yev r.yg x.At x.ybf x.yi).2.1,false,?_,p2,hq,rfl,rfl,?_,fun _=>⟨hp.symm,fun h=>absurd h qw⟩,fun h7=>by omega⟩
    .rw [e,hm6]
    .show r.yl<=r'.yl
     omega
  .have e7:ydq r' x=yky r' x:=by
     unfold ydq
     rw [qc (by omega),qc (by omega),qc (by omega),qc (by omega),qc (by omega),qc (by omega),qe hk]
   rw [e7] at e
   unfold yky at e
   rw [qc (by rw [hd]; exact qw),i2,i3] at e
   simp only at e
   by_cases hc:r.yl < x.At
   .rw [qe hc] at e
    refine ⟨{ yec r' x with yg:=ykc r.yg x.At x.ybf,yl:=x.At,yaf:=x.yck },x.At,true,?_,hxa.1,hq,rfl,rfl,by show r.yl<=x.At; omega,fun h5=>by omega,fun _=>⟨rfl,qh _⟩⟩
    rw [e,hm6]
   .rw [qc hc] at e
    refine ⟨yec r' x,r.yl,true,?_,hrc.1,hq,rfl,rfl,by show r.yl<=r'.yl; omega,fun h5=>by omega,fun _=>⟨rfl,by omega⟩⟩
    rw [e,hm6]
def ykd(r:ye)(x:yj):yj:=(yaj r x).2.headD (mk6 0 0 0 0 false)
theorem yrg{p:ye}{m:yj}(h:yaj r x=(p,[m])):(yaj r x).2 = [ykd r x]/\ykd r x=m:=by
  unfold ykd
  rw [h]
  exact ⟨rfl,rfl⟩
theorem yakc(h:Inw B b n w){i j:Int}(i1:1<=i)(i2:i<=(n:Int))(j1:1<=j)(j2:j<=(n:Int))(hi:(rOf w.R i).ym=3)(hj:(rOf w.R j).ym=3)(ht:(rOf w.R i).yc=(rOf w.R j).yc):i=j:=by
  obtain ⟨r,e1,e2,e3,e4,e5⟩:=h.at_ i1 i2
  obtain ⟨s,f1,f2,f3,f4,f5⟩:=h.at_ j1 j2
  obtain ⟨⟨g,hg⟩,_⟩:=h
  rw [e2] at hi ht
  rw [f2] at hj ht
  have l1:=((hg.gh.mem _ _ e1).lead hi).l
  have l2:=((hg.gh.mem _ _ f1).lead hj).l
  rw [ht,l2] at l1
  omega
structure St3 (n:Nat) (K T:Int) (R:List ye) (done:List Int) (q:ye) (outs:List yj):Prop where
  id:q.Id=K
  nn:q.N=(n:Int)
  max:∀ M,T<=M->(∀ j∈ybb n K,(rOf R j).yc<=M)->q.yc<=M
  cs:(q.ym=3/\q.yc=T/\∀ j∈done,(rOf R j).yc<=T)\/(q.ym=0/\T < q.yc/\∀ j∈done,(rOf R j).yc<=q.yc)
  out:∃ (D:List Int) (f:Int->yj),outs=D.map f/\D.Nodup/\(∀ j∈D,j∈done)/\outs.length<=done.length/\∀ j∈D,(f j).To=j/\(f j).From=K/\(f j).yc=T/\((f j).yae=5\/(f j).yae=7)
theorem ybaf{K T:Int}{done:List Int}{j:Int}{outs:List yj}{m:yj}(hj:j∉done)(hm:m.To=j/\m.From=K/\m.yc=T/\(m.yae=5\/m.yae=7))
    (h:∃ (D:List Int) (f:Int->yj),outs=D.map f/\D.Nodup/\(∀ j∈D,j∈done)/\outs.length<=done.length/\∀ j∈D,(f j).To=j/\(f j).From=K/\(f j).yc=T/\((f j).yae=5\/(f j).yae=7)) :
    ∃ (D:List Int) (f:Int->yj),outs++[m] = D.map f/\D.Nodup/\(∀ i∈D,i∈done++[j])/\(outs++[m]).length<=(done++[j]).length/\∀ j∈D,(f j).To=j/\(f j).From=K/\(f j).yc=T/\((f j).yae=5\/(f j).yae=7):=by
  obtain ⟨D,f,d1,d2,d3,d4,d5⟩:=h
  have hjD:j∉D:=fun hd=>hj (d3 j hd)
  refine ⟨D++[j],fun i=>if i=j then m else f i,?_,?_,fun i hi=>?_,by simp; omega,fun i hi=>?_⟩
  .rw [d1,ke]
   congr 1
   .refine List.map_congr_left fun i hi=>?_
    rw [qc (fun e=>hjD (by rw [← e]; exact hi))]
   .simp
  .refine kj.2 ⟨d2,by simp,fun a ha c hc=>?_⟩
   rw [wb] at hc
   rintro rfl
   rw [hc] at ha
   exact hjD ha
  .rcases qt.1 hi with hi | hi
   .exact wc _ (d3 i hi)
   .exact wo _ hi
  .by_cases he:i=j
   .simp only [qe he]
    rw [he]
    exact hm
   .simp only [qc he]
    rcases qt.1 hi with hi | hi
    .exact d5 i hi
    .rw [wb] at hi
     exact absurd hi he
theorem St3.same{K T:Int}{done:List Int}{j:Int}{outs:List yj}(h:∃ (D:List Int) (f:Int->yj),outs=D.map f/\D.Nodup/\(∀ j∈D,j∈done)/\outs.length<=done.length/\∀ j∈D,(f j).To=j/\(f j).From=K/\(f j).yc=T/\((f j).yae=5\/(f j).yae=7)) :
    ∃ (D:List Int) (f:Int->yj),outs=D.map f/\D.Nodup/\(∀ i∈D,i∈done++[j])/\outs.length<=(done++[j]).length/\∀ j∈D,(f j).To=j/\(f j).From=K/\(f j).yc=T/\((f j).yae=5\/(f j).yae=7):=by
  obtain ⟨D,f,d1,d2,d3,d4,d5⟩:=h
  exact ⟨D,f,d1,d2,fun i hi=>wc _ (d3 i hi),by simp; omega,d5⟩
theorem ycbg{K T:Int}{done:List Int}{j:Int}{outs:List yj}{y:yj}(hj:j∈ybb n K)(hjd:j∉done)(hT0:0<=T)(hTj:0<=(rOf R j).yc/\(rOf R j).yc<=1000000)(hT1:T<=1000000)
    (y6:y.yae=6) (yf:y.From=j) (yt:y.To=K) (ya:0<=y.At) (yT:y.yc=max (rOf R j).yc T) (h:St3 n K T R done q outs):St3 n K T R (done++[j]) (yaj q y).1 (outs++(yaj q y).2):=by
  obtain ⟨j1,j2,j3⟩:=ycl.1 hj
  have hi:=h.id; have hn:=h.nn
  have href:ydg q y=false:=yow (by omega) (by omega) (by omega) (by omega) (by omega) (by omega) ya
  have htk:∀ p:ye,ydq p y=yfx p y:=fun p=>by
    unfold ydq
    rw [qc (by omega),qc (by omega),qc (by omega),qc (by omega),qc (by omega),qe y6]
  have mem:∀ {P:Int->Prop},(∀ i∈done,P i)->P j->∀ i∈done++[j],P i:=fun hd hp i hi=>by
    rcases qt.1 hi with hi | hi
    .exact hd i hi
    .rw [wb] at hi; rw [hi]; exact hp
  have no:∀ p:ye,p.ym≠3->yfx p y=(p,[]):=fun p hp=>by unfold yfx; rw [qe (.inr hp)]
  by_cases hlt:q.yc < y.yc
  .have e:yaj q y=(yai q y.yc 0,[]):=by
     rw [ywg href (yzj hlt (by omega) (.inl (by omega))),htk,no _ (by show (0:Int)≠3; decide)]
   have eT:(yai q y.yc 0).yc=y.yc:=by show (if q.yc < y.yc then y.yc else q.yc) = _; rw [qe hlt]
   rw [e,jh]
   have hqT:T<=q.yc:=by
     rcases h.cs with ⟨_,c,_⟩ | ⟨_,c,_⟩ <;> omega
   have hdq:∀ i∈done,(rOf R i).yc<=q.yc:=fun i hi=>by
     rcases h.cs with ⟨_,c,d⟩ | ⟨_,c,d⟩
     .have:=d i hi; omega
     .exact d i hi
   refine ⟨hi,hn,fun M m1 m2=>?_,.inr ⟨rfl,by rw [eT]; omega,mem (fun i hi=>?_) ?_⟩,St3.same h.out⟩
   .rw [eT,yT]
    have:=m2 j hj
    omega
   .rw [eT]; have:=hdq i hi; omega
   .rw [eT,yT]; omega
  .rw [yjo href (yoj (by omega)),htk]
   rcases h.cs with ⟨c1,c2,c3⟩ | ⟨c1,c2,c3⟩
   .have hle:(rOf R j).yc<=T:=by omega
    have hQ:(ybe q y).Id=q.Id/\(ybe q y).N=q.N/\(ybe q y).ym=q.ym/\(ybe q y).yc=q.yc:=by
      refine ⟨ygj,yfn,yer,?_⟩
      unfold ybe
      rw [yuj]
    obtain ⟨Q1,Q2,Q3,Q4⟩:=hQ
    have hM:q.yc<=T:=by omega
    unfold yfx
    rw [qc (by omega)]
    split
    .split
     .rw [jh]
      exact ⟨by show (ybe q y).Id=K; omega,by show (ybe q y).N=(n:Int); omega,fun M m1 m2=>by show (ybe q y).yc<=M; omega,.inl ⟨by show (ybe q y).ym=3; omega,by show (ybe q y).yc=T; omega,mem c3 hle⟩,St3.same h.out⟩
     .obtain ⟨t1,t2,t3,t4⟩:=yel (r:=ybe q y) y.From
      exact ⟨by show (ybe q y).Id=K; omega,by show (ybe q y).N=(n:Int); omega,fun M m1 m2=>by show (ybe q y).yc<=M; omega,.inl ⟨by show (ybe q y).ym=3; omega,by show (ybe q y).yc=T; omega,mem c3 hle⟩,ybaf hjd ⟨by omega,by omega,by omega,t4⟩ h.out⟩
    .obtain ⟨t1,t2,t3,t4⟩:=yel (r:=yhq q y) y.From
     have t2:(ybj (yhq q y) y.From).From=q.Id:=t2
     have t3:(ybj (yhq q y) y.From).yc=q.yc:=t3
     exact ⟨hi,hn,fun M m1 m2=>by show q.yc<=M; omega,.inl ⟨c1,c2,mem c3 hle⟩,ybaf hjd ⟨by omega,by omega,by omega,t4⟩ h.out⟩
   .rw [no q (by omega),jh]
    exact ⟨hi,hn,h.max,.inr ⟨c1,c2,mem c3 (show (rOf R j).yc<=q.yc by omega)⟩,St3.same h.out⟩
end
end Go.Proofs.Ytgoachcogmlhcaa.R
set_option maxRecDepth 100000
set_option linter.unusedVariables false
set_option linter.unusedSimpArgs false
noncomputable section
namespace Go.Proofs.Ytgoachcogmlhcaa.R
open Go
section
variable {B b W:Int} {n:Nat} {g:Gh} {w:yab} {r s q:ye} {x y:yj} {R:List ye}
theorem Inw.all(h:Inw B b n ⟨R,w.Net⟩):R.length=n/\∀ id:Int,1<=id->id<=(n:Int)->OkR B (rOf R id)/\(rOf R id).Id=id/\(rOf R id).N=(n:Int):=by
  refine ⟨h.okB.w.len,fun id h1 h2=>?_⟩
  obtain ⟨r,e1,e2,e3,e4,e5⟩:=h.at_ h1 h2
  have e2:rOf R id=r:=e2
  rw [e2]
  exact ⟨e3,e4,e5⟩
structure AnyH (r:ye) (x:yj) (p:ye) (m:yj):Prop where
  e:yaj r x=(p,[m])
  k:m.yae=6
  f:m.From=r.Id
  t:m.To=x.From
  a:0<=m.At
  term:m.yc=max r.yc x.yc
  role:p.ym=0\/p=r
  deaf:x.yc < r.yc->p=r
  pt:p.yc=max r.yc x.yc
  low:r.yc<=x.yc->p.ym=0
theorem yasi(h:OkR B r)(hx:OkM B x)(hB:B < 1000000)(hk:x.yae=5\/x.yae=7)(hto:x.To=r.Id)(h1:1<=x.From)(h2:x.From<=r.N)(h3:x.From≠r.Id)(hr:¬ (r.ym=3/\r.yc=x.yc)):∃ p m,AnyH r x p m:=by
  by_cases ht:x.yc < r.yc
  .have e:=ybsa h hx hB hk hto h1 h2 h3 ht
   exact ⟨r,mk6 r.Id x.From r.yc 0 false,e,rfl,rfl,rfl,qh _,by show r.yc=_; omega,.inr rfl,fun _=>rfl,by omega,fun h=>by omega⟩
  .obtain ⟨p,a,ok,hh⟩:=yaop h hx hB hk hto h1 h2 h3 (by omega) hr
   exact ⟨p,mk6 r.Id x.From x.yc a ok,hh.e,rfl,rfl,rfl,hh.a0,by show x.yc=_; omega,.inl hh.role,fun h=>absurd h ht,by rw [hh.term]; omega,fun _=>hh.role⟩
theorem ybgx{K:Int}{q0:ye}(h:Inw B b n ⟨R,(ybb n K).map (ybj q0)⟩)(hB:B < 1000000)(k1:1<=K)(k2:K<=(n:Int))(he:rOf R K=q0)(h3:q0.ym=3)(hgt:∃ j∈ybb n K,q0.yc < (rOf R j).yc) :
    ∃ m R',m<=16/\ybp m ⟨R,(ybb n K).map (ybj q0)⟩ = ⟨R',[]⟩/\(rOf R' K).ym=0/\(∀ j∈ybb n K,(q0.yc < (rOf R j).yc->rOf R' j=rOf R j)/\((rOf R' j).ym=0\/rOf R' j=rOf R j)/\(rOf R' j).yc<=(rOf R' K).yc) /\
      ∀ M,q0.yc<=M->(∀ j∈ybb n K,(rOf R j).yc<=M)->(rOf R' K).yc<=M:=by
  obtain ⟨hlen,hR⟩:=Inw.all (w:=⟨R,(ybb n K).map (ybj q0)⟩) h
  have hn:=h.okB.w.n1
  have hJ:(ybb n K).Nodup:=ylb n 1
  have hJ4:(ybb n K).length<=4:=yagi k1 k2 hn.2
  have hJm:∀ j∈ybb n K,1<=j/\j<=(n:Int)/\j≠K:=fun j hj=>ycl.1 hj
  obtain ⟨K1,K2,K3⟩:=hR K k1 k2
  rw [he] at K1 K2 K3
  have hKt:=K1.term
  have hnet:∀ j∈ybb n K,OkM B (ybj q0 j):=fun j hj=>h.okB.w.net _ (wh.2 ⟨j,hj,rfl⟩)
  have hany:∀ j∈ybb n K,∃ p m,AnyH (rOf R j) (ybj q0 j) p m:=fun j hj=>by
    obtain ⟨j1,j2,j3⟩:=hJm j hj
    obtain ⟨o1,o2,o3⟩:=hR j j1 j2
    obtain ⟨t1,t2,t3,t4⟩:=yel (r:=q0) j
    refine yasi o1 (hnet j hj) hB t4 (by omega) (by omega) (by omega) (by omega) fun hh=>?_
    have:=yakc h j1 j2 k1 k2 hh.1 (by show (rOf R K).ym=3; rw [he]; exact h3) (by show (rOf R j).yc=(rOf R K).yc; rw [he,hh.2,t3])
    exact j3 this
  have hans:∀ j∈ybb n K,(yaj (rOf R j) (ybj q0 j)).2 = [ykd (rOf R j) (ybj q0 j)]:=fun j hj=>by
    obtain ⟨p,m,ha⟩:=hany j hj
    exact (yrg ha.e).1
  obtain ⟨R1,s1,s2,s3⟩:=yxs (R:=R) (f:=ybj q0) (a:=fun j=>ykd (rOf R j) (ybj q0 j)) hJ (fun j hj=>by obtain ⟨j1,j2,j3⟩:=hJm j hj; omega) (fun j _=>(yel j).1) (by omega) hans
  have hK1:rOf R1 K=q0:=by rw [s2 K k1,qc (fun hm=>(hJm _ hm).2.2 rfl),he]
  have hO1:∀ j∈ybb n K,∃ p m,AnyH (rOf R j) (ybj q0 j) p m/\rOf R1 j=p/\ykd (rOf R j) (ybj q0 j) = m:=fun j hj=>by
    obtain ⟨p,m,ha⟩:=hany j hj
    refine ⟨p,m,ha,?_,(yrg ha.e).2⟩
    rw [s2 j (hJm j hj).1,qe hj,ha.e]
  obtain ⟨R2,q,outs,t1,t2,t3,t4⟩:=yxg (R:=R1) (a:=fun j=>ykd (rOf R j) (ybj q0 j)) (K:=K) k1 (by omega) (fun j hj=>by
    obtain ⟨p,m,ha,_,em⟩:=hO1 j hj
    show (ykd (rOf R j) (ybj q0 j)).To=K
    rw [em,ha.t,(yel (r:=q0) j).2.1,K2]) hJ (by omega) (P:=fun done q outs=>St3 n K q0.yc R done q outs/\(∀ j∈done,j∈ybb n K)/\done.length<=(ybb n K).length) (fun done j q outs hj hjd hdl hs=>by
    obtain ⟨hs,hs2,hs3⟩:=hs
    obtain ⟨p,m,ha,_,em⟩:=hO1 j hj
    obtain ⟨j1,j2,j3⟩:=hJm j hj
    obtain ⟨o1,o2,o3⟩:=hR j j1 j2
    obtain ⟨e1,e2,e3,e4⟩:=yel (r:=q0) j
    have ot:=o1.term
    have hmem:∀ i∈done++[j],i∈ybb n K:=fun i hi=>by
      rcases qt.1 hi with hi | hi
      .exact hs2 i hi
      .rw [wb] at hi; rw [hi]; exact hj
    refine ⟨?_,hmem,?_⟩
    .show St3 n K q0.yc R (done++[j]) (yaj q (ykd (rOf R j) (ybj q0 j))).1 (outs++(yaj q (ykd (rOf R j) (ybj q0 j))).2)
     rw [em]
     exact ycbg hj hjd (by omega) (by omega) (by omega) ha.k (by rw [ha.f]; exact o2) (by rw [ha.t,e2,K2]) ha.a (by rw [ha.term,e3]) hs
    .simp
     omega) (fun done q outs hs=>by
    obtain ⟨D,f,d1,d2,d3,d4,d5⟩:=hs.1.out
    have:=hs.2.2
    omega) ⟨⟨by rw [hK1]; exact K2,by rw [hK1]; exact K3,fun M m1 m2=>by rw [hK1]; exact m1,.inl ⟨by rw [hK1]; exact h3,by rw [hK1],by simp⟩,[],fun _=>mk6 0 0 0 0 false,rfl,List.nodup_nil,by simp,by simp,by simp⟩,by simp,by simp⟩
  obtain ⟨t1,tm,tl⟩:=t1
  have hK2:rOf R2 K=q:=by rw [t3 K k1,qe rfl]
  have hO2:∀ j∈ybb n K,rOf R2 j=rOf R1 j:=fun j hj=>by
    obtain ⟨j1,j2,j3⟩:=hJm j hj
    rw [t3 j j1,qc j3]
  have e2:ybp ((ybb n K).length + (ybb n K).length) ⟨R,(ybb n K).map (ybj q0)⟩ = ⟨R2,outs⟩:=by
    rw [yfe,s3,t4]
  obtain ⟨c1,c2,c3⟩:q.ym=0/\q0.yc < q.yc/\∀ j∈ybb n K,(rOf R j).yc<=q.yc:=by
    rcases t1.cs with ⟨_,_,c⟩ | c
    .obtain ⟨j,hj,hlt⟩:=hgt
     have:=c j hj
     omega
    .exact c
  obtain ⟨D,f,d1,d2,d3,d4,d5⟩:=t1.out
  have hi2:Inw B b n ⟨R2,D.map f⟩:=by
    rw [← d1,← e2]
    exact yli _ h
  have hDl:D.length<=4:=by
    rw [d1,wj] at d4
    omega
  obtain ⟨_,hR2⟩:=Inw.all (w:=⟨R2,D.map f⟩) hi2
  have hany2:∀ j∈D,∃ p m,AnyH (rOf R2 j) (f j) p m:=fun j hj=>by
    have hjJ:=d3 j hj
    obtain ⟨j1,j2,j3⟩:=hJm j hjJ
    obtain ⟨o1,o2,o3⟩:=hR2 j j1 j2
    obtain ⟨x1,x2,x3,x4⟩:=d5 j hj
    obtain ⟨p,m,ha,ep,_⟩:=hO1 j hjJ
    refine yasi o1 (hi2.okB.w.net _ (wh.2 ⟨j,hj,rfl⟩)) hB x4 (by omega) (by omega) (by omega) (by omega) fun hh=>?_
    have hr:(rOf R2 j).ym=0:=by
      rw [hO2 j hjJ,ep]
      refine ha.low ?_
      have:=ha.pt
      have h2:=hh.2
      rw [hO2 j hjJ,ep,x3] at h2
      rw [(yel (r:=q0) j).2.2.1] at this ⊢
      omega
    have:=hh.1
    omega
  obtain ⟨R3,u1,u2,u3⟩:=yxs (R:=R2) (f:=f) (a:=fun j=>ykd (rOf R2 j) (f j)) d2 (fun j hj=>by obtain ⟨j1,j2,j3⟩:=hJm j (d3 j hj); omega) (fun j hj=>(d5 j hj).1) (by omega) (fun j hj=>by
    obtain ⟨p,m,ha⟩:=hany2 j hj
    exact (yrg ha.e).1)
  have hK3:rOf R3 K=q:=by rw [u2 K k1,qc (fun hm=>(hJm _ (d3 _ hm)).2.2 rfl),hK2]
  have hq:=t1.id; have hqn:=t1.nn
  obtain ⟨R4,q4,outs4,v1,v2,v3,v4⟩:=yxg (R:=R3) (a:=fun j=>ykd (rOf R2 j) (f j)) (K:=K) k1 (by omega) (fun j hj=>by
    obtain ⟨p,m,ha⟩:=hany2 j hj
    show (ykd (rOf R2 j) (f j)).To=K
    rw [(yrg ha.e).2,ha.t,(d5 j hj).2.1]) d2 (by omega) (P:=fun _ q' o'=>q' = q/\o' = []) (fun done j q' o' hj _ _ hs=>by
    obtain ⟨rfl,rfl⟩:=hs
    have hjJ:=d3 j hj
    obtain ⟨j1,j2,j3⟩:=hJm j hjJ
    obtain ⟨o1,o2,o3⟩:=hR2 j j1 j2
    obtain ⟨p,m,ha⟩:=hany2 j hj
    obtain ⟨p1,m1,ha1,ep1,_⟩:=hO1 j hjJ
    obtain ⟨x1,x2,x3,x4⟩:=d5 j hj
    have em:ykd (rOf R2 j) (f j) = m:=(yrg ha.e).2
    have g1:=ha.k; have g2:=ha.f; have g3:=ha.t; have g4:=ha.a; have g5:=ha.term
    have hp1:=ha1.pt
    rw [(yel (r:=q0) j).2.2.1] at hp1
    have htj:=c3 j hjJ
    rw [hO2 j hjJ,ep1] at g5
    have ot:=o1.term
    have oth:=(hR j j1 j2).1.term
    have hle:m.yc<=q'.yc:=by omega
    have hu:yaj q' m=(q',[]):=by
      rw [yjo (yow (by omega) (by omega) (by omega) (by omega) (by omega) (by omega) g4) (yoj hle)]
      unfold ydq
      rw [qc (by omega),qc (by omega),qc (by omega),qc (by omega),qc (by omega),qe g1]
      unfold yfx
      rw [qe (.inr (by omega))]
    show (yaj q' (ykd (rOf R2 j) (f j))).1=q'/\[]++(yaj q' (ykd (rOf R2 j) (f j))).2 = []
    rw [em,hu]
    exact ⟨rfl,rfl⟩) (fun done q' o' hs=>by rw [hs.2]; simp) ⟨hK3,rfl⟩
  obtain ⟨v1,v1'⟩:=v1
  have hK4:rOf R4 K=q:=by rw [v3 K k1,qe rfl,v1]
  refine ⟨(ybb n K).length + (ybb n K).length + (D.length + D.length),R4,by omega,?_,by rw [hK4]; exact c1,fun j hj=>?_,fun M m1 m2=>by rw [hK4]; exact t1.max M m1 m2⟩
  .rw [yfe,e2,d1,yfe,u3,v4,v1']
  .obtain ⟨j1,j2,j3⟩:=hJm j hj
   obtain ⟨p1,m1,ha1,ep1,_⟩:=hO1 j hj
   have et:=(yel (r:=q0) j).2.2.1
   have hp1:=ha1.pt
   rw [et] at hp1
   have htj:=c3 j hj
   rw [hK4,v3 j j1,qc j3,u2 j j1]
   have base:(q0.yc < (rOf R j).yc->rOf R2 j=rOf R j)/\((rOf R2 j).ym=0\/rOf R2 j=rOf R j)/\(rOf R2 j).yc<=q.yc:=by
     rw [hO2 j hj,ep1]
     exact ⟨fun hlt=>ha1.deaf (by rw [et]; exact hlt),ha1.role,by omega⟩
   split
   .rename_i hjD
    obtain ⟨p,m,ha⟩:=hany2 j hjD
    obtain ⟨x1,x2,x3,x4⟩:=d5 j hjD
    have hp:=ha.pt
    rw [ha.e]
    refine ⟨fun hlt=>?_,?_,by show p.yc<=q.yc; have:=base.2.2; omega⟩
    .have e:=base.1 hlt
     show p=_
     rw [ha.deaf (by rw [e,x3]; exact hlt),e]
    .rcases ha.role with hr | hr
     .exact .inl hr
     .show p.ym=0\/p=_
      rw [hr]
      exact base.2.1
   .exact base
end
end Go.Proofs.Ytgoachcogmlhcaa.R
set_option maxRecDepth 100000
set_option linter.unusedVariables false
set_option linter.unusedSimpArgs false
noncomputable section
namespace Go.Proofs.Ytgoachcogmlhcaa.R
open Go
section
variable {B b W:Int} {n:Nat} {g:Gh} {w:yab} {r s q p:ye} {x y:yj} {R:List ye}
def nuR(r:ye)(j:Int):Int:=(yax r j - yar r j - 1) + (yac r.yg - yar r j + 7) / 8 + (if yar r j < r.yg.yn then 1 else 0)
def ypx(q:ye)(j:Int)(x:yj):Prop:=x = { ybj q j with yl:=x.yl }
def yaak(q:ye)(j a:Int)(ok:Bool):Prop:=(ok=true/\(min (yax q j + 7) (yac q.yg)<=a\/(yax q j<=q.yg.yn/\q.yg.yn<=a)))\/(ok=false/\yar q j + 2<=yax q j)
theorem yccs(h:ydl r){j:Int}(h1:1<=j)(h2:j<=r.N)(h3:j≠r.Id):0<=nuR r j/\nuR r j<=yac r.yg + (yac r.yg + 7) / 8 + 1:=by
  have a:=h.m0 j h1 h2 h3; have c:=h.mn j h1 h2 h3; have d:=h.nl j h1 h2 h3
  unfold nuR
  split <;> omega
theorem ybrc{j:Int}(h1:yax p j=yax q j)(h2:yar p j=yar q j)(h3:p.yg=q.yg):nuR p j=nuR q j:=by
  unfold nuR
  rw [h1,h2,h3]
theorem yclz{j c:Int}(h1:yax p j=yax q j)(h3:p.yg=q.yg)(h4:p.Id=q.Id)(h5:p.yc=q.yc)(h6:p.yaf=q.yaf):({ ybj p j with yl:=c }:yj) = { ybj q j with yl:=c }:=by
  unfold ybj
  rw [h1,h3,h4,h5,h6]
  split <;> rfl
theorem ypx.of{j:Int}(h:ypx q j x)(h1:yax p j=yax q j)(h3:p.yg=q.yg)(h4:p.Id=q.Id)(h5:p.yc=q.yc)(h6:p.yaf=q.yaf):ypx p j x:=by
  unfold ypx at *
  rw [yclz h1 h3 h4 h5 h6]
  exact h
structure ydhn (q:ye) (j:Int) (x:yj):Prop where
  to:x.To=j
  fr:x.From=q.Id
  term:x.yc=q.yc
  k:x.yae=5\/x.yae=7
  k7:x.yae=7->yax q j<=q.yg.yn/\x.At=q.yg.yn
  k5:x.yae=5->q.yg.yn < yax q j/\x.At=yax q j - 1/\x.yi=ykf q.yg (yax q j)
theorem ypx.f{j:Int}(h:ypx q j x):ydhn q j x:=by
  unfold ypx at h
  obtain ⟨t1,t2,t3,t4⟩:=yel (r:=q) j
  have e1:x.To=(ybj q j).To:=by rw [h]
  have e2:x.From=(ybj q j).From:=by rw [h]
  have e3:x.yc=(ybj q j).yc:=by rw [h]
  have e4:x.yae=(ybj q j).yae:=by rw [h]
  have e5:x.At=(ybj q j).At:=by rw [h]
  have e6:x.yi=(ybj q j).yi:=by rw [h]
  refine ⟨by omega,by omega,by omega,by omega,fun h7=>?_,fun h5=>?_⟩
  .rw [e4] at h7
   rw [e5]
   unfold ybj at h7 ⊢
   split at h7
   .rename_i hc
    rw [qe hc]
    exact ⟨hc,rfl⟩
   .exact absurd (show (5:Int) = 7 from h7) (by decide)
  .rw [e4] at h5
   rw [e5,e6]
   unfold ybj at h5 ⊢
   split at h5
   .exact absurd (show (7:Int) = 5 from h5) (by decide)
   .rename_i hc
    rw [qc hc]
    exact ⟨by omega,rfl,rfl⟩
theorem yacf(q:ye)(j:Int):ypx q j (ybj q j):=rfl
theorem yblc{l:yag}{a:Int}(h1:l.yn < a)(h2:a<=yac l):((ykf l a).length:Int) = min 8 (yac l - a + 1):=by
  unfold ykf
  rw [qc (by omega)]
  unfold yac at *
  simp
  omega
structure Told (q:ye) (j:Int) (p:ye) (outs:List yj):Prop where
  role:p.ym=3
  term:p.yc=q.yc
  id:p.Id=q.Id
  nn:p.N=q.N
  log:p.yg=q.yg
  snap:p.yaf=q.yaf
  lead:ydl p
  oth:∀ u,1<=u->u≠j->yax p u=yax q u/\yar p u=yar q u
  cs:(outs = []/\yar p j=yac q.yg)\/(outs = [ybj p j]/\nuR p j + 1<=nuR q j)
theorem ydhq{N M L a tM tN Bs:Int}(em:tM=max M (min a L))(en:tN=max N (tM + 1))(m0:0<=M)(mn:M + 1<=N)(nl:N<=L + 1)(hb:Bs<=L)(hf:min (N + 7) L<=a\/(N<=Bs/\Bs<=a)) :
    (L < tN->tM=L)/\(¬ L < tN->(tN - tM - 1) + (L - tM + 7) / 8 + (if tM < Bs then 1 else 0) + 1<=(N - M - 1) + (L - M + 7) / 8 + (if M < Bs then 1 else 0)):=by
  refine ⟨fun h=>?_,fun h=>?_⟩
  .rcases hf with hf | ⟨h1,h2⟩ <;> omega
  .rcases hf with hf | ⟨h1,h2⟩
   .have:N + 7<=tM:=by omega
    have e:tN=tM + 1:=by omega
    split <;> split <;> omega
   .have:Bs<=tM:=by omega
    have e:tN=tM + 1:=by omega
    rw [qc (by omega),qe (by omega)]
    omega
theorem ycbq(h:OkR B q)(h3:q.ym=3)(hl:ydl q){j:Int}(j1:1<=j)(j2:j<=q.N)(j3:j≠q.Id)(y6:y.yae=6)(yf:y.From=j)(yt:y.To=q.Id)(ya:0<=y.At)(yT:y.yc=q.yc)(hB:B<=1000000)
    (hf:yaak q j y.At y.Ok):∃ p outs,yaj q y=(p,outs)/\Told q j p outs:=by
  have hqt:=h.term
  have href:ydg q y=false:=yow (by omega) (by omega) (by omega) (by omega) (by omega) (by omega) ya
  have htk:yaj q y=yfx q y:=by
    rw [yjo href (yoj (by omega))]
    unfold ydq
    rw [qc (by omega),qc (by omega),qc (by omega),qc (by omega),qc (by omega),qe y6]
  subst yf
  have a:=hl.m0 _ j1 j2 j3; have c:=hl.mn _ j1 j2 j3; have d:=hl.nl _ j1 j2 j3
  have hbs:q.yg.yn<=yac q.yg:=by unfold yac; omega
  have hQ:(ybe q y).Id=q.Id/\(ybe q y).N=q.N/\(ybe q y).ym=3/\(ybe q y).yc=q.yc/\(ybe q y).yaf=q.yaf:=by
    refine ⟨ygj,yfn,?_,?_,?_⟩
    .unfold ybe; rw [yer]; exact h3
    .unfold ybe; rw [yuj]
    .unfold ybe ybm; split <;> rfl
  obtain ⟨Q1,Q2,Q3,Q4,Q5⟩:=hQ
  have hoQ:∀ u,1<=u->u≠y.From->yax (ybe q y) u=yax q u/\yar (ybe q y) u=yar q u:=fun u hu hne=>by
    obtain ⟨a1,a2⟩:=ytc (x:=y) h h3 j1 j2 hu
    rw [qc hne] at a1 a2
    exact ⟨a1,a2⟩
  obtain ⟨q1,q2⟩:=ytc (x:=y) h h3 j1 j2 j1
  rw [qe rfl] at q1 q2
  have hc:¬ (y.yc < q.yc\/q.ym≠3):=by omega
  rw [htk]
  unfold yfx
  rw [qc hc]
  rcases hf with ⟨hok,hf⟩ | ⟨hok,hf⟩
  .rw [qe hok]
   obtain ⟨f1,f2⟩:=ydhq (yahj (r:=q) (x:=y)) (yahk (r:=q) (x:=y)) a c d hbs hf
   by_cases hlt:yac q.yg < ykh q y
   .rw [qe hlt]
    exact ⟨_,_,rfl,Q3,Q4,Q1,Q2,ynw,Q5,ytu h h3 hl j1 j2 j3,hoQ,.inl ⟨rfl,by rw [q2]; exact f1 hlt⟩⟩
   .rw [qc hlt]
    refine ⟨_,_,rfl,Q3,Q4,Q1,Q2,ynw,Q5,ytu h h3 hl j1 j2 j3,hoQ,.inr ⟨rfl,?_⟩⟩
    have:=f2 hlt
    unfold nuR
    rw [q1,q2,ynw]
    exact this
  .rw [qc (by rw [hok]; exact qw)]
   obtain ⟨p1,p2⟩:=yqy (x:=y) h h3 j1 j2 j1
   rw [qe rfl] at p1
   have eb:=yahi (r:=q) (x:=y)
   refine ⟨_,_,rfl,h3,rfl,rfl,rfl,rfl,rfl,yzz h h3 hl j1 j2 j3,fun u hu hne=>?_,.inr ⟨rfl,?_⟩⟩
   .obtain ⟨a1,a2⟩:=yqy (x:=y) h h3 j1 j2 hu
    rw [qc hne] at a1
    exact ⟨a1,a2⟩
   .unfold nuR
    rw [p1,p2]
    show (yol q y - _ - 1) + (yac q.yg - _ + 7) / 8 + (if _ < q.yg.yn then 1 else 0) + 1<=_
    omega
structure St4 (B:Int) (n:Nat) (s:ye) (done:List Int) (q:ye) (outs:List yj):Prop where
  ok:OkR B q
  role:q.ym=3
  term:q.yc=s.yc
  id:q.Id=s.Id
  nn:q.N=s.N
  log:q.yg=s.yg
  snap:q.yaf=s.yaf
  lead:ydl q
  oth:∀ u,1<=u->u∉done->yax q u=yax s u/\yar q u=yar s u
  out:∃ (D:List Int) (f:Int->yj),outs=D.map f/\D.Nodup/\(∀ j∈D,j∈done)/\outs.length<=done.length/\(∀ j∈D,ypx q j (f j)/\nuR q j + 1<=nuR s j)/\∀ j∈done,j∉D->yar q j=yac s.yg
theorem ycbh{done:List Int}{j:Int}{outs:List yj}(hjd:j∉done)(hd1:∀ i∈done,1<=i)(j1:1<=j)(j2:j<=s.N)(j3:j≠s.Id)(y6:y.yae=6)(yf:y.From=j)(yt:y.To=s.Id)(yo:OkM B y)(yT:y.yc=s.yc)(hB:B<=1000000)
    (hf:yaak s j y.At y.Ok) (h:St4 B n s done q outs):St4 B n s (done++[j]) (yaj q y).1 (outs++(yaj q y).2):=by
  obtain ⟨o1,o2⟩:=h.oth j j1 hjd
  have hqi:=h.id; have hqn:=h.nn; have hqt:=h.term
  obtain ⟨p,m,e,t⟩:=ycbq h.ok h.role h.lead j1 (by omega) (by omega) y6 yf (by omega) yo.at0.1 (by omega) hB (by
    unfold yaak at *
    rw [o1,o2,h.log]
    exact hf)
  have hpok:OkR B p:=by
    obtain ⟨d,d1,d2,d3⟩:=yqu h.ok (by have:=h.ok.term; omega) yo
    have ec:yew q=0:=by unfold yew; rw [h.role]; rfl
    have ep:=yqi (yaj q y).1
    have:d=0:=by omega
    have:=d2.ok
    rw [e,show B + d=B by omega] at this
    exact this
  rw [e]
  refine ⟨hpok,t.role,by rw [t.term]; exact h.term,by rw [t.id]; exact h.id,by rw [t.nn]; exact h.nn,by rw [t.log]; exact h.log,by rw [t.snap]; exact h.snap,t.lead,fun u hu hnu=>?_,?_⟩
  .have n1:u∉done:=fun hm=>hnu (wc _ hm)
   have n2:u≠j:=fun hm=>hnu (by rw [hm]; simp)
   obtain ⟨a1,a2⟩:=t.oth u hu n2
   obtain ⟨b1,b2⟩:=h.oth u hu n1
   exact ⟨by rw [a1,b1],by rw [a2,b2]⟩
  .obtain ⟨D,f,d1,d2,d3,d4,d5,d6⟩:=h.out
   have hjD:j∉D:=fun hd=>hjd (d3 j hd)
   have keep:∀ i∈done,yax p i=yax q i/\yar p i=yar q i:=fun i hi=>t.oth i (hd1 i hi) (fun e=>hjd (by rw [← e]; exact hi))
   have d5':∀ i∈D,ypx p i (f i)/\nuR p i + 1<=nuR s i:=fun i hi=>by
     obtain ⟨k1,k2⟩:=keep i (d3 i hi)
     obtain ⟨l1,l2⟩:=d5 i hi
     exact ⟨l1.of k1 t.log t.id t.term t.snap,by rw [ybrc k1 k2 t.log]; exact l2⟩
   have d6':∀ i∈done,i∉D->yar p i=yac s.yg:=fun i hi hn=>by
     rw [(keep i hi).2]
     exact d6 i hi hn
   rcases t.cs with ⟨c1,c2⟩ | ⟨c1,c2⟩
   .refine ⟨D,f,by rw [c1,jh]; exact d1,d2,fun i hi=>wc _ (d3 i hi),by rw [c1]; simp; omega,d5',fun i hi hn=>?_⟩
    rcases qt.1 hi with hi | hi
    .exact d6' i hi hn
    .rw [wb] at hi
     rw [hi,c2,h.log]
   .refine ⟨D++[j],fun i=>if i=j then ybj p j else f i,?_,?_,fun i hi=>?_,by rw [c1]; simp; omega,fun i hi=>?_,fun i hi hn=>?_⟩
    .rw [c1,d1,ke]
     congr 1
     .refine List.map_congr_left fun i hi=>?_
      rw [qc (fun e=>hjD (by rw [← e]; exact hi))]
     .simp
    .refine kj.2 ⟨d2,by simp,fun a ha c hc=>?_⟩
     rw [wb] at hc
     rintro rfl
     rw [hc] at ha
     exact hjD ha
    .rcases qt.1 hi with hi | hi
     .exact wc _ (d3 i hi)
     .exact wo _ hi
    .by_cases he:i=j
     .simp only [qe he]
      rw [he]
      refine ⟨yacf p j,?_⟩
      have:=ybrc (p:=q) (q:=s) (j:=j) o1 o2 h.log
      omega
     .simp only [qc he]
      rcases qt.1 hi with hi | hi
      .exact d5' i hi
      .rw [wb] at hi
       exact absurd hi he
    .rcases qt.1 hi with hi | hi
     .exact d6' i hi (fun hm=>hn (wc _ hm))
     .exact absurd (wo D hi) hn
end
end Go.Proofs.Ytgoachcogmlhcaa.R
set_option maxRecDepth 100000
set_option linter.unusedVariables false
set_option linter.unusedSimpArgs false
noncomputable section
namespace Go.Proofs.Ytgoachcogmlhcaa.R
open Go
section
variable {B b W:Int} {n:Nat} {g:Gh} {w:yab} {r s q p:ye} {x y:yj} {R:List ye}
structure Chn (B b:Int) (n:Nat) (K cm:Int) (q0:ye) (w:yab) (D:List Int) (f:Int->yj):Prop where
  inw:Inw B b n w
  net:w.Net=D.map f
  nd:D.Nodup
  sub:∀ j∈D,j∈ybb n K
  dl:D.length<=4
  role:(rOf w.R K).ym=3
  term:(rOf w.R K).yc=q0.yc
  log:(rOf w.R K).yg=q0.yg
  top:∀ j∈ybb n K,(rOf w.R j).yc<=q0.yc
  like:∀ j∈D,ypx (rOf w.R K) j (f j)
  fin:∀ j∈ybb n K,j∉D->(rOf w.R j).yc=q0.yc/\(rOf w.R j).yak=K/\yar (rOf w.R K) j=yac q0.yg
  cmt:∀ j∈ybb n K,cm<=(rOf w.R j).yl\/(j∈D/\cm<=(f j).yl/\(f j).yae=5/\cm<=(f j).At/\(f j).At<=yar (rOf w.R K) j)
theorem yawa{K cm:Int}{q0:ye}{D:List Int}{f:Int->yj}(hB:B < 1000000)(k1:1<=K)(k2:K<=(n:Int))(h:Chn B b n K cm q0 w D f) :
    ∃ D' f',Chn B b n K cm q0 (ybp (D.length + D.length) w) D' f'/\∀ j∈D',j∈D/\nuR (rOf (ybp (D.length + D.length) w).R K) j + 1<=nuR (rOf w.R K) j:=by
  obtain ⟨R,net⟩:=w
  obtain ⟨hi,hnet,hnd,hsub,hdl,hrole,hterm,hlog,htop,hlike,hfin,hcmt⟩:=h
  simp only at hnet hrole hterm hlog htop hlike hfin hcmt
  subst hnet
  obtain ⟨hlen,hR⟩:=Inw.all (w:=⟨R,D.map f⟩) hi
  have hJm:∀ j∈D,1<=j/\j<=(n:Int)/\j≠K:=fun j hj=>ycl.1 (hsub j hj)
  obtain ⟨K1,K2,K3⟩:=hR K k1 k2
  obtain ⟨s,hs⟩:∃ s,rOf R K=s:=⟨_,rfl⟩
  rw [hs] at K1 K2 K3 hrole hterm hlog hlike hfin hcmt
  have hsm:ydl s:=by
    obtain ⟨r,e1,e2,_⟩:=hi.at_ k1 k2
    obtain ⟨⟨g,hg⟩,_⟩:=hi
    have e2:rOf R K=r:=e2
    have:=hg.lead _ _ e1
    rw [← e2,hs] at this
    exact this hrole
  have hbs:s.yg.yn<=yac s.yg:=by unfold yac; omega
  have hear:∀ j∈D,∃ p a ok,ybbj (rOf R j) (f j) p a ok/\yaak s j a ok/\OkM B (f j)/\cm<=p.yl:=fun j hj=>by
    obtain ⟨j1,j2,j3⟩:=hJm j hj
    obtain ⟨o1,o2,o3⟩:=hR j j1 j2
    have lf:=(hlike j hj).f
    have l1:=lf.to; have l2:=lf.fr; have l3:=lf.term
    have hxm:f j∈D.map f:=wh.2 ⟨j,hj,rfl⟩
    have hxo:OkM B (f j):=hi.okB.w.net _ hxm
    have htj:=htop j (hsub j hj)
    have hno:¬ ((rOf R j).ym=3/\(rOf R j).yc=(f j).yc):=fun hh=>j3 (yakc hi j1 j2 k1 k2 hh.1 (by show (rOf R K).ym=3; rw [hs]; exact hrole) (by show (rOf R j).yc=(rOf R K).yc; rw [hs,hh.2,l3]))
    obtain ⟨p,a,ok,hh⟩:=yaop o1 hxo hB lf.k (by omega) (by omega) (by omega) (by omega) (by omega) hno
    have m0:=hsm.m0 j j1 (by omega) (by omega); have mn:=hsm.mn j j1 (by omega) (by omega); have nl:=hsm.nl j j1 (by omega) (by omega)
    have hacc:(f j).yae=5->(f j).At<=yar s j->ok=true:=fun h5 hat=>by
      rw [(hh.k5 h5).1]
      obtain ⟨r,e1,e2,_⟩:=hi.at_ j1 j2
      obtain ⟨r',e1',e2',_⟩:=hi.at_ k1 k2
      obtain ⟨⟨g,hg⟩,_⟩:=hi
      have e2:rOf R j=r:=e2
      have e2':rOf R K=r':=e2'
      have g1:=hg.gh.mem _ _ e1
      have g2:=hg.gh.mem _ _ e1'
      rw [← e2] at g1
      rw [← e2',hs] at g2
      exact ybjg hg.gh.inv g1 g2 (hg.gh.net _ hxm) h5 hrole l3 (by omega) (by omega) hxo.at0.1 (by rw [o2]; exact hat)
    refine ⟨p,a,ok,hh,?_,hxo,?_⟩
    .rcases lf.k with hk | hk
     .obtain ⟨x1,x2,x3⟩:=lf.k5 hk
      cases hok:ok with
      | true=>
        refine .inl ⟨rfl,.inl ?_⟩
        obtain ⟨y1,_⟩:=(hh.k5 hk).2 hok
        rw [x3,x2] at y1
        by_cases hc:yax s j<=yac s.yg
        .rw [yblc x1 hc] at y1
         omega
        .omega
      | false=>
        refine .inr ⟨rfl,?_⟩
        rcases jz (yax s j) (yar s j + 2) with hc | hc
        .have:=hacc hk (by omega)
         rw [hok] at this
         cases this
        .exact hc
     .obtain ⟨x1,x2⟩:=lf.k7 hk
      obtain ⟨y1,y2⟩:=hh.k7 hk
      exact .inl ⟨y1,.inr ⟨x1,by omega⟩⟩
    .have hc:=hh.com
     rcases hcmt j (hsub j hj) with hcm | ⟨_,c1,c2,c3,c4⟩
     .omega
     .obtain ⟨y1,y2⟩:=(hh.k5 c2).2 (hacc c2 c4)
      rcases y2 with y2 | y2 <;> omega
  have hans:∀ j∈D,∃ p a ok,ybbj (rOf R j) (f j) p a ok/\yaak s j a ok/\ykd (rOf R j) (f j) = mk6 j K s.yc a ok/\cm<=p.yl:=fun j hj=>by
    obtain ⟨p,a,ok,hh,hf,_,hc⟩:=hear j hj
    obtain ⟨j1,j2,j3⟩:=hJm j hj
    have lf:=(hlike j hj).f
    refine ⟨p,a,ok,hh,hf,?_,hc⟩
    rw [(yrg hh.e).2,(hR j j1 j2).2.1,lf.fr,lf.term,K2]
  obtain ⟨R1,s1,s2,s3⟩:=yxs (R:=R) (f:=f) (a:=fun j=>ykd (rOf R j) (f j)) hnd (fun j hj=>by obtain ⟨j1,j2,j3⟩:=hJm j hj; omega) (fun j hj=>(hlike j hj).f.to) (by omega) (fun j hj=>by
    obtain ⟨p,a,ok,hh,_⟩:=hear j hj
    exact (yrg hh.e).1)
  have hK1:rOf R1 K=s:=by rw [s2 K k1,qc (fun hm=>(hJm _ hm).2.2 rfl),hs]
  have hi1:Inw B b n ⟨R1,D.map fun j=>ykd (rOf R j) (f j)⟩:=by
    rw [← s3]
    exact yli _ hi
  obtain ⟨R2,q,outs,t1,t2,t3,t4⟩:=yxg (R:=R1) (a:=fun j=>ykd (rOf R j) (f j)) (K:=K) k1 (by omega) (fun j hj=>by
    obtain ⟨p,a,ok,_,_,em,_⟩:=hans j hj
    show (ykd (rOf R j) (f j)).To=K
    rw [em]
    rfl) hnd (by omega) (P:=fun done q outs=>St4 B n s done q outs/\(∀ j∈done,j∈D)/\done.length<=D.length) (fun done j q outs hj hjd hdl2 hst=>by
    obtain ⟨hst,hd2,hd3⟩:=hst
    obtain ⟨p,a,ok,_,hf,em,_⟩:=hans j hj
    obtain ⟨j1,j2,j3⟩:=hJm j hj
    have hyo:OkM B (ykd (rOf R j) (f j)):=hi1.okB.w.net _ (wh.2 ⟨j,hj,rfl⟩)
    refine ⟨?_,fun i hi=>?_,by simp; omega⟩
    .show St4 B n s (done++[j]) (yaj q (ykd (rOf R j) (f j))).1 (outs++(yaj q (ykd (rOf R j) (f j))).2)
     rw [em] at hyo ⊢
     exact ycbh hjd (fun i hi=>(hJm i (hd2 i hi)).1) j1 (by omega) (by omega) rfl rfl (by show K=s.Id; omega) hyo rfl (by omega) hf hst
    .rcases qt.1 hi with hi | hi
     .exact hd2 i hi
     .rw [wb] at hi; rw [hi]; exact hj) (fun done q outs hst=>by
    obtain ⟨D',f',d1,d2,d3,d4,d5,d6⟩:=hst.1.out
    have:=hst.2.2
    omega) ⟨⟨by rw [hK1]; exact K1,by rw [hK1]; exact hrole,by rw [hK1],by rw [hK1],by rw [hK1],by rw [hK1],by rw [hK1],by rw [hK1]; exact hsm,fun u _ _=>by rw [hK1]; exact ⟨rfl,rfl⟩,[],fun _=>mk6 0 0 0 0 false,rfl,List.nodup_nil,by simp,by simp,by simp,by simp⟩,by simp,by simp⟩
  obtain ⟨t1,_,_⟩:=t1
  obtain ⟨D',f',d1,d2,d3,d4,d5,d6⟩:=t1.out
  have hK2:rOf R2 K=q:=by rw [t3 K k1,qe rfl]
  have hO2:∀ j∈ybb n K,rOf R2 j=if j∈D then (yaj (rOf R j) (f j)).1 else rOf R j:=fun j hj=>by
    obtain ⟨j1,j2,j3⟩:=ycl.1 hj
    rw [t3 j j1,qc j3,s2 j j1]
  have e2:ybp (D.length + D.length) ⟨R,D.map f⟩ = ⟨R2,outs⟩:=by
    rw [yfe,s3,t4]
  refine ⟨D',f',⟨yli _ hi,by rw [e2]; exact d1,d2,fun j hj=>hsub j (d3 j hj),by rw [d1,wj] at d4; omega,?_,?_,?_,fun j hj=>?_,fun j hj=>?_,fun j hj hn=>?_,fun j hj=>?_⟩,fun j hj=>?_⟩
  .rw [e2]; show (rOf R2 K).ym=3; rw [hK2]; exact t1.role
  .rw [e2]; show (rOf R2 K).yc=_; rw [hK2,t1.term]; exact hterm
  .rw [e2]; show (rOf R2 K).yg=_; rw [hK2,t1.log]; exact hlog
  .rw [e2]
   show (rOf R2 j).yc<=_
   rw [hO2 j hj]
   split
   .rename_i hm
    obtain ⟨p,a,ok,hh,_⟩:=hear j hm
    rw [hh.e]
    show p.yc<=_
    have:=(hlike j hm).f.term
    rw [hh.term]
    omega
   .exact htop j hj
  .rw [e2]
   show ypx (rOf R2 K) j (f' j)
   rw [hK2]
   exact (d5 j hj).1
  .rw [e2]
   show (rOf R2 j).yc=_/\(rOf R2 j).yak=K/\yar (rOf R2 K) j=_
   rw [hK2,hO2 j hj]
   by_cases hm:j∈D
   .rw [qe hm]
    obtain ⟨p,a,ok,hh,_⟩:=hear j hm
    have lf:=(hlike j hm).f
    rw [hh.e]
    refine ⟨?_,?_,?_⟩
    .show p.yc=_; rw [hh.term,lf.term]; exact hterm
    .show p.yak=K; rw [hh.lead,lf.fr]; exact K2
    .rw [d6 j hm hn,hlog]
   .rw [qc hm]
    obtain ⟨h1,h2,h3⟩:=hfin j hj hm
    refine ⟨h1,h2,?_⟩
    rw [(t1.oth j (ycl.1 hj).1 hm).2]
    exact h3
  .rw [e2]
   show cm<=(rOf R2 j).yl\/_
   left
   rw [hO2 j hj]
   by_cases hm:j∈D
   .rw [qe hm]
    obtain ⟨p,a,ok,hh,_,_,hc⟩:=hear j hm
    rw [hh.e]
    exact hc
   .rw [qc hm]
    rcases hcmt j hj with hcm | ⟨hd,_⟩
    .exact hcm
    .exact absurd hd hm
  .rw [e2]
   show _/\nuR (rOf R2 K) j + 1<=nuR (rOf R K) j
   rw [hK2,hs]
   exact ⟨d3 j hj,(d5 j hj).2⟩
theorem yarg{K cm:Int}{q0:ye}(hB:B < 1000000)(k1:1<=K)(k2:K<=(n:Int)):∀ (N:Nat) {w:yab} {D:List Int} {f:Int->yj},Chn B b n K cm q0 w D f->(∀ j∈D,nuR (rOf w.R K) j < N) ->
    ∃ m f',m<=8 * N/\Chn B b n K cm q0 (ybp m w) [] f'
  | 0,w,D,f,h,hN=>by
    cases D with
    | nil=>exact ⟨0,f,qk _,h⟩
    | cons j l=>
      have hj:=hN j qv
      obtain ⟨j1,j2,j3⟩:=ycl.1 (h.sub j qv)
      obtain ⟨r,e1,e2,e3,e4,e5⟩:=h.inw.at_ k1 k2
      obtain ⟨⟨g,hg⟩,_⟩:=h.inw
      have hr:=h.role
      rw [e2] at hr hj
      have:=yccs (hg.lead _ _ e1 hr) j1 (by omega) (by omega)
      omega
  | N + 1,w,D,f,h,hN=>by
    obtain ⟨D',f',h1,h2⟩:=yawa hB k1 k2 h
    obtain ⟨m,f2,m1,m2⟩:=yarg hB k1 k2 N h1 fun j hj=>by
      obtain ⟨a,c⟩:=h2 j hj
      have:=hN j a
      omega
    have:=h.dl
    exact ⟨D.length + D.length + m,f2,by omega,by rw [yfe]; exact m2⟩
theorem yanr{K cm:Int}{q0:ye}{D:List Int}{f:Int->yj}(hB:B < 1000000)(k1:1<=K)(k2:K<=(n:Int))(h:Chn B b n K cm q0 w D f){M:Nat}(hM:9 * b + 32<=(M:Int)):∃ f',Chn B b n K cm q0 (ybp M w) [] f':=by
  obtain ⟨r,e1,e2,e3,e4,e5⟩:=h.inw.at_ k1 k2
  obtain ⟨⟨g,hg⟩,_⟩:=h.inw
  have hr:=h.role
  rw [e2] at hr
  have hlast:=hg.last _ _ e1
  have hlv:=yhz r
  have hL0:=ymj e3.log
  obtain ⟨m,f',m1,m2⟩:=yarg hB k1 k2 (b + (b + 7) / 8 + 2).toNat h fun j hj=>by
    obtain ⟨j1,j2,j3⟩:=ycl.1 (h.sub j hj)
    have:=yccs (hg.lead _ _ e1 hr) j1 (by omega) (by omega)
    rw [e2]
    omega
  refine ⟨f',?_⟩
  have hm:m<=M:=by omega
  have e:ybp M w=ybp m w:=by
    rw [show M=m + (M - m) by omega,yfe,yta m2.net]
  rw [e]
  exact m2
end
end Go.Proofs.Ytgoachcogmlhcaa.R
set_option maxRecDepth 100000
set_option linter.unusedVariables false
set_option linter.unusedSimpArgs false
noncomputable section
namespace Go.Proofs.Ytgoachcogmlhcaa.R
open Go
section
variable {B b W:Int} {n:Nat} {g:Gh} {w:yab} {r s q p:ye} {x y:yj} {R:List ye}
theorem ycjo:∀ m:Nat,m < 6->∀ i:Nat,i < m->ydv ((List.replicate m false).set i true) = decide (m=1):=by decide
theorem yauc(h:OkR B r)(hN:r.N=(n:Int))(hn:n<=5):ydv (yfq r) = decide (n=1):=by
  have hid:=h.id
  have:=ycjo n (by omega) (r.Id - 1).toNat (by omega)
  unfold yfq ybl
  rw [hN,km]
  exact this
structure Late (n:Nat) (K:Int) (r:ye) (w w':yab):Prop where
  role:(rOf w'.R K).ym=0
  ex:∃ j∈ybb n K,r.yc < (rOf w.R j).yc
  o:∀ j∈ybb n K,(r.yc < (rOf w.R j).yc->rOf w'.R j=rOf w.R j)/\((rOf w'.R j).ym=0\/rOf w'.R j=rOf w.R j)/\(rOf w'.R j).yc<=(rOf w'.R K).yc
  max:∀ M,r.yc<=M->(∀ j∈ybb n K,(rOf w.R j).yc<=M)->(rOf w'.R K).yc<=M
theorem yaon{m:Nat}{v:yab}(hm:m<=4000)(h:(ybp m v).Net = []):yhm v=ybp m v:=by
  unfold yhm
  rw [show 4000=m + (4000 - m) by omega,yfe,yta h]
theorem yank{b' cm:Int}(h:Inw B b n w)(hnet:w.Net = [])(hB:B + 5 < 1000000){k:Nat}(hk:k < n)(hr:rOf w.R ((k:Int) + 1) = r)(hi:Inw (B + 5) b' n (ygo w k))(h9:9 * b' + 48<=4000)
    (hcm:cm<=0\/(r.ym=3/\cm<=r.yl/\cm<=yac r.yg/\∀ j∈ybb n ((k:Int) + 1),yar r j=yac r.yg)) :
    (ybn k w).Net = [] /\
      ((¬ ynf r/\(r.ym=3->r.yu=0)/\∀ id,1<=id->rOf (ybn k w).R id=if id=(k:Int) + 1 then { r with yu:=r.yu + 1 } else rOf w.R id) \/
      (∃ q0 f',Chn (B + 5) b' n ((k:Int) + 1) cm q0 (ybn k w) [] f'/\(r.ym=3->q0.yc=r.yc/\q0.yg=r.yg)) \/
      (ynf r/\Rest n (ygu { r with yu:=r.yu + 1 } (k:Int)) (ygo w k).R (ybn k w).R) \/
      (r.ym=3/\Late n ((k:Int) + 1) r w (ybn k w))):=by
  obtain ⟨r',e1,e2,e3,e4,e5,e6⟩:=h.me hk
  rw [hr] at e2
  subst e2
  have hn:=h.okB.w.n1
  have hwl:=h.okB.w.len
  have ht:=yry (w:=w) e1
  rw [hnet,List.nil_append] at ht
  have hcl:=e3.clock
  have hJ4:(ybb n ((k:Int) + 1)).length<=4:=yagi (by omega) (by omega) hn.2
  have oJ:∀ {q:ye},q.N=r.N->q.Id=r.Id->yca q=ybb n ((k:Int) + 1):=fun {q} a c=>by
    rw [yams (n:=n) (by rw [a]; exact e5),c,e4]
  by_cases h3:r.ym=3
  .have hna:¬ ynf r:=fun a=>a.1 h3
   by_cases hc:2<=r.yu + 1
   .
    have et:ycj r (k:Int) = ({ r with yu:=0 },(yca r).map (ybj { r with yu:=0 })):=by
      unfold ycj
      simp only
      rw [qe h3,qe hc]
    rw [et] at ht
    simp only at ht
    rw [oJ rfl rfl,yabj (by rw [wj]; omega)] at ht
    rw [ht] at hi
    have hg:∀ id,1<=id->rOf (w.R.set k { r with yu:=0 }) id=if id=(k:Int) + 1 then { r with yu:=0 } else rOf w.R id:=fun id h1=>yja (by omega) h1
    have hgJ:∀ j∈ybb n ((k:Int) + 1),rOf (w.R.set k { r with yu:=0 }) j=rOf w.R j:=fun j hj=>by
      obtain ⟨j1,j2,j3⟩:=ycl.1 hj
      rw [hg j j1,qc j3]
    have hgK:rOf (w.R.set k { r with yu:=0 }) ((k:Int) + 1) = { r with yu:=0 }:=by rw [hg _ (by omega),qe rfl]
    by_cases hgt:∃ j∈ybb n ((k:Int) + 1),r.yc < (rOf w.R j).yc
    .obtain ⟨j0,j0m,j0t⟩:=hgt
     obtain ⟨m,R',m1,m2,m3,m4,m5⟩:=ybgx hi hB (by omega) (by omega) hgK h3 ⟨j0,j0m,by rw [hgJ j0 j0m]; exact j0t⟩
     have hq:ybn k w = ⟨R',[]⟩:=by
       unfold ybn
       rw [ht,yaon (m:=m) (by omega) (by rw [m2]),m2]
     rw [hq]
     refine ⟨rfl,.inr (.inr (.inr ⟨h3,m3,⟨j0,j0m,j0t⟩,fun j hj=>?_,fun M a1 a2=>?_⟩))⟩
     .obtain ⟨c1,c2,c3⟩:=m4 j hj
      rw [hgJ j hj] at c1 c2
      exact ⟨c1,c2,c3⟩
     .exact m5 M a1 fun j hj=>by rw [hgJ j hj]; exact a2 j hj
    .have hch:Chn (B + 5) b' n ((k:Int) + 1) cm { r with yu:=0 } ⟨w.R.set k { r with yu:=0 },(ybb n ((k:Int) + 1)).map (ybj { r with yu:=0 })⟩ (ybb n ((k:Int) + 1)) (ybj { r with yu:=0 }):=by
       refine ⟨hi,rfl,ylb n 1,fun j hj=>hj,hJ4,?_,?_,?_,fun j hj=>?_,fun j hj=>?_,fun j hj hn=>absurd hj hn,fun j hj=>?_⟩
       .show (rOf (w.R.set k { r with yu:=0 }) _).ym=3; rw [hgK]; exact h3
       .show (rOf (w.R.set k { r with yu:=0 }) _).yc=_; rw [hgK]
       .show (rOf (w.R.set k { r with yu:=0 }) _).yg=_; rw [hgK]
       .show (rOf (w.R.set k { r with yu:=0 }) j).yc<=_
        rw [hgJ j hj]
        rcases jz r.yc (rOf w.R j).yc with hlt | hle
        .exact absurd ⟨j,hj,hlt⟩ hgt
        .exact hle
       .show ypx (rOf (w.R.set k { r with yu:=0 }) _) j _
        rw [hgK]
        exact yacf _ j
       .show cm<=(rOf (w.R.set k { r with yu:=0 }) j).yl\/_
        obtain ⟨j1,j2,j3⟩:=ycl.1 hj
        rcases hcm with hcm | ⟨_,c1,c2,c3⟩
        .left
         obtain ⟨q,_,a2,ok,_⟩:=hi.at_ j1 j2
         have a2:rOf (w.R.set k { r with yu:=0 }) j=q:=a2
         rw [a2]
         have:=ok.commit
         omega
        .right
         show _/\_/\_/\_/\(ybj { r with yu:=0 } j).At<=yar (rOf (w.R.set k { r with yu:=0 }) _) j
         rw [hgK]
         have hm:=c3 j hj
         obtain ⟨⟨g,hgi⟩,_⟩:=h
         have hl:=hgi.lead _ _ e1 h3
         have mn:=hl.mn j j1 (by omega) (by omega); have nl:=hl.nl j j1 (by omega) (by omega)
         have hnx:yax r j=yac r.yg + 1:=by omega
         have hbl:r.yg.yn<=yac r.yg:=by unfold yac; omega
         have e:ybj { r with yu:=0 } j = ⟨5,0,r.Id,j,r.yc,yax r j - 1,(ycz r.yg (yax r j - 1)).getD 0,r.yl,false,ykf r.yg (yax r j),[]⟩:=by
           show (if yax r j<=r.yg.yn then _ else _) = _
           rw [qc (by omega)]
           rfl
         rw [e]
         refine ⟨hj,c1,rfl,?_,?_⟩
         .show cm<=yax r j - 1; omega
         .show yax r j - 1<=yar r j; omega
     obtain ⟨f',hf'⟩:=yanr (M:=4000) hB (by omega) (by omega) hch (by omega)
     have hq:ybn k w=ybp 4000 ⟨w.R.set k { r with yu:=0 },(ybb n ((k:Int) + 1)).map (ybj { r with yu:=0 })⟩:=by
       unfold ybn yhm
       rw [ht]
     rw [hq]
     exact ⟨hf'.net,.inr (.inl ⟨_,f',hf',fun _=>⟨rfl,rfl⟩⟩)⟩
   .have et:ycj r (k:Int) = ({ r with yu:=r.yu + 1 },[]):=by
      unfold ycj
      simp only
      rw [qe h3,qc hc]
    rw [et] at ht
    have hq:ybn k w = ⟨w.R.set k { r with yu:=r.yu + 1 },[]⟩:=by
      unfold ybn yhm
      rw [ht]
      exact yta rfl _
    rw [hq]
    exact ⟨rfl,.inl ⟨hna,fun _=>by omega,fun id h1=>yja (by omega) h1⟩⟩
  .by_cases hc:r.yam<=r.yu + 1
   .have hA:ynf r:=⟨h3,hc⟩
    have hcm:cm<=0:=by
      rcases hcm with hcm | ⟨hc,_⟩
      .exact hcm
      .exact absurd hc h3
    have et:ycj r (k:Int) = yhx { r with yu:=r.yu + 1 } (k:Int):=by
      unfold ycj
      simp only
      rw [qc h3,qe hc]
    obtain ⟨rk,hrk⟩:∃ rk,ygu { r with yu:=r.yu + 1 } (k:Int) = rk:=⟨_,rfl⟩
    have k1:rk.Id=(k:Int) + 1:=by rw [← hrk]; exact e4
    have k2:rk.N=(n:Int):=by rw [← hrk]; exact e5
    have k3:rk.ym=1:=by rw [← hrk]; rfl
    have hone:ydv (yfq r) = decide (n=1):=yauc e3 e5 hn.2
    by_cases hn1:n=1
    .
     have hw1:ydv (yfq r) = true:=by rw [hone]; exact qg hn1
     have ea:yhx { r with yu:=r.yu + 1 } (k:Int) = yco (yas rk):=by
       unfold yhx
       rw [qe (show ydv (yfq { r with yu:=r.yu + 1 }) = true from hw1),hrk]
       unfold yea
       rw [qe (by rw [← hrk]; exact hw1)]
     rw [et,ea] at ht
     have hz:ybb n ((k:Int) + 1) = []:=by
       cases hoj:ybb n ((k:Int) + 1) with
       | nil=>rfl
       | cons j l=>
         have:j∈ybb n ((k:Int) + 1):=by rw [hoj]; exact qv
         have:=ycl.1 this
         omega
     have e2:(yco (yas rk)).2 = []:=by
       show (yca (yft (yas rk))).map _ = []
       rw [oJ (q:=yft (yas rk)) (by show rk.N=r.N; omega) (by show rk.Id=r.Id; omega),hz]
       rfl
     rw [e2] at ht
     have hq:ybn k w=ygo w k:=by
       unfold ybn yhm
       exact yta (by rw [ht]; rfl) _
     have hgK:rOf (ygo w k).R ((k:Int) + 1) = (yco (yas rk)).1:=by
       rw [ht]
       show rOf (w.R.set k _) _=_
       rw [yja (by omega) (by omega),qe rfl]
     have no:∀ {P:Prop} (j:Int),j∈ybb n ((k:Int) + 1)->P:=fun j hj=>by
       rw [hz] at hj
       exact absurd hj wz
     rw [hq]
     refine ⟨by rw [ht]; rfl,.inr (.inl ⟨(yco (yas rk)).1,fun _=>mk6 0 0 0 0 false,⟨hi,by rw [ht]; rfl,List.nodup_nil,fun j hj=>absurd hj wz,jb _,by rw [hgK]; exact yia,by rw [hgK],by rw [hgK],fun j hj=>no j hj,fun j hj=>absurd hj wz,fun j hj _=>no j hj,fun j hj=>no j hj⟩,fun e=>absurd e h3⟩)⟩
    .have hw0:ydv (yfq r) = false:=by rw [hone]; exact qf hn1
     have ea:yhx { r with yu:=r.yu + 1 } (k:Int) = (rk,(yca r).map (yij rk)):=by
       unfold yhx
       rw [qc (by rw [show ydv (yfq { r with yu:=r.yu + 1 }) = false from hw0]; exact qw),hrk]
       rfl
     rw [et,ea] at ht
     simp only at ht
     rw [oJ rfl rfl,yabj (by rw [wj]; omega)] at ht
     rw [ht] at hi
     obtain ⟨hl1,hR1⟩:=Inw.all (w:=⟨w.R.set k rk,(ybb n ((k:Int) + 1)).map (yij rk)⟩) hi
     have hgK:rOf (w.R.set k rk) rk.Id=rk:=by rw [yja (by omega) (by omega),qe k1]
     have hrkO:OkR (B + 5) rk:=by
       have:=(hR1 rk.Id (by omega) (by omega)).1
       rwa [hgK] at this
     obtain ⟨m,R',m1,m2,m3⟩:=ybjo (n:=n) (R:=w.R.set k rk) (rk:=rk) ⟨by omega,hn.2⟩ hl1 hR1 hB hrkO k2 hgK k3 (by rw [← hrk]; rfl) (by rw [← hrk]; rfl) (by rw [← hrk]; rfl) (by rw [← hrk]; exact hw0)
     rw [k1] at m3
     rcases m3 with ⟨m3,m4⟩ | ⟨m3,m4,m5,m6⟩
     .have hq:ybn k w = ⟨R',[]⟩:=by
        unfold ybn
        rw [ht,yaon (m:=m) (by omega) (by rw [m3]),m3]
      rw [hq,ht,hrk]
      exact ⟨rfl,.inr (.inr (.inl ⟨hA,m4⟩))⟩
     .have hi2:=yli m hi
      rw [m3] at hi2
      obtain ⟨l1,l2,l3⟩:=yrm (yas rk)
      have hs:=yox rk
      have e2:(yco (yas rk)).2=(ybb n ((k:Int) + 1)).map (ybj (yco (yas rk)).1):=by
        show (yca (yft (yas rk))).map (ybj (yco (yas rk)).1) = _
        rw [oJ (q:=yft (yas rk)) (by show rk.N=r.N; omega) (by show rk.Id=r.Id; omega)]
      have hch:Chn (B + 5) b' n ((k:Int) + 1) cm (yco (yas rk)).1 ⟨R',(yco (yas rk)).2⟩ (ybb n ((k:Int) + 1)) (ybj (yco (yas rk)).1):=by
        refine ⟨hi2,e2,ylb n 1,fun j hj=>hj,hJ4,?_,?_,?_,fun j hj=>?_,fun j hj=>?_,fun j hj hn=>absurd hj hn,fun j hj=>?_⟩
        .show (rOf R' _).ym=3; rw [m4]; exact yia
        .show (rOf R' _).yc=_; rw [m4]
        .show (rOf R' _).yg=_; rw [m4]
        .obtain ⟨a1,a2⟩:=m6 j hj
         obtain ⟨_,_,_,_,a3⟩:=yalc rk (rOf (w.R.set k rk) j)
         show (rOf R' j).yc<=_
         rw [a1,a3,l3,hs]
         omega
        .show ypx (rOf R' _) j _
         rw [m4]
         exact yacf _ j
        .left
         obtain ⟨j1,j2,j3⟩:=ycl.1 hj
         obtain ⟨q,_,a2,ok,_⟩:=hi2.at_ j1 j2
         rw [a2]
         have:=ok.commit
         omega
      obtain ⟨f',hf'⟩:=yanr (M:=4000 - m) hB (by omega) (by omega) hch (by omega)
      have hq:ybn k w=ybp (4000 - m) ⟨R',(yco (yas rk)).2⟩:=by
        unfold ybn yhm
        rw [ht,show 4000=m + (4000 - m) by omega,yfe,m3,show m + (4000 - m) - m=4000 - m by omega]
      rw [hq]
      exact ⟨hf'.net,.inr (.inl ⟨_,f',hf',fun e=>absurd e h3⟩)⟩
   .have hna:¬ ynf r:=fun a=>hc a.2
    have et:ycj r (k:Int) = ({ r with yu:=r.yu + 1 },[]):=by
      unfold ycj
      simp only
      rw [qc h3,qc hc]
    rw [et] at ht
    have hq:ybn k w = ⟨w.R.set k { r with yu:=r.yu + 1 },[]⟩:=by
      unfold ybn yhm
      rw [ht]
      exact yta rfl _
    rw [hq]
    exact ⟨rfl,.inl ⟨hna,fun e=>absurd e h3,fun id h1=>yja (by omega) h1⟩⟩
end
end Go.Proofs.Ytgoachcogmlhcaa.R
set_option maxRecDepth 100000
set_option linter.unusedVariables false
set_option linter.unusedSimpArgs false
noncomputable section
namespace Go.Proofs.Ytgoachcogmlhcaa.R
open Go
section
variable {B b W:Int} {n k:Nat} {g:Gh} {w:yab} {r s q p rk:ye} {x y:yj} {R:List ye}
def El(n:Nat)(w:yab):Prop:=∃ i:Int,1<=i/\i<=(n:Int)/\(rOf w.R i).ym=3/\∀ j:Int,1<=j->j<=(n:Int)->(rOf w.R j).yc<=(rOf w.R i).yc
def Cal(F n k:Nat)(w:yab):Prop:=∃ B b,Inw B b n w/\w.Net = []/\0<=b/\10 * b + min (rOf w.R ((k:Int) + 1)).yu 10 + F<=4380/\B + 5 * F<=90000
def yrc(F n:Nat)(w:yab):Prop:=∃ B b,Inw B b n w/\w.Net = []/\0<=b/\10 * b + F<=4370/\B + 5 * F<=90000
theorem yrc.to{F:Nat}(h:yrc F n w)(k:Nat):Cal F n k w:=by
  obtain ⟨B,b,h1,h2,h3,h4,h5⟩:=h
  exact ⟨B,b,h1,h2,h3,by omega,h5⟩
theorem Cal.from{F:Nat}(hk:k < n)(h:Cal (F + 10) n k w):yrc F n w:=by
  obtain ⟨B,b,h1,h2,h3,h4,h5⟩:=h
  obtain ⟨r,e1,e2,e3,e4,e5,e6⟩:=h1.me hk
  have:=e3.clock
  rw [e2] at h4
  exact ⟨B,b,h1,h2,h3,by omega,by omega⟩
theorem Cal.less{F:Nat}(h:Cal (F + 1) n k w):Cal F n k w:=by
  obtain ⟨B,b,h1,h2,h3,h4,h5⟩:=h
  exact ⟨B,b,h1,h2,h3,by omega,by omega⟩
theorem ycoo{K cm:Int}{q0:ye}{f:Int->yj}(h:Chn B b n K cm q0 w [] f)(k1:1<=K)(k2:K<=(n:Int)):El n w:=by
  refine ⟨K,k1,k2,h.role,fun j j1 j2=>?_⟩
  by_cases he:j=K
  .rw [he]; exact qh _
  .have:=(h.fin j (ycl.2 ⟨j1,j2,he⟩) wz).1
   have:=h.term
   omega
theorem ybto(h:Inw B b n w)(hw:Won1 n rk w.R)(hrk:rOf w.R rk.Id=rk)(r1:1<=rk.Id)(r2:rk.Id<=(n:Int)){i:Int}(i1:1<=i)(i2:i<=(n:Int))(hi:(rOf w.R i).ym=3):(rOf w.R i).yc<=rk.yc:=by
  obtain ⟨r,e1,e2,e3,e4,e5⟩:=h.at_ i1 i2
  rw [e2] at hi ⊢
  obtain ⟨G,w1,w2,w3⟩:=hw
  obtain ⟨⟨g,hg⟩,hc⟩:=h
  have hl:=((hg.gh.mem _ _ e1).lead hi).l
  obtain ⟨G2,v1,v2,v3⟩:=hg.gh.inv.q r.yc (by rw [hl]; omega)
  obtain ⟨j,j1,j2⟩:=yvm (by omega) w2 v2
  have hv:=v3 j j2
  have ht:=hg.gh.inv.vt r.yc ((j:Int) + 1) (by rw [hv,hl]; omega)
  have hmem:∀ id:Int,1<=id->id<=(n:Int)->g.T id=(rOf w.R id).yc:=fun id h1 h2=>by
    obtain ⟨s,f1,f2,f3,f4,f5⟩:=hg.at_ h1 h2
    have:=(hg.gh.mem _ _ f1).T
    rw [f4] at this
    rw [f2]
    exact this
  rcases w3 j j1 with hj | ⟨hj,hA⟩
  .rw [hj,hmem _ r1 r2,hrk] at ht
   exact ht
  .obtain ⟨a1,a2,_⟩:=ycl.1 hj
   rw [hmem _ a1 a2] at ht
   have:=(ysz hA).1
   omega
theorem ybyt{c:Int}(h1:r.yc<=s.yc)(h2:r.ym≠3)(h3:r.yak=0)(h4:ykb r.yg (yee s.yg) (yac s.yg) = true):okA (ygu { s with yu:=c } (k:Int)) r=true:=by
  have ht:(yij (ygu { s with yu:=c } (k:Int)) 0).yc=s.yc + 1:=by
    show (if s.yc < s.yc then s.yc else s.yc) + 1=_
    rw [qc (by omega)]
  have hn:ykb r.yg (yij (ygu { s with yu:=c } (k:Int)) 0).ybf (yij (ygu { s with yu:=c } (k:Int)) 0).At=true:=h4
  unfold okA ywy ybct
  rw [ht,hn,qg (by omega),qg h2,qg h3]
  rfl
structure yape (n:Nat) (K:Int) (w w':yab):Prop where
  role:∀ j∈ybb n K,(rOf w'.R j).ym=3->(rOf w.R j).ym=3
  own:(rOf w.R K).ym=3->(rOf w'.R K).ym≠3\/((rOf w.R K).yu=0/\(rOf w'.R K).yu=1)
  low:(rOf w.R K).ym≠3->(rOf w'.R K).ym≠3/\(∀ j:Int,1<=j->j<=(n:Int)->(rOf w'.R j).yg=(rOf w.R j).yg)/\(∀ j∈ybb n K,(rOf w'.R j).yak=0\/(rOf w'.R j).yak=(rOf w.R j).yak) /\
    ((¬ ynf (rOf w.R K)/\(rOf w'.R K).yu=(rOf w.R K).yu + 1/\(rOf w'.R K).yam=(rOf w.R K).yam/\(rOf w'.R K).yak=(rOf w.R K).yak/\∀ j:Int,1<=j->(rOf w'.R j).yc=(rOf w.R j).yc) \/
      ((rOf w'.R K).yak=0/\(∀ j∈ybb n K,(rOf w'.R j).yc<=(rOf w'.R K).yc)/\∃ j∈ybb n K,okA (ygu { rOf w.R K with yu:=(rOf w.R K).yu + 1 } (K - 1)) (rOf w.R j) = false))
theorem ygv{F:Nat}(h:Cal (F + 1) n k w)(hk:k < n):Cal F n k (ybn k w)/\(El n w->El n (ybn k w))/\(El n (ybn k w)\/yape n ((k:Int) + 1) w (ybn k w)):=by
  obtain ⟨B,b,h1,h2,h3,h4,h5⟩:=h
  obtain ⟨b',b1,b2,b3,b4⟩:=yzk h1 hk (qh _)
  have hcal:Cal F n k (ybn k w)->True:=fun _=>trivial
  obtain ⟨r',f1,f2,f3,f4,f5,f6⟩:=b3.me hk
  have hcl':=f3.clock
  rw [f2] at b4
  obtain ⟨r,e1,e2,e3,e4,e5,e6⟩:=h1.me hk
  have hcl:=e3.clock
  rw [e2] at h4 b4
  obtain ⟨c1,c2⟩:=yank (cm:=0) h1 h2 (by omega) hk e2 b2 (by omega) (.inl (qh _))
  refine ⟨⟨B + 5,b',b3,c1,by omega,by rw [f2]; omega,by omega⟩,?_⟩
  have hJm:∀ {j:Int},1<=j->j<=(n:Int)->j≠(k:Int) + 1->j∈ybb n ((k:Int) + 1):=fun a c d=>ycl.2 ⟨a,c,d⟩
  rcases c2 with ⟨d1,d2,d3⟩ | ⟨q0,f',d1,d2⟩ | ⟨d1,d2⟩ | ⟨d1,d2⟩
  .have hK:rOf (ybn k w).R ((k:Int) + 1) = { r with yu:=r.yu + 1 }:=by rw [d3 _ (by omega),qe rfl]
   have hO:∀ j∈ybb n ((k:Int) + 1),rOf (ybn k w).R j=rOf w.R j:=fun j hj=>by
     obtain ⟨j1,j2,j3⟩:=ycl.1 hj
     rw [d3 j j1,qc j3]
   have hT:∀ j:Int,1<=j->(rOf (ybn k w).R j).yc=(rOf w.R j).yc/\(rOf (ybn k w).R j).ym=(rOf w.R j).ym/\(rOf (ybn k w).R j).yg=(rOf w.R j).yg:=fun j j1=>by
     rw [d3 j j1]
     split
     .rename_i he
      rw [he,e2]
      exact ⟨rfl,rfl,rfl⟩
     .exact ⟨rfl,rfl,rfl⟩
   refine ⟨fun ⟨i,i1,i2,i3,i4⟩=>⟨i,i1,i2,by rw [(hT i i1).2.1]; exact i3,fun j j1 j2=>by rw [(hT j j1).1,(hT i i1).1]; exact i4 j j1 j2⟩,.inr ⟨fun j hj=>?_,fun hr=>?_,fun hr=>⟨?_,fun j j1 j2=>(hT j j1).2.2,fun j hj=>?_,.inl ⟨by rw [e2]; exact d1,?_,?_,?_,fun j j1=>(hT j j1).1⟩⟩⟩⟩
   .rw [hO j hj]; exact id
   .rw [e2] at hr ⊢
    rw [hK]
    exact .inr ⟨d2 hr,by show r.yu + 1=1; have:=d2 hr; omega⟩
   .rw [(hT _ (by omega)).2.1]; exact hr
   .rw [hO j hj]; exact .inr rfl
   .rw [hK,e2]
   .rw [hK,e2]
   .rw [hK,e2]
  .have:=ycoo d1 (by omega) (by omega)
   exact ⟨fun _=>this,.inl this⟩
  .obtain ⟨rk,hrk⟩:∃ rk,ygu { r with yu:=r.yu + 1 } (k:Int) = rk:=⟨_,rfl⟩
   rw [hrk] at d2
   have k1:rk.Id=(k:Int) + 1:=by rw [← hrk]; exact e4
   have hg:∀ {id:Int},1<=id->rOf (ygo w k).R id=if id=(k:Int) + 1 then (ycj r (k:Int)).1 else rOf w.R id:=fun h=>yahe e1 h
   have et:(ycj r (k:Int)).1=rk\/n=1:=by
     by_cases hn1:n=1
     .exact .inr hn1
     .left
      unfold ycj
      simp only
      rw [qc d1.1,qe d1.2]
      unfold yhx
      have hn:=h1.okB.w.n1
      have hw0:ydv (yfq { r with yu:=r.yu + 1 }) = false:=by
        have:=yauc e3 e5 hn.2
        rw [qf hn1] at this
        exact this
      rw [qc (by rw [hw0]; exact qw)]
      exact hrk
   have hOg:∀ j∈ybb n ((k:Int) + 1),rOf (ygo w k).R j=rOf w.R j:=fun j hj=>by
     obtain ⟨j1,j2,j3⟩:=ycl.1 hj
     rw [hg j1,qc j3]
   have do_:=d2.o; have dc:=d2.c; have da:=d2.a
   have dr:=d2.role; have dl:=d2.lead; have dlog:=d2.log; have dtm:=d2.term
   rw [k1] at do_ dc da dr dl dlog dtm
   refine ⟨fun ⟨i,i1,i2,i3,i4⟩=>?_,.inr ⟨fun j hj=>?_,fun hr=>?_,fun hr=>⟨dr,fun j j1 j2=>?_,fun j hj=>?_,.inr ⟨dl,fun j hj=>(do_ j hj).2.2.2,?_⟩⟩⟩⟩
   .have hik:i≠(k:Int) + 1:=fun he=>d1.1 (by rw [he,e2] at i3; exact i3)
    have hij:=hJm i1 i2 hik
    have hrt:rk.yc<=(rOf w.R i).yc:=by
      have:=i4 ((k:Int) + 1) (by omega) (by omega)
      rw [e2] at this
      rw [← hrk]
      show (if r.yc < r.yc then r.yc else r.yc)<=_
      rw [qc (by omega)]
      exact this
    rcases dc with ⟨hw,j,hj,hjt⟩ | ⟨hs,hm⟩
    .exfalso
     obtain ⟨j1,j2,j3⟩:=ycl.1 hj
     rcases et with et | et
     .have hrk2:rOf (ygo w k).R rk.Id=rk:=by rw [k1,hg (by omega),qe rfl]; exact et
      have:=ybto b2 hw hrk2 (by omega) (by omega) i1 i2 (by rw [hOg i hij]; exact i3)
      rw [hOg i hij] at this
      rw [hOg j hj] at hjt
      have:=i4 j j1 j2
      omega
     .omega
    .refine ⟨i,i1,i2,by rw [hs i hij,hOg i hij]; exact i3,fun j j1 j2=>?_⟩
     rw [hs i hij,hOg i hij]
     by_cases hjk:j=(k:Int) + 1
     .rw [hjk]
      exact hm _ hrt fun j' hj'=>by
        obtain ⟨a1,a2,a3⟩:=ycl.1 hj'
        rw [hOg j' hj']
        exact i4 j' a1 a2
     .have hj:=hJm j1 j2 hjk
      rw [hs j hj,hOg j hj]
      exact i4 j j1 j2
   .obtain ⟨_,_,c,_⟩:=do_ j hj
    intro h3
    rcases c with c | c
    .omega
    .rw [c,hOg j hj] at h3
     exact h3
   .rw [e2] at hr
    exact absurd hr d1.1
   .by_cases hjk:j=(k:Int) + 1
    .rw [hjk,dlog,e2,← hrk]
     rfl
    .have hj:=hJm j1 j2 hjk
     rw [(do_ j hj).1,hOg j hj]
   .have:=(do_ j hj).2.1
    rwa [hOg j hj] at this
   .obtain ⟨j,hj,ha⟩:=da
    refine ⟨j,hj,?_⟩
    rw [hOg j hj,← hrk] at ha
    rw [e2,show (k:Int) + 1 - 1=(k:Int) by omega]
    exact ha
  .refine ⟨fun ⟨i,i1,i2,i3,i4⟩=>?_,.inr ⟨fun j hj=>?_,fun hr=>.inl (by rw [d2.role]; decide),fun hr=>absurd (by rw [e2]; exact d1) hr⟩⟩
   .obtain ⟨j0,hj0,hlt⟩:=d2.ex
    obtain ⟨a1,a2,a3⟩:=ycl.1 hj0
    have hle:=i4 j0 a1 a2
    have hik:i≠(k:Int) + 1:=fun he=>by
      rw [he,e2] at hle
      omega
    have hij:=hJm i1 i2 hik
    have hsame:=(d2.o i hij).1 (by omega)
    have hmx:=d2.max (rOf w.R i).yc (by omega) fun j hj=>by
      obtain ⟨j1,j2,j3⟩:=ycl.1 hj
      exact i4 j j1 j2
    refine ⟨i,i1,i2,by rw [hsame]; exact i3,fun j j1 j2=>?_⟩
    rw [hsame]
    by_cases hjk:j=(k:Int) + 1
    .rw [hjk]; exact hmx
    .have:=(d2.o j (hJm j1 j2 hjk)).2.2
     omega
   .intro h3
    rcases (d2.o j hj).2.1 with c | c
    .omega
    .rw [c] at h3
     exact h3
end
end Go.Proofs.Ytgoachcogmlhcaa.R
set_option maxRecDepth 100000
set_option linter.unusedVariables false
set_option linter.unusedSimpArgs false
noncomputable section
namespace Go.Proofs.Ytgoachcogmlhcaa.R
open Go
section
variable {B b W:Int} {n k:Nat} {g:Gh} {w:yab} {r s q p rk:ye} {x y:yj} {R:List ye}
theorem ylj{P:yab->Prop}(hk:k < n)(hs:∀ F w,Cal (F + 1) n k w->P w->P (ybn k w)):∀ (t F:Nat) {w:yab},Cal (F + t) n k w->P w->Cal F n k (yda k t w)/\P (yda k t w)
  | 0,F,w,h,hp=>⟨h,hp⟩
  | t + 1,F,w,h,hp=>ylj hk hs t F (ygv (F:=F + t) h hk).1 (hs (F + t) w h hp)
theorem yahx{P Q:yab->Prop}(hk:k < n)(hQ:∀ F w,Cal (F + 1) n k w->Q w->Q (ybn k w))
    (hP:∀ F w,Cal (F + 1) n k w->P w->Q (ybn k w)\/(P (ybn k w)/\(rOf (ybn k w).R ((k:Int) + 1)).yu=(rOf w.R ((k:Int) + 1)).yu + 1/\(rOf (ybn k w).R ((k:Int) + 1)).yam=(rOf w.R ((k:Int) + 1)).yam/\(rOf w.R ((k:Int) + 1)).yu + 1 < (rOf w.R ((k:Int) + 1)).yam)) :
    ∀ (t F:Nat) {w:yab},Cal (F + (t + 1)) n k w->P w->(rOf w.R ((k:Int) + 1)).yam<=(rOf w.R ((k:Int) + 1)).yu + (t + 1)->Cal F n k (yda k (t + 1) w)/\Q (yda k (t + 1) w)
  | 0,F,w,h,hp,hw=>by
    have hc:=(ygv (F:=F) h hk).1
    rcases hP F w h hp with hq | ⟨_,_,_,a⟩
    .exact ⟨hc,hq⟩
    .omega
  | t + 1,F,w,h,hp,hw=>by
    have hc:=(ygv (F:=F + (t + 1)) h hk).1
    rcases hP (F + (t + 1)) w h hp with hq | ⟨a1,a2,a3,a4⟩
    .exact ylj hk hQ (t + 1) F hc hq
    .exact yahx hk hQ hP t F (w:=ybn k w) hc a1 (by omega)
def A1(n m:Nat)(w:yab):Prop:=El n w\/∀ j:Int,1<=j->j<=(m:Int)->(rOf w.R j).ym≠3
theorem yccu(hk:k < n){t F:Nat}(ht:2<=t)(h:Cal (F + 10 + t) n k w)(ha:A1 n k w):yrc F n (yda k t w)/\A1 n (k + 1) (yda k t w):=by
  have hs:∀ F w,Cal (F + 1) n k w->A1 n k w->A1 n k (ybn k w):=fun F w h ha=>by
    obtain ⟨h1,h2,h3⟩:=ygv h hk
    rcases ha with ha | ha
    .exact .inl (h2 ha)
    .rcases h3 with h3 | h3
     .exact .inl h3
     .exact .inr fun j j1 j2 hr=>ha j j1 j2 (h3.role j (ycl.2 ⟨j1,by omega,by omega⟩) hr)
  have ho:∀ F w,Cal (F + 1) n k w->(El n w\/(rOf w.R ((k:Int) + 1)).ym≠3)->(El n (ybn k w)\/(rOf (ybn k w).R ((k:Int) + 1)).ym≠3):=fun F w h ha=>by
    obtain ⟨h1,h2,h3⟩:=ygv h hk
    rcases ha with ha | ha
    .exact .inl (h2 ha)
    .rcases h3 with h3 | h3
     .exact .inl h3
     .exact .inr (h3.low ha).1
  obtain ⟨t,rfl⟩:∃ t',t=t' + 2:=⟨t - 2,by omega⟩
  have h0:Cal (F + 10 + t + 1 + 1) n k w:=h
  obtain ⟨g1,g2,g3⟩:=ygv h0 hk
  obtain ⟨f1,f2,f3⟩:=ygv g1 hk
  have two:El n (ybn k (ybn k w))\/(rOf (ybn k (ybn k w)).R ((k:Int) + 1)).ym≠3:=by
    rcases g3 with g3 | g3
    .exact .inl (f2 g3)
    .rcases f3 with f3 | f3
     .exact .inl f3
     .by_cases hr:(rOf w.R ((k:Int) + 1)).ym=3
      .rcases g3.own hr with hh | ⟨_,hh⟩
       .exact .inr (f3.low hh).1
       .by_cases hr2:(rOf (ybn k w).R ((k:Int) + 1)).ym=3
        .rcases f3.own hr2 with hh2 | ⟨hh2,_⟩
         .exact .inr hh2
         .omega
        .exact .inr (f3.low hr2).1
      .exact .inr (f3.low (g3.low hr).1).1
  have a2:=hs _ _ g1 (hs _ _ h0 ha)
  have e:yda k (t + 2) w=yda k t (ybn k (ybn k w)):=rfl
  rw [e]
  obtain ⟨c1,c2⟩:=ylj hk hs t (F + 10) f1 a2
  obtain ⟨_,c3⟩:=ylj hk ho t (F + 10) f1 two
  refine ⟨c1.from hk,?_⟩
  rcases c2 with c2 | c2
  .exact .inl c2
  .rcases c3 with c3 | c3
   .exact .inl c3
   .refine .inr fun j j1 j2=>?_
    by_cases hj:j=(k:Int) + 1
    .rw [hj]; exact c3
    .exact c2 j j1 (by omega)
def Low(n:Nat)(w:yab):Prop:=∀ j:Int,1<=j->j<=(n:Int)->(rOf w.R j).ym≠3
def yahs(m:Nat)(w:yab):Prop:=∀ j:Int,1<=j->j<=(m:Int)->(rOf w.R j).yak=0
def P2(n m:Nat)(w:yab):Prop:=El n w\/(Low n w/\yahs m w)
theorem yagc(hk:k < n){w':yab}(hf:yape n ((k:Int) + 1) w w')(h:Low n w):Low n w':=fun j j1 j2=>by
  by_cases hj:j=(k:Int) + 1
  .rw [hj]; exact (hf.low (h _ (by omega) (by omega))).1
  .exact fun hr=>h j j1 j2 (hf.role j (ycl.2 ⟨j1,j2,hj⟩) hr)
theorem yabb(hk:k < n){m:Nat}(hm:m<=n){w':yab}(hf:yape n ((k:Int) + 1) w w')(hl:Low n w)(h:yahs m w):yahs m w':=fun j j1 j2=>by
  obtain ⟨_,_,a3,a4⟩:=hf.low (hl _ (by omega) (by omega))
  by_cases hj:j=(k:Int) + 1
  .rw [hj]
   rcases a4 with ⟨_,_,_,a,_⟩ | ⟨a,_⟩
   .rw [a,← hj]; exact h j j1 j2
   .exact a
  .rcases a3 j (ycl.2 ⟨j1,by omega,hj⟩) with a | a
   .exact a
   .rw [a]; exact h j j1 j2
theorem yavp{F:Nat}(h:Cal F n k w)(hk:k < n):(rOf w.R ((k:Int) + 1)).yam<=(rOf w.R ((k:Int) + 1)).yu + 20:=by
  obtain ⟨B,b,h1,_⟩:=h
  obtain ⟨r,e1,e2,e3,e4,e5,e6⟩:=h1.me hk
  have:=e3.clock; have:=e3.wait
  rw [e2]
  omega
theorem ydkg(hk:k < n){F:Nat}(h:yrc (F + 70) n w)(ha:P2 n k w):yrc F n (yda k 60 w)/\P2 n (k + 1) (yda k 60 w):=by
  have hs:∀ F w,Cal (F + 1) n k w->P2 n (k + 1) w->P2 n (k + 1) (ybn k w):=fun F w h ha=>by
    obtain ⟨h1,h2,h3⟩:=ygv h hk
    rcases ha with ha | ⟨a1,a2⟩
    .exact .inl (h2 ha)
    .rcases h3 with h3 | h3
     .exact .inl h3
     .exact .inr ⟨yagc hk h3 a1,yabb hk (by omega) h3 a1 a2⟩
  have hc:Cal (F + 10 + (59 + 1)) n k w:=h.to k
  rcases ha with ha | ha
  .obtain ⟨c1,c2⟩:=ylj hk hs 60 (F + 10) hc (.inl ha)
   exact ⟨c1.from hk,c2⟩
  .obtain ⟨c1,c2⟩:=yahx (P:=fun w=>Low n w/\yahs k w) hk hs (fun F w h ⟨a1,a2⟩=>by
     obtain ⟨h1,h2,h3⟩:=ygv h hk
     rcases h3 with h3 | h3
     .exact .inl (.inl h3)
     .have l1:=yagc hk h3 a1
      have l2:=yabb hk (by omega) h3 a1 a2
      obtain ⟨_,_,_,b4⟩:=h3.low (a1 _ (by omega) (by omega))
      rcases b4 with ⟨b5,b6,b7,_⟩ | ⟨b5,_⟩
      .exact .inr ⟨⟨l1,l2⟩,b6,b7,by
         rcases jz ((rOf w.R ((k:Int) + 1)).yu + 1) (rOf w.R ((k:Int) + 1)).yam with hlt | hle
         .exact hlt
         .exact absurd ⟨a1 _ (by omega) (by omega),hle⟩ b5⟩
      .refine .inl (.inr ⟨l1,fun j j1 j2=>?_⟩)
       by_cases hj:j=(k:Int) + 1
       .rw [hj]; exact b5
       .exact l2 j j1 (by omega)) 59 (F + 10) hc ha (by have:=yavp hc hk; omega)
   exact ⟨c1.from hk,c2⟩
def Top(n:Nat)(M:Int)(w:yab):Prop:=∀ j:Int,1<=j->j<=(n:Int)->ykb (rOf w.R j).yg (yee (rOf w.R M).yg) (yac (rOf w.R M).yg) = true
def Q3(n:Nat)(M:Int)(w:yab):Prop:=Low n w/\yahs n w/\Top n M w
def P3(n m:Nat)(w:yab):Prop:=El n w\/∃ M:Int,(m:Int) < M/\M<=(n:Int)/\Q3 n M w
theorem yadr(hk:k < n){M:Int}(m1:1<=M)(m2:M<=(n:Int)){w':yab}(hf:yape n ((k:Int) + 1) w w')(h:Q3 n M w):Q3 n M w':=by
  obtain ⟨h1,h2,h3⟩:=h
  refine ⟨yagc hk hf h1,yabb hk (qk _) hf h1 h2,fun j j1 j2=>?_⟩
  obtain ⟨_,a2,_⟩:=hf.low (h1 _ (by omega) (by omega))
  rw [a2 j j1 j2,a2 M m1 m2]
  exact h3 j j1 j2
theorem ysy{l:yag}{t a:Int}:ykb l t a=true↔(yee l < t\/(t=yee l/\yac l<=a)):=by
  unfold ykb
  simp
theorem ybtm(w:yab):∀ m:Nat,1<=m->∃ M:Int,1<=M/\M<=(m:Int)/\∀ j:Int,1<=j->j<=(m:Int)->ykb (rOf w.R j).yg (yee (rOf w.R M).yg) (yac (rOf w.R M).yg) = true
  | 0,h=>by omega
  | 1,_=>⟨1,by omega,by omega,fun j j1 j2=>by
   rw [show j=1 by omega]
   exact ysy.2 (.inr ⟨rfl,qh _⟩)⟩
  | m + 2,_=>by
    obtain ⟨M,m1,m2,m3⟩:=ybtm w (m + 1) (by omega)
    by_cases hn:ykb (rOf w.R ((m + 2:Nat):Int)).yg (yee (rOf w.R M).yg) (yac (rOf w.R M).yg) = true
    .refine ⟨M,m1,by omega,fun j j1 j2=>?_⟩
     by_cases hj:j=((m + 2:Nat):Int)
     .rw [hj]; exact hn
     .exact m3 j j1 (by omega)
    .refine ⟨((m + 2:Nat):Int),by omega,by omega,fun j j1 j2=>?_⟩
     by_cases hj:j=((m + 2:Nat):Int)
     .rw [hj]; exact ysy.2 (.inr ⟨rfl,qh _⟩)
     .have h1:=ysy.1 (m3 j j1 (by omega))
      have h2:¬ _:=fun h=>hn (ysy.2 h)
      exact ysy.2 (by omega)
theorem ybyv(hn:1<=n)(h:P2 n n w):P3 n 0 w:=by
  rcases h with h | ⟨h1,h2⟩
  .exact .inl h
  .obtain ⟨M,m1,m2,m3⟩:=ybtm w n hn
   exact .inr ⟨M,by omega,m2,h1,h2,m3⟩
theorem ydkh(hk:k < n){F:Nat}(h:yrc (F + 70) n w)(ha:P3 n k w):yrc F n (yda k 60 w)/\P3 n (k + 1) (yda k 60 w):=by
  have hc:Cal (F + 10 + 60) n k w:=h.to k
  have hel:∀ F w,Cal (F + 1) n k w->El n w->El n (ybn k w):=fun F w h he=>(ygv h hk).2.1 he
  have hkeep:∀ M:Int,1<=M->M<=(n:Int)->∀ F w,Cal (F + 1) n k w->(El n w\/Q3 n M w)->(El n (ybn k w)\/Q3 n M (ybn k w)):=fun M m1 m2 F w h ha=>by
    obtain ⟨h1,h2,h3⟩:=ygv h hk
    rcases ha with ha | ha
    .exact .inl (h2 ha)
    .rcases h3 with h3 | h3
     .exact .inl h3
     .exact .inr (yadr hk m1 m2 h3 ha)
  rcases ha with ha | ⟨M,m1,m2,ha⟩
  .obtain ⟨c1,c2⟩:=ylj hk hel 60 (F + 10) hc ha
   exact ⟨c1.from hk,.inl c2⟩
  by_cases hM:M=(k:Int) + 1
  .
   subst hM
   have hQ1:∀ F w,Cal (F + 1) n k w->(El n w\/(Q3 n ((k:Int) + 1) w/\∀ j∈ybb n ((k:Int) + 1),(rOf w.R j).yc<=(rOf w.R ((k:Int) + 1)).yc))->(El n (ybn k w)\/(Q3 n ((k:Int) + 1) (ybn k w)/\∀ j∈ybb n ((k:Int) + 1),(rOf (ybn k w).R j).yc<=(rOf (ybn k w).R ((k:Int) + 1)).yc)):=fun F w h ha=>by
     obtain ⟨h1,h2,h3⟩:=ygv h hk
     rcases ha with ha | ⟨ha,hb⟩
     .exact .inl (h2 ha)
     .rcases h3 with h3 | h3
      .exact .inl h3
      .refine .inr ⟨yadr hk (by omega) (by omega) h3 ha,?_⟩
       obtain ⟨_,_,_,b4⟩:=h3.low (ha.1 _ (by omega) (by omega))
       rcases b4 with ⟨_,_,_,_,b5⟩ | ⟨_,b5,_⟩
       .intro j hj
        rw [b5 j (ycl.1 hj).1,b5 _ (by omega)]
        exact hb j hj
       .exact b5
   have notask:∀ {w:yab},Low n w->¬ ynf (rOf w.R ((k:Int) + 1))->(rOf w.R ((k:Int) + 1)).yu + 1 < (rOf w.R ((k:Int) + 1)).yam:=fun {w} hl hna=>by
     rcases jz ((rOf w.R ((k:Int) + 1)).yu + 1) (rOf w.R ((k:Int) + 1)).yam with hlt | hle
     .exact hlt
     .exact absurd ⟨hl _ (by omega) (by omega),hle⟩ hna
   have hc1:Cal (F + 10 + 30 + (29 + 1)) n k w:=hc
   obtain ⟨c1,c2⟩:=yahx (P:=Q3 n ((k:Int) + 1)) hk hQ1 (fun F w h ha=>by
     obtain ⟨h1,h2,h3⟩:=ygv h hk
     rcases h3 with h3 | h3
     .exact .inl (.inl h3)
     .have hq:=yadr hk (M:=(k:Int) + 1) (by omega) (by omega) h3 ha
      obtain ⟨_,_,_,b4⟩:=h3.low (ha.1 _ (by omega) (by omega))
      rcases b4 with ⟨b5,b6,b7,_⟩ | ⟨_,b5,_⟩
      .exact .inr ⟨hq,b6,b7,notask ha.1 b5⟩
      .exact .inl (.inr ⟨hq,b5⟩)) 29 (F + 10 + 30) hc1 ha (by have:=yavp hc1 hk; omega)
   have e:yda k 60 w=yda k 30 (yda k 30 w):=yaaq k 30 30 w
   rw [e]
   rcases c2 with c2 | c2
   .obtain ⟨d1,d2⟩:=ylj hk hel 30 (F + 10) c1 c2
    exact ⟨d1.from hk,.inl d2⟩
   .have hc2:Cal (F + 10 + (29 + 1)) n k (yda k (29 + 1) w):=c1
    obtain ⟨d1,d2⟩:=yahx (P:=fun w=>Q3 n ((k:Int) + 1) w/\∀ j∈ybb n ((k:Int) + 1),(rOf w.R j).yc<=(rOf w.R ((k:Int) + 1)).yc) (Q:=El n) hk hel (fun F w h ⟨ha,hb⟩=>by
      obtain ⟨h1,h2,h3⟩:=ygv h hk
      rcases h3 with h3 | h3
      .exact .inl h3
      .have hq:=yadr hk (M:=(k:Int) + 1) (by omega) (by omega) h3 ha
       obtain ⟨_,_,_,b4⟩:=h3.low (ha.1 _ (by omega) (by omega))
       rcases b4 with ⟨b5,b6,b7,_,b8⟩ | ⟨_,_,j,hj,b5⟩
       .exact .inr ⟨⟨hq,fun j hj=>by rw [b8 j (ycl.1 hj).1,b8 _ (by omega)]; exact hb j hj⟩,b6,b7,notask ha.1 b5⟩
       .exfalso
        obtain ⟨j1,j2,j3⟩:=ycl.1 hj
        obtain ⟨a1,a2,a3⟩:=ha
        rw [show (k:Int) + 1 - 1=(k:Int) by omega,ybyt (hb j hj) (a1 j j1 j2) (a2 j j1 j2) (a3 j j1 j2)] at b5
        cases b5) 29 (F + 10) hc2 c2 (by have:=yavp hc2 hk; omega)
    exact ⟨d1.from hk,.inl d2⟩
  .obtain ⟨c1,c2⟩:=ylj hk (hkeep M (by omega) m2) 60 (F + 10) hc (.inr ha)
   refine ⟨c1.from hk,?_⟩
   rcases c2 with c2 | c2
   .exact .inl c2
   .exact .inr ⟨M,by omega,m2,c2⟩
theorem ydfl(h:P3 n n w):El n w:=by
  rcases h with h | ⟨M,m1,m2,_⟩
  .exact h
  .omega
end
end Go.Proofs.Ytgoachcogmlhcaa.R
set_option maxRecDepth 100000
set_option linter.unusedVariables false
set_option linter.unusedSimpArgs false
noncomputable section
namespace Go.Proofs.Ytgoachcogmlhcaa.R
open Go
section
variable {B b W:Int} {n k:Nat} {g:Gh} {w:yab} {r s q p rk:ye} {x y:yj} {R:List ye} {K:Int}
def Z0(n:Nat)(K:Int)(w:yab):Prop:=(rOf w.R K).ym=3/\∀ j∈ybb n K,(rOf w.R j).yc<=(rOf w.R K).yc
def Z1(n:Nat)(K:Int)(w:yab):Prop:=Z0 n K w/\∀ j∈ybb n K,(rOf w.R j).yc=(rOf w.R K).yc/\(rOf w.R j).yak=K/\yar (rOf w.R K) j=yac (rOf w.R K).yg
def Z2(n:Nat)(K:Int)(w:yab):Prop:=Z1 n K w/\∀ j∈ybb n K,yac (rOf w.R K).yg<=(rOf w.R j).yl
theorem yaev(h:Inw B b n w)(k1:1<=K)(k2:K<=(n:Int))(hz:Z1 n K w):yac (rOf w.R K).yg<=(rOf w.R K).yl:=by
  obtain ⟨r,e1,e2,e3,e4,e5⟩:=h.at_ k1 k2
  obtain ⟨⟨h3,_⟩,hm⟩:=hz
  rw [e2] at h3 hm ⊢
  have hc:=h.2 _ _ e1
  have hlen:=e3.ma h3
  have all:∀ v∈r.yaa,v=yac r.yg:=fun v hv=>by
    obtain ⟨i,hi,e⟩:=List.mem_iff_getElem.1 hv
    have hg:yar r ((i:Int) + 1) = v:=by
      unfold yar
      rw [show ((i:Int) + 1 - 1).toNat=i by omega,qj hi,e]
      rfl
    by_cases hk:(i:Int) + 1=K
    .have:=hc.own h3
     rw [e4,← hk,hg] at this
     exact this
    .have:=(hm ((i:Int) + 1) (ycl.2 ⟨by omega,by omega,hk⟩)).2.2
     rw [hg] at this
     exact this
  have hne:0 < r.yaa.length:=by omega
  have hcnt:yqe r.yaa (yac r.yg) = r.yaa.length:=yyb fun v hv=>qg (by rw [all v hv]; exact qh _)
  refine hc.com h3 (yafa ⟨?_,by rw [hcnt]; omega,fun v hv _=>by rw [all v hv]; exact qh _⟩)
  have:=all _ (jd hne)
  rw [← this]
  exact jd hne
theorem yavv{F:Nat}(h:Cal (F + 1) n k w)(hk:k < n)(hz:Z0 n ((k:Int) + 1) w):Z0 n ((k:Int) + 1) (ybn k w)/\(Z1 n ((k:Int) + 1) w->Z1 n ((k:Int) + 1) (ybn k w))/\(Z2 n ((k:Int) + 1) w->Z2 n ((k:Int) + 1) (ybn k w)) /\
    (((rOf w.R ((k:Int) + 1)).yu=0/\(rOf (ybn k w).R ((k:Int) + 1)).yu=1)\/(Z1 n ((k:Int) + 1) (ybn k w)/\(Z1 n ((k:Int) + 1) w->Z2 n ((k:Int) + 1) (ybn k w)))):=by
  obtain ⟨B,b,h1,h2,h3,h4,h5⟩:=h
  obtain ⟨b',b1,b2,b3,b4⟩:=yzk h1 hk (qh _)
  obtain ⟨r',f1,f2,f3,f4,f5,f6⟩:=b3.me hk
  have hcl':=f3.clock
  obtain ⟨r,e1,e2,e3,e4,e5,e6⟩:=h1.me hk
  have hcl:=e3.clock
  rw [f2,e2] at b4
  rw [e2] at h4
  have hr3:r.ym=3:=by have:=hz.1; rwa [e2] at this
  have key:∀ cm:Int,(cm<=0\/(Z1 n ((k:Int) + 1) w/\cm<=yac r.yg))->((r.yu=0/\∀ id,1<=id->rOf (ybn k w).R id=if id=(k:Int) + 1 then { r with yu:=r.yu + 1 } else rOf w.R id) \/
   (Z1 n ((k:Int) + 1) (ybn k w)/\(rOf (ybn k w).R ((k:Int) + 1)).yg=r.yg/\∀ j∈ybb n ((k:Int) + 1),cm<=(rOf (ybn k w).R j).yl)):=fun cm hcm=>by
    obtain ⟨c1,c2⟩:=yank (cm:=cm) h1 h2 (by omega) hk e2 b2 (by omega) (by
      rcases hcm with hcm | ⟨hz1,hcm⟩
      .exact .inl hcm
      .have hl:=yaev h1 (by omega) (by omega) hz1
       rw [e2] at hl
       exact .inr ⟨hr3,by omega,hcm,fun j hj=>by have:=(hz1.2 j hj).2.2; rwa [e2] at this⟩)
    rcases c2 with ⟨d1,d2,d3⟩ | ⟨q0,f',d1,d2⟩ | ⟨d1,d2⟩ | ⟨d1,d2⟩
    .exact .inl ⟨d2 hr3,d3⟩
    .obtain ⟨dt,dl⟩:=d2 hr3
     have hT:=d1.term
     have hL:=d1.log
     refine .inr ⟨⟨⟨d1.role,fun j hj=>?_⟩,fun j hj=>?_⟩,by rw [hL,dl],fun j hj=>?_⟩
     .have:=(d1.fin j hj wz).1
      omega
     .obtain ⟨a1,a2,a3⟩:=d1.fin j hj wz
      exact ⟨by omega,a2,by rw [a3,hL]⟩
     .rcases d1.cmt j hj with c | ⟨c,_⟩
      .exact c
      .exact absurd c wz
    .exact absurd hr3 d1.1
    .obtain ⟨j0,hj0,hlt⟩:=d2.ex
     have:=hz.2 j0 hj0
     rw [e2] at this
     omega
  obtain ⟨cm,hcm,hcm2⟩:∃ cm:Int,(cm<=0\/(Z1 n ((k:Int) + 1) w/\cm<=yac r.yg))/\(Z1 n ((k:Int) + 1) w->cm=yac r.yg):=by
    by_cases hz1:Z1 n ((k:Int) + 1) w
    .exact ⟨yac r.yg,.inr ⟨hz1,qh _⟩,fun _=>rfl⟩
    .exact ⟨0,.inl (qh _),fun h=>absurd h hz1⟩
  rcases key cm hcm with ⟨d1,d3⟩ | ⟨d1,d2,d4⟩
  .have hK:rOf (ybn k w).R ((k:Int) + 1) = { r with yu:=r.yu + 1 }:=by rw [d3 _ (by omega),qe rfl]
   have hO:∀ j∈ybb n ((k:Int) + 1),rOf (ybn k w).R j=rOf w.R j:=fun j hj=>by
     obtain ⟨j1,j2,j3⟩:=ycl.1 hj
     rw [d3 j j1,qc j3]
   have z0:Z0 n ((k:Int) + 1) (ybn k w):=by
     refine ⟨by rw [hK]; exact hr3,fun j hj=>?_⟩
     rw [hO j hj,hK]
     have:=hz.2 j hj
     rw [e2] at this
     exact this
   have z1:Z1 n ((k:Int) + 1) w->Z1 n ((k:Int) + 1) (ybn k w):=fun hz1=>⟨z0,fun j hj=>by
     have:=hz1.2 j hj
     rw [e2] at this
     rw [hO j hj,hK]
     exact this⟩
   refine ⟨z0,z1,fun hz2=>⟨z1 hz2.1,fun j hj=>?_⟩,.inl ⟨by rw [e2]; exact d1,by rw [hK]; show r.yu + 1=1; omega⟩⟩
   have:=hz2.2 j hj
   rw [e2] at this
   rw [hO j hj,hK]
   exact this
  .have z2:Z1 n ((k:Int) + 1) w->Z2 n ((k:Int) + 1) (ybn k w):=fun hz1=>⟨d1,fun j hj=>by
     rw [d2,← hcm2 hz1]
     exact d4 j hj⟩
   exact ⟨d1.1,fun _=>d1,fun hz2=>z2 hz2.1,.inr ⟨d1,z2⟩⟩
theorem ydlp(hk:k < n){F t:Nat}(ht:4<=t)(h:Cal (F + t) n k w)(hz:Z0 n ((k:Int) + 1) w):Cal F n k (yda k t w)/\Z2 n ((k:Int) + 1) (yda k t w):=by
  obtain ⟨t,rfl⟩:∃ t',t=t' + 4:=⟨t - 4,by omega⟩
  have two:∀ {F:Nat} {w:yab},Cal (F + 1 + 1) n k w->Z0 n ((k:Int) + 1) w->Cal F n k (ybn k (ybn k w))/\Z1 n ((k:Int) + 1) (ybn k (ybn k w))/\(Z1 n ((k:Int) + 1) w->Z2 n ((k:Int) + 1) (ybn k (ybn k w))):=fun {F w} h hz=>by
    have c1:=(ygv h hk).1
    have c2:=(ygv c1 hk).1
    obtain ⟨a1,a2,a3,a4⟩:=yavv h hk hz
    obtain ⟨b1,b2,b3,b4⟩:=yavv c1 hk a1
    refine ⟨c2,?_,fun hz1=>?_⟩
    .rcases a4 with ⟨_,a4⟩ | ⟨a4,_⟩
     .rcases b4 with ⟨b4,_⟩ | ⟨b4,_⟩
      .omega
      .exact b4
     .exact b2 a4
    .rcases a4 with ⟨_,a4⟩ | ⟨a4,a5⟩
     .rcases b4 with ⟨b4,_⟩ | ⟨b4,b5⟩
      .omega
      .exact b5 (a2 hz1)
     .exact b3 (a5 hz1)
  have h:Cal (F + t + 1 + 1 + 1 + 1) n k w:=h
  obtain ⟨c1,c2,_⟩:=two h hz
  obtain ⟨d1,_,d2⟩:=two c1 c2.1
  exact ylj hk (fun F w h hz=>(yavv h hk hz.1.1).2.2.1 hz) t F d1 (d2 c2)
theorem ycmn(h:Inw B b n w)(k1:1<=K)(k2:K<=(n:Int))(hz:Z2 n K w){j:Int}(j1:1<=j)(j2:j<=(n:Int)) :
    (rOf w.R K).yl=yac (rOf w.R K).yg/\(rOf w.R j).yc=(rOf w.R K).yc/\(rOf w.R j).yak=(rOf w.R K).Id/\(rOf w.R j).yl=(rOf w.R K).yl/\yac (rOf w.R j).yg=(rOf w.R K).yl:=by
  have hle:=yaev h k1 k2 hz.1
  obtain ⟨a,a1,a2,a3,a4,a5⟩:=h.at_ k1 k2
  obtain ⟨⟨⟨h3,_⟩,hm⟩,hcm⟩:=hz
  rw [a2] at h3 hm hcm hle ⊢
  obtain ⟨⟨g,hg⟩,hc⟩:=h
  have ma:=hg.gh.mem _ _ a1
  have la:=ma.lead h3
  have laf:=ma.log.last
  have hwa:=ma.wit.len
  have hac:=a3.commit
  have hca:a.yl=yac a.yg:=by omega
  by_cases hj:j=K
  .subst hj
   rw [a2]
   exact ⟨hca,rfl,ma.who.1 h3,rfl,hca.symm⟩
  .obtain ⟨r,e1,e2,e3,e4,e5⟩:=hg.at_ j1 j2
   have mem:=ycl.2 ⟨j1,j2,hj⟩
   obtain ⟨m1,m2,m3⟩:=hm j mem
   have m4:=hcm j mem
   rw [e2] at m1 m2 m4 ⊢
   have mr:=hg.gh.mem _ _ e1
   have lrf:=mr.log.last
   have hwr:=mr.wit.len
   have hrc:=e3.commit
   have hi:=hg.gh.inv
   have hA:(g.G a.yc).length<=g.A j a.yc:=by
     unfold yar at m3
     cases hv:a.yaa[(j - 1).toNat]? with
     | none=>
       exfalso
       have hml:=a3.ma h3
       rw [kg] at hv
       omega
     | some v=>
       rw [hv] at m3
       have:=la.m _ v hv
       rw [show (((j - 1).toNat:Nat):Int) + 1=j by omega] at this
       have m3:v=yac a.yg:=m3
       rw [laf,la.f] at m3
       omega
   have hA2:=hi.aG j a.yc
   have hT:g.T j=a.yc:=by
     have:=mr.T
     rw [e4] at this
     omega
   obtain ⟨q1,q2⟩:=hi.aF j
   rw [hT] at q1 q2
   have hFl:(g.F r.Id).length=(g.G a.yc).length:=by
     rw [e4]
     rcases qz (g.G a.yc).length (g.F j).length with hlt | hge
     .exfalso
      have htm:=(hc _ _ a1).term h3
      obtain ⟨_,t2,t3⟩:=ma.log.term htm
      rw [laf,km,la.f] at t3
      have ht1:=la.t
      have hL1:1<=(g.G a.yc).length:=by
        rcases jf (g.G a.yc).length with hz | hp
        .rw [hz,yagz] at t3
         omega
        .exact hp
      have hAl:g.A j a.yc=(g.G a.yc).length:=by omega
      rw [hAl] at q1
      have hs:=yzr (Pre.sorted hi (hi.pF j)) (i:=(g.G a.yc).length) (j:=(g.F j).length) hL1 (by omega) (qk _)
      rw [yjq (qk _) q1,← t3] at hs
      obtain ⟨e,f1,f2⟩:=yadx (f:=g.F j) (i:=(g.F j).length) (by omega) (qk _)
      have ht:=hi.tF j e f1
      rw [hT,f2] at ht
      have hp:=(hi.pF j (g.F j).length (by omega) (qk _)).1
      rw [show tAt (g.F j) (g.F j).length=a.yc by omega] at hp
      omega
     .omega
   rw [hFl] at lrf hwr
   rw [la.f] at laf
   exact ⟨hca,m1,by omega,by omega,by omega⟩
end
end Go.Proofs.Ytgoachcogmlhcaa.R
set_option maxRecDepth 100000
set_option linter.unusedVariables false
set_option linter.unusedSimpArgs false
noncomputable section
namespace Go.Proofs.Ytgoachcogmlhcaa.R
open Go
section
variable {l:yag} {f:yfc} {B:Int}
theorem ygt.get(h:ygt l f){d:Nat}(h1:l.yn.toNat<=d):l.yi[d - l.yn.toNat]? = f[d]?:=by
  rw [h.e,qo,show l.yn.toNat + (d - l.yn.toNat) = d by omega]
theorem yvd(h:OkG B l)(hB:B<=1000000):zew l=some (yac l):=by
  have:=h.b; have:=h.last
  unfold zew yac
  rw [ybs (by omega)]
theorem yaro(ho:OkG B l)(hB:B<=1000000)(h:ygt l f){d:Nat}{e:yk}(h1:l.yn < (d:Int) + 1)(h2:f[d]? = some e):ziy l ((d:Int) + 1) = some (e,true):=by
  have hd:=yase h2
  have hb:=h.b0
  have hl:=h.last
  have ho1:=ho.last
  have e1:yac l=l.yn + (l.yi.length:Int):=rfl
  unfold ziy
  rw [qf (by omega),qc (by simp),yvd ho hB,yx,qf (by omega)]
  unfold zik
  rw [qc (by simp),ybs (n:=(d:Int) + 1 - l.yn) (by omega),ybs (by omega),show (d:Int) + 1 - l.yn - 1=((d - l.yn.toNat:Nat):Int) by omega,yku,h.get (by omega),h2,yx]
theorem ybsn(e:yk):(!(eqS (strI e.yck) (strI e.yck))) = false:=by rw [show eqS (strI e.yck) (strI e.yck) = true by simp [eqS]]; rfl
end
end Go.Proofs.Ytgoachcogmlhcaa.R
set_option maxRecDepth 100000
set_option linter.unusedVariables false
set_option linter.unusedSimpArgs false
noncomputable section
namespace Go.Proofs.Ytgoachcogmlhcaa.R
open Go
section
variable {l a b:yag} {f f':yfc} {B:Int} {n:Nat} {g:Gh}
theorem yaqu(hoa:OkG B a)(hob:OkG B b)(hB:B<=1000000)(hpa:Pre g.G f)(hpb:Pre g.G f')(ha:ygt a f)(hb:ygt b f') :
    ∀ (d fu:Nat) (met:Bool),d<=f.length->d<=f'.length->d < fu->(met=true->f.take d=f'.take d)->zcm a b fu met (d:Int) = some true:=by
  have hal:=ha.last; have hbl:=hb.last
  have e1:yac a=a.yn + (a.yi.length:Int):=rfl
  have hla:=hoa.last; have hlb:=hob.last; have hba:=hoa.b; have hbb:=hob.b
  intro d
  induction d with
  | zero=>
    intro fu met h1 h2 h3 h4
    obtain ⟨fu,rfl⟩:∃ f',fu=f' + 1:=⟨fu - 1,by omega⟩
    rw [zcm,zgs,qf (by omega),qc (by simp)]
    unfold zfd
    rw [qc (by simp)]
  | succ d ih=>
    intro fu met h1 h2 h3 h4
    obtain ⟨fu,rfl⟩:∃ f',fu=f' + 1:=⟨fu - 1,by omega⟩
    rw [zcm,zgs]
    by_cases c1:a.yn < ((d + 1:Nat):Int)
    .rw [qg c1,qe rfl]
     unfold zfd
     by_cases c2:b.yn < ((d + 1:Nat):Int)
     .have hx:f[d]? = some (f[d]'(by omega)):=qj (by omega)
      have hy:f'[d]? = some (f'[d]'(by omega)):=qj (by omega)
      have w1:IntKind.i64.wrap (((d + 1:Nat):Int) - 1) = (d:Int):=by rw [ybs (by omega)]; omega
      have go:∀ met',(met' = true->f.take (d + 1) = f'.take (d + 1))->zgk (zcm a b fu) ((d + 1:Nat):Int) (f[d]'(by omega),true) (f'[d]'(by omega),true) met' = some true:=by
        intro met' hm
        unfold zgk zgl
        cases met' with
        | false=>
          rw [qc (by simp),qc (by simp),w1]
          exact ih fu false (by omega) (by omega) (by omega) (by simp)
        | true=>
          have ht:=hm rfl
          have e:f[d]'(by omega) = f'[d]'(by omega):=by
            have:(f.take (d + 1))[d]? = (f'.take (d + 1))[d]?:=by rw [ht]
            rw [qn,qn,qe (by omega),qe (by omega),hx,hy] at this
            exact qd this
          rw [qe rfl,e,qf (by simp),qc (by simp),ybsn,qc (by simp),w1]
          exact ih fu true (by omega) (by omega) (by omega) fun _=>ypw (by omega) ht
      rw [qg c2,qe rfl,show ((d + 1:Nat):Int) = (d:Int) + 1 by omega,yaro hoa hB ha (by omega) hx,yx,yaro hob hB hb (by omega) hy,yx,qe rfl]
      unfold zij
      rw [qc (by simp),show (d:Int) + 1=((d + 1:Nat):Int) by omega]
      cases met with
      | true=>rw [qe rfl]; exact go true fun _=>h4 rfl
      | false=>
        rw [qc (by simp)]
        refine go _ fun hm=>?_
        have hm:=ki hm
        exact Pre.meet hpa hpb (by omega) (by omega) (by omega) (by rw [yakv hx,yakv hy]; exact hm)
     .rw [qf c2,qc (by simp)]
    .rw [qf c1,qc (by simp)]
     unfold zfd
     rw [qc (by simp)]
theorem ybty(hoa:OkG B a)(hob:OkG B b)(hB:B<=900000)(hpa:Pre g.G f)(hpb:Pre g.G f')(ha:ygt a f)(hb:ygt b f'):zix a b=some true:=by
  have hal:=ha.last; have hbl:=hb.last
  have e1:yac a=a.yn + (a.yi.length:Int):=rfl
  have e2:yac b=b.yn + (b.yi.length:Int):=rfl
  have hla:=hoa.last; have hlb:=hob.last; have hba:=hoa.b; have hbb:=hob.b
  unfold zix zii
  rw [yvd hoa (by omega),yx,yvd hob (by omega),yx,hal,hbl]
  by_cases hlt:(f'.length:Int) < (f.length:Int)
  .rw [qg hlt,qe rfl]
   exact yaqu hoa hob (by omega) hpa hpb ha hb _ _ _ (by omega) (by omega) (by omega) (by simp)
  .rw [qf hlt,qc (by simp)]
   exact yaqu hoa hob (by omega) hpa hpb ha hb _ _ _ (by omega) (by omega) (by omega) (by simp)
end
end Go.Proofs.Ytgoachcogmlhcaa.R
set_option maxRecDepth 100000
set_option linter.unusedVariables false
set_option linter.unusedSimpArgs false
noncomputable section
namespace Go.Proofs.Ytgoachcogmlhcaa.R
open Go
section
variable {B b W:Int} {n k:Nat} {g:Gh} {w:yab} {r s q p rk:ye} {x y:yj} {R:List ye} {K:Int}
theorem yakr{a:ye}(hl:w.R.length<=100)(hf:∀ (j:Nat) (r:ye),w.R[j]? = some r->r.yc=a.yc/\r.yak=a.Id/\r.yl=a.yl/\zew r.yg=some a.yl/\zix a.yg r.yg=some true) :
    ∀ (m k f:Nat),w.R.length - k=m->k<=w.R.length->m < f->zbh w a f (k:Int) = some true
  | 0,k,f,hm,hk,hf'=>by
    obtain ⟨f,rfl⟩:∃ f',f=f' + 1:=⟨f - 1,by omega⟩
    rw [zbh,zdn,qf (by omega),qc qw]
    rfl
  | m + 1,k,f,hm,hk,hf'=>by
    obtain ⟨f,rfl⟩:∃ f',f=f' + 1:=⟨f - 1,by omega⟩
    have hr:w.R[k]? = some (w.R[k]'(by omega)):=qj (by omega)
    obtain ⟨a1,a2,a3,a4,a5⟩:=hf k _ hr
    rw [zbh,zdn,qg (by omega),qe rfl,yku,hr,yx,qf (jq.2 a1),qc qw,qf (jq.2 a2),qc qw,qf (jq.2 a3),qc qw,a4,yx,qf (jq.2 rfl),qc qw,a5,yx]
    unfold zbf
    rw [qc (by simp),ygy (by omega)]
    exact yakr hl hf m (k + 1) f (by omega) (by omega) (by omega)
theorem ybij(hc:yrc 130 n w){top:Nat}(ht:top < n)(hz:Z0 n ((top:Int) + 1) w):zes w.R w.Net (top:Int) = some true:=by
  obtain ⟨B,b,h1,h2,h3,h4,h5⟩:=hc
  have e:yab.mk w.R w.Net=w:=rfl
  have ha:=yaqv (w:=w) (k:=top) (times:=120) (n:=n) (B:=B) ht (by omega) (by omega) h1.okB
  have ha:zhe w (top:Int) 120=some (yda top 120 w):=ha
  obtain ⟨c1,c2⟩:=ydlp ht (F:=10) (t:=120) (by omega) ((yrc.to ⟨B,b,h1,h2,h3,h4,h5⟩ top:Cal (10 + 120) n top w)) hz
  obtain ⟨B',b',i1,i2,i3,i4,i5⟩:=c1
  obtain ⟨a,f1,f2,f3,f4,f5,f6⟩:=i1.me ht
  have hz3:=c2.1.1.1
  have hn:=i1.okB.w.n1
  have hwl:=i1.okB.w.len
  obtain ⟨⟨g,hg⟩,hcw⟩:=i1
  have hall:=fun {j:Int} (j1:1<=j) (j2:j<=(n:Int))=>ycmn ⟨⟨g,hg⟩,hcw⟩ (K:=(top:Int) + 1) (by omega) (by omega) c2 j1 j2
  rw [f2] at hz3
  have hown:=(hall (j:=(top:Int) + 1) (by omega) (by omega)).1
  rw [f2] at hown
  unfold zes
  rw [e,ha,yx,yku,f1,yx,qf (jq.2 hz3),qc qw,yvd f3.log (by omega),yx]
  unfold zet
  rw [qf (jq.2 hown),qc qw]
  refine yakr (by omega) (fun j r hr=>?_) _ 0 _ rfl (jb _) (by omega)
  have hj:j < n:=by have:=yalv hr; omega
  obtain ⟨r',g1,g2,g3,g4,g5⟩:=hg.at_ (id:=(j:Int) + 1) (by omega) (by omega)
  rw [show ((j:Int) + 1 - 1).toNat=j by omega,hr] at g1
  obtain rfl:=qd g1
  obtain ⟨_,d1,d2,d3,d4⟩:=hall (j:=(j:Int) + 1) (by omega) (by omega)
  rw [g2,f2] at d1 d2 d3 d4
  refine ⟨d1,d2,d3,?_,?_⟩
  .rw [yvd g3.log (by omega),d4]
  .exact ybty f3.log g3.log (by omega) (hg.gh.inv.pF _) (hg.gh.inv.pF _) (hg.gh.mem _ _ f1).log (hg.gh.mem _ _ hr).log
theorem yakq(hc:yrc 130 n w)(he:El n w)(hlen:w.R.length=n)(hn:n<=5):∀ (m k f top:Nat),n - k=m->k<=n->m < f->top < n->(∀ j:Nat,j < k->(rOf w.R ((j:Int) + 1)).ym=3->(rOf w.R ((top:Int) + 1)).ym=3/\(rOf w.R ((j:Int) + 1)).yc<=(rOf w.R ((top:Int) + 1)).yc) ->
    zal w.R w.Net f (top:Int) (k:Int) = some true
  | 0,k,f,top,hm,hk,hf,ht,hi=>by
    obtain ⟨f,rfl⟩:∃ f',f=f' + 1:=⟨f - 1,by omega⟩
    rw [zal,zdm,qf (by omega),qc qw]
    obtain ⟨i,i1,i2,i3,i4⟩:=he
    have hii:(((i - 1).toNat:Nat):Int) + 1=i:=by omega
    obtain ⟨h1,h2⟩:=hi (i - 1).toNat (by omega) (by rw [hii]; exact i3)
    rw [hii] at h2
    refine ybij hc ht ⟨h1,fun j hj=>?_⟩
    obtain ⟨j1,j2,j3⟩:=ycl.1 hj
    have:=i4 j j1 j2
    omega
  | m + 1,k,f,top,hm,hk,hf,ht,hi=>by
    obtain ⟨f,rfl⟩:∃ f',f=f' + 1:=⟨f - 1,by omega⟩
    have get:∀ j:Nat,j < n->w.R[j]? = some (rOf w.R ((j:Int) + 1)):=fun j hj=>by
      have e:=qj (show j < w.R.length by omega)
      rw [e,yamy e]
    rw [zal,zdm,qg (by omega),qe rfl,yku,get k (by omega),yx]
    have go:∀ top':Nat,top' < n->(∀ j:Nat,j < k + 1->(rOf w.R ((j:Int) + 1)).ym=3->(rOf w.R ((top':Int) + 1)).ym=3/\(rOf w.R ((j:Int) + 1)).yc<=(rOf w.R ((top':Int) + 1)).yc)->zcs (zal w.R w.Net f) (k:Int) (top':Int) = some true:=fun top' ht' hi'=>by
      unfold zcs
      rw [ygy (by omega)]
      exact yakq hc he hlen hn m (k + 1) f top' (by omega) (by omega) (by omega) ht' hi'
    have up:(∀ j:Nat,j < k->(rOf w.R ((j:Int) + 1)).ym=3->(rOf w.R ((k:Int) + 1)).ym=3/\(rOf w.R ((j:Int) + 1)).yc<=(rOf w.R ((k:Int) + 1)).yc)->(rOf w.R ((k:Int) + 1)).ym=3->∀ j:Nat,j < k + 1->(rOf w.R ((j:Int) + 1)).ym=3->(rOf w.R ((k:Int) + 1)).ym=3/\(rOf w.R ((j:Int) + 1)).yc<=(rOf w.R ((k:Int) + 1)).yc:=fun h hr j hj h3=>by
      by_cases he:j=k
      .rw [he]; exact ⟨hr,qh _⟩
      .exact h j (by omega) h3
    by_cases h3:(rOf w.R ((k:Int) + 1)).ym=3
    .rw [qg h3,qe rfl,yku,get top ht,yx]
     by_cases h4:(rOf w.R ((top:Int) + 1)).ym=3
     .rw [qf (jq.2 h4),qc qw]
      unfold zbe
      by_cases h5:(rOf w.R ((top:Int) + 1)).yc < (rOf w.R ((k:Int) + 1)).yc
      .rw [qg h5,qe rfl]
       exact go k (by omega) (up (fun j hj hr=>⟨h3,by have:=(hi j hj hr).2; omega⟩) h3)
      .rw [qf h5,qc qw]
       refine go top ht fun j hj hr=>?_
       by_cases he:j=k
       .rw [he]; exact ⟨h4,by omega⟩
       .exact hi j (by omega) hr
     .rw [qg h4,qe rfl]
      unfold zbe
      rw [qe rfl]
      exact go k (by omega) (up (fun j hj hr=>absurd (hi j hj hr).1 h4) h3)
    .rw [qf h3,qc qw]
     unfold zbe
     rw [qc qw]
     refine go top ht fun j hj hr=>?_
     by_cases he:j=k
     .rw [he] at hr; exact absurd hr h3
     .exact hi j (by omega) hr
def StR(n i:Nat)(w:yab):Prop:=yrc (70 * (3 * n - i) + 200) n w/\(i<=n->A1 n i w)/\(n<=i->i<=2 * n->P2 n (i - n) w)/\(2 * n<=i->P3 n (i - 2 * n) w)
theorem ydhp(h:A1 n n w):P2 n 0 w:=by
  rcases h with h | h
  .exact .inl h
  .exact .inr ⟨h,fun j j1 j2=>by omega⟩
theorem StR.of1{i:Nat}(hn:1<=n)(hi:i<=n)(hc:yrc (70 * (3 * n - i) + 200) n w)(h:A1 n i w):StR n i w:=
  ⟨hc,fun _=>h,fun h1 h2=>by
    obtain rfl:i=n:=by omega
    rw [Nat.sub_self]
    exact ydhp h,fun h1=>by omega⟩
theorem ycbk(hn:1<=n){i:Nat}(hi:i < 3 * n)(h:StR n i w):StR n (i + 1) (yda (i % n) 60 w):=by
  obtain ⟨hc,h1,h2,h3⟩:=h
  have hf:70 * (3 * n - i) + 200=(70 * (3 * n - (i + 1)) + 200) + 70:=by omega
  rw [hf] at hc
  have hcal:∀ k,Cal ((70 * (3 * n - (i + 1)) + 200) + 10 + 60) n k w:=fun k=>hc.to k
  by_cases c1:i < n
  .rw [Nat.mod_eq_of_lt c1]
   obtain ⟨d1,d2⟩:=yccu c1 (t:=60) (by omega) (hcal i) (h1 (by omega))
   exact .of1 hn (by omega) d1 d2
  .by_cases c2:i < 2 * n
   .obtain ⟨d1,d2⟩:=ydkg (k:=i - n) (by omega) hc (h2 (by omega) (by omega))
    have e:i % n=i - n:=by rw [Nat.mod_eq_sub_mod (by omega),Nat.mod_eq_of_lt (by omega)]
    rw [e]
    refine ⟨d1,fun h=>by omega,fun _ _=>by rw [show i + 1 - n=i - n + 1 by omega]; exact d2,fun h=>?_⟩
    rw [show i - n + 1=n by omega] at d2
    rw [show i + 1 - 2 * n=0 by omega]
    exact ybyv hn d2
   .obtain ⟨d1,d2⟩:=ydkh (k:=i - 2 * n) (by omega) hc (h3 (by omega))
    have e:i % n=i - 2 * n:=by rw [Nat.mod_eq_sub_mod (by omega),Nat.mod_eq_sub_mod (by omega),Nat.mod_eq_of_lt (by omega)]; omega
    rw [e]
    exact ⟨d1,fun h=>by omega,fun _ h=>by omega,fun _=>by rw [show i + 1 - 2 * n=i - 2 * n + 1 by omega]; exact d2⟩
theorem yazw(hn:1<=n/\n<=5){i f:Nat}(hi:i < 3 * n)(hok:OkB B n w)(hB:B<=90000):zaa (f + 1) (i:Int) w.R w.Net=zaa f ((i + 1:Nat):Int) (yda (i % n) 60 w).R (yda (i % n) 60 w).Net:=by
  have hwl:=hok.w.len
  have e:yab.mk w.R w.Net=w:=rfl
  have hmod:i % n < n:=Nat.mod_lt _ (by omega)
  have ht:(i:Int).tmod (w.R.length:Int) = ((i % n:Nat):Int):=by
    rw [hwl,Int.tmod_eq_emod_of_nonneg (by omega)]
    rfl
  have ha:=yaqv (w:=w) (k:=i % n) (times:=60) (n:=n) (B:=B) hmod (by omega) (by omega) hok
  have ha:zhe w ((i % n:Nat):Int) 60=some (yda (i % n) 60 w):=ha
  rw [zaa,zdl,ybs (by omega),qg (by omega),qe rfl,qf (by omega),qc qw,e,ht,ha,yx,ygy (by omega)]
theorem yakp(hn:1<=n/\n<=5):∀ (m i f:Nat) {w:yab},3 * n - i=m->i<=3 * n->m < f->StR n i w->zaa f (i:Int) w.R w.Net=some true
  | 0,i,f,w,hm,hi,hf,h=>by
    obtain ⟨f,rfl⟩:∃ f',f=f' + 1:=⟨f - 1,by omega⟩
    obtain ⟨⟨B,b,h1,h2,h3,h4,h5⟩,_,_,hp⟩:=h
    have hwl:=h1.okB.w.len
    rw [zaa,zdl,ybs (by omega),qf (by omega),qc qw]
    unfold zgp
    have hp:=hp (by omega)
    rw [show i - 2 * n=n by omega] at hp
    exact yakq ⟨B,b,h1,h2,h3,by omega,by omega⟩ (ydfl hp) hwl hn.2 _ 0 _ 0 rfl (jb _) (by omega) (by omega) fun j hj=>by omega
  | m + 1,i,f,w,hm,hi,hf,h=>by
    obtain ⟨f,rfl⟩:∃ f',f=f' + 1:=⟨f - 1,by omega⟩
    obtain ⟨B,b,h1,h2,h3,h4,h5⟩:=h.1
    rw [yazw hn (by omega) h1.okB (by omega)]
    exact yakp hn m (i + 1) f (by omega) (by omega) (by omega) (ycbk hn.1 (by omega) h)
theorem yawj(hn:1<=n/\n<=5)(h:Inw B b n w)(hB:B<=20000)(hb0:0<=b)(hb:b<=250):StR n 1 (yda 0 60 (yhm w)):=by
  have hq:=yli 4000 h
  obtain ⟨t,b',t1,t2,t3,t4,t5,t6⟩:=ydim (k:=0) hq (by omega) hb0 hb (by omega) (yaez h (by omega) (by omega))
  have e:yda 0 60 (yhm w) = yda 0 (60 - t) (yda 0 t (ybp 4000 w)):=by
    rw [← yaaq,show t + (60 - t) = 60 by omega]
    rfl
  have hc:Cal (70 * (3 * n - 1) + 200 + 10 + (60 - t)) n 0 (yda 0 t (ybp 4000 w)):=⟨_,b',t4,t5,by omega,by omega,by omega⟩
  obtain ⟨d1,d2⟩:=yccu (by omega) (t:=60 - t) (by omega) hc (.inr fun j j1 j2=>by omega)
  rw [e]
  exact .of1 hn.1 hn.1 d1 d2
theorem ybii(hn:1<=n/\n<=5)(h:Inw B b n w)(hB:B<=20000)(hb0:0<=b)(hb:b<=250):zer w.R w.Net=some true:=by
  have e:yab.mk w.R w.Net=w:=rfl
  unfold zer
  rw [e,yaur (by omega) h.okB,yx]
  have h1:=yazw (w:=yhm w) hn (i:=0) (f:=999999) (by omega) (yli 4000 h).okB (by omega)
  have h1:zaa 1000000 0 (yhm w).R (yhm w).Net=_:=h1
  rw [h1,show 0 % n=0 from Nat.zero_mod n]
  exact yakp hn _ 1 _ rfl (by omega) (by omega) (yawj hn h hB hb0 hb)
theorem yako{l:List TOp}(hn:1<=n/\n<=5)(hl:l.length<=250)(hd:∀ o∈l,o.yck.length<=20):∀ (m i f:Nat) (w:yab),l.length - i=m->i<=l.length->m < f->OkW (20 + 3 * (i:Int)) n w->Inw (30 + 3 * (i:Int)) (i:Int) n w ->
    zbg l f (i:Int) w.R w.Net=some true
  | 0,i,f,w,hm,hi,hf,hw,h=>by
    obtain ⟨f,rfl⟩:∃ f',f=f' + 1:=⟨f - 1,by omega⟩
    rw [zbg,zdk,qf (by omega),qc qw]
    exact ybii hn h (by omega) (by omega) (by omega)
  | m + 1,i,f,w,hm,hi,hf,hw,h=>by
    obtain ⟨f,rfl⟩:∃ f',f=f' + 1:=⟨f - 1,by omega⟩
    have hlt:i < l.length:=by omega
    obtain ⟨w',h1,h2,h3⟩:=ydik hw (by omega) (by omega) l[i] (hd _ (jd hlt))
    obtain ⟨⟨g,hg⟩,hc⟩:=h
    have h3':OkW (20 + 3 * ((i + 1:Nat):Int)) n w':=h3.mono (by omega)
    have hok:OkB (30 + 3 * ((i + 1:Nat):Int)) n w':=(OkB.of h3' (by omega)).up (by omega)
    obtain ⟨g',hg'⟩:=ybtg hg h2 hok
    have hc':=yagy hw (by omega) hc h2
    have h1':zey ⟨w.R,w.Net⟩ l[i] = some w':=h1
    rw [zbg,zdk,qg (by omega),qe rfl,yoi hlt,yx,h1',yx,ygy (by omega)]
    exact yako hn hl hd m (i + 1) f w' (by omega) (by omega) (by omega) h3' ⟨⟨g',hg'⟩,hc'⟩
theorem ybjs(h1:1<=n)(h5:n<=5):Inw 30 0 n (yms n):=by
  refine ⟨⟨yarb,(OkB.of (yarc h1 h5) (by omega)).up (by omega),fun k r hr h3=>?_,fun k r hr=>?_,fun x hx=>absurd hx wz,fun x hx=>absurd hx wz,ybbt n⟩,ybjr n⟩
  .obtain ⟨hk,rfl⟩:=yss hr
   exact absurd (show (0:Int) = 3 from h3) (by decide)
  .obtain ⟨hk,rfl⟩:=yss hr
   show (0:Int) + 0 + (if (0:Int) = 1\/(0:Int) = 2 then 1 else 0)<=0
   rw [qc (by decide)]
   omega
theorem ans_RaftSettles{n:Int}(hn:0<=n/\n<=255)(l:List TOp):zir n l=some true:=by
  obtain ⟨b,h1,h2⟩:=ybyh l
  unfold zir
  rw [h1,yx]
  cases b with
  | false=>rfl
  | true=>
    obtain ⟨l1,l2⟩:=h2 rfl
    rw [qe rfl,yckr hn,yx,ybuo (by omega),yx]
    exact yako (by omega) l1 l2 _ 0 ((((l.length:Int)) - 0).toNat + 1) (yms ((n % 5).toNat + 1)) rfl (jb _) (by omega) (yarc (by omega) (by omega)) (ybjs (by omega) (by omega))
end
end Go.Proofs.Ytgoachcogmlhcaa.R
