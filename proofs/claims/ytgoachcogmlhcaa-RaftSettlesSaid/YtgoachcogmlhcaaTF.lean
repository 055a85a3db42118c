import Derived.Test.YtgoachcogmlhcaaMF
import Derived.IntWalk
set_option maxRecDepth 100000
set_option linter.unusedVariables false
set_option linter.unusedSimpArgs false
noncomputable section
namespace Go.Proofs.Ytgoachcogmlhcaa.R
open Go
def inR(n:Int):Prop:=-9223372036854775808<=n/\n<=9223372036854775807
theorem ycmm{n:Int}(h:inR n):IntKind.i64.wrap n=n:=IntWalk.i64_in n h
theorem ybs{n:Int}(h : -9000000000000<=n/\n<=9000000000000):IntKind.i64.wrap n=n:=ycmm (by unfold inR; omega)
theorem ygy{k:Nat}(h:k < 1000000000):IntKind.i64.wrap ((k:Int) + 1) = ((k + 1:Nat):Int):=by
  rw [ybs (by omega)]; rfl
theorem yku{α:Type}(l:List α)(k:Nat):ydd l (k:Int) = l[k]?:=by simp [ydd]
theorem yoi{α:Type}{l:List α}{k:Nat}(h:k < l.length):ydd l (k:Int) = some l[k]:=by rw [yku,qj h]
theorem ykt{α:Type}{l:List α}{i:Int}(h0:0<=i):ydd l i=l[i.toNat]?:=by simp [ydd,h0]
theorem ycs{n:Nat}(h:n<=549755813888):yeq n=true:=by
  unfold yeq yno
  simpa using h
theorem yavn{n:Int}(h0:0<=n)(h1:n < 18446744073709551616):IntKind.u64.wrap n=n:=by
  simp only [IntKind.wrap,IntKind.signed,IntKind.bits]
  simp
  omega
theorem ypv{α:Type}{l:List α}{i:Int}(h0:0<=i)(h1:i<=(l.length:Int)):ycn l i l.length=some (l.drop i.toNat):=by
  unfold ycn
  rw [qe ⟨h0,h1,qh _⟩]
  simp
theorem ysn{α:Type}{l:List α}{i:Int}(h0:0<=i)(h1:i<=(l.length:Int)):ycn l 0 i=some (l.take i.toNat):=by
  unfold ycn
  rw [qe ⟨qh _,h0,h1⟩]
  simp
structure OkE (B:Int) (e:yk):Prop where
  t:0<=e.yc/\e.yc<=B
  d:e.yck.length<=1000
structure OkG (B:Int) (l:yag):Prop where
  b:0<=l.yn
  bt:0<=l.yv/\l.yv<=B
  last:l.yn + (l.yi.length:Int)<=B
  e:∀ x∈l.yi,OkE B x
def yac(l:yag):Int:=l.yn + (l.yi.length:Int)
def ycz(l:yag)(i:Int):Option Int:=
  if i=l.yn then some l.yv else if i < l.yn\/yac l < i then none else (l.yi[(i - l.yn - 1).toNat]?).map yk.yc
def yee(l:yag):Int:=(ycz l (yac l)).getD 0
def ykb(l:yag)(term at0:Int):Bool:=decide (yee l < term) || (decide (term=yee l) && decide (yac l<=at0))
def ykf(l:yag)(at0:Int):List yk:=if at0<=l.yn\/yac l < at0 then [] else (l.yi.drop (at0 - l.yn - 1).toNat).take 8
theorem yawh{l:List yk}(hl:l.length<=100000000)(hd:∀ x∈l,x.yck.length<=1000):∀ (m k n:Nat) (out:List yk),l.length - k=m->k<=l.length->m < n->out.length<=k->zds l n (k:Int) out=some (out++l.drop k):=by
  intro m
  induction m with
  | zero=>
    intro k n out hm hk hn ho
    obtain ⟨n,rfl⟩:∃ n',n=n' + 1:=⟨n - 1,by omega⟩
    have hk':¬ ((k:Int) < (l.length:Int)):=by omega
    rw [zds,zgw,qf hk',qc (by simp),jv (by omega),jh]
  | succ m ih=>
    intro k n out hm hk hn ho
    obtain ⟨n,rfl⟩:∃ n',n=n' + 1:=⟨n - 1,by omega⟩
    have hlt:k < l.length:=by omega
    have hk':((k:Int) < (l.length:Int)):=by omega
    have:=hd _ (jd hlt)
    rw [zds,zgw,qg hk',qe rfl,yoi hlt,yx,qe (ycs (by omega)),qe (ycs (by omega)),ygy (by omega),ih (k + 1) n _ (by omega) (by omega) (by omega) (by simp; omega),List.drop_eq_getElem_cons hlt]
    simp
theorem yvv{l:List yk}(hl:l.length<=100000000)(hd:∀ x∈l,x.yck.length<=1000):zgb l=some l:=by
  have:=yawh hl hd _ 0 ((((l.length:Int)) - ((0:Int))).toNat + 1) [] rfl (jb _) (by omega) (by simp)
  unfold zgb
  simpa using this
section
variable {B:Int} {l:yag}
theorem OkG.len(h:OkG B l)(hB:B<=1000000):l.yi.length<=1000000:=by have:=h.last; have:=h.b; omega
theorem ynp(h:OkG B l)(hB:B<=1000000):zeu l=some l:=by
  have:=h.len hB
  unfold zeu
  rw [yvv (by omega) fun x hx=>(h.e x hx).d,yx]
theorem yih(h:OkG B l)(hB:B<=1000000):zaf l=some (yac l):=by
  have:=h.last; have:=h.b
  unfold zaf yac
  rw [ybs (by omega)]
theorem ybtj{i:Int}(h0:i≠l.yn)(h:i < l.yn\/yac l < i):ycz l i=none:=by
  unfold ycz
  rw [qc h0,qe h]
theorem ylg(h:OkG B l)(hB:B<=1000000){i:Int}(hi : -9000000<=i/\i<=9000000):zbn l i=some ((ycz l i).getD 0,(ycz l i).isSome):=by
  have h1:=h.last; have h2:=h.b
  unfold zbn ycz
  by_cases hb:i=l.yn
  .rw [qg hb,qe rfl,qe hb]; rfl
  .rw [qf hb,qc (by simp),qc hb]
   by_cases hlt:i < l.yn
   .rw [qg hlt,qe rfl,qe (.inl hlt)]; rfl
   .rw [qf hlt,qc (by simp),yih h hB,yx]
    by_cases hgt:yac l < i
    .rw [qg hgt,qe (.inr hgt)]; rfl
    .rw [qf hgt,qc (by omega)]
     unfold yac at hgt
     unfold zjp
     have hlt2:(i - l.yn - 1).toNat < l.yi.length:=by omega
     rw [qc (by simp),ybs (n:=i - l.yn) (by omega),ybs (by omega),ykt (by omega),qj hlt2,yx]
     rfl
theorem yazx(h:OkG B l)(hB:B<=1000000):0<=yac l/\yac l<=B:=by
  have:=h.last; have:=h.b
  unfold yac
  omega
theorem ype(h:OkG B l)(hB:B<=1000000):zek l=some (yee l):=by
  have:=yazx h hB
  unfold zek
  rw [yih h hB,yx,ylg h hB (by omega),yx]
  rfl
theorem yyo(h:OkG B l)(hB:B<=1000000)(term at0:Int):zim l term at0=some (ykb l term at0):=by
  unfold zim ykb
  rw [ype h hB,yx]
  by_cases h1:yee l < term
  .simp [h1]
  .by_cases h2:term=yee l
   .rw [qf h1,qc (by simp),qg h2,qe rfl,yih h hB,yx]
    simp
   .simp [h1,h2]
theorem yane(h:OkG B l)(hB:0<=B)(i:Int):0<=(ycz l i).getD 0/\(ycz l i).getD 0<=B:=by
  unfold ycz
  split
  .exact h.bt
  .split
   .simp; omega
   .cases hx:l.yi[(i - l.yn - 1).toNat]? with
    | none=>simp; omega
    | some e=>exact (h.e e (wa hx)).t
theorem ybqt(h:OkG B l)(hB:B<=1000000){i:Int}(hi : -9000000<=i/\i<=9000000):zji l i 8=some (ykf l i):=by
  have h1:=h.last; have h2:=h.b; have h3:=h.len hB
  unfold zji ykf
  by_cases hb:i<=l.yn
  .rw [qg hb,qe rfl,qe (.inl hb)]; rfl
  .rw [qf hb,qc (by simp),yih h hB,yx]
   by_cases hgt:yac l < i
   .rw [qg hgt,qe rfl,qe (.inr hgt)]; rfl
   .rw [qf hgt,qc (by simp),qc (by omega)]
    unfold yac at hgt
    unfold zid
    have hd:∀ x∈(l.yi.drop (i - l.yn - 1).toNat).take 8,x.yck.length<=1000:=fun x hx=>(h.e x (jg (List.mem_of_mem_take hx))).d
    rw [qc (by simp),ybs (n:=i - l.yn) (by omega),ybs (by omega),ypv (by omega) (by omega),yx]
    have hcut:ycn (l.yi.drop (i - l.yn - 1).toNat) 0 (if ((l.yi.drop (i - l.yn - 1).toNat).length:Int) < 8 then ((l.yi.drop (i - l.yn - 1).toNat).length:Int) else 8) = some ((l.yi.drop (i - l.yn - 1).toNat).take 8):=by
      split
      .rename_i hs
       rw [ysn (by omega) (by omega)]
       congr 1
       rw [wm (by omega),wm (by omega)]
      .rw [ysn (by omega) (by omega)]; rfl
    rw [hcut,yx,yvv (by simp; omega) hd,yx]
theorem yawl(h:OkG B l)(hB:B<=1000000){e:yk}(he:e.yck.length<=1000):zhf l e=some ⟨l.yn,l.yv,l.yi++[e]⟩:=by
  have h3:=h.len hB
  unfold zhf
  rw [ynp h hB,yx,qe (ycs (by omega)),qe (ycs (by omega))]
def yix(l:yag)(i:Int):yag:=⟨i,(ycz l i).getD 0,l.yi.drop (i - l.yn).toNat⟩
theorem yabl(h:OkG B l)(hB:B<=1000000){i:Int}(hi : -9000000<=i/\i<=9000000):zic l i=some (if (ycz l i).isSome then (yix l i,0) else (⟨0,0,[]⟩,2)):=by
  have h1:=h.last; have h2:=h.b; have h3:=h.len hB
  unfold zic
  rw [ylg h hB hi,yx]
  cases ht:ycz l i with
  | none=>simp
  | some t=>
    have hin:l.yn<=i/\i<=yac l:=by
      unfold ycz at ht
      split at ht
      .unfold yac; omega
      .split at ht
       .cases ht
       .omega
    unfold yac at hin
    have hd:∀ x∈l.yi.drop (i - l.yn).toNat,x.yck.length<=1000:=fun x hx=>(h.e x (jg hx)).d
    simp only [Option.isSome_some,wl]
    rw [ybs (by omega),ypv (by omega) (by omega),yx,yvv (by simp; omega) hd,yx]
    simp [yix,ht]
def ykc(l:yag)(i term:Int):yag:=if ycz l i=some term then yix l i else ⟨i,term,[]⟩
theorem ybhi(h:OkG B l)(hB:B<=1000000){i term:Int}(hi : -9000000<=i/\i<=9000000):zld l i term=some (ykc l i term):=by
  unfold zld ykc zje
  rw [ylg h hB hi,yx]
  cases ht:ycz l i with
  | none=>simp
  | some t=>
    by_cases he:t=term
    .simp [he,yabl h hB hi,ht,yx]
    .simp [he]
end
end Go.Proofs.Ytgoachcogmlhcaa.R
set_option maxRecDepth 100000
set_option linter.unusedVariables false
set_option linter.unusedSimpArgs false
noncomputable section
namespace Go.Proofs.Ytgoachcogmlhcaa.R
open Go
def yhk(ents:List yk):Nat->List yk->List yk
  | _,[]=>ents
  | k,e :: r=>match ents[k]? with
    | some x=>if x.yc=e.yc then yhk ents (k + 1) r else ents.take k++(e :: r)
    | none=>ents++(e :: r)
def ypb(l:yag)(mine:Int):Nat->Int
  | 0=>l.yn
  | k + 1=>if ycz l (l.yn + (k + 1:Nat)) = some mine then ypb l mine k else l.yn + (k + 1:Nat)
def yacx(l:yag)(at0 mine:Int):Int:=ypb l mine (at0 - 1 - l.yn).toNat
def ylm(l:yag)(at0 term:Int)(es:List yk):yag × Int × Bool:=
  match ycz l at0 with
  | none=>(l,yac l,false)
  | some mine=>if mine≠term then (l,yacx l at0 mine,false) else (⟨l.yn,l.yv,yhk l.yi (at0 - l.yn).toNat es⟩,at0 + (es.length:Int),true)
def yev(l:yag)(at0 term:Int)(es:List yk):yag × Int × Bool:=
  if at0 < l.yn then (if (es.length:Int) < l.yn - at0 then (l,l.yn,true) else ylm l l.yn l.yv (es.drop (l.yn - at0).toNat)) else ylm l at0 term es
theorem yayp(l:yag)(mine:Int):∀ k,l.yn<=ypb l mine k/\ypb l mine k<=l.yn + (k:Nat)
  | 0=>by simp [ypb]
  | k + 1=>by
    have:=yayp l mine k
    unfold ypb
    split
    .omega
    .omega
section
variable {B:Int} {l:yag}
theorem ymn{i t:Int}(h:ycz l i=some t):l.yn<=i/\i<=yac l:=by
  unfold ycz at h
  split at h
  .unfold yac; omega
  .split at h
   .cases h
   .omega
theorem yauf(h:OkG B l)(hB:B<=1000000)(x:Int):zki l x=some (l,(if x < l.yn then l.yn else x),false):=by
  unfold zki
  rw [ynp h hB,yx]
theorem yblh(h:OkG B l)(hB:B<=1000000)(mine:Int):∀ (k n:Nat),(k:Int)<=2000000->k < n->zaj l (mine,true) n (l.yn + (k:Nat)) ((ycz l (l.yn + (k:Nat))).getD 0) (ycz l (l.yn + (k:Nat))).isSome=some (l,ypb l mine k,false):=by
  have hb1:=h.last; have hb2:=h.b
  intro k
  induction k with
  | zero=>
    intro n hk hn
    obtain ⟨n,rfl⟩:∃ n',n=n' + 1:=⟨n - 1,by omega⟩
    have e0:l.yn + ((0:Nat):Int) = l.yn:=by omega
    rw [zaj,zhb,e0]
    have h1:∀ v,zbj (zaj l (mine,true) n) l l.yn v=some (l,l.yn,false)\/v=true:=by
      intro v
      cases v with
      | true=>exact .inr rfl
      | false=>
        left
        unfold zbj
        rw [qc (by simp),yauf h hB,qc (by omega)]
    have h2:zbj (zaj l (mine,true) n) l l.yn false=some (l,l.yn,false):=by
      rcases h1 false with h | h
      .exact h
      .cases h
    have hd:decide (l.yn < l.yn) = false:=qf (by omega)
    rw [hd,h2]
    simp [ypb]
  | succ k ih=>
    intro n hk hn
    obtain ⟨n,rfl⟩:∃ n',n=n' + 1:=⟨n - 1,by omega⟩
    have hbase:l.yn < l.yn + ((k + 1:Nat):Int):=by omega
    have hprev:IntKind.i64.wrap (l.yn + ((k + 1:Nat):Int) - 1) = l.yn + (k:Nat):=by rw [ybs (by omega)]; omega
    rw [zaj,zhb]
    have hno:zbj (zaj l (mine,true) n) l (l.yn + ((k + 1:Nat):Int)) false=some (l,l.yn + ((k + 1:Nat):Int),false):=by
      unfold zbj
      rw [qc (by simp),yauf h hB,qc (by omega)]
    cases ht:ycz l (l.yn + ((k + 1:Nat):Int)) with
    | none=>
      simp only [Option.isSome_none,qr,wn]
      rw [hno]
      unfold ypb
      rw [ht,qc (by simp)]
    | some t=>
      simp only [Option.isSome_some,wl]
      change (if decide (t=mine) = true then zbj (zaj l (mine,true) n) l (l.yn + ((k + 1:Nat):Int)) (decide (l.yn < l.yn + ((k + 1:Nat):Int))) else zbj (zaj l (mine,true) n) l (l.yn + ((k + 1:Nat):Int)) false) = _
      by_cases hm:t=mine
      .rw [qg hm,qe rfl,qg hbase]
       unfold zbj
       rw [qe rfl,hprev,ylg h hB (by omega),yx]
       simp only
       rw [ih n (by omega) (by omega)]
       conv=>rhs; unfold ypb
       rw [ht,hm,qe rfl]
      .rw [qf hm,qc (by simp),hno]
       unfold ypb
       rw [ht,qc (by simp [hm])]
theorem ybhl(h:OkG B l)(hB:B<=1000000){k0:Nat}{es:List yk}(hk0:(k0:Int)<=1000000)(hes:es.length<=1000)(hd:∀ x∈es,x.yck.length<=1000) :
    ∀ (m j n:Nat),es.length - j=m->j<=es.length->m < n->zga l (l.yn + (k0:Nat)) es l n (j:Int) = some (⟨l.yn,l.yv,yhk l.yi (k0 + j) (es.drop j)⟩,l.yn + (k0:Nat) + (es.length:Int),true):=by
  have hb1:=h.last; have hb2:=h.b; have hlen:=h.len hB
  have hk5:∀ out,zjb (l.yn + (k0:Nat)) es l out=some (⟨l.yn,l.yv,out⟩,l.yn + (k0:Nat) + (es.length:Int),true):=by
    intro out
    unfold zjb
    rw [ybs (by omega)]
  have hk4:∀ (j:Nat) out,j<=es.length->out.length<=1000000->zja (l.yn + (k0:Nat)) es l (j:Int) out=some (⟨l.yn,l.yv,out++es.drop j⟩,l.yn + (k0:Nat) + (es.length:Int),true):=by
    intro j out hj ho
    unfold zja
    have e1:((j:Int)).toNat=j:=by omega
    rw [ypv (by omega) (by omega),yx,e1,yvv (by simp; omega) fun x hx=>hd x (jg hx),yx,qe (ycs (by simp; omega)),hk5]
  intro m
  induction m with
  | zero=>
    intro j n hm hj hn
    obtain ⟨n,rfl⟩:∃ n',n=n' + 1:=⟨n - 1,by omega⟩
    have hj':¬ ((j:Int) < (es.length:Int)):=by omega
    rw [zga,zjd,qf hj',qc (by simp),jv (by omega),hk5]
    simp [yhk]
  | succ m ih=>
    intro j n hm hj hn
    obtain ⟨n,rfl⟩:∃ n',n=n' + 1:=⟨n - 1,by omega⟩
    have hlt:j < es.length:=by omega
    have hj':((j:Int) < (es.length:Int)):=by omega
    have hpos:IntKind.i64.wrap (IntKind.i64.wrap (l.yn + (k0:Nat) + (j:Int)) - l.yn) = ((k0 + j:Nat):Int):=by
      rw [ybs (n:=l.yn + (k0:Nat) + (j:Int)) (by omega),ybs (by omega)]
      omega
    rw [zga,zjd,qg hj',qe rfl,yoi hlt,yx,hpos,List.drop_eq_getElem_cons hlt]
    by_cases hin:k0 + j < l.yi.length
    .have h1:(((k0 + j:Nat):Int) < ((l.yi.length:Nat):Int)):=by omega
     have h2:l.yi[k0 + j]? = some l.yi[k0 + j]:=qj hin
     rw [qg h1,qe rfl,yoi hin,yx]
     simp only [yhk,h2]
     by_cases ht:l.yi[k0 + j].yc=es[j].yc
     .rw [qg ht,qe rfl,qe ht,ygy (by omega),ih (j + 1) n (by omega) (by omega) (by omega)]
      rfl
     .have e1:(((k0 + j:Nat):Int)).toNat=k0 + j:=by omega
      rw [qf ht,qc (by simp),qc ht,ysn (by omega) (by omega),yx,e1,hk4 j _ (by omega) (by simp; omega),List.drop_eq_getElem_cons hlt]
    .have h1:¬ (((k0 + j:Nat):Int) < ((l.yi.length:Nat):Int)):=by omega
     have h2:l.yi[k0 + j]? = none:=qm (by omega)
     rw [qf h1,qc (by simp),hk4 j _ (by omega) (by omega),List.drop_eq_getElem_cons hlt]
     simp only [yhk,h2]
theorem ybro(h:OkG B l)(hB:B<=1000000){at0 term:Int}(ha:l.yn<=at0/\at0<=1000000){es:List yk}(hes:es.length<=1000)(hd:∀ x∈es,x.yck.length<=1000):ziz l at0 term es=some (ylm l at0 term es):=by
  have hb1:=h.last; have hb2:=h.b
  unfold ziz ylm
  rw [ylg h hB (by omega),yx]
  cases ht:ycz l at0 with
  | none=>
    simp only [Option.isSome_none,qr,wn]
    rw [ynp h hB,yx,yih h hB,yx]
  | some mine=>
    simp only [Option.isSome_some,wl,Option.getD_some]
    by_cases hm:mine=term
    .have e0:at0=l.yn + ((at0 - l.yn).toNat:Nat):=by omega
     have hz:=ybhl h hB (k0:=(at0 - l.yn).toNat) (es:=es) (by omega) hes hd _ 0 ((((es.length:Int)) - ((0:Int))).toNat + 1) rfl (jb _) (by omega)
     simp only [hm,ne_eq,not_true_eq_false,decide_false,qr,wn]
     rw [ynp h hB,yx]
     rw [← e0] at hz
     simpa using hz
    .simp only [ne_eq,hm,not_false_eq_true,decide_true,wl]
     by_cases hlow:at0 - 1 < l.yn
     .have e1:at0=l.yn:=by omega
      have ht1:ycz l (at0 - 1) = none:=ybtj (by omega) (.inl (by omega))
      rw [ybs (by omega),ylg h hB (by omega),yx,ht1]
      simp only [Option.isSome_none,Option.getD_none]
      have:zaj l (mine,true) 1000000 (at0 - 1) 0 false=some (l,l.yn,false):=by
        show zaj l (mine,true) (999999 + 1) (at0 - 1) 0 false=_
        rw [zaj,zhb,qc (by simp)]
        unfold zbj
        rw [qc (by simp),yauf h hB,qe (by omega)]
      rw [this]
      have e2:(at0 - 1 - l.yn).toNat=0:=by omega
      unfold yacx
      rw [e2]
      rfl
     .have e2:at0 - 1=l.yn + ((at0 - 1 - l.yn).toNat:Nat):=by omega
      have htm:=ymn ht
      have hz:=yblh h hB mine (at0 - 1 - l.yn).toNat 1000000 (by omega) (by unfold yac at htm; omega)
      rw [ybs (by omega),ylg h hB (by omega),yx]
      rw [← e2] at hz
      exact hz
theorem ybyk(h:OkG B l)(hB:B<=1000000){at0 term:Int}(ha:0<=at0/\at0<=1000000){es:List yk}(hes:es.length<=1000)(hd:∀ x∈es,x.yck.length<=1000):zmm l at0 term es=some (yev l at0 term es):=by
  have hb1:=h.last; have hb2:=h.b
  unfold zmm yev
  by_cases hlt:at0 < l.yn
  .rw [qg hlt,qe rfl,qe hlt,ybs (by omega)]
   by_cases hs:(es.length:Int) < l.yn - at0
   .rw [qg hs,qe rfl,qe hs,ynp h hB,yx]
   .rw [qf hs,qc (by simp),qc hs,ypv (by omega) (by omega),yx,ybro h hB (by omega) (by simp; omega) fun x hx=>hd x (jg hx)]
  .rw [qf hlt,qc (by simp),qc hlt,ybro h hB (by omega) hes hd]
end
end Go.Proofs.Ytgoachcogmlhcaa.R
set_option maxRecDepth 100000
set_option linter.unusedVariables false
set_option linter.unusedSimpArgs false
noncomputable section
namespace Go.Proofs.Ytgoachcogmlhcaa.R
open Go
def yke(l:List Bool):Nat:=l.countP (fun b=>b)
def ydv(l:List Bool):Bool:=decide (l.length < 2 * yke l)
theorem yaxy(l:List Bool):yke l<=l.length:=List.countP_le_length
theorem yaag{n:Nat}(h:n<=1000):zhc (n:Int) = some (if n=0 then 0 else ((n / 2 + 1:Nat):Int)):=by
  unfold zhc
  by_cases h0:n=0
  .subst h0; simp
  .have h1:¬ ((n:Int) < 1):=by omega
   have h2:(n:Int).tdiv 2=((n / 2:Nat):Int):=rfl
   rw [qf h1,qc (by simp),qc h0,h2,ybs (n:=((n / 2:Nat):Int)) (by omega),ybs (by omega)]
   rfl
theorem ycbv{l:List Bool}(hl:l.length<=1000):∀ (m k n:Nat),l.length - k=m->k<=l.length->m < n->zel l n ((yke (l.take k):Nat):Int) (k:Int) = some (ydv l):=by
  intro m
  induction m with
  | zero=>
    intro k n hm hk hn
    obtain ⟨n,rfl⟩:∃ n',n=n' + 1:=⟨n - 1,by omega⟩
    have hk':¬ ((k:Int) < (l.length:Int)):=by omega
    rw [zel,zhj,qf hk',qc (by simp),wm (by omega)]
    unfold zkp ydv
    have hc:=yaxy l
    by_cases h0:l.length=0
    .have h1:¬ (0:Int) < (l.length:Int):=by omega
     rw [qf h1,qc (by simp)]
     have:¬ l.length < 2 * yke l:=by omega
     rw [qf this]
    .have h1:(0:Int) < (l.length:Int):=by omega
     rw [qg h1,qe rfl,yaag hl,yx,qc h0]
     congr 1
     rw [decide_eq_decide]
     omega
  | succ m ih=>
    intro k n hm hk hn
    obtain ⟨n,rfl⟩:∃ n',n=n' + 1:=⟨n - 1,by omega⟩
    have hlt:k < l.length:=by omega
    have hk':((k:Int) < (l.length:Int)):=by omega
    have htake:l.take (k + 1) = l.take k++[l[k]]:=by rw [List.take_succ_eq_append_getElem hlt]
    have hcl:yke (l.take k)<=k:=by have:=yaxy (l.take k); simp at this; omega
    rw [zel,zhj,qg hk',qe rfl,yoi hlt,yx]
    have hi:=ih (k + 1) n (by omega) (by omega) (by omega)
    rw [htake] at hi
    cases hb:l[k] with
    | true=>
      rw [qe rfl,ygy (by omega),ygy (by omega)]
      rw [hb] at hi
      have:yke (l.take k++[true]) = yke (l.take k) + 1:=by simp [yke]
      rw [this] at hi
      exact hi
    | false=>
      rw [qc (by simp),ygy (by omega)]
      rw [hb] at hi
      have:yke (l.take k++[false]) = yke (l.take k):=by simp [yke]
      rw [this] at hi
      exact hi
theorem ybhv{l:List Bool}(hl:l.length<=1000):zjq l=some (ydv l):=by
  have:=ycbv hl _ 0 ((((l.length:Int)) - ((0:Int))).toNat + 1) rfl (jb _) (by omega)
  unfold zjq
  simpa [yke] using this
theorem ycit(x y:Int):zjn x y=some (decide (x < y)):=by
  unfold zjn zjc
  simp [yx]
theorem yalw{α:Type}(A:List α)(x:α)(C:List α):(A++x :: C)[A.length]? = some x:=by simp
theorem ybar{α:Type}(A:List α)(x y:α)(C:List α):(A++x :: C).set A.length y=A++y :: C:=by simp
theorem ybio{rec1:Int->List Int->Option (List Int)}{i:Int}:∀ (k:Nat) (A:List Int) (x:Int) (C D:List Int) (n:Nat),A.length=k->k < n->(A++x :: C++D).length<=1000->(A++C).Pairwise (·<= ·)->(∀ y∈C,x<=y) ->
    ∃ S,S.Pairwise (·<= ·)/\S.Perm (A++x :: C)/\zo rec1 0 i n (k:Int) (A++x :: C++D) = rec1 (IntKind.i64.wrap (i + 1)) (S++D):=by
  intro k
  induction k with
  | zero=>
    intro A x C D n hA hn hlen hs hx
    obtain ⟨n,rfl⟩:∃ n',n=n' + 1:=⟨n - 1,by omega⟩
    obtain rfl:=wg hA
    refine ⟨x :: C,List.pairwise_cons.2 ⟨hx,by simpa using hs⟩,List.Perm.refl _,?_⟩
    rw [zo,zai]
    have:¬ ((0:Int) < ((0:Nat):Int)):=by omega
    rw [qf this,qc (by simp)]
    unfold zac zaw
    rw [qc (by simp)]
    simp
  | succ k ih=>
    intro A x C D n hA hn hlen hs hx
    obtain ⟨n,rfl⟩:∃ n',n=n' + 1:=⟨n - 1,by omega⟩
    obtain ⟨A',y,rfl⟩:∃ A' y,A=A'++[y]:=by
      have hne:A≠[]:=by intro h; subst h; simp at hA
      exact ⟨A.dropLast,A.getLast hne,(List.dropLast_concat_getLast hne).symm⟩
    have hA':A'.length=k:=by simpa using hA
    have hk:((0:Int) < ((k + 1:Nat):Int)):=by omega
    have hkl:k < 1000:=by simp at hlen; omega
    have hw:IntKind.i64.wrap (((k + 1:Nat):Int) - 1) = (k:Int):=by rw [ybs (by omega)]; omega
    have e1:A'++[y]++x :: C++D=A'++y :: (x :: (C++D)):=by simp
    have e2:A'++[y]++x :: C++D=(A'++[y])++x :: (C++D):=by simp
    have g1:ydd (A'++[y]++x :: C++D) ((k + 1:Nat):Int) = some x:=by
      rw [yku,e2,← hA]; exact yalw _ _ _
    have g2:ydd (A'++[y]++x :: C++D) (k:Int) = some y:=by
      rw [yku,e1,← hA']; exact yalw _ _ _
    have hs1:ybl (A'++[y]++x :: C++D) ((k + 1:Nat):Int) y=A'++y :: (y :: (C++D)):=by
      unfold ybl
      have:(((k + 1:Nat):Int)).toNat=(A'++[y]).length:=by rw [hA]; omega
      rw [e2,this,ybar]
      simp
    have g3:ydd (A'++y :: (y :: (C++D))) (k:Int) = some y:=by rw [yku,← hA']; exact yalw _ _ _
    have hs2:ybl (A'++y :: (y :: (C++D))) (k:Int) x=A'++x :: (y :: C)++D:=by
      unfold ybl
      have:((k:Int)).toNat=A'.length:=by omega
      rw [this,ybar]
      simp
    have hsA:(A'++y :: C).Pairwise (·<= ·):=by simpa using hs
    rw [zo,zai,qg hk,qe rfl,g1,yx,hw,g2,yx,ycit,yx]
    unfold zac zaw
    by_cases hlt:x < y
    .rw [qg hlt,qe rfl,hw,g2,yx,g1,yx,hs1,g3,yx,hs2]
     obtain ⟨S,h1,h2,h3⟩:=ih A' x (y :: C) D n hA' (by omega) (by simp at hlen ⊢; omega) hsA (by
       intro z hz
       rcases wt.1 hz with rfl | hz
       .omega
       .exact hx z hz)
     refine ⟨S,h1,h2.trans ?_,h3⟩
     have:(A'++x :: y :: C).Perm (A'++y :: x :: C):=List.Perm.append_left _ (List.Perm.swap _ _ _)
     simpa using this
    .rw [qf hlt,qc (by simp)]
     refine ⟨A'++[y]++x :: C,?_,List.Perm.refl _,by simp⟩
     have hp:=List.pairwise_append.1 hs
     have hA2:=List.pairwise_append.1 hsA
     refine List.pairwise_append.2 ⟨hp.1,List.pairwise_cons.2 ⟨hx,hp.2.1⟩,?_⟩
     intro a ha b hb
     rcases wt.1 hb with rfl | hb
     .rcases qt.1 ha with ha | ha
      .have:=hA2.2.2 a ha y qv
       omega
      .simp at ha; omega
     .exact hp.2.2 a ha b hb
theorem ybip{len:Nat}(hlen:len<=1000):∀ (m i n:Nat) (S D:List Int),len - i=m->S.length=i->S.length + D.length=len->m < n->S.Pairwise (·<= ·) ->
    ∃ R,R.Pairwise (·<= ·)/\R.Perm (S++D)/\zn 0 (len:Int) n (i:Int) (S++D) = some R:=by
  intro m
  induction m with
  | zero=>
    intro i n S D hm hS hSD hn hs
    obtain ⟨n,rfl⟩:∃ n',n=n' + 1:=⟨n - 1,by omega⟩
    have hD:D = []:=wg (by omega)
    subst hD
    have:¬ ((i:Int) < (len:Int)):=by omega
    refine ⟨S,hs,by simp,?_⟩
    rw [zn,zah,qf this,qc (by simp)]
    simp
  | succ m ih=>
    intro i n S D hm hS hSD hn hs
    obtain ⟨n,rfl⟩:∃ n',n=n' + 1:=⟨n - 1,by omega⟩
    match D,hSD with
    | [],hSD=>simp at hSD; omega
    | x :: D,hSD=>
      have hlt:((i:Int) < (len:Int)):=by omega
      obtain ⟨S2,h1,h2,h3⟩:=ybio (rec1:=zn 0 (len:Int) n) (i:=(i:Int)) i S x [] D 1000000 hS (by omega) (by simp at hSD ⊢; omega) (by simpa using hs) (by simp)
      have hl2:S2.length=i + 1:=by have:=h2.length_eq; simp at this; omega
      obtain ⟨R,q1,q2,q3⟩:=ih (i + 1) n S2 D (by omega) hl2 (by simp at hSD; omega) (by omega) h1
      refine ⟨R,q1,q2.trans ?_,?_⟩
      .have:=h2.append_right D
       simpa using this
      .have e1:S++x :: D=S++x :: []++D:=by simp
       rw [zn,zah,qg hlt,qe rfl,e1,h3,ygy (by omega)]
       exact q3
theorem yclw{l:List Int}(hl:l.length<=12)(h0:0 < l.length):∃ R,R.Pairwise (·<= ·)/\R.Perm l/\zfl l=some R:=by
  obtain ⟨x,D,rfl⟩:∃ x D,l=x :: D:=by
    cases l with
    | nil=>simp at h0
    | cons x D=>exact ⟨x,D,rfl⟩
  obtain ⟨R,h1,h2,h3⟩:=ybip (len:=(x :: D).length) (by omega) _ 1 ((((x :: D).length:Int) - 1).toNat + 1) [x] D rfl rfl (by simp; omega) (by omega) (by simp)
  refine ⟨R,h1,h2,?_⟩
  have hins:zbi (x :: D) 0 ((x :: D).length:Int) = some R:=by
    unfold zbi
    have:IntKind.i64.wrap ((0:Int) + 1) = ((1:Nat):Int):=by rw [ybs (by omega)]; rfl
    rw [this]
    exact h3
  have hlen:R.length=(x :: D).length:=h2.length_eq
  have hbits:∃ r,zjf (IntKind.u64.wrap (((x :: D).length:Nat):Int)) = some r:=by
    rw [yavn (by omega) (by omega)]
    unfold zjf zjk
    have a1:¬ (4294967296:Int)<=(((x :: D).length:Nat):Int):=by omega
    have a2:¬ (65536:Int)<=(((x :: D).length:Nat):Int):=by omega
    have a3:¬ (256:Int)<=(((x :: D).length:Nat):Int):=by omega
    have a4:IntKind.u8.wrap (((x :: D).length:Nat):Int) = (((x :: D).length:Nat):Int):=by
      simp only [IntKind.wrap,IntKind.signed,IntKind.bits]
      simp
      simp at hl
      omega
    rw [qf a1,qc (by simp)]
    unfold zfq
    rw [qf a2,qc (by simp)]
    unfold zfr
    rw [qf a3,qc (by simp)]
    unfold zfs
    rw [a4]
    unfold nthS
    rw [qe (by omega)]
    have e1:(((x :: D).length:Nat):Int).toNat=(x :: D).length:=by omega
    rw [e1,qj (by show (x :: D).length < 256; omega)]
    exact ⟨_,rfl⟩
  obtain ⟨b,hb⟩:=hbits
  unfold zfl
  rw [hb,yx]
  have hp:zem (x :: D) 0 (((x :: D).length:Nat):Int) b=some R:=by
    show zae (x :: D) 0 (((x :: D).length:Nat):Int) b (999999 + 1) = some R
    rw [zae,zcn]
    have:IntKind.i64.wrap ((((x :: D).length:Nat):Int) - 0)<=12:=by rw [ybs (by omega)]; omega
    rw [qg this,qe rfl,hins,yx,qg hlen,qe rfl]
  rw [hp,yx,qg hlen,qe rfl]
def yqe(l:List Int)(c:Int):Nat:=l.countP (fun x=>decide (c<=x))
structure ytj (l:List Int) (c:Int):Prop where
  mem:c∈l
  maj:l.length < 2 * yqe l c
  top:∀ y∈l,l.length < 2 * yqe l y->y<=c
theorem ytj.uniq{l:List Int}{c d:Int}(h:ytj l c)(h':ytj l d):c=d:=by
  have:=h.top d h'.mem h'.maj
  have:=h'.top c h.mem h.maj
  omega
open Classical in
def yff(l:List Int):Int:=if h:∃ c,ytj l c then Classical.choose h else 0
theorem yafa{l:List Int}{c:Int}(h:ytj l c):yff l=c:=by
  unfold yff
  have hx:∃ c,ytj l c:=⟨c,h⟩
  rw [dif_pos hx]
  exact (Classical.choose_spec hx).uniq h
theorem yyb{p:Int->Bool}:∀ {l:List Int},(∀ x∈l,p x=true)->l.countP p=l.length
  | [],_=>rfl
  | x :: l,h=>by
    have h1:=h x qv
    have h2:=yyb (l:=l) fun y hy=>h y (ql _ hy)
    simp [List.countP_cons,h1,h2]
theorem yaeh{p:Int->Bool}:∀ {l:List Int},(∀ x∈l,p x=false)->l.countP p=0
  | [],_=>rfl
  | x :: l,h=>by
    have h1:=h x qv
    have h2:=yaeh (l:=l) fun y hy=>h y (ql _ hy)
    simp [List.countP_cons,h1,h2]
theorem yaut{l R:List Int}(hs:R.Pairwise (·<= ·))(hp:R.Perm l)(h0:0 < l.length):∃ c,R[l.length - (l.length / 2 + 1)]? = some c/\ytj l c:=by
  have hlen:=hp.length_eq
  have hk:l.length - (l.length / 2 + 1) < R.length:=by omega
  refine ⟨R[l.length - (l.length / 2 + 1)],qj hk,?_⟩
  generalize hkk:l.length - (l.length / 2 + 1) = k at hk
  have hcnt:∀ c,yqe l c=yqe R c:=fun c=>(hp.countP_eq _).symm
  have hsplit:R=R.take k++R[k] :: R.drop (k + 1):=by rw [← List.drop_eq_getElem_cons hk,List.take_append_drop]
  have hmem:R[k]∈R:=jd hk
  generalize R[k] = a at hsplit hmem ⊢
  have hpw:=hs
  rw [hsplit] at hpw
  have hpa:=List.pairwise_append.1 hpw
  have hpc:=List.pairwise_cons.1 hpa.2.1
  refine ⟨hp.mem_iff.1 hmem,?_,?_⟩
  .rw [hcnt]
   have:yqe R a≥l.length / 2 + 1:=by
     unfold yqe
     conv=>lhs; rw [hsplit]
     rw [List.countP_append]
     have h1:(a :: R.drop (k + 1)).countP (fun x=>decide (a<=x)) = (a :: R.drop (k + 1)).length:=yyb fun x hx=>by
       rcases wt.1 hx with rfl | hx
       .simp
       .simpa using hpc.1 x hx
     have h2:(a :: R.drop (k + 1)).length=l.length / 2 + 1:=by simp; omega
     omega
   omega
  .intro y hy hmaj
   rw [hcnt] at hmaj
   rcases jz a y with hlt | hle
   .exfalso
    have:yqe R y<=l.length / 2:=by
      unfold yqe
      conv=>lhs; rw [hsplit]
      rw [List.countP_append,List.countP_cons]
      have h1:(R.take k).countP (fun x=>decide (y<=x)) = 0:=yaeh fun x hx=>by
        have:=hpa.2.2 x hx a qv
        simp; omega
      have h2:¬ y<=a:=by omega
      have h3:(R.drop (k + 1)).countP (fun x=>decide (y<=x))<=(R.drop (k + 1)).length:=List.countP_le_length
      have h4:(R.drop (k + 1)).length=l.length / 2:=by simp; omega
      simp [h1,h2]
      omega
    omega
   .exact hle
theorem yamx{l:List Int}(hl:l.length<=12)(h0:0 < l.length):zdt l=some (yff l)/\ytj l (yff l):=by
  obtain ⟨R,h1,h2,h3⟩:=yclw hl h0
  obtain ⟨c,h4,h5⟩:=yaut h1 h2 h0
  have hc:=yafa h5
  refine ⟨?_,by rw [hc]; exact h5⟩
  have hlen:=h2.length_eq
  unfold zdt
  rw [yaag (by omega),yx,qc (by omega)]
  unfold zka
  have a1:¬ (((l.length / 2 + 1:Nat):Int) < 1):=by omega
  have a2:¬ ((l.length:Int) < ((l.length / 2 + 1:Nat):Int)):=by omega
  rw [qf a1,qc (by simp),qf a2]
  unfold zgh
  have e1:IntKind.i64.wrap (((l.length:Nat):Int) - ((l.length / 2 + 1:Nat):Int)) = ((l.length - (l.length / 2 + 1):Nat):Int):=by rw [ybs (by omega)]; omega
  rw [qc (by simp),qe (ycs (by omega)),h3,yx,qg hlen,qe rfl,e1,yku,h4,yx,yx,hc]
end Go.Proofs.Ytgoachcogmlhcaa.R
set_option maxRecDepth 100000
set_option linter.unusedVariables false
set_option linter.unusedSimpArgs false
noncomputable section
namespace Go.Proofs.Ytgoachcogmlhcaa.R
open Go
structure OkR (B:Int) (r:ye):Prop where
  id:1<=r.Id/\r.Id<=r.N
  n:r.N<=7
  term:0<=r.yc/\r.yc<=B
  vote:0<=r.yan/\r.yan<=7
  commit:0<=r.yl/\r.yl<=B
  clock:0<=r.yu/\r.yu<=B
  wait:0<=r.yam/\r.yam<=20
  log:OkG B r.yg
  snap:r.yaf.length<=1000
  gl:r.yq.length<=7
  nl:r.Next.length<=7
  ml:r.yaa.length<=7
  ga:r.ym=1\/r.ym=2->(r.yq.length:Int) = r.N
  na:r.ym=3->(r.Next.length:Int) = r.N
  ma:r.ym=3->(r.yaa.length:Int) = r.N
  nb:∀ x∈r.Next,1<=x/\x<=B + 1
  mb:∀ x∈r.yaa,0<=x/\x<=B
def yga(id:Int):Nat->Int->List Int
  | 0,_=>[]
  | k + 1,to=>if to≠id then to :: yga id k (to + 1) else yga id k (to + 1)
def yca(r:ye):List Int:=yga r.Id r.N.toNat 1
def yax(r:ye)(to:Int):Int:=(r.Next[(to - 1).toNat]?).getD 0
def ybj(r:ye)(to:Int):yj:=
  if yax r to<=r.yg.yn then ⟨7,0,r.Id,to,r.yc,r.yg.yn,r.yg.yv,r.yl,false,[],r.yaf⟩
  else ⟨5,0,r.Id,to,r.yc,yax r to - 1,(ycz r.yg (yax r to - 1)).getD 0,r.yl,false,ykf r.yg (yax r to),[]⟩
def yai(r:ye)(term lead:Int):ye:=
  ⟨r.Id,r.N,if r.yc < term then term else r.yc,if r.yc < term then 0 else r.yan,0,lead,r.yg,r.yl,r.yaf,[],[],[],r.yu,r.yam⟩
def ybm(r:ye):ye:=
  if ycz r.yg (yff r.yaa) = some r.yc/\r.yl < yff r.yaa then { r with yl:=yff r.yaa } else r
def ydf(r:ye)(data:List Int):ye:=
  { r with yg:=⟨r.yg.yn,r.yg.yv,r.yg.yi++[⟨r.yc,data⟩]⟩,yaa:=ybl r.yaa (r.Id - 1) (yac r.yg + 1) }
def yct(r:ye)(data:List Int):ye × List yj:=(ybm (ydf r data),(yca r).map (ybj (ybm (ydf r data))))
def yft(r:ye):ye:=
  { yai r r.yc r.Id with ym:=3,yu:=0,Next:=List.replicate r.N.toNat (yac r.yg + 1),yaa:=List.replicate r.N.toNat 0 }
def yco(r:ye):ye × List yj:=yct (yft r) []
def yfq(r:ye):List Bool:=ybl (List.replicate r.N.toNat false) (r.Id - 1) true
def yas(r:ye):ye:={ yai r (r.yc + 1) 0 with yan:=r.Id,ym:=2,yu:=0,yq:=yfq r }
def yex(r:ye)(to:Int):yj:=⟨3,0,r.Id,to,r.yc,yac r.yg,yee r.yg,0,false,[],[]⟩
def yea(r:ye):ye × List yj:=if ydv (yfq r) = true then yco (yas r) else (yas r,(yca r).map (yex (yas r)))
def ysp(draw:Int):Int:=10 + (IntKind.u64.wrap draw) % 10
def ygu(r:ye)(draw:Int):ye:={ yai r r.yc 0 with ym:=1,yu:=0,yam:=ysp draw,yq:=yfq r }
def yij(r:ye)(to:Int):yj:=⟨1,0,r.Id,to,r.yc + 1,yac r.yg,yee r.yg,0,false,[],[]⟩
def yhx(r:ye)(draw:Int):ye × List yj:=if ydv (yfq r) = true then yea (ygu r draw) else (ygu r draw,(yca r).map (yij (ygu r draw)))
theorem ybtz{F:Nat->Int->yd->Option yd}{step:Int->yd->Option yd}{g:Int->yj}{r:ye}
    (hF:∀ n to m,F (n + 1) to m=if decide (to<=m.yb.N) = true then (if decide (to≠m.yb.Id) = true then bnd (step to m) (fun q=>F n (IntKind.i64.wrap (to + 1)) q) else F n (IntKind.i64.wrap (to + 1)) m) else some m)
    (hN:r.N<=7) (hs:∀ to out,1<=to->to<=r.N->to≠r.Id->out.length<=100->step to ⟨r,out⟩ = some ⟨r,out++[g to]⟩) :
    ∀ (k n:Nat) (to:Int) (out:List yj),1<=to->to<=9->(r.N - to + 1).toNat=k->k < n->out.length<=50 - k->F n to ⟨r,out⟩ = some ⟨r,out++(yga r.Id k to).map g⟩:=by
  intro k
  induction k with
  | zero=>
    intro n to out h1 h9 hk hn ho
    obtain ⟨n,rfl⟩:∃ n',n=n' + 1:=⟨n - 1,by omega⟩
    have:¬ to<=r.N:=by omega
    rw [hF,qf this,qc (by simp)]
    simp [yga]
  | succ k ih=>
    intro n to out h1 h9 hk hn ho
    obtain ⟨n,rfl⟩:∃ n',n=n' + 1:=⟨n - 1,by omega⟩
    have hle:to<=r.N:=by omega
    rw [hF,qg hle,qe rfl,ybs (by omega)]
    by_cases hid:to=r.Id
    .have:¬ (to≠r.Id):=fun h=>h hid
     simp only [this,decide_false,qr,wn]
     rw [ih n (to + 1) out (by omega) (by omega) (by omega) (by omega) (by omega)]
     simp [yga,hid]
    .simp only [ne_eq,hid,not_false_eq_true,decide_true,wl]
     rw [hs to out h1 hle hid (by omega),yx,ih n (to + 1) _ (by omega) (by omega) (by omega) (by omega) (by simp; omega)]
     simp [yga,hid]
theorem ysq{F:Nat->Int->yd->Option yd}{step:Int->yd->Option yd}{g:Int->yj}{r:ye}
    (hF:∀ n to m,F (n + 1) to m=if decide (to<=m.yb.N) = true then (if decide (to≠m.yb.Id) = true then bnd (step to m) (fun q=>F n (IntKind.i64.wrap (to + 1)) q) else F n (IntKind.i64.wrap (to + 1)) m) else some m)
    (hN0:0<=r.N) (hN:r.N<=7) (hs:∀ to out,1<=to->to<=r.N->to≠r.Id->out.length<=100->step to ⟨r,out⟩ = some ⟨r,out++[g to]⟩) (out:List yj) (ho:out.length<=40) :
    F 1000000 1 ⟨r,out⟩ = some ⟨r,out++(yca r).map g⟩:=by
  have:=ybtz hF hN hs (r.N - 1 + 1).toNat 1000000 1 out (by omega) (by omega) rfl (by omega) (by omega)
  rw [this]
  have e:(r.N - 1 + 1).toNat=r.N.toNat:=by omega
  rw [e]
  rfl
theorem ybap{to:Int}{x:yj}{m:yd}(h:m.f_out.length<=100000):zce to x m=some ⟨m.yb,m.f_out++[⟨x.yae,x.yhn,m.yb.Id,to,x.yc,x.At,x.ybf,x.yl,x.Ok,x.yi,x.yck⟩]⟩:=by
  unfold zce
  rw [qe (ycs (by omega))]
theorem yauy{to:Int}{x:yj}{m:yd}(h:m.f_out.length<=100000):zde to x m=some ⟨m.yb,m.f_out++[⟨x.yae,x.yhn,m.yb.Id,to,x.yc,x.At,x.ybf,x.yl,x.Ok,[],[]⟩]⟩:=by
  unfold zde
  rw [qe (ycs (by omega))]
theorem yzm{to:Int}{x:yj}{m:yd}(h:m.f_out.length<=100000):zcc to x m=some ⟨m.yb,m.f_out++[⟨x.yae,x.yhn,m.yb.Id,to,x.yc,x.At,x.ybf,x.yl,x.Ok,[],[]⟩]⟩:=by
  unfold zcc
  rw [qe (ycs (by omega))]
theorem yzn{to:Int}{x:yj}{m:yd}(h:m.f_out.length<=100000):zdf to x m=some ⟨m.yb,m.f_out++[⟨x.yae,x.yhn,m.yb.Id,to,x.yc,x.At,x.ybf,x.yl,x.Ok,[],[]⟩]⟩:=by
  unfold zdf
  rw [qe (ycs (by omega))]
structure OkT (B:Int) (r:ye):Prop where
  n:r.N<=7
  n0:0<=r.N
  log:OkG B r.yg
  snap:r.yaf.length<=1000
  na:(r.Next.length:Int) = r.N
  nb:∀ x∈r.Next,1<=x/\x<=B + 1
section
variable {B:Int} {r:ye}
theorem yub(h:OkT B r){to:Int}(h1:1<=to)(h2:to<=r.N):ydd r.Next (to - 1) = some (yax r to)/\1<=yax r to/\yax r to<=B + 1:=by
  have hlt:(to - 1).toNat < r.Next.length:=by have:=h.na; omega
  unfold yax
  rw [ykt (by omega),qj hlt]
  exact ⟨rfl,h.nb _ (jd hlt)⟩
theorem yavm{S:Int->yj->yd->Option yd}{T:Int->yd->Option yd}
    (hT:∀ to m,T to m=bnd (ydd m.yb.Next (IntKind.i64.wrap (to - (1:Int)))) fun e=>
      if (decide (e<=m.yb.yg.yn)) = true then
       if (yeq (m.yb.yaf).length) = true then bnd (S to (yj.mk (7:Int) (0:Int) (0:Int) (0:Int) m.yb.yc m.yb.yg.yn m.yb.yg.yv m.yb.yl false [] m.yb.yaf) m) fun r0_2=>some r0_2 else none
      else
        bnd (zbn m.yb.yg (IntKind.i64.wrap (e - (1:Int)))) fun r0=>bnd (zji m.yb.yg e (8:Int)) fun r0_1=>
        bnd (S to (yj.mk (5:Int) (0:Int) (0:Int) (0:Int) m.yb.yc (IntKind.i64.wrap (e - (1:Int))) r0.1 m.yb.yl false r0_1 []) m) fun r0_2=>some r0_2)
    (hS:∀ to x (m:yd),m.f_out.length<=100000->S to x m=some ⟨m.yb,m.f_out++[⟨x.yae,x.yhn,m.yb.Id,to,x.yc,x.At,x.ybf,x.yl,x.Ok,x.yi,x.yck⟩]⟩)
    (h:OkT B r) (hB:B<=1000000) {to:Int} (h1:1<=to) (h2:to<=r.N) {out:List yj} (ho:out.length<=100):T to ⟨r,out⟩ = some ⟨r,out++[ybj r to]⟩:=by
  obtain ⟨e1,e2,e3⟩:=yub h h1 h2
  have hn:=h.n
  rw [hT]
  simp only
  rw [ybs (by omega),e1,yx]
  unfold ybj
  by_cases hb:yax r to<=r.yg.yn
  .rw [qg hb,qe rfl,qe hb,qe (ycs (by have:=h.snap; omega)),hS _ _ _ (by simp only; omega),yx]
  .rw [qf hb,qc (by simp),qc hb,ybs (by omega),ylg h.log hB (by omega),yx,ybqt h.log hB (by omega),yx,hS _ _ _ (by simp only; omega),yx]
theorem yahc(h:OkT B r)(hB:B<=1000000){to:Int}(h1:1<=to)(h2:to<=r.N){out:List yj}(ho:out.length<=100):zax to ⟨r,out⟩ = some ⟨r,out++[ybj r to]⟩:=
  yavm (S:=zce) (fun _ _=>rfl) (fun _ _ _ h=>ybap h) h hB h1 h2 ho
theorem ybbc(h:OkT B r)(hB:B<=1000000){to:Int}(h1:1<=to)(h2:to<=r.N){out:List yj}(ho:out.length<=100):zfh to ⟨r,out⟩ = some ⟨r,out++[ybj r to]⟩:=
  yavm (S:=zce) (fun _ _=>rfl) (fun _ _ _ h=>ybap h) h hB h1 h2 ho
theorem ycnc(h:OkT B r)(hB:B<=1000000){out:List yj}(ho:out.length<=40):zhk ⟨r,out⟩ = some ⟨r,out++(yca r).map (ybj r)⟩:=
  ysq (F:=fun n to m=>zea n to m.yb.Id m.yb.N m.yb.yc m.yb.yan m.yb.ym m.yb.yak m.yb.yg.yn m.yb.yg.yv m.yb.yg.yi m.yb.yl m.yb.yu m.yb.yam m.yb.yaf m.yb.yq m.yb.Next m.yb.yaa m.f_out) (step:=zax) (fun _ _ _=>rfl) h.n0 h.n (fun _ _ h1 h2 _ ho=>yahc h hB h1 h2 ho) out ho
theorem ycdx(h:OkT B r)(hB:B<=1000000){out:List yj}(ho:out.length<=40):zft ⟨r,out⟩ = some ⟨r,out++(yca r).map (ybj r)⟩:=
  ysq (F:=fun n to m=>zcf n to m.yb.Id m.yb.N m.yb.yc m.yb.yan m.yb.ym m.yb.yak m.yb.yg.yn m.yb.yg.yv m.yb.yg.yi m.yb.yl m.yb.yu m.yb.yam m.yb.yaf m.yb.yq m.yb.Next m.yb.yaa m.f_out) (step:=zax) (fun _ _ _=>rfl) h.n0 h.n (fun _ _ h1 h2 _ ho=>yahc h hB h1 h2 ho) out ho
theorem ycea(h:OkT B r)(hB:B<=1000000){out:List yj}(ho:out.length<=40):zfv ⟨r,out⟩ = some ⟨r,out++(yca r).map (ybj r)⟩:=
  ysq (F:=fun n to m=>zci n to m.yb.Id m.yb.N m.yb.yc m.yb.yan m.yb.ym m.yb.yak m.yb.yg.yn m.yb.yg.yv m.yb.yg.yi m.yb.yl m.yb.yu m.yb.yam m.yb.yaf m.yb.yq m.yb.Next m.yb.yaa m.f_out) (step:=zax) (fun _ _ _=>rfl) h.n0 h.n (fun _ _ h1 h2 _ ho=>yahc h hB h1 h2 ho) out ho
theorem ybtb(hl:OkG B r.yg)(hB:B<=1000000){to:Int}{out:List yj}(ho:out.length<=100):zdh to ⟨r,out⟩ = some ⟨r,out++[yex r to]⟩:=by
  unfold zdh
  simp only
  rw [yih hl hB,yx,ype hl hB,yx,yauy (by simp only; omega),yx]
  rfl
theorem yceb(hl:OkG B r.yg)(hB:B<=1000000)(ht:0<=r.yc/\r.yc<=1000000){to:Int}{out:List yj}(ho:out.length<=100):zen to ⟨r,out⟩ = some ⟨r,out++[yij r to]⟩:=by
  unfold zen
  simp only
  rw [yih hl hB,yx,ype hl hB,yx,ybs (by omega),yauy (by simp only; omega),yx]
  rfl
theorem ycdy(hn0:0<=r.N)(hn:r.N<=7)(hl:OkG B r.yg)(hB:B<=1000000){out:List yj}(ho:out.length<=40):zfu ⟨r,out⟩ = some ⟨r,out++(yca r).map (yex r)⟩:=
  ysq (F:=fun n to m=>zcg n to m.yb.Id m.yb.N m.yb.yc m.yb.yan m.yb.ym m.yb.yak m.yb.yg.yn m.yb.yg.yv m.yb.yl m.yb.yu m.yb.yam m.yb.yg.yi m.yb.yaf m.yb.yq m.yb.Next m.yb.yaa m.f_out) (step:=zdh) (fun _ _ _=>rfl) hn0 hn (fun _ _ _ _ _ ho=>ybtb hl hB ho) out ho
theorem ycdz(hn0:0<=r.N)(hn:r.N<=7)(hl:OkG B r.yg)(hB:B<=1000000)(ht:0<=r.yc/\r.yc<=1000000){out:List yj}(ho:out.length<=40):zhu ⟨r,out⟩ = some ⟨r,out++(yca r).map (yij r)⟩:=
  ysq (F:=fun n to m=>zch n to m.yb.Id m.yb.N m.yb.yc m.yb.yan m.yb.ym m.yb.yak m.yb.yg.yn m.yb.yg.yv m.yb.yl m.yb.yu m.yb.yam m.yb.yg.yi m.yb.yaf m.yb.yq m.yb.Next m.yb.yaa m.f_out) (step:=zen) (fun _ _ _=>rfl) hn0 hn (fun _ _ _ _ _ ho=>yceb hl hB ht ho) out ho
end
end Go.Proofs.Ytgoachcogmlhcaa.R
set_option maxRecDepth 100000
set_option linter.unusedVariables false
set_option linter.unusedSimpArgs false
noncomputable section
namespace Go.Proofs.Ytgoachcogmlhcaa.R
open Go
section
variable {B:Int} {r:ye} {out:List yj}
theorem OkE.mono{e:yk}{B':Int}(h:OkE B e)(hb:B<=B'):OkE B' e:=⟨⟨h.t.1,by have:=h.t.2; omega⟩,h.d⟩
theorem OkG.mono{l:yag}{B':Int}(h:OkG B l)(hb:B<=B'):OkG B' l:=
  ⟨h.b,⟨h.bt.1,by have:=h.bt.2; omega⟩,by have:=h.last; omega,fun x hx=>(h.e x hx).mono hb⟩
theorem OkR.mono{B':Int}(h:OkR B r)(hb:B<=B'):OkR B' r:=
  ⟨h.id,h.n,⟨h.term.1,by have:=h.term.2; omega⟩,h.vote,⟨h.commit.1,by have:=h.commit.2; omega⟩,⟨h.clock.1,by have:=h.clock.2; omega⟩,h.wait,h.log.mono hb,h.snap,h.gl,h.nl,h.ml,h.ga,h.na,h.ma,
    fun x hx=>by have:=h.nb x hx; omega,fun x hx=>by have:=h.mb x hx; omega⟩
theorem OkR.tell(h:OkR B r)(h3:r.ym=3):OkT B r:=⟨h.n,by have:=h.id; omega,h.log,h.snap,h.na h3,h.nb⟩
theorem ywa(t l:Int):zam t l ⟨r,out⟩ = some ⟨yai r t l,out⟩:=by
  unfold zam zeg yai
  by_cases h:r.yc < t
  .simp [h]
  .simp [h]
theorem yais(t l:Int):zck t l ⟨r,out⟩ = some ⟨yai r t l,out⟩:=ywa t l
theorem ydx{α:Type}(l:List α)(i:Int)(x:α):(ybl l i x).length=l.length:=by simp [ybl]
theorem yaft{who:Int}(h1:1<=who)(h2:who<=(r.yq.length:Int))(h3:r.yq.length<=7):zbl who ⟨r,out⟩ = some (ydv (ybl r.yq (who - 1) true),⟨{ r with yq:=ybl r.yq (who - 1) true },out⟩):=by
  unfold zbl
  have hlt:(who - 1).toNat < r.yq.length:=by omega
  simp only
  rw [ybs (by omega),ykt (by omega),qj hlt,yx,ybhv (by rw [ydx]; omega),yx]
theorem yaoa{who:Int}(h1:1<=who)(h2:who<=(r.yq.length:Int))(h3:r.yq.length<=7):zca who ⟨r,out⟩ = some (ydv (ybl r.yq (who - 1) true),⟨{ r with yq:=ybl r.yq (who - 1) true },out⟩):=yaft h1 h2 h3
theorem yzh(h:OkR B r)(h3:r.ym=3):zdt r.yaa=some (yff r.yaa)/\ytj r.yaa (yff r.yaa)/\0<=yff r.yaa/\yff r.yaa<=B:=by
  have hm:=h.ma h3; have hid:=h.id; have hml:=h.ml
  obtain ⟨h1,h2⟩:=yamx (l:=r.yaa) (by omega) (by omega)
  exact ⟨h1,h2,h.mb _ h2.mem⟩
theorem yaaw(h:OkR B r)(hB:B<=1000000)(h3:r.ym=3):zec ⟨r,out⟩ = some ⟨ybm r,out⟩:=by
  obtain ⟨h1,h2,h4⟩:=yzh h h3
  unfold zec ybm zcj
  simp only
  rw [h1,yx,ylg h.log hB (by omega),yx]
  cases ht:ycz r.yg (yff r.yaa) with
  | none=>simp
  | some t=>
    by_cases hc:r.yl < yff r.yaa
    .by_cases he:t=r.yc
     .simp [hc,he]
     .simp [hc,he]
    .simp [hc]
theorem ybce(h:OkR B r)(hB:B<=1000000)(h3:r.ym=3):zee ⟨r,out⟩ = some ⟨ybm r,out⟩:=yaaw h hB h3
theorem ybcf(h:OkR B r)(hB:B<=1000000)(h3:r.ym=3):zef ⟨r,out⟩ = some ⟨ybm r,out⟩:=yaaw h hB h3
theorem yru{α:Type}{l:List α}{i:Int}{x y:α}(h:y∈ybl l i x):y=x\/y∈l:=by
  unfold ybl at h
  rcases List.mem_or_eq_of_mem_set h with h | h
  .exact .inr h
  .exact .inl h
theorem yvr(h:OkR B r)(h3:r.ym=3){data:List Int}(hd:data.length<=1000):OkR (B + 1) (ydf r data):=by
  have hl:=h.log.last; have hb:=h.log.b; have ht:=h.term
  have hm:=h.mono (B':=B + 1) (by omega)
  refine { hm with log:=⟨h.log.b,⟨h.log.bt.1,by have:=h.log.bt.2; show r.yg.yv<=_; omega⟩,?_,?_⟩,ml:=?_,ma:=?_,mb:=?_ }
  .show r.yg.yn + ((r.yg.yi++[_]).length:Int)<=_
   simp
   omega
  .intro x hx
   have hx:x∈r.yg.yi++[⟨r.yc,data⟩]:=hx
   rcases qt.1 hx with hx | hx
   .exact (h.log.e x hx).mono (by omega)
   .simp at hx
    subst hx
    exact ⟨⟨ht.1,by show r.yc<=_; omega⟩,hd⟩
  .show (ybl r.yaa _ _).length<=7
   rw [ydx]; exact h.ml
  .intro h4
   show ((ybl r.yaa _ _).length:Int) = r.N
   rw [ydx]; exact h.ma h3
  .intro x hx
   rcases yru hx with rfl | hx
   .unfold yac; omega
   .have:=h.mb x hx; omega
theorem yst(h:OkR B r)(h3:r.ym=3):OkR B (ybm r):=by
  obtain ⟨_,_,h1,h2⟩:=yzh h h3
  unfold ybm
  split
  .exact { h with commit:=⟨h1,h2⟩ }
  .exact h
theorem yer:(ybm r).ym=r.ym:=by unfold ybm; split <;> rfl
theorem ygj:(ybm r).Id=r.Id:=by unfold ybm; split <;> rfl
theorem yfn:(ybm r).N=r.N:=by unfold ybm; split <;> rfl
theorem yalo(data:List Int):yca (ybm (ydf r data)) = yca r:=by
  unfold yca
  rw [ygj,yfn]
  rfl
theorem yahv{A:yd->Option yd}{C L:yd->Option yd}{data:List Int}
    (hA:∀ m,A m=bnd (zhf m.yb.yg (yk.mk m.yb.yc data)) fun r0=>bnd (zaf r0) fun r0_1=>bnd (ydd m.yb.yaa (IntKind.i64.wrap (m.yb.Id - (1:Int)))) fun e=>
      bnd (C (yd.mk (ye.mk m.yb.Id m.yb.N m.yb.yc m.yb.yan m.yb.ym m.yb.yak r0 m.yb.yl m.yb.yaf m.yb.yq m.yb.Next (ybl m.yb.yaa (IntKind.i64.wrap (m.yb.Id - (1:Int))) r0_1) m.yb.yu m.yb.yam) m.f_out)) fun r0_2=>bnd (L r0_2) fun r0_3=>some r0_3)
    (hC:∀ {r:ye} {out:List yj},OkR (B + 1) r->r.ym=3->C ⟨r,out⟩ = some ⟨ybm r,out⟩)
    (hL:∀ {r:ye} {out:List yj},OkT (B + 1) r->out.length<=40->L ⟨r,out⟩ = some ⟨r,out++(yca r).map (ybj r)⟩)
    (h:OkR B r) (hB:B + 1<=1000000) (h3:r.ym=3) (hd:data.length<=1000) (ho:out.length<=40):A ⟨r,out⟩ = some ⟨(yct r data).1,out++(yct r data).2⟩:=by
  have hb:=yvr h h3 hd
  have hid:=h.id; have hm:=h.ma h3; have hn:=h.n
  have hlt:(r.Id - 1).toNat < r.yaa.length:=by omega
  have hlast:yac ⟨r.yg.yn,r.yg.yv,r.yg.yi++[⟨r.yc,data⟩]⟩ = yac r.yg + 1:=by
    unfold yac
    simp
    omega
  rw [hA]
  simp only
  have hlog:OkG (B + 1) ⟨r.yg.yn,r.yg.yv,r.yg.yi++[⟨r.yc,data⟩]⟩:=hb.log
  rw [yawl h.log (by omega) hd,yx,yih hlog hB,yx,ybs (by omega),ykt (by omega),qj hlt,yx,hlast]
  have hc:=hC (r:=ydf r data) (out:=out) hb h3
  have hc':C ⟨⟨r.Id,r.N,r.yc,r.yan,r.ym,r.yak,⟨r.yg.yn,r.yg.yv,r.yg.yi++[⟨r.yc,data⟩]⟩,r.yl,r.yaf,r.yq,r.Next,ybl r.yaa (r.Id - 1) (yac r.yg + 1),r.yu,r.yam⟩,out⟩ = some ⟨ybm (ydf r data),out⟩:=hc
  rw [hc',yx,hL ((yst hb h3).tell (by rw [yer]; exact h3)) ho,yx,yalo]
  rfl
theorem ybjk(h:OkR B r)(hB:B + 1<=1000000)(h3:r.ym=3)(ho:out.length<=40):zeb ⟨r,out⟩ = some ⟨(yct r []).1,out++(yct r []).2⟩:=
  yahv (C:=zec) (L:=zft) (fun _=>rfl) (fun h=>yaaw h hB) (fun h ho=>ycdx h hB ho) h hB h3 (by simp) ho
theorem ybbr(h:OkR B r)(hB:B + 1<=1000000)(h3:r.ym=3){data:List Int}(hd:data.length<=1000)(ho:out.length<=40):zgg data ⟨r,out⟩ = some ⟨(yct r data).1,out++(yct r data).2⟩:=
  yahv (C:=zee) (L:=zfv) (fun _=>rfl) (fun h=>ybce h hB) (fun h ho=>ycea h hB ho) h hB h3 hd ho
theorem yjj(h:OkR B r){t l:Int}(ht:t<=B):OkR B (yai r t l):=by
  have h1:=h.term
  refine { h with term:=?_,vote:=?_,gl:=by simp [yai],nl:=by simp [yai],ml:=by simp [yai],ga:=?_,na:=?_,ma:=?_,nb:=by simp [yai],mb:=by simp [yai] }
  .show 0<=(if r.yc < t then t else r.yc)/\(if r.yc < t then t else r.yc)<=B
   split <;> omega
  .show 0<=(if r.yc < t then 0 else r.yan)/\(if r.yc < t then 0 else r.yan)<=7
   have:=h.vote
   split <;> omega
  .intro h; simp [yai] at h
  .intro h; simp [yai] at h
  .intro h; simp [yai] at h
theorem yux(h:OkR B r)(hB0:0<=B):OkR B (yft r):=by
  have hid:=h.id; have hn:=h.n
  have hl:=h.log.last; have hb:=h.log.b
  have hf:=yjj h (t:=r.yc) (l:=r.Id) h.term.2
  refine { hf with clock:=⟨qh _,hB0⟩,nl:=?_,ml:=?_,ga:=?_,na:=?_,ma:=?_,nb:=?_,mb:=?_ }
  .show (List.replicate _ _).length<=7; simp; omega
  .show (List.replicate _ _).length<=7; simp; omega
  .intro h; simp [yft] at h
  .intro _; show ((List.replicate _ _).length:Int) = r.N; simp; omega
  .intro _; show ((List.replicate _ _).length:Int) = r.N; simp; omega
  .intro x hx
   have hx:x∈List.replicate r.N.toNat (yac r.yg + 1):=hx
   have:=(List.mem_replicate.1 hx).2
   subst this
   unfold yac
   omega
  .intro x hx
   have hx:x∈List.replicate r.N.toNat (0:Int):=hx
   have:=(List.mem_replicate.1 hx).2
   subst this
   omega
theorem yckf{α:Type}(a b:α)(k m:Nat):(List.replicate k a++List.replicate (m + 1) b).set k a=List.replicate (k + 1) a++List.replicate m b:=by
  have h1:List.replicate k a++List.replicate (m + 1) b=List.replicate k a++b :: List.replicate m b:=rfl
  have h2:(List.replicate k a++b :: List.replicate m b).set (List.replicate k a).length a=List.replicate k a++a :: List.replicate m b:=by simp
  rw [h1]
  rw [jy] at h2
  rw [h2,List.replicate_succ']
  simp
theorem ybqh{q:ye}(hq:OkG B q.yg)(hB:B + 1<=1000000)(hn:0<=q.N/\q.N<=7):∀ (m k n:Nat),q.N.toNat - k=m->k<=q.N.toNat->m < n ->
    zw ⟨q,out⟩ n (k:Int) (List.replicate k (yac q.yg + 1)++List.replicate (q.N.toNat - k) 0) = zdc ⟨q,out⟩ (List.replicate q.N.toNat (yac q.yg + 1)):=by
  intro m
  induction m with
  | zero=>
    intro k n hm hk hn2
    obtain ⟨n,rfl⟩:∃ n',n=n' + 1:=⟨n - 1,by omega⟩
    have hk':¬ ((k:Int) < ((q.N.toNat:Nat):Int)):=by omega
    have e:k=q.N.toNat:=by omega
    rw [zw,zcl]
    simp only
    rw [qf hk',qc (by simp),e]
    simp
  | succ m ih=>
    intro k n hm hk hn2
    obtain ⟨n,rfl⟩:∃ n',n=n' + 1:=⟨n - 1,by omega⟩
    have hk':((k:Int) < ((q.N.toNat:Nat):Int)):=by omega
    have hr:=yazx hq (by omega)
    obtain ⟨d,hd⟩:∃ d,q.N.toNat - k=d + 1:=⟨q.N.toNat - k - 1,by omega⟩
    have hlt:k < (List.replicate k (yac q.yg + 1)++List.replicate (d + 1) (0:Int)).length:=by simp
    rw [zw,zcl]
    simp only
    rw [qg hk',qe rfl,yih hq (by omega),yx,hd,yoi hlt,yx,ygy (by omega),ybs (n:=yac q.yg + 1) (by omega)]
    have hs:ybl (List.replicate k (yac q.yg + 1)++List.replicate (d + 1) (0:Int)) (k:Int) (yac q.yg + 1) = List.replicate (k + 1) (yac q.yg + 1)++List.replicate (q.N.toNat - (k + 1)) 0:=by
      unfold ybl
      have e1:((k:Int)).toNat=k:=by omega
      have e2:q.N.toNat - (k + 1) = d:=by omega
      rw [e1,e2,yckf]
    rw [hs]
    exact ih (k + 1) n (by omega) (by omega) (by omega)
theorem yatu{n:Int}(h:0<=n/\n<=7):mkB n=true:=by
  unfold mkB
  have h1:n<=((yno:Nat):Int):=by unfold yno; omega
  rw [qg h.1,qg h1]
  rfl
theorem ybqg(h:OkR B r)(hB0:0<=B)(hB:B + 1<=1000000)(ho:out.length<=40):(if (mkB (yai r r.yc r.Id).N) = true then zw ⟨yai r r.yc r.Id,out⟩ ((((((yai r r.yc r.Id).N.toNat:Nat):Int)) - ((0:Int))).toNat + 1) (0:Int) (List.replicate (yai r r.yc r.Id).N.toNat (0:Int)) else none) = some ⟨(yco r).1,out++(yco r).2⟩:=by
  have hid:=h.id; have hn:=h.n
  have hN:(yai r r.yc r.Id).N=r.N:=rfl
  rw [hN,qe (yatu (by omega))]
  have hlp:=ybqh (q:=yai r r.yc r.Id) (out:=out) h.log hB (by rw [hN]; omega) _ 0 ((((r.N.toNat:Nat):Int) - 0).toNat + 1) rfl (jb _) (by rw [hN]; omega)
  simp only [List.replicate_zero,List.nil_append,Nat.sub_zero,hN] at hlp
  have hlp':zw ⟨yai r r.yc r.Id,out⟩ ((((r.N.toNat:Nat):Int) - 0).toNat + 1) 0 (List.replicate r.N.toNat 0) = zdc ⟨yai r r.yc r.Id,out⟩ (List.replicate r.N.toNat (yac (yai r r.yc r.Id).yg + 1)):=hlp
  rw [hlp']
  unfold zdc
  have ha:=ybjk (out:=out) (yux h hB0) hB rfl ho
  have ha':zeb ⟨⟨(yai r r.yc r.Id).Id,(yai r r.yc r.Id).N,(yai r r.yc r.Id).yc,(yai r r.yc r.Id).yan,3,(yai r r.yc r.Id).yak,(yai r r.yc r.Id).yg,(yai r r.yc r.Id).yl,(yai r r.yc r.Id).yaf,(yai r r.yc r.Id).yq,List.replicate r.N.toNat (yac (yai r r.yc r.Id).yg + 1),List.replicate (yai r r.yc r.Id).N.toNat 0,0,(yai r r.yc r.Id).yam⟩,out⟩ = some ⟨(yct (yft r) []).1,out++(yct (yft r) []).2⟩:=ha
  simp only
  rw [ha',yx]
  rfl
theorem ybaa(h:OkR B r)(hB0:0<=B)(hB:B + 1<=1000000)(ho:out.length<=40):zcd ⟨r,out⟩ = some ⟨(yco r).1,out++(yco r).2⟩:=by
  unfold zcd
  rw [yais,yx]
  exact ybqg h hB0 hB ho
theorem ybqf:zdd=zcd:=by
  have hl:∀ (q:yd) n v m,zav q n v m=zw q n v m:=by
    intro q n
    induction n with
    | zero=>intro v m; rfl
    | succ n ih=>
      intro v m
      rw [zav,zw,zfa,zcl]
      have:zav q n=zw q n:=by funext v m; exact ih v m
      rw [this]
      rfl
  funext m
  unfold zdd zcd
  have:zam=zck:=rfl
  rw [this]
  congr 1
  funext q
  rw [hl]
theorem yll(h:OkR B r)(hB0:0<=B):OkR (B + 1) (yas r):=by
  have hid:=h.id; have hn:=h.n; have ht:=h.term
  have hf:=yjj (h.mono (B':=B + 1) (by omega)) (t:=r.yc + 1) (l:=0) (by omega)
  refine { hf with clock:=⟨qh _,by show (0:Int)<=_; omega⟩,vote:=?_,gl:=?_,ga:=?_,na:=?_,ma:=?_ }
  .show 0<=r.Id/\r.Id<=7; omega
  .show (yfq r).length<=7; unfold yfq; rw [ydx]; simp; omega
  .intro _; show ((yfq r).length:Int) = r.N; unfold yfq; rw [ydx]; simp; omega
  .intro h; simp [yas] at h
  .intro h; simp [yas] at h
theorem yavg(h:OkR B r)(hB0:0<=B)(hB:B + 2<=1000000)(ho:out.length<=40):zep ⟨r,out⟩ = some ⟨(yea r).1,out++(yea r).2⟩:=by
  have hid:=h.id; have hn:=h.n; have ht:=h.term
  have hq:=yll h hB0
  unfold zep
  have hw:IntKind.i64.wrap (r.yc + 1) = r.yc + 1:=ybs (by omega)
  simp only
  rw [hw,yais,yx]
  have hN:(yai r (r.yc + 1) 0).N=r.N:=rfl
  simp only
  rw [hN,qe (yatu (by omega))]
  have hg:=yaft (r:={ yai r (r.yc + 1) 0 with yan:=r.Id,ym:=2,yu:=0,yq:=List.replicate r.N.toNat false }) (who:=r.Id) (out:=out) (by omega) (by simp; omega) (by simp; omega)
  have hg':zbl (yai r (r.yc + 1) 0).Id ⟨⟨(yai r (r.yc + 1) 0).Id,(yai r (r.yc + 1) 0).N,(yai r (r.yc + 1) 0).yc,(yai r (r.yc + 1) 0).Id,2,(yai r (r.yc + 1) 0).yak,(yai r (r.yc + 1) 0).yg,(yai r (r.yc + 1) 0).yl,(yai r (r.yc + 1) 0).yaf,List.replicate r.N.toNat false,(yai r (r.yc + 1) 0).Next,(yai r (r.yc + 1) 0).yaa,0,(yai r (r.yc + 1) 0).yam⟩,out⟩ = some (ydv (yfq r),⟨yas r,out⟩):=hg
  rw [← hN] at hg' ⊢
  rw [hg',yx]
  unfold yea
  cases hw:ydv (yfq r) with
  | true=>
    simp only [wl]
    rw [ybaa hq (by omega) (by omega) ho,yx]
  | false=>
    simp only [qr,wn]
    have hsl:OkG (B + 1) (yas r).yg:=hq.log
    rw [ycdy (r:=yas r) (by show 0<=r.N; omega) (by show r.N<=7; omega) hsl (by omega) ho,yx]
    rfl
theorem ybir:zev=zep:=rfl
theorem ycmj(draw:Int):zlz draw=some (ysp draw):=by
  unfold zlz ysp
  have h0:0<=IntKind.u64.wrap draw:=by
    simp only [IntKind.wrap,IntKind.signed,IntKind.bits]
    simp
    omega
  rw [Int.tmod_eq_emod_of_nonneg h0,ybs (n:=IntKind.u64.wrap draw % 10) (by omega),ybs (by omega)]
theorem ycmi(draw:Int):0<=ysp draw/\ysp draw<=20:=by unfold ysp; omega
theorem yrh(h:OkR B r)(hB0:0<=B)(draw:Int):OkR B (ygu r draw):=by
  have hid:=h.id; have hn:=h.n; have ht:=h.term
  have hf:=yjj h (t:=r.yc) (l:=0) (by omega)
  refine { hf with clock:=⟨qh _,hB0⟩,wait:=ycmi draw,gl:=?_,ga:=?_,na:=?_,ma:=?_ }
  .show (yfq r).length<=7; unfold yfq; rw [ydx]; simp; omega
  .intro _; show ((yfq r).length:Int) = r.N; unfold yfq; rw [ydx]; simp; omega
  .intro h; simp [ygu] at h
  .intro h; simp [ygu] at h
theorem ycng(h:OkR B r)(hB0:0<=B)(hB:B + 2<=1000000)(draw:Int)(ho:out.length<=40):zfz draw ⟨r,out⟩ = some ⟨(yhx r draw).1,out++(yhx r draw).2⟩:=by
  have hid:=h.id; have hn:=h.n; have ht:=h.term
  have hq:=yrh h hB0 draw
  unfold zfz
  simp only
  rw [ywa,yx,ycmj,yx]
  have hN:(yai r r.yc 0).N=r.N:=rfl
  simp only
  rw [hN,qe (yatu (by omega))]
  have hg:=yaft (r:={ yai r r.yc 0 with ym:=1,yu:=0,yam:=ysp draw,yq:=List.replicate r.N.toNat false }) (who:=r.Id) (out:=out) (by omega) (by simp; omega) (by simp; omega)
  have hg':zbl (yai r r.yc 0).Id ⟨⟨(yai r r.yc 0).Id,(yai r r.yc 0).N,(yai r r.yc 0).yc,(yai r r.yc 0).yan,1,(yai r r.yc 0).yak,(yai r r.yc 0).yg,(yai r r.yc 0).yl,(yai r r.yc 0).yaf,List.replicate r.N.toNat false,(yai r r.yc 0).Next,(yai r r.yc 0).yaa,0,ysp draw⟩,out⟩ = some (ydv (yfq r),⟨ygu r draw,out⟩):=hg
  rw [← hN] at hg' ⊢
  rw [hg',yx]
  unfold yhx
  cases hw:ydv (yfq r) with
  | true=>
    simp only [wl]
    rw [yavg hq hB0 hB ho,yx]
  | false=>
    simp only [qr,wn]
    have hsl:OkG B (ygu r draw).yg:=hq.log
    rw [ycdz (r:=ygu r draw) (by show 0<=r.N; omega) (by show r.N<=7; omega) hsl (by omega) (by have:=hq.term; omega) ho,yx]
    rfl
end
end Go.Proofs.Ytgoachcogmlhcaa.R
set_option maxRecDepth 100000
set_option linter.unusedVariables false
set_option linter.unusedSimpArgs false
noncomputable section
namespace Go.Proofs.Ytgoachcogmlhcaa.R
open Go
structure OkM (B:Int) (x:yj):Prop where
  term:0<=x.yc/\x.yc<=B
  at0:0<=x.At/\x.At<=B
  att:0<=x.ybf/\x.ybf<=B
  commit:0<=x.yl/\x.yl<=B
  el:x.yi.length<=8
  e:∀ y∈x.yi,OkE B y
  d:x.yck.length<=1000
  ate:x.At + (x.yi.length:Int)<=B
def ydr(r:ye)(x:yj)(kind term at0:Int)(ok:Bool):yj:=⟨kind,0,r.Id,x.From,term,at0,0,0,ok,[],[]⟩
def ybct(r:ye):Bool:=decide (r.ym≠3) && (decide (r.yak=0) || decide (10<=r.yu))
def ywy(r:ye)(x:yj):Bool:=decide (r.yc < x.yc) && (ybct r && ykb r.yg x.ybf x.At)
def ywz(r:ye)(x:yj):ye × List yj:=(r,[ydr r x 2 (if ywy r x=true then x.yc else r.yc) 0 (ywy r x)])
def ymq(r:ye)(x:yj):Bool:=decide (x.yc=r.yc) && (decide (r.ym=0) && ((decide (r.yan=0) || decide (r.yan=x.From)) && ykb r.yg x.ybf x.At))
def yjf(r:ye)(x:yj):ye × List yj:=if ymq r x=true then ({ r with yan:=x.From,yu:=0 },[ydr r x 4 r.yc 0 true]) else (r,[ydr r x 4 r.yc 0 false])
def yld(r:ye)(x:yj):Bool:=decide (x.yc < r.yc) || decide (r.ym=3)
def yec(r:ye)(x:yj):ye:={ yai r x.yc x.From with yu:=0 }
def yil(a b:Int):Int:=if a < b then b else a
def yim(a b:Int):Int:=if b < a then b else a
def yfo(r:ye)(x:yj):ye × List yj:=
  if yld r x=true then (r,[ydr r x 6 r.yc 0 false]) else
  let q:=yec r x
  let p:=yev r.yg x.At x.ybf x.yi
  if p.2.2=true then ({ q with yg:=p.1,yl:=yil r.yl (yim x.yl p.2.1) },[ydr q x 6 q.yc p.2.1 true]) else (q,[ydr q x 6 q.yc p.2.1 false])
def yky(r:ye)(x:yj):ye × List yj:=
  if yld r x=true then (r,[ydr r x 6 r.yc 0 false]) else
  let q:=yec r x
  if r.yl < x.At then ({ q with yg:=ykc r.yg x.At x.ybf,yl:=x.At,yaf:=x.yck },[ydr q x 6 q.yc x.At true]) else (q,[ydr q x 6 q.yc r.yl true])
def yar(r:ye)(to:Int):Int:=(r.yaa[(to - 1).toNat]?).getD 0
def yhh(r:ye)(x:yj):Int:=yil (yar r x.From) (yim x.At (yac r.yg))
def ykh(r:ye)(x:yj):Int:=yil (yax r x.From) (yhh r x + 1)
def yol(r:ye)(x:yj):Int:=yil (yar r x.From + 1) (yim (yax r x.From - 2) x.At + 1)
def ybe(r:ye)(x:yj):ye:=ybm { r with Next:=ybl r.Next (x.From - 1) (ykh r x),yaa:=ybl r.yaa (x.From - 1) (yhh r x) }
def yhq(r:ye)(x:yj):ye:={ r with Next:=ybl r.Next (x.From - 1) (yol r x) }
def yfx(r:ye)(x:yj):ye × List yj:=
  if x.yc < r.yc\/r.ym≠3 then (r,[]) else
  if x.Ok=true then (if yac r.yg < ykh r x then (ybe r x,[]) else (ybe r x,[ybj (ybe r x) x.From])) else (yhq r x,[ybj (yhq r x) x.From])
def yat(r:ye)(x:yj):ye:={ r with yq:=ybl r.yq (x.From - 1) true }
def yit(r:ye)(x:yj):ye × List yj:=
  if x.Ok=true/\r.ym=1/\x.yc=r.yc + 1 then (if ydv (yat r x).yq=true then yea (yat r x) else (yat r x,[])) else (r,[])
def ygb(r:ye)(x:yj):ye × List yj:=
  if x.Ok=true/\r.ym=2/\x.yc=r.yc then (if ydv (yat r x).yq=true then yco (yat r x) else (yat r x,[])) else (r,[])
def ydg(r:ye)(x:yj):Bool:=decide (x.To≠r.Id) || (decide (x.From < 1) || (decide (r.N < x.From) || (decide (x.From=r.Id) || (decide (x.yc < 0) || (decide (1099511627776 < x.yc) || decide (x.At < 0))))))
def yje(r:ye)(x:yj):Bool:=decide (r.yc < x.yc) && (decide (x.yae≠1) && (decide (x.yae≠2) || !x.Ok))
def ydq(r:ye)(x:yj):ye × List yj:=
  if x.yae=1 then ywz r x else if x.yae=2 then yit r x else if x.yae=3 then yjf r x else if x.yae=4 then ygb r x
  else if x.yae=5 then yfo r x else if x.yae=6 then yfx r x else if x.yae=7 then yky r x else (r,[])
def yaj(r:ye)(x:yj):ye × List yj:=
  if ydg r x=true then (r,[]) else if yje r x=true then ydq (yai r x.yc 0) x else ydq r x
def ycj(r:ye)(draw:Int):ye × List yj:=
  let q:={ r with yu:=r.yu + 1 }
  if r.ym=3 then (if 2<=r.yu + 1 then ({ r with yu:=0 },(yca r).map (ybj { r with yu:=0 })) else (q,[])) else if r.yam<=r.yu + 1 then yhx q draw else (q,[])
section
variable {B:Int} {r:ye} {x:yj} {out:List yj}
theorem yapg(h:OkR B r)(hB:B<=1000000):zjz r=some ⟨r,[]⟩:=by
  have h1:=h.snap; have h2:=h.gl; have h3:=h.nl; have h4:=h.ml
  unfold zjz zna
  rw [ynp h.log hB,yx,qe (ycs (by omega)),qe (ycs (by omega)),qe (ycs (by omega)),qe (ycs (by omega)),yx]
theorem ybuk(h:OkR B r)(hB:B<=1000000)(ho:out.length<=40):zeo x ⟨r,out⟩ = some ⟨(ywz r x).1,out++(ywz r x).2⟩:=by
  have k3:∀ ok t,zct x ⟨r,out⟩ ok t=some ⟨r,out++[ydr r x 2 t 0 ok]⟩:=by
    intro ok t
    unfold zct
    rw [yzm (by simp only; omega),yx]
    rfl
  have k2:∀ ok,zbz x ⟨r,out⟩ ok=some ⟨r,out++[ydr r x 2 (if ok=true then x.yc else r.yc) 0 ok]⟩:=by
    intro ok
    unfold zbz
    cases ok with
    | true=>simp only [wl]; exact k3 _ _
    | false=>simp only [qr,wn]; exact k3 _ _
  have k1:∀ f,zby x ⟨r,out⟩ f=some ⟨r,out++[ydr r x 2 (if (decide (r.yc < x.yc) && (f && ykb r.yg x.ybf x.At)) = true then x.yc else r.yc) 0 (decide (r.yc < x.yc) && (f && ykb r.yg x.ybf x.At))]⟩:=by
    intro f
    unfold zby
    simp only
    by_cases ht:r.yc < x.yc
    .rw [qg ht,qe rfl]
     cases f with
     | true=>
       rw [qe rfl,yyo h.log hB,yx,k2]
       simp
     | false=>rw [qc (by simp),k2]; simp
    .rw [qf ht,qc (by simp),k2]; simp
  unfold zeo ywz ywy ybct
  simp only
  by_cases h3:r.ym=3
  .simp only [h3,ne_eq,not_true_eq_false,decide_false,qr,wn]
   rw [k1]
   simp
  .simp only [h3,ne_eq,not_false_eq_true,decide_true,wl]
   by_cases hl:r.yak=0
   .rw [qg hl,qe rfl,k1]; simp
   .rw [qf hl,qc (by simp),k1]; simp
theorem ycmh(h:OkR B r)(hB:B<=1000000)(ho:out.length<=40):zfj x ⟨r,out⟩ = some ⟨(yjf r x).1,out++(yjf r x).2⟩:=by
  have k1:∀ ok,zag x ⟨r,out⟩ ok=some (if ok=true then ⟨{ r with yan:=x.From,yu:=0 },out++[ydr r x 4 r.yc 0 true]⟩ else ⟨r,out++[ydr r x 4 r.yc 0 false]⟩):=by
    intro ok
    unfold zag zfk
    cases ok with
    | true=>simp only [wl]; rw [yzm (by simp only; omega),yx]; rfl
    | false=>simp only [qr,wn]; rw [yzm (by simp only; omega),yx]; rfl
  have fin:∀ ok,ok=ymq r x->zag x ⟨r,out⟩ ok=some ⟨(yjf r x).1,out++(yjf r x).2⟩:=by
    intro ok he
    rw [k1,he]
    unfold yjf
    cases ymq r x <;> simp
  unfold zfj
  simp only
  by_cases h1:x.yc=r.yc
  .rw [qg h1,qe rfl]
   by_cases h2:r.ym=0
   .rw [qg h2,qe rfl]
    by_cases h3:r.yan=0
    .rw [qg h3,qe rfl,yyo h.log hB,yx]
     exact fin _ (by simp [ymq,h1,h2,h3])
    .rw [qf h3,qc (by simp)]
     by_cases h4:r.yan=x.From
     .rw [qg h4,qe rfl,yyo h.log hB,yx]
      exact fin _ (by simp [ymq,h1,h2,h4])
     .rw [qf h4,qc (by simp)]
      exact fin _ (by simp [ymq,h3,h4])
   .rw [qf h2,qc (by simp)]
    exact fin _ (by simp [ymq,h2])
  .rw [qf h1,qc (by simp)]
   exact fin _ (by simp [ymq,h1])
theorem yayo(ho:out.length<=40):zff x ⟨r,out⟩ = some (if yld r x=true then (false,⟨r,out++[ydr r x 6 r.yc 0 false]⟩) else (true,⟨yec r x,out⟩)):=by
  have k1:∀ v,zdb x ⟨r,out⟩ v=some (if v=true then (false,⟨r,out++[ydr r x 6 r.yc 0 false]⟩) else (true,⟨yec r x,out⟩)):=by
    intro v
    unfold zdb
    cases v with
    | true=>simp only [wl]; rw [yzm (by simp only; omega),yx]; rfl
    | false=>simp only [qr,wn]; rw [ywa,yx]; rfl
  unfold zff yld
  simp only
  by_cases h1:x.yc < r.yc
  .rw [qg h1,qe rfl,k1]; simp
  .rw [qf h1,qc (by simp),k1]; simp
theorem ybcn(h:OkR B r)(hB:B<=1000000)(hx:OkM B x)(ho:out.length<=40):zda x ⟨r,out⟩ = some ⟨(yfo r x).1,out++(yfo r x).2⟩:=by
  have hx1:=hx.at0; have hx2:=hx.el
  unfold zda yfo
  rw [yayo ho,yx]
  cases hd:yld r x with
  | true=>simp
  | false=>
    simp only [qr,wn,wl]
    have hlog:(yec r x).yg=r.yg:=rfl
    have hcm:(yec r x).yl=r.yl:=rfl
    rw [hlog,ybyk h.log hB (by omega) (by omega) fun y hy=>(hx.e y hy).d,yx]
    cases hp:(yev r.yg x.At x.ybf x.yi).2.2 with
    | true=>
      simp only [wl]
      unfold zcb
      rw [yzn (by simp only; omega),yx]
      simp only [hcm,yil,yim,ydr]
      rfl
    | false=>
      simp only [qr,wn]
      unfold zcb
      rw [yzn (by simp only; omega),yx]
      rfl
theorem yclc(h:OkR B r)(hB:B<=1000000)(hx:OkM B x)(ho:out.length<=40):zfg x ⟨r,out⟩ = some ⟨(yky r x).1,out++(yky r x).2⟩:=by
  have hx1:=hx.at0; have hx2:=hx.d
  unfold zfg yky
  rw [yayo ho,yx]
  cases hd:yld r x with
  | true=>simp
  | false=>
    simp only [qr,wn,wl]
    have hlog:(yec r x).yg=r.yg:=rfl
    have hcm:(yec r x).yl=r.yl:=rfl
    rw [hcm]
    by_cases hc:r.yl < x.At
    .rw [qg hc,qe rfl,qe hc,hlog,ybhi h.log hB (by omega),yx,qe (ycs (by omega))]
     unfold zdg
     rw [yzn (by simp only; omega),yx]
     rfl
    .rw [qf hc,qc (by simp),qc hc]
     unfold zdg
     rw [yzn (by simp only; omega),yx]
     rfl
theorem yyq(h:OkR B r)(h3:r.ym=3){to:Int}(h1:1<=to)(h2:to<=r.N):ydd r.yaa (to - 1) = some (yar r to)/\0<=yar r to/\yar r to<=B:=by
  have hlt:(to - 1).toNat < r.yaa.length:=by have:=h.ma h3; omega
  unfold yar
  rw [ykt (by omega),qj hlt]
  exact ⟨rfl,h.mb _ (jd hlt)⟩
theorem yasg{l:List Int}{i:Int}{v:Int}(h0:0<=i)(h1:i.toNat < l.length):ydd (ybl l i v) i=some v:=by
  rw [ykt h0,ybl]
  simp [h1]
theorem yanf(h:OkR B r)(h3:r.ym=3)(hx:OkM B x)(h1:1<=x.From)(h2:x.From<=r.N):0<=yhh r x/\yhh r x<=B:=by
  obtain ⟨_,m1,m2⟩:=yyq h h3 h1 h2
  have hx1:=hx.at0
  have hl:=h.log.last; have hb:=h.log.b
  unfold yhh yil yim yac
  split <;> split at * <;> omega
theorem ycmd(h:OkR B r)(h3:r.ym=3)(hx:OkM B x)(h1:1<=x.From)(h2:x.From<=r.N):1<=ykh r x/\ykh r x<=B + 1:=by
  obtain ⟨_,n1,n2⟩:=yub (h.tell h3) h1 h2
  have:=yanf h h3 hx h1 h2
  unfold ykh yil
  split <;> omega
theorem ycmc(h:OkR B r)(h3:r.ym=3)(hx:OkM B x)(h1:1<=x.From)(h2:x.From<=r.N):1<=yol r x/\yol r x<=B + 1:=by
  obtain ⟨_,n1,n2⟩:=yub (h.tell h3) h1 h2
  obtain ⟨_,m1,m2⟩:=yyq h h3 h1 h2
  have hx1:=hx.at0
  unfold yol yil yim
  split <;> split at * <;> omega
theorem yahh(h:OkR B r)(h3:r.ym=3)(hx:OkM B x)(h1:1<=x.From)(h2:x.From<=r.N):OkR B { r with Next:=ybl r.Next (x.From - 1) (ykh r x),yaa:=ybl r.yaa (x.From - 1) (yhh r x) }:=by
  have a1:=yanf h h3 hx h1 h2; have a2:=ycmd h h3 hx h1 h2
  refine { h with nl:=?_,ml:=?_,na:=?_,ma:=?_,nb:=?_,mb:=?_ }
  .show (ybl r.Next _ _).length<=7; rw [ydx]; exact h.nl
  .show (ybl r.yaa _ _).length<=7; rw [ydx]; exact h.ml
  .intro h; show ((ybl r.Next _ _).length:Int) = r.N; rw [ydx]; exact OkR.na (B:=B) (by assumption) h3
  .intro h; show ((ybl r.yaa _ _).length:Int) = r.N; rw [ydx]; exact OkR.ma (B:=B) (by assumption) h3
  .intro y hy; rcases yru hy with rfl | hy
   .exact a2
   .exact h.nb y hy
  .intro y hy; rcases yru hy with rfl | hy
   .exact a1
   .exact h.mb y hy
theorem yahm(h:OkR B r)(h3:r.ym=3)(hx:OkM B x)(h1:1<=x.From)(h2:x.From<=r.N):OkR B (ybe r x):=yst (yahh h h3 hx h1 h2) h3
theorem yahl(h:OkR B r)(h3:r.ym=3)(hx:OkM B x)(h1:1<=x.From)(h2:x.From<=r.N):OkR B (yhq r x):=by
  have a2:=ycmc h h3 hx h1 h2
  refine { h with nl:=?_,na:=?_,nb:=?_ }
  .show (ybl r.Next _ _).length<=7; rw [ydx]; exact h.nl
  .intro h; show ((ybl r.Next _ _).length:Int) = r.N; rw [ydx]; exact OkR.na (B:=B) (by assumption) h3
  .intro y hy; rcases yru hy with rfl | hy
   .exact a2
   .exact h.nb y hy
theorem ygi:(ybm r).yg=r.yg:=by unfold ybm; split <;> rfl
theorem yqf:(ybm r).Next=r.Next:=by unfold ybm; split <;> rfl
theorem ycme(h:OkR B r)(hB:B<=1000000)(hx:OkM B x)(h1:1<=x.From)(h2:x.From<=r.N)(ho:out.length<=40):zfi x ⟨r,out⟩ = some ⟨(yfx r x).1,out++(yfx r x).2⟩:=by
  have hx1:=hx.at0
  have hn:=h.n
  have kf:∀ v,v=false->r.ym=3->¬ x.yc < r.yc->zbm x ⟨r,out⟩ v=some ⟨(yfx r x).1,out++(yfx r x).2⟩:=by
    intro v hv h3 ht
    subst hv
    obtain ⟨a1,a2,a3⟩:=yub (h.tell h3) h1 h2
    obtain ⟨b1,b2,b3⟩:=yyq h h3 h1 h2
    have c1:=yanf h h3 hx h1 h2
    have hltn:(x.From - 1).toNat < r.Next.length:=by have:=h.na h3; omega
    have hltm:(x.From - 1).toNat < r.yaa.length:=by have:=h.ma h3; omega
    unfold zbm yfx
    simp only
    have hnot:¬ (x.yc < r.yc\/r.ym≠3):=by
      rintro (h | h)
      .exact ht h
      .exact h h3
    rw [qc hnot,qc (show ¬ (false=true) by simp),ybs (n:=x.From - 1) (by omega)]
    cases hok:x.Ok with
    | true=>
      simp only [wl]
      rw [b1,yx,yih h.log hB,yx,a1,yx]
      have em:(if yar r x.From < (if yac r.yg < x.At then yac r.yg else x.At) then (if yac r.yg < x.At then yac r.yg else x.At) else yar r x.From) = yhh r x:=rfl
      rw [em,yasg (by omega) hltm,yx,ybs (n:=yhh r x + 1) (by omega)]
      have en:(if yax r x.From < yhh r x + 1 then yhh r x + 1 else yax r x.From) = ykh r x:=rfl
      rw [en]
      have hc:=ybcf (out:=out) (yahh h h3 hx h1 h2) hB h3
      have hc':zef ⟨⟨r.Id,r.N,r.yc,r.yan,r.ym,r.yak,r.yg,r.yl,r.yaf,r.yq,ybl r.Next (x.From - 1) (ykh r x),ybl r.yaa (x.From - 1) (yhh r x),r.yu,r.yam⟩,out⟩ = some ⟨ybe r x,out⟩:=hc
      have hnx:(ybe r x).Next=ybl r.Next (x.From - 1) (ykh r x):=yqf
      have hlg:(ybe r x).yg=r.yg:=ygi
      rw [hc',yx]
      simp only
      rw [hnx,yasg (by omega) hltn,yx,hlg,yih h.log hB,yx]
      by_cases hl:yac r.yg < ykh r x
      .rw [qg hl,qe rfl,qe hl]
       simp
      .rw [qf hl,qc (by simp),qc hl]
       unfold zdi
       have hq:=yahm h h3 hx h1 h2
       have hr3:(ybe r x).ym=3:=by unfold ybe; rw [yer]; exact h3
       have hN:(ybe r x).N=r.N:=yfn
       have ht2:=ybbc (out:=out) (hq.tell hr3) hB h1 (by rw [hN]; exact h2) (by omega)
       have ht3:zfh x.From ⟨⟨(ybe r x).Id,(ybe r x).N,(ybe r x).yc,(ybe r x).yan,(ybe r x).ym,(ybe r x).yak,⟨(ybe r x).yg.yn,(ybe r x).yg.yv,(ybe r x).yg.yi⟩,(ybe r x).yl,(ybe r x).yaf,(ybe r x).yq,(ybe r x).Next,(ybe r x).yaa,(ybe r x).yu,(ybe r x).yam⟩,out⟩ = some ⟨ybe r x,out++[ybj (ybe r x) x.From]⟩:=ht2
       rw [hnx,hlg] at ht3
       rw [ht3,yx]
    | false=>
      simp only [qr,wn]
      rw [b1,yx,a1,yx,ybs (n:=yax r x.From - 2) (by omega),ybs (n:=yar r x.From + 1) (by omega)]
      have ew:IntKind.i64.wrap ((if x.At < yax r x.From - 2 then x.At else yax r x.From - 2) + 1) = yim (yax r x.From - 2) x.At + 1:=by
        unfold yim
        rw [ybs (by split <;> omega)]
      rw [ew]
      have en:(if yar r x.From + 1 < yim (yax r x.From - 2) x.At + 1 then yim (yax r x.From - 2) x.At + 1 else yar r x.From + 1) = yol r x:=rfl
      rw [en]
      unfold zdi
      have hq:=yahl h h3 hx h1 h2
      have ht2:=ybbc (out:=out) (hq.tell h3) hB h1 h2 (by omega)
      have ht3:zfh x.From ⟨⟨r.Id,r.N,r.yc,r.yan,r.ym,r.yak,⟨r.yg.yn,r.yg.yv,r.yg.yi⟩,r.yl,r.yaf,r.yq,ybl r.Next (x.From - 1) (yol r x),r.yaa,r.yu,r.yam⟩,out⟩ = some ⟨yhq r x,out++[ybj (yhq r x) x.From]⟩:=ht2
      rw [ht3,yx]
  have kt:(x.yc < r.yc\/r.ym≠3)->zbm x ⟨r,out⟩ true=some ⟨(yfx r x).1,out++(yfx r x).2⟩:=by
    intro hh
    unfold zbm yfx
    rw [qe rfl,qe hh]
    simp
  unfold zfi
  simp only
  by_cases ht:x.yc < r.yc
  .rw [qg ht,qe rfl]; exact kt (.inl ht)
  .rw [qf ht,qc (by simp)]
   by_cases h3:r.ym=3
   .exact kf _ (by simp [h3]) h3 ht
   .have:decide (r.ym≠3) = true:=by simp [h3]
    rw [this]; exact kt (.inr h3)
end
end Go.Proofs.Ytgoachcogmlhcaa.R
set_option maxRecDepth 100000
set_option linter.unusedVariables false
set_option linter.unusedSimpArgs false
noncomputable section
namespace Go.Proofs.Ytgoachcogmlhcaa.R
open Go
section
variable {B:Int} {r:ye} {x:yj}
theorem yfr(h:OkR B r)(v:Bool):OkR B (yat r x):=by
  refine { h with gl:=?_,ga:=?_ }
  .show (ybl r.yq _ _).length<=7; rw [ydx]; exact h.gl
  .intro hr; show ((ybl r.yq _ _).length:Int) = r.N; rw [ydx]; exact h.ga hr
theorem ybbb(h:OkR B r)(hB0:0<=B)(hB:B + 2<=1000000)(hx:OkM B x)(h1:1<=x.From)(h2:x.From<=r.N) :
    zfy x r.Id r.N r.yc r.yan r.ym r.yak r.yg.yn r.yg.yv r.yl r.yu r.yam r.yg.yi r.yaf r.yq r.Next r.yaa [] = some (ydq r x):=by
  have ht:=h.term
  unfold zfy ydq
  by_cases k1:x.yae=1
  .have ha:zeo x ⟨⟨r.Id,r.N,r.yc,r.yan,r.ym,r.yak,⟨r.yg.yn,r.yg.yv,r.yg.yi⟩,r.yl,r.yaf,r.yq,r.Next,r.yaa,r.yu,r.yam⟩,[]⟩ = some ⟨(ywz r x).1,[]++(ywz r x).2⟩:=ybuk h (by omega) (by simp)
   rw [qg k1,qe rfl,qe k1,ha,yx]; rfl
  rw [qf k1,qc (show ¬ (false=true) by simp),qc k1]
  by_cases k2:x.yae=2
  .rw [qg k2,qe (show true=true from rfl),qe k2]
   unfold yit
   have kf:zcv false r.Id r.N r.yc r.yan r.ym r.yak r.yg.yn r.yg.yv r.yl r.yu r.yam r.yg.yi r.yaf r.yq r.Next r.yaa [] = some (r,[]):=rfl
   by_cases a1:x.Ok=true
   .rw [qe a1]
    by_cases a2:r.ym=1
    .rw [qg a2,qe (show true=true from rfl),ybs (by omega)]
     by_cases a3:x.yc=r.yc + 1
     .have hgl:(r.yq.length:Int) = r.N:=h.ga (.inl a2)
      have hg:zca x.From ⟨⟨r.Id,r.N,r.yc,r.yan,r.ym,r.yak,⟨r.yg.yn,r.yg.yv,r.yg.yi⟩,r.yl,r.yaf,r.yq,r.Next,r.yaa,r.yu,r.yam⟩,[]⟩ = some (ydv (yat r x).yq,⟨yat r x,[]⟩):=yaoa (r:=r) h1 (by omega) h.gl
      rw [qg a3,qe (show true=true from rfl),qe ⟨a1,a2,a3⟩,hg,yx]
      unfold zcv
      simp only
      cases hw:ydv (yat r x).yq with
      | true=>
        have hs:zev ⟨⟨(yat r x).Id,(yat r x).N,(yat r x).yc,(yat r x).yan,(yat r x).ym,(yat r x).yak,⟨(yat r x).yg.yn,(yat r x).yg.yv,(yat r x).yg.yi⟩,(yat r x).yl,(yat r x).yaf,(yat r x).yq,(yat r x).Next,(yat r x).yaa,(yat r x).yu,(yat r x).yam⟩,[]⟩ = some ⟨(yea (yat r x)).1,[]++(yea (yat r x)).2⟩:=by
          rw [ybir]; exact yavg (yfr h true) hB0 hB (by simp)
        rw [qe rfl,qe rfl,hs,yx]; rfl
      | false=>rfl
     .have:¬ (x.Ok=true/\r.ym=1/\x.yc=r.yc + 1):=fun hh=>a3 hh.2.2
      rw [qf a3,qc (show ¬ (false=true) by simp),qc this]; rfl
    .have:¬ (x.Ok=true/\r.ym=1/\x.yc=r.yc + 1):=fun hh=>a2 hh.2.1
     rw [qf a2,qc (show ¬ (false=true) by simp),qc this]; rfl
   .have:¬ (x.Ok=true/\r.ym=1/\x.yc=r.yc + 1):=fun hh=>a1 hh.1
    rw [qc a1,qc this]; rfl
  rw [qf k2,qc (show ¬ (false=true) by simp),qc k2]
  by_cases k3:x.yae=3
  .have ha:zfj x ⟨⟨r.Id,r.N,r.yc,r.yan,r.ym,r.yak,⟨r.yg.yn,r.yg.yv,r.yg.yi⟩,r.yl,r.yaf,r.yq,r.Next,r.yaa,r.yu,r.yam⟩,[]⟩ = some ⟨(yjf r x).1,[]++(yjf r x).2⟩:=ycmh h (by omega) (by simp)
   rw [qg k3,qe (show true=true from rfl),qe k3,ha,yx]; rfl
  rw [qf k3,qc (show ¬ (false=true) by simp),qc k3]
  by_cases k4:x.yae=4
  .rw [qg k4,qe (show true=true from rfl),qe k4]
   unfold ygb
   by_cases a1:x.Ok=true
   .rw [qe a1]
    by_cases a2:r.ym=2
    .rw [qg a2,qe (show true=true from rfl)]
     by_cases a3:x.yc=r.yc
     .have hgl:(r.yq.length:Int) = r.N:=h.ga (.inr a2)
      have hg:zca x.From ⟨⟨r.Id,r.N,r.yc,r.yan,r.ym,r.yak,⟨r.yg.yn,r.yg.yv,r.yg.yi⟩,r.yl,r.yaf,r.yq,r.Next,r.yaa,r.yu,r.yam⟩,[]⟩ = some (ydv (yat r x).yq,⟨yat r x,[]⟩):=yaoa (r:=r) h1 (by omega) h.gl
      rw [qg a3,qe (show true=true from rfl),qe ⟨a1,a2,a3⟩,hg,yx]
      unfold zei
      simp only
      cases hw:ydv (yat r x).yq with
      | true=>
        have hs:zdd ⟨⟨(yat r x).Id,(yat r x).N,(yat r x).yc,(yat r x).yan,(yat r x).ym,(yat r x).yak,⟨(yat r x).yg.yn,(yat r x).yg.yv,(yat r x).yg.yi⟩,(yat r x).yl,(yat r x).yaf,(yat r x).yq,(yat r x).Next,(yat r x).yaa,(yat r x).yu,(yat r x).yam⟩,[]⟩ = some ⟨(yco (yat r x)).1,[]++(yco (yat r x)).2⟩:=by
          rw [ybqf]; exact ybaa (yfr h true) hB0 (by omega) (by simp)
        rw [qe rfl,qe rfl,hs,yx]; rfl
      | false=>rfl
     .have:¬ (x.Ok=true/\r.ym=2/\x.yc=r.yc):=fun hh=>a3 hh.2.2
      rw [qf a3,qc (show ¬ (false=true) by simp),qc this]; rfl
    .have:¬ (x.Ok=true/\r.ym=2/\x.yc=r.yc):=fun hh=>a2 hh.2.1
     rw [qf a2,qc (show ¬ (false=true) by simp),qc this]; rfl
   .have:¬ (x.Ok=true/\r.ym=2/\x.yc=r.yc):=fun hh=>a1 hh.1
    rw [qc a1,qc this]; rfl
  rw [qf k4,qc (show ¬ (false=true) by simp),qc k4]
  by_cases k5:x.yae=5
  .have ha:zda x ⟨⟨r.Id,r.N,r.yc,r.yan,r.ym,r.yak,⟨r.yg.yn,r.yg.yv,r.yg.yi⟩,r.yl,r.yaf,r.yq,r.Next,r.yaa,r.yu,r.yam⟩,[]⟩ = some ⟨(yfo r x).1,[]++(yfo r x).2⟩:=ybcn h (by omega) hx (by simp)
   rw [qg k5,qe (show true=true from rfl),qe k5,ha,yx]; rfl
  rw [qf k5,qc (show ¬ (false=true) by simp),qc k5]
  by_cases k6:x.yae=6
  .have ha:zfi x ⟨⟨r.Id,r.N,r.yc,r.yan,r.ym,r.yak,⟨r.yg.yn,r.yg.yv,r.yg.yi⟩,r.yl,r.yaf,r.yq,r.Next,r.yaa,r.yu,r.yam⟩,[]⟩ = some ⟨(yfx r x).1,[]++(yfx r x).2⟩:=ycme h (by omega) hx h1 h2 (by simp)
   rw [qg k6,qe (show true=true from rfl),qe k6,ha,yx]; rfl
  rw [qf k6,qc (show ¬ (false=true) by simp),qc k6]
  by_cases k7:x.yae=7
  .have ha:zfg x ⟨⟨r.Id,r.N,r.yc,r.yan,r.ym,r.yak,⟨r.yg.yn,r.yg.yv,r.yg.yi⟩,r.yl,r.yaf,r.yq,r.Next,r.yaa,r.yu,r.yam⟩,[]⟩ = some ⟨(yky r x).1,[]++(yky r x).2⟩:=yclc h (by omega) hx (by simp)
   rw [qg k7,qe (show true=true from rfl),qe k7,ha,yx]; rfl
  rw [qf k7,qc (show ¬ (false=true) by simp),qc k7]
  rfl
theorem yakl(h:OkR B r)(hB0:0<=B)(hB:B + 2<=1000000)(hx:OkM B x):zjt r x=some (yaj r x):=by
  have kt:∀ v,v=ydg r x->zbb x ⟨r,[]⟩ v=some (yaj r x):=by
    intro v hv
    unfold zbb yaj
    rw [← hv]
    cases v with
    | true=>rfl
    | false=>
      have hv:=hv.symm
      unfold ydg at hv
      simp only [js,jk] at hv
      have h1:1<=x.From:=by omega
      have h2:x.From<=r.N:=by omega
      simp only [qr,wn]
      have kk:∀ w,w=yje r x->zcu x ⟨r,[]⟩ w=some (if yje r x=true then ydq (yai r x.yc 0) x else ydq r x):=by
        intro w hw
        unfold zcu
        rw [← hw]
        cases w with
        | true=>
          simp only [wl]
          rw [ywa,yx]
          exact ybbb (yjj h hx.term.2) hB0 hB hx h1 h2
        | false=>
          simp only [qr,wn]
          exact ybbb h hB0 hB hx h1 h2
      by_cases t1:r.yc < x.yc
      .rw [qg t1,qe rfl]
       by_cases t2:x.yae=1
       .have e:decide (x.yae≠1) = false:=by simp [t2]
        rw [e,qc (by simp)]
        exact kk _ (by simp [yje,t2])
       .have e:decide (x.yae≠1) = true:=by simp [t2]
        rw [e,qe rfl]
        by_cases t3:x.yae=2
        .have e:decide (x.yae≠2) = false:=by simp [t3]
         rw [e,qc (by simp)]
         exact kk _ (by simp [yje,t1,t3])
        .have e:decide (x.yae≠2) = true:=by simp [t3]
         rw [e,qe rfl]
         exact kk _ (by simp [yje,t1,t2,t3])
      .rw [qf t1,qc (by simp)]
       exact kk _ (by simp [yje,t1])
  unfold zjt
  rw [yapg h (by omega),yx]
  simp only
  by_cases a1:x.To=r.Id
  .have e:decide (x.To≠r.Id) = false:=by simp [a1]
   rw [e,qc (by simp)]
   by_cases a2:x.From < 1
   .rw [qg a2,qe rfl]; exact kt _ (by simp [ydg,a2])
   rw [qf a2,qc (by simp)]
   by_cases a3:r.N < x.From
   .rw [qg a3,qe rfl]; exact kt _ (by simp [ydg,a3])
   rw [qf a3,qc (by simp)]
   by_cases a4:x.From=r.Id
   .rw [qg a4,qe rfl]; exact kt _ (by simp [ydg,a4])
   rw [qf a4,qc (by simp)]
   by_cases a5:x.yc < 0
   .rw [qg a5,qe rfl]; exact kt _ (by simp [ydg,a5])
   rw [qf a5,qc (by simp)]
   by_cases a6:1099511627776 < x.yc
   .rw [qg a6,qe rfl]; exact kt _ (by simp [ydg,a6])
   rw [qf a6,qc (by simp)]
   exact kt _ (by simp [ydg,a1,a2,a3,a4,a5,a6])
  .have e:decide (x.To≠r.Id) = true:=by simp [a1]
   rw [e,qe rfl]; exact kt _ (by simp [ydg,a1])
theorem ypm(h:OkR B r):OkR (B + 1) { r with yu:=r.yu + 1 }:=by
  have hc:=h.clock
  have hm:=h.mono (B':=B + 1) (by omega)
  exact { hm with clock:=⟨by show 0<=r.yu + 1; omega,by show r.yu + 1<=B + 1; omega⟩ }
theorem yahd(h:OkR B r)(hB0:0<=B):OkR B { r with yu:=0 }:={ h with clock:=⟨qh _,hB0⟩ }
theorem ybbd(h:OkR B r)(hB0:0<=B)(hB:B + 3<=1000000)(draw:Int):zly r draw=some (ycj r draw):=by
  have hc:=h.clock
  have hw:IntKind.i64.wrap (r.yu + 1) = r.yu + 1:=ybs (by omega)
  unfold zly ycj
  rw [yapg h (by omega),yx]
  simp only
  unfold zju
  by_cases h3:r.ym=3
  .rw [qg h3,qe rfl,qe h3]
   simp only [hw]
   by_cases h2:2<=r.yu + 1
   .have ha:zhk ⟨⟨r.Id,r.N,r.yc,r.yan,r.ym,r.yak,r.yg,r.yl,r.yaf,r.yq,r.Next,r.yaa,0,r.yam⟩,[]⟩ = some ⟨{ r with yu:=0 },[]++(yca { r with yu:=0 }).map (ybj { r with yu:=0 })⟩:=ycnc ((yahd h hB0).tell h3) (by omega) (by simp)
    rw [qg h2,qe rfl,qe h2,ha,yx]; rfl
   .rw [qf h2,qc (show ¬ (false=true) by simp),qc h2]
    have e:decide (r.ym≠3) = false:=by simp [h3]
    rw [e,qc (show ¬ (false=true) by simp)]
    unfold zif
    simp only [hw]
    rfl
  .rw [qf h3,qc (show ¬ (false=true) by simp),qc h3,qc (show ¬ (false=true) by simp)]
   have e:decide (r.ym≠3) = true:=by simp [h3]
   simp only [hw]
   rw [e,qe (show true=true from rfl)]
   unfold zif
   simp only [hw]
   by_cases hwt:r.yam<=r.yu + 1
   .have ha:zfz draw ⟨⟨r.Id,r.N,r.yc,r.yan,r.ym,r.yak,r.yg,r.yl,r.yaf,r.yq,r.Next,r.yaa,r.yu + 1,r.yam⟩,[]⟩ = some ⟨(yhx { r with yu:=r.yu + 1 } draw).1,[]++(yhx { r with yu:=r.yu + 1 } draw).2⟩:=ycng (ypm h) (by omega) (by omega) draw (by simp)
    rw [qg hwt,qe rfl,qe hwt,ha,yx]; rfl
   .rw [qf hwt,qc (show ¬ (false=true) by simp),qc hwt]; rfl
theorem ybhq(h:OkR B r)(hB:B + 1<=1000000){data:List Int}(hd:data.length<=1000):zjs r data=some (if r.ym=3 then ((yct r data).1,yac (yct r data).1.yg,(yct r data).2,0) else (r,0,[],15)):=by
  unfold zjs
  rw [yapg h (by omega),yx]
  simp only
  by_cases h3:r.ym=3
  .have e:decide (r.ym≠3) = false:=by simp [h3]
   have hl:(yct r data).1.yg=(ydf r data).yg:=ygi
   have hq:=(yst (yvr h h3 hd) h3).log
   rw [e,qc (by simp),qe h3,ybbr h hB h3 hd (by simp),yx]
   show bnd (some ((yct r data).1,[]++(yct r data).2)) _=_
   rw [yx]
   simp only
   have hlast:zaf (yct r data).1.yg=some (yac (yct r data).1.yg):=yih hq hB
   rw [hlast,yx]
   simp
  .have e:decide (r.ym≠3) = true:=by simp [h3]
   rw [e,qe rfl,qc h3]
def yiw(r:ye)(upto:Int):Bool:=decide (r.yg.yn < upto) && (decide (upto<=r.yl) && (ycz r.yg upto).isSome)
def yjv(r:ye)(upto:Int)(snap:List Int):ye:={ r with yg:=yix r.yg upto,yaf:=snap }
theorem ybci(h:OkR B r)(hB:B<=1000000){upto:Int}(hu : -1000000<=upto/\upto<=1000000){snap:List Int}(hs:snap.length<=1000):zjr r upto snap=some (if yiw r upto=true then (yjv r upto snap,0) else (r,2)):=by
  have kk:∀ v,zfx upto snap ⟨r,[]⟩ v=some (if v=false/\(ycz r.yg upto).isSome=true then (yjv r upto snap,0) else (r,2)):=by
    intro v
    unfold zfx
    cases v with
    | true=>simp
    | false=>
      simp only [qr,wn]
      rw [yabl h.log hB (by omega),yx]
      cases ht:ycz r.yg upto with
      | none=>simp
      | some t=>
        simp only [Option.isSome_some,wl]
        rw [qc (by simp),qe (ycs (by omega))]
        simp [yjv]
  unfold zjr
  rw [yapg h hB,yx]
  simp only
  by_cases h1:upto<=r.yg.yn
  .have:¬ r.yg.yn < upto:=by omega
   rw [qg h1,qe rfl,kk]
   simp [yiw,this]
  .have h1':r.yg.yn < upto:=by omega
   rw [qf h1,qc (by simp),kk]
   by_cases h2:r.yl < upto
   .have:¬ upto<=r.yl:=by omega
    simp [yiw,h2,this]
   .have:upto<=r.yl:=by omega
    simp [yiw,h2,this,h1']
end
end Go.Proofs.Ytgoachcogmlhcaa.R
set_option maxRecDepth 100000
set_option linter.unusedVariables false
set_option linter.unusedSimpArgs false
noncomputable section
namespace Go.Proofs.Ytgoachcogmlhcaa.R
open Go
theorem you{id:Int}:∀ {k:Nat} {a to:Int},to∈yga id k a->a<=to/\to < a + k/\to≠id
  | 0,a,to,h=>by simp [yga] at h
  | k + 1,a,to,h=>by
    unfold yga at h
    split at h
    .rename_i hn
     rcases wt.1 h with rfl | h
     .exact ⟨qh _,by omega,hn⟩
     .have:=you h; omega
    .have:=you h; omega
theorem ysi{id:Int}:∀ (k:Nat) (a:Int),(yga id k a).length<=k
  | 0,a=>by simp [yga]
  | k + 1,a=>by
    unfold yga
    split
    .have:=ysi (id:=id) k (a + 1); simp; omega
    .have:=ysi (id:=id) k (a + 1); omega
structure ykw (B:Int) (r:ye) (p:ye × List yj):Prop where
  ok:OkR B p.1
  id:p.1.Id=r.Id
  n:p.1.N=r.N
  len:p.2.length<=7
  msg:∀ y∈p.2,OkM B y/\y.From=r.Id
section
variable {B:Int} {r:ye} {x:yj}
theorem OkM.mono{B':Int}(h:OkM B x)(hb:B<=B'):OkM B' x:=
  ⟨⟨h.term.1,by have:=h.term.2; omega⟩,⟨h.at0.1,by have:=h.at0.2; omega⟩,⟨h.att.1,by have:=h.att.2; omega⟩,⟨h.commit.1,by have:=h.commit.2; omega⟩,h.el,fun y hy=>(h.e y hy).mono hb,h.d,by have:=h.ate; omega⟩
theorem ykw.mono{B':Int}{p:ye × List yj}(h:ykw B r p)(hb:B<=B'):ykw B' r p:=⟨h.ok.mono hb,h.id,h.n,h.len,fun y hy=>⟨(h.msg y hy).1.mono hb,(h.msg y hy).2⟩⟩
theorem ygl(h:OkR B r){to:Int}(ht:to∈yca r):1<=to/\to<=r.N/\to≠r.Id:=by
  have:=you ht
  have:=h.id
  omega
theorem yqs(h:OkR B r):(yca r).length<=7:=by
  have:=ysi (id:=r.Id) r.N.toNat 1
  have:=h.n
  unfold yca
  omega
theorem ybwm(h:OkG B r.yg)(i:Int):(ykf r.yg i).length<=8/\(∀ y∈ykf r.yg i,OkE B y)/\(0<=B->1<=i->i - 1<=B->i - 1 + ((ykf r.yg i).length:Int)<=B):=by
  have hl:=h.last; have hb:=h.b
  unfold ykf
  split
  .simp
  .rename_i hc
   unfold yac at hc
   refine ⟨by simp; omega,fun y hy=>h.e y (jg (List.mem_of_mem_take hy)),fun _ _ _=>?_⟩
   simp
   omega
theorem yzu(h:OkR B r)(hB0:0<=B)(h3:r.ym=3){to:Int}(h1:1<=to)(h2:to<=r.N):OkM B (ybj r to):=by
  obtain ⟨_,n1,n2⟩:=yub (h.tell h3) h1 h2
  have hl:=h.log.last; have hb:=h.log.b
  unfold ybj
  split
  .exact ⟨h.term,⟨h.log.b,by show r.yg.yn<=B; omega⟩,h.log.bt,h.commit,by simp,by simp,h.snap,by show r.yg.yn + (([]:List yk).length:Int)<=B; simp; omega⟩
  .obtain ⟨f1,f2,f3⟩:=ybwm h.log (yax r to)
   exact ⟨h.term,⟨by show 0<=yax r to - 1; omega,by show yax r to - 1<=B; omega⟩,yane h.log hB0 _,h.commit,f1,f2,by simp,f3 hB0 n1 (by omega)⟩
theorem yaet(h:OkG B r.yg)(hB0:0<=B):0<=yee r.yg/\yee r.yg<=B:=yane h hB0 _
theorem ymj(h:OkG B r.yg):0<=yac r.yg/\yac r.yg<=B:=by
  have hl:=h.last; have hb:=h.b
  unfold yac
  omega
theorem yavo(h:OkR B r)(hB0:0<=B)(to:Int):OkM B (yex r to):=by
  have hl:=ymj h.log
  exact ⟨h.term,hl,yaet h.log hB0,⟨qh _,hB0⟩,by simp [yex],by simp [yex],by simp [yex],by show yac r.yg + (([]:List yk).length:Int)<=B; simp; omega⟩
theorem ycec(h:OkR B r)(hB0:0<=B)(to:Int):OkM (B + 1) (yij r to):=by
  have hl:=ymj h.log
  have ht:=h.term
  have hlt:=yaet h.log hB0
  exact ⟨⟨by show 0<=r.yc + 1; omega,by show r.yc + 1<=B + 1; omega⟩,⟨hl.1,by show yac r.yg<=B + 1; omega⟩,⟨hlt.1,by show yee r.yg<=B + 1; omega⟩,⟨qh _,by show (0:Int)<=B + 1; omega⟩,by simp [yij],by simp [yij],by simp [yij],by show yac r.yg + (([]:List yk).length:Int)<=B + 1; simp; omega⟩
theorem ymc{kind term at0:Int}{ok:Bool}(hB0:0<=B)(ht:0<=term/\term<=B)(ha:0<=at0/\at0<=B):OkM B (ydr r x kind term at0 ok):=
  ⟨ht,ha,⟨qh _,hB0⟩,⟨qh _,hB0⟩,by simp [ydr],by simp [ydr],by simp [ydr],by show at0 + (([]:List yk).length:Int)<=B; simp; omega⟩
theorem yaux(h:OkR B r):ykw B r (r,[]):=⟨h,rfl,rfl,by simp,by simp⟩
theorem yahw(h:OkR B r)(hB0:0<=B)(h3:r.ym=3){data:List Int}(hd:data.length<=1000):ykw (B + 1) r (yct r data):=by
  have hb:=yvr h h3 hd
  have hc:=yst hb h3
  refine ⟨hc,ygj,yfn,by show ((yca r).map _).length<=7; rw [wj]; exact yqs h,fun y hy=>?_⟩
  have hy:y∈(yca r).map (ybj (ybm (ydf r data))):=hy
  obtain ⟨to,ht,rfl⟩:=wh.1 hy
  obtain ⟨t1,t2,_⟩:=ygl h ht
  have hn:(ybm (ydf r data)).N=r.N:=yfn
  refine ⟨yzu hc (by omega) (by rw [yer]; exact h3) t1 (by rw [hn]; exact t2),?_⟩
  have hi:(ybm (ydf r data)).Id=r.Id:=ygj
  unfold ybj
  split <;> exact hi
theorem yafy(h:OkR B r)(hB0:0<=B):ykw (B + 1) r (yco r):=by
  have:=yahw (yux h hB0) hB0 rfl (data:=[]) (by simp)
  exact ⟨this.ok,this.id,this.n,this.len,this.msg⟩
theorem ybte(h:OkR B r)(hB0:0<=B):ykw (B + 2) r (yea r):=by
  have hq:=yll h hB0
  unfold yea
  split
  .have:=yafy hq (by omega)
   exact ⟨this.ok.mono (by omega),this.id,this.n,this.len,fun y hy=>⟨(this.msg y hy).1.mono (by omega),(this.msg y hy).2⟩⟩
  .refine ⟨hq.mono (by omega),rfl,rfl,by rw [wj]; exact yqs h,fun y hy=>?_⟩
   obtain ⟨to,ht,rfl⟩:=wh.1 hy
   exact ⟨(yavo hq (by omega) to).mono (by omega),rfl⟩
theorem yced(h:OkR B r)(hB0:0<=B)(draw:Int):ykw (B + 2) r (yhx r draw):=by
  have hq:=yrh h hB0 draw
  unfold yhx
  split
  .have:=ybte hq hB0
   exact ⟨this.ok,this.id,this.n,this.len,this.msg⟩
  .refine ⟨hq.mono (by omega),rfl,rfl,by rw [wj]; exact yqs h,fun y hy=>?_⟩
   obtain ⟨to,ht,rfl⟩:=wh.1 hy
   exact ⟨(ycec hq hB0 to).mono (by omega),rfl⟩
theorem yahg(h:OkR B r)(hB0:0<=B)(draw:Int):ykw (B + 3) r (ycj r draw):=by
  have h0:=ypm h
  have h1:=yahd h hB0
  unfold ycj
  simp only
  split
  .rename_i h3
   split
   .refine ⟨h1.mono (by omega),rfl,rfl,by rw [wj]; exact yqs h,fun y hy=>?_⟩
    obtain ⟨to,ht,rfl⟩:=wh.1 hy
    obtain ⟨t1,t2,_⟩:=ygl h ht
    exact ⟨(yzu h1 hB0 h3 t1 t2).mono (by omega),by unfold ybj; split <;> rfl⟩
   .exact ⟨h0.mono (by omega),rfl,rfl,by simp,by simp⟩
  .split
   .have:=yced h0 (by omega) draw
    exact ⟨this.ok.mono (by omega),this.id,this.n,this.len,fun y hy=>⟨(this.msg y hy).1.mono (by omega),(this.msg y hy).2⟩⟩
   .exact ⟨h0.mono (by omega),rfl,rfl,by simp,by simp⟩
theorem ybqv{ents:List yk}(he:∀ y∈ents,OkE B y):∀ (k:Nat) (new:List yk),(∀ y∈new,OkE B y)->(∀ y∈yhk ents k new,OkE B y)/\((yhk ents k new).length<=ents.length\/(yhk ents k new).length<=k + new.length):=by
  intro k new
  induction new generalizing k with
  | nil=>intro _; exact ⟨he,.inl (qk _)⟩
  | cons e r ih=>
    intro hn
    unfold yhk
    split
    .split
     .obtain ⟨h1,h2⟩:=ih (k + 1) fun y hy=>hn y (ql _ hy)
      exact ⟨h1,by simp only [ws]; omega⟩
     .refine ⟨fun y hy=>?_,.inr (by simp; omega)⟩
      rcases qt.1 hy with hy | hy
      .exact he y (List.mem_of_mem_take hy)
      .exact hn y hy
    .rename_i hg
     have:=kg.1 hg
     refine ⟨fun y hy=>?_,.inr (by simp; omega)⟩
     rcases qt.1 hy with hy | hy
     .exact he y hy
     .exact hn y hy
theorem ybaj{l:yag}(h:OkG B l)(hB0:0<=B){at0 term:Int}{es:List yk}(h1:l.yn<=at0)(h2:at0<=B)(h3:at0 + (es.length:Int)<=B)(he:∀ y∈es,OkE B y):OkG B (ylm l at0 term es).1/\0<=(ylm l at0 term es).2.1/\(ylm l at0 term es).2.1<=B:=by
  have hl:=h.last; have hb:=h.b
  unfold ylm
  split
  .exact ⟨h,by unfold yac; show 0<=l.yn + _; omega,by unfold yac; show l.yn + _<=B; omega⟩
  .rename_i mine hm
   split
   .have:=yayp l mine (at0 - 1 - l.yn).toNat
    refine ⟨h,?_,?_⟩
    .show 0<=yacx l at0 mine; unfold yacx; omega
    .show yacx l at0 mine<=B
     unfold yacx
     rcases jz at0 (l.yn + 1) with hlt | hge
     .have e:(at0 - 1 - l.yn).toNat=0:=by omega
      rw [e]; unfold ypb; omega
     .omega
   .obtain ⟨m1,m2⟩:=ybqv h.e (at0 - l.yn).toNat es he
    refine ⟨⟨h.b,h.bt,?_,m1⟩,by show 0<=at0 + _; omega,h3⟩
    show l.yn + ((yhk _ _ _).length:Int)<=B
    omega
theorem ybak{l:yag}(h:OkG B l)(hB0:0<=B)(hx:OkM B x):OkG B (yev l x.At x.ybf x.yi).1/\0<=(yev l x.At x.ybf x.yi).2.1/\(yev l x.At x.ybf x.yi).2.1<=B:=by
  have hl:=h.last; have hb:=h.b; have ha:=hx.at0; have hate:=hx.ate
  unfold yev
  split
  .split
   .exact ⟨h,h.b,by show l.yn<=B; omega⟩
   .exact ybaj h hB0 (qh _) (by omega) (by simp; omega) fun y hy=>hx.e y (jg hy)
  .exact ybaj h hB0 (by omega) ha.2 hate hx.e
theorem yaeg{l:yag}(h:OkG B l)(hB0:0<=B){i:Int}(h1:l.yn<=i)(h2:i<=yac l):OkG B (yix l i):=by
  have hl:=h.last; have hb:=h.b
  unfold yac at h2
  refine ⟨by show 0<=i; omega,yane h hB0 i,?_,fun y hy=>h.e y (jg hy)⟩
  show i + ((l.yi.drop _).length:Int)<=B
  simp
  omega
theorem ybsi{l:yag}(h:OkG B l)(hB0:0<=B){i term:Int}(h1:0<=i)(h2:i<=B)(ht:0<=term/\term<=B):OkG B (ykc l i term):=by
  unfold ykc
  split
  .rename_i hh
   have:=ymn hh
   exact yaeg h hB0 this.1 this.2
  .exact ⟨h1,ht,by simp; exact h2,by simp⟩
theorem yafu(h:OkR B r)(hB0:0<=B)(hx:OkM B x):OkR B (yec r x):=by
  have:=yjj h (t:=x.yc) (l:=x.From) hx.term.2
  exact { this with clock:=⟨qh _,hB0⟩ }
def yew(r:ye):Int:=if r.ym=1 then 2 else if r.ym=2 then 1 else 0
theorem yqi(r:ye):0<=yew r/\yew r<=2:=by unfold yew; split; omega; split <;> omega
def OutC(B:Int)(r:ye)(p:ye × List yj):Prop:=∃ d:Int,0<=d/\ykw (B + d) r p/\d + yew p.1<=yew r
theorem OutC.flat{p:ye × List yj}(h:ykw B r p)(hc:yew p.1<=yew r):OutC B r p:=⟨0,qh _,by rw [Int.add_zero]; exact h,by omega⟩
theorem yia:(yco r).1.ym=3:=by
  show (ybm (ydf (yft r) [])).ym=3
  rw [yer]
  rfl
theorem ybis(h:OkR B r)(hB0:0<=B)(h1:r.ym=1):OutC B r (yea r):=by
  have hq:=yll h hB0
  have hc:yew r=2:=by unfold yew; rw [qe h1]
  unfold yea
  split
  .have:=yafy hq (by omega)
   refine ⟨2,by omega,⟨this.ok.mono (by omega),this.id,this.n,this.len,fun y hy=>⟨(this.msg y hy).1.mono (by omega),(this.msg y hy).2⟩⟩,?_⟩
   have:yew (yco (yas r)).1=0:=by unfold yew; rw [yia]; rfl
   omega
  .refine ⟨1,by omega,⟨hq,rfl,rfl,by rw [wj]; exact yqs h,fun y hy=>?_⟩,?_⟩
   .obtain ⟨to,ht,rfl⟩:=wh.1 hy
    exact ⟨yavo hq (by omega) to,rfl⟩
   .have:yew (yas r) = 1:=rfl
    show 1 + yew (yas r)<=_
    omega
theorem yaou(h:OkR B r)(hB0:0<=B)(hx:OkM B x)(h1:1<=x.From)(h2:x.From<=r.N):OutC B r (ydq r x):=by
  have ht:=h.term; have hid:=h.id; have hn:=h.n; have hcr:=yqi r
  have one:∀ {q:ye} {m:yj},OkR B q->q.Id=r.Id->q.N=r.N->yew q<=yew r->OkM B m->m.From=r.Id->OutC B r (q,[m]):=fun hq e1 e2 ec hm e3=>
    .flat ⟨hq,e1,e2,by simp,fun y hy=>by simp at hy; subst hy; exact ⟨hm,e3⟩⟩ ec
  have hn0:∀ {q:ye},OkR B q->q.Id=r.Id->q.N=r.N->yew q<=yew r->OutC B r (q,[]):=fun hq e1 e2 ec=>.flat ⟨hq,e1,e2,by simp,by simp⟩ ec
  have none:OutC B r (r,[]):=.flat (yaux h) (qh _)
  have hh0:yew (yec r x)<=yew r:=hcr.1
  unfold ydq
  split
  .exact one h rfl rfl (qh _) (ymc hB0 (by split; exact hx.term; exact h.term) ⟨qh _,hB0⟩) rfl
  split
  .unfold yit
   split
   .rename_i hk
    have hg:=yfr (x:=x) h true
    split
    .obtain ⟨d,d1,this,d2⟩:=ybis hg hB0 hk.2.1
     exact ⟨d,d1,⟨this.ok,this.id,this.n,this.len,this.msg⟩,d2⟩
    .exact hn0 hg rfl rfl (qh _)
   .exact none
  split
  .unfold yjf
   split
   .have hq:OkR B { r with yan:=x.From,yu:=0 }:={ h with vote:=⟨by show 0<=x.From; omega,by show x.From<=7; omega⟩,clock:=⟨qh _,hB0⟩ }
    exact one hq rfl rfl (qh _) (ymc hB0 h.term ⟨qh _,hB0⟩) rfl
   .exact one h rfl rfl (qh _) (ymc hB0 h.term ⟨qh _,hB0⟩) rfl
  split
  .unfold ygb
   split
   .rename_i hk
    have hg:=yfr (x:=x) h true
    split
    .have:=yafy hg hB0
     refine ⟨1,by omega,⟨this.ok,this.id,this.n,this.len,this.msg⟩,?_⟩
     have e1:yew (yco (yat r x)).1=0:=by unfold yew; rw [yia]; rfl
     have e2:yew r=1:=by unfold yew; rw [hk.2.1]; rfl
     omega
    .exact hn0 hg rfl rfl (qh _)
   .exact none
  split
  .unfold yfo
   split
   .exact one h rfl rfl (qh _) (ymc hB0 h.term ⟨qh _,hB0⟩) rfl
   .obtain ⟨p1,p2,p3⟩:=ybak h.log hB0 hx
    have hq:=yafu h hB0 hx
    simp only
    split
    .have hc:=h.commit; have hxc:=hx.commit
     have hmm:0<=yil r.yl (yim x.yl (yev r.yg x.At x.ybf x.yi).2.1)/\yil r.yl (yim x.yl (yev r.yg x.At x.ybf x.yi).2.1)<=B:=by
       unfold yil yim
       split <;> split at * <;> omega
     exact one (q:={ yec r x with yg:=(yev r.yg x.At x.ybf x.yi).1,yl:=yil r.yl (yim x.yl (yev r.yg x.At x.ybf x.yi).2.1) }) { hq with log:=p1,commit:=hmm } rfl rfl hh0 (ymc hB0 hq.term ⟨p2,p3⟩) rfl
    .exact one hq rfl rfl hh0 (ymc hB0 hq.term ⟨p2,p3⟩) rfl
  split
  .unfold yfx
   split
   .exact none
   .rename_i hr
    have h3:r.ym=3:=by
      rcases Classical.em (r.ym=3) with h | h
      .exact h
      .exact absurd (.inr h) hr
    have hq:=yahm h h3 hx h1 h2
    have hp:=yahl h h3 hx h1 h2
    have e1:(ybe r x).Id=r.Id:=ygj
    have e2:(ybe r x).N=r.N:=yfn
    have e3:(ybe r x).ym=3:=by unfold ybe; rw [yer]; exact h3
    have e4:yew (ybe r x)<=yew r:=by unfold yew; rw [e3,h3]; exact qh _
    split
    .split
     .exact hn0 hq e1 e2 e4
     .exact one hq e1 e2 e4 (yzu hq hB0 e3 h1 (by rw [e2]; exact h2)) (by unfold ybj; split <;> exact e1)
    .exact one hp rfl rfl (qh _) (yzu hp hB0 h3 h1 h2) (by unfold ybj; split <;> rfl)
  split
  .unfold yky
   split
   .exact one h rfl rfl (qh _) (ymc hB0 h.term ⟨qh _,hB0⟩) rfl
   .have hq:=yafu h hB0 hx
    simp only
    split
    .exact one (q:={ yec r x with yg:=ykc r.yg x.At x.ybf,yl:=x.At,yaf:=x.yck }) { hq with log:=ybsi h.log hB0 hx.at0.1 hx.at0.2 hx.att,commit:=hx.at0,snap:=hx.d } rfl rfl hh0 (ymc hB0 hq.term hx.at0) rfl
    .exact one hq rfl rfl hh0 (ymc hB0 hq.term h.commit) rfl
  .exact none
theorem yqu(h:OkR B r)(hB0:0<=B)(hx:OkM B x):OutC B r (yaj r x):=by
  have hcr:=yqi r
  unfold yaj
  split
  .exact .flat (yaux h) (qh _)
  .rename_i hr
   have hv:ydg r x=false:=by simpa using hr
   unfold ydg at hv
   simp only [js,jk] at hv
   split
   .obtain ⟨d,d1,this,d2⟩:=yaou (yjj h (t:=x.yc) (l:=0) hx.term.2) hB0 hx (by omega) (by show x.From<=r.N; omega)
    have hc0:yew (yai r x.yc 0) = 0:=rfl
    exact ⟨d,d1,⟨this.ok,this.id,this.n,this.len,this.msg⟩,by omega⟩
   .exact yaou h hB0 hx (by omega) (by omega)
theorem yawt(h:OkR B r)(hB0:0<=B)(hx:OkM B x):ykw (B + 2) r (yaj r x):=by
  obtain ⟨d,d1,d2,d3⟩:=yqu h hB0 hx
  have h1:=yqi r; have h2:=yqi (yaj r x).1
  exact d2.mono (by omega)
theorem yawg(h:OkR B r)(hB0:0<=B){upto:Int}{snap:List Int}(hs:snap.length<=1000)(hc:yiw r upto=true):ykw B r (yjv r upto snap,[]):=by
  unfold yiw at hc
  simp only [qq,wv] at hc
  obtain ⟨c1,c2,c3⟩:=hc
  obtain ⟨t,ht⟩:=Option.isSome_iff_exists.1 c3
  have:=ymn ht
  exact ⟨{ h with log:=yaeg h.log hB0 this.1 this.2,snap:=hs },rfl,rfl,by simp,by simp⟩
end
end Go.Proofs.Ytgoachcogmlhcaa.R
set_option maxRecDepth 100000
set_option linter.unusedVariables false
set_option linter.unusedSimpArgs false
noncomputable section
namespace Go.Proofs.Ytgoachcogmlhcaa.R
open Go
def ylo:ye:=⟨0,0,0,0,0,0,⟨0,0,[]⟩,0,[],[],[],[],0,0⟩
def yiz(id n:Int):ye:=⟨id,n,0,0,0,0,⟨0,0,[]⟩,0,[],[],[],[],0,10 + id⟩
def ygx(r:ye):ye:=⟨r.Id,r.N,r.yc,r.yan,0,0,r.yg,r.yg.yn,r.yaf,[],[],[],0,10 + r.Id⟩
theorem ybqy{id n:Int}(h1:1<=id)(h2:id<=n)(h3:n<=7):zll id n=some (yiz id n,0):=by
  unfold zll zhg
  have a1:¬ n < 1:=by omega
  have a2:¬ (7:Int) < n:=by omega
  have a3:¬ id < 1:=by omega
  have a4:¬ n < id:=by omega
  simp only [a1,a2,a3,a4,decide_false,qr,wn]
  rw [ybs (by omega)]
  rfl
theorem ybbz{l:yag}(hl:l.yi.length<=1000000):∀ (m k n:Nat) (t:Int),l.yi.length - k=m->k<=l.yi.length->m < n->∃ c,zcz l n t (k:Int) = some c:=by
  intro m
  induction m with
  | zero=>
    intro k n t hm hk hn
    obtain ⟨n,rfl⟩:∃ n',n=n' + 1:=⟨n - 1,by omega⟩
    have hk':¬ ((k:Int) < (l.yi.length:Int)):=by omega
    rw [zcz,zhi,qf hk',qc (by simp)]
    exact ⟨_,rfl⟩
  | succ m ih=>
    intro k n t hm hk hn
    obtain ⟨n,rfl⟩:∃ n',n=n' + 1:=⟨n - 1,by omega⟩
    have hlt:k < l.yi.length:=by omega
    have hk':((k:Int) < (l.yi.length:Int)):=by omega
    have k2:∀ v,∃ c,zha (zcz l n) (k:Int) l.yi[k] v=some c:=by
      intro v
      unfold zha
      cases v with
      | true=>exact ⟨_,rfl⟩
      | false=>
        rw [qc (by simp),ygy (by omega)]
        exact ih (k + 1) n _ (by omega) (by omega) (by omega)
    rw [zcz,zhi,qg hk',qe rfl,yoi hlt,yx]
    split
    .exact k2 _
    .exact k2 _
theorem ybca{l:yag}(hl:l.yi.length<=1000000):∃ c,zlc l=some c:=by
  have k1:∀ v,∃ c,zcy l v=some c:=by
    intro v
    unfold zcy
    cases v with
    | true=>exact ⟨_,rfl⟩
    | false=>
      rw [qc (by simp)]
      exact ybbz hl _ 0 _ _ rfl (jb _) (by omega)
  unfold zlc
  repeat' split
  all_goals exact k1 _
section
variable {B:Int} {r:ye} {x:yj}
theorem ybif(h:OkR B r)(hB:B<=1000000):zie r.Id r.N r.yc r.yan r.yg r.yaf=some (ygx r,0)\/zie r.Id r.N r.yc r.yan r.yg r.yaf=some (ylo,1):=by
  have hid:=h.id; have hn:=h.n; have hs:=h.snap
  have k1:∀ v,zbc r.yc r.yan r.yg r.yaf (yiz r.Id r.N,0) v=some (ygx r,0)\/zbc r.yc r.yan r.yg r.yaf (yiz r.Id r.N,0) v=some (ylo,1):=by
    intro v
    unfold zbc
    cases v with
    | true=>exact .inr rfl
    | false=>
      left
      rw [qc (by simp),ynp h.log hB,yx,qe (ycs (by omega))]
      rfl
  obtain ⟨c,hc⟩:=ybca (l:=r.yg) (h.log.len hB)
  unfold zie
  rw [ybqy hid.1 hid.2 hn,yx,ype h.log hB,yx,hc,yx]
  simp only [ne_eq,not_true_eq_false,decide_false,qr,wn]
  repeat' split
  all_goals exact k1 _
theorem yaww(h:OkR B r)(hB0:20<=B):ykw B r (ygx r,[]):=by
  have hid:=h.id; have hn:=h.n
  have hl:=h.log.last; have hb:=h.log.b
  refine ⟨{ h with commit:=⟨hb,by show r.yg.yn<=B; omega⟩,clock:=⟨qh _,by show (0:Int)<=B; omega⟩,wait:=⟨by show 0<=10 + r.Id; omega,by show 10 + r.Id<=20; omega⟩,gl:=by simp [ygx],nl:=by simp [ygx],ml:=by simp [ygx],ga:=?_,na:=?_,ma:=?_,nb:=by simp [ygx],mb:=by simp [ygx] },rfl,rfl,by simp,by simp⟩
  .intro h; simp [ygx] at h
  .intro h; simp [ygx] at h
  .intro h; simp [ygx] at h
theorem ydfg{n:Int}(h1:1<=r.Id)(h:0<=B){id:Int}(h2:1<=id)(h3:id<=n)(h4:n<=7):OkR B (yiz id n):=by
  refine { id:=⟨h2,h3⟩,n:=h4,term:=⟨qh _,h⟩,vote:=⟨qh _,by simp [yiz]⟩,commit:=⟨qh _,h⟩,clock:=⟨qh _,h⟩,wait:=⟨by show 0<=10 + id; omega,by show 10 + id<=20; omega⟩,log:=⟨qh _,⟨qh _,h⟩,by show (0:Int) + (([]:List yk).length:Int)<=B; simp; exact h,by simp [yiz]⟩,snap:=by simp [yiz],gl:=by simp [yiz],nl:=by simp [yiz],ml:=by simp [yiz],ga:=?_,na:=?_,ma:=?_,nb:=by simp [yiz],mb:=by simp [yiz] }
  .intro h; simp [yiz] at h
  .intro h; simp [yiz] at h
  .intro h; simp [yiz] at h
end
def yjd(k:Int)(n:Nat):Int:=(IntKind.u64.wrap k) % (n:Int)
theorem ydhc(k:Int):0<=IntKind.u64.wrap k:=by
  simp only [IntKind.wrap,IntKind.signed,IntKind.bits]
  simp
  omega
theorem yud{k:Int}{n:Nat}(h0:0 < n)(h1:n<=100000):zdq k (n:Int) = some (yjd k n)/\0<=yjd k n/\yjd k n < (n:Int):=by
  have hk:=ydhc k
  have r1:0<=yjd k n:=ko _ (by omega)
  have r2:yjd k n < (n:Int):=Int.emod_lt_of_pos _ (by omega)
  refine ⟨?_,r1,r2⟩
  unfold zdq
  have hn:¬ ((n:Int) = 0):=by omega
  rw [yavn (n:=(n:Int)) (by omega) (by omega),qf hn,qc (by simp),Int.tmod_eq_emod_of_nonneg hk]
  have:IntKind.u64.wrap k % (n:Int) = yjd k n:=rfl
  rw [this,ybs (by omega)]
def last60(l:List yj):List yj:=if 60 < l.length then l.drop (l.length - 60) else l
theorem ymi{l:List yj}{x:yj}(h:x∈last60 l):x∈l:=by
  unfold last60 at h
  split at h
  .exact jg h
  .exact h
theorem yajs(l:List yj):(last60 l).length<=60:=by
  unfold last60
  split
  .simp; omega
  .omega
def ypk(w:yab)(i:Int)(p:ye × List yj):yab:=⟨ybl w.R i p.1,last60 (w.Net++p.2)⟩
theorem ydgm{w:yab}{i:Int}{p:ye × List yj}(h0:0<=i)(h1:i.toNat < w.R.length)(h2:w.R.length<=100)(h3:w.Net.length<=1000)(h4:p.2.length<=1000):zfo w i p.1 p.2=some (ypk w i p):=by
  unfold zfo ypk last60
  rw [qe (ycs (by omega)),ykt h0,qj h1,yx,qe (ycs (by omega)),qe (ycs (by omega))]
  by_cases hl:60 < w.Net.length + p.2.length
  .have h5:(60:Int) < ((w.Net.length + p.2.length:Nat):Int):=by omega
   have h6:IntKind.i64.wrap (((w.Net.length + p.2.length:Nat):Int) - 60) = ((w.Net.length + p.2.length - 60:Nat):Int):=by rw [ybs (by omega)]; omega
   have h7:60 < (w.Net++p.2).length:=by simp; omega
   rw [qg h5,qe rfl,h6,ypv (by omega) (by simp; omega),yx,qe h7]
   have e1:(((w.Net.length + p.2.length - 60:Nat):Int)).toNat=(w.Net++p.2).length - 60:=by simp
   rw [e1]
  .have h5:¬ (60:Int) < ((w.Net.length + p.2.length:Nat):Int):=by omega
   have h7:¬ 60 < (w.Net++p.2).length:=by simp; omega
   rw [qf h5,qc (by simp),qc h7]
def yog(w:yab)(k:Nat)(keep:Bool)(x:yj):yab:=⟨w.R,w.Net.take k++(if keep=true then [x] else [])++w.Net.drop (k + 1)⟩
theorem yavk{w:yab}{k:Nat}{keep:Bool}(h:k < w.Net.length)(h2:w.Net.length<=1000):zjo w (k:Int) keep=some (yog w k keep w.Net[k],w.Net[k]):=by
  have k1:∀ out:List yj,out.length<=2000->zgz w (k:Int) w.Net[k] out=some (⟨w.R,out++w.Net.drop (k + 1)⟩,w.Net[k]):=by
    intro out ho
    have e1:(((k + 1:Nat):Int)).toNat=k + 1:=by omega
    unfold zgz
    rw [ygy (by omega),ypv (by omega) (by omega),yx,e1,qe (ycs (by simp; omega))]
  have e0:((k:Int)).toNat=k:=by omega
  unfold zjo
  rw [yoi h,yx,ysn (by omega) (by omega),yx,e0,qe (ycs (by simp; omega))]
  unfold yog
  cases keep with
  | true=>rw [qe rfl,qe (ycs (by simp; omega)),k1 _ (by simp; omega)]; simp
  | false=>rw [qc (by simp),k1 _ (by simp; omega)]; simp
theorem ybqq{w:yab}{k:Nat}{keep:Bool}(h:k < w.Net.length){y:yj}(hy:y∈(yog w k keep w.Net[k]).Net):y∈w.Net:=by
  unfold yog at hy
  rcases qt.1 hy with hy | hy
  .rcases qt.1 hy with hy | hy
   .exact List.mem_of_mem_take hy
   .cases keep with
    | true=>simp at hy; subst hy; exact jd h
    | false=>simp at hy
  .exact jg hy
theorem ybqp{w:yab}{k:Nat}{keep:Bool}{x:yj}(h:k < w.Net.length):(yog w k keep x).Net.length<=w.Net.length:=by
  unfold yog
  cases keep <;> simp <;> omega
inductive Act (crash:Bool) (r:ye) (net:List yj):ye × List yj->Prop
  | tick (draw:Int):Act crash r net (ycj r draw)
  | recv (x:yj) (hx:x∈net):Act crash r net (yaj r x)
  | prop (data:List Int) (hd:data.length<=1000) (h3:r.ym=3):Act crash r net (yct r data)
  | comp (upto:Int) (snap:List Int) (hs:snap.length<=1000) (hc:yiw r upto=true):Act crash r net (yjv r upto snap,[])
  | fall (hc:crash=true):Act crash r net (ygx r,[])
inductive ylz (crash:Bool) (w:yab):yab->Prop
  | less (net:List yj) (h:∀ x∈net,x∈w.Net):ylz crash w ⟨w.R,net⟩
  | act (i:Nat) (r:ye) (p:ye × List yj) (net:List yj) (hi:w.R[i]? = some r) (ha:Act crash r w.Net p) (hn:∀ x∈net,x∈w.Net\/x∈p.2):ylz crash w ⟨w.R.set i p.1,net⟩
structure OkW (B:Int) (n:Nat) (w:yab):Prop where
  n1:1<=n/\n<=5
  len:w.R.length=n
  mem:∀ (k:Nat) (r:ye),w.R[k]? = some r->OkR B r/\r.Id=(k:Int) + 1/\r.N=(n:Int)
  nl:w.Net.length<=60
  net:∀ x∈w.Net,OkM B x
section
variable {B:Int} {n:Nat} {w:yab}
theorem OkW.mono{B':Int}(h:OkW B n w)(hb:B<=B'):OkW B' n w:=
  ⟨h.n1,h.len,fun k r hr=>⟨(h.mem k r hr).1.mono hb,(h.mem k r hr).2⟩,h.nl,fun x hx=>(h.net x hx).mono hb⟩
theorem ycdu{r:ye}{net:List yj}{p:ye × List yj}{c:Bool}(h:OkR B r)(hB0:20<=B)(hnet:∀ x∈net,OkM B x)(ha:Act c r net p):ykw (B + 3) r p:=by
  cases ha with
  | tick draw=>exact yahg h (by omega) draw
  | recv x hx=>exact (yawt h (by omega) (hnet x hx)).mono (by omega)
  | prop data hd h3=>exact (yahw h (by omega) h3 hd).mono (by omega)
  | comp upto snap hs hc=>exact (yawg h (by omega) hs hc).mono (by omega)
  | fall hc=>exact (yaww h hB0).mono (by omega)
theorem ybas{d:Int}{i:Nat}{r:ye}{p:ye × List yj}{net:List yj}(h:OkW B n w)(hi:w.R[i]? = some r)(hd:0<=d)(hp:ykw (B + d) r p)(hl:net.length<=60)(hn:∀ x∈net,OkM (B + d) x):OkW (B + d) n ⟨w.R.set i p.1,net⟩:=by
  have hlt:i < w.R.length:=by
    rcases qz i w.R.length with h | h
    .exact h
    .rw [qm h] at hi; cases hi
  refine ⟨h.n1,by show (w.R.set i p.1).length=n; rw [kl]; exact h.len,fun k q hq=>?_,hl,hn⟩
  have hq2:(w.R.set i p.1)[k]? = some q:=hq
  by_cases hk:i=k
  .subst hk
   rw [wu hlt] at hq2
   obtain rfl:=qd hq2
   obtain ⟨_,m2,m3⟩:=h.mem i r hi
   exact ⟨hp.ok,by rw [hp.id]; exact m2,by rw [hp.n]; exact m3⟩
  .rw [ja hk] at hq2
   obtain ⟨m1,m2⟩:=h.mem k q hq2
   exact ⟨m1.mono (by omega),m2⟩
theorem ydgn{i:Nat}{r:ye}{p:ye × List yj}{net:List yj}(h:OkW B n w)(hi:w.R[i]? = some r)(hp:ykw (B + 3) r p)(hl:net.length<=60)(hn:∀ x∈net,OkM (B + 3) x):OkW (B + 3) n ⟨w.R.set i p.1,net⟩:=ybas h hi (by omega) hp hl hn
theorem ypf{c:Bool}{i:Int}{r:ye}{p:ye × List yj}{v:yab}(h:OkW B n w)(hB0:20<=B)(hvR:v.R=w.R)(hvN:∀ x∈v.Net,x∈w.Net)(hvl:v.Net.length<=60)(h0:0<=i)(hi:w.R[i.toNat]? = some r)(ha:Act c r w.Net p) :
    zfo v i p.1 p.2=some (ypk v i p)/\ylz c w (ypk v i p)/\OkW (B + 3) n (ypk v i p):=by
  obtain ⟨m1,m2,m3⟩:=h.mem _ r hi
  have hp:=ycdu m1 hB0 h.net ha
  have hlt:i.toNat < w.R.length:=by
    rcases qz i.toNat w.R.length with h | h
    .exact h
    .rw [qm h] at hi; cases hi
  have hwl:=h.len; have hn1:=h.n1; have hpl:=hp.len
  have hmem:∀ x∈last60 (v.Net++p.2),x∈w.Net\/x∈p.2:=by
    intro x hx
    rcases qt.1 (ymi hx) with hx | hx
    .exact .inl (hvN x hx)
    .exact .inr hx
  refine ⟨ydgm h0 (by rw [hvR]; exact hlt) (by rw [hvR]; omega) (by omega) (by omega),?_,?_⟩
  .unfold ypk ybl
   rw [hvR]
   exact .act i.toNat r p _ hi ha hmem
  .unfold ypk ybl
   rw [hvR]
   refine ydgn h hi hp (yajs _) fun x hx=>?_
   rcases hmem x hx with hx | hx
   .exact (h.net x hx).mono (by omega)
   .exact (hp.msg x hx).1
theorem yaor(c:Bool)(h:OkW B n w):ylz c w w/\OkW (B + 3) n w:=⟨.less w.Net fun _ hx=>hx,h.mono (by omega)⟩
theorem ydik(h:OkW B n w)(hB0:20<=B)(hB:B<=100000)(o:TOp)(ho:o.yck.length<=20):∃ w',zey w o=some w'/\ylz (decide (o.yae=6)) w w'/\OkW (B + 3) n w':=by
  have hwl:=h.len; have hn1:=h.n1; have hnl:=h.nl
  obtain ⟨p1,p2,p3⟩:=yud (k:=o.Who) (n:=w.R.length) (by omega) (by omega)
  have hlt:(yjd o.Who w.R.length).toNat < w.R.length:=by omega
  obtain ⟨r,hr⟩:∃ r,w.R[(yjd o.Who w.R.length).toNat]? = some r:=⟨_,qj hlt⟩
  obtain ⟨m1,m2,m3⟩:=h.mem _ r hr
  unfold zey
  rw [p1,yx,ykt p2,hr,yx]
  have k1:zco w o (yjd o.Who w.R.length) r true=zco w o (yjd o.Who w.R.length) r true->∃ w',zco w o (yjd o.Who w.R.length) r true=some w'/\ylz (decide (o.yae=6)) w w'/\OkW (B + 3) n w':=by
    intro _
    unfold zco
    rw [qe rfl]
    by_cases hz:w.Net.length=0
    .have:(w.Net.length:Int) = 0:=by omega
     rw [qg this,qe rfl]
     obtain ⟨s1,s2⟩:=yaor (decide (o.yae=6)) h
     exact ⟨w,rfl,s1,s2⟩
    .have:¬ (w.Net.length:Int) = 0:=by omega
     obtain ⟨q1,q2,q3⟩:=yud (k:=o.N) (n:=w.Net.length) (by omega) (by omega)
     obtain ⟨k,hk⟩:∃ k:Nat,yjd o.N w.Net.length=(k:Int):=⟨(yjd o.N w.Net.length).toNat,by omega⟩
     have hkl:k < w.Net.length:=by omega
     rw [qf this,qc (by simp),q1,yx,hk,yavk hkl (by omega),yx]
     have hv:=@ybqq w k (decide (o.yae=3)) hkl
     have hvl:=ybqp (keep:=decide (o.yae=3)) (x:=w.Net[k]) hkl
     have hless:ylz (decide (o.yae=6)) w (yog w k (decide (o.yae=3)) w.Net[k])/\OkW (B + 3) n (yog w k (decide (o.yae=3)) w.Net[k]):=by
       refine ⟨.less _ fun x hx=>hv hx,?_⟩
       exact ⟨h.n1,h.len,(h.mono (B':=B + 3) (by omega)).mem,by omega,fun x hx=>(h.net x (hv hx)).mono (by omega)⟩
     have k2t:∃ w',zdv (yog w k (decide (o.yae=3)) w.Net[k],w.Net[k]) true=some w'/\ylz (decide (o.yae=6)) w w'/\OkW (B + 3) n w':=⟨_,rfl,hless.1,hless.2⟩
     simp only
     split
     .exact k2t
     .split
      .exact k2t
      .rename_i ht1
       have ht1':¬ w.Net[k].To < 1:=by simpa using ht1
       by_cases ht2:(w.R.length:Int) < w.Net[k].To
       .rw [qg ht2]; exact k2t
       .rw [qf ht2]
        unfold zdv
        rw [qc (by simp)]
        have hxo:=h.net _ (jd hkl)
        have hlt2:(w.Net[k].To - 1).toNat < w.R.length:=by omega
        obtain ⟨r2,hr2⟩:∃ r2,w.R[(w.Net[k].To - 1).toNat]? = some r2:=⟨_,qj hlt2⟩
        obtain ⟨c1,c2,c3⟩:=h.mem _ r2 hr2
        have hlR:(yog w k (decide (o.yae=3)) w.Net[k]).R=w.R:=rfl
        simp only
        rw [ybs (by omega),hlR,ykt (by omega),hr2,yx,yakl c1 (by omega) (by omega) hxo,yx]
        obtain ⟨s1,s2,s3⟩:=ypf (c:=decide (o.yae=6)) (v:=yog w k (decide (o.yae=3)) w.Net[k]) (i:=w.Net[k].To - 1) h hB0 rfl (fun x hx=>hv hx) (by omega) (by omega) hr2 (.recv _ (jd hkl))
        rw [s1,yx]
        exact ⟨_,rfl,s2,s3⟩
  have k1:=k1 rfl
  by_cases k0:o.yae=0
  .rw [qg k0,qe rfl,ybbd m1 (by omega) (by omega),yx]
   obtain ⟨s1,s2,s3⟩:=ypf (c:=decide (o.yae=6)) (v:=w) h hB0 rfl (fun _ hx=>hx) hnl p2 hr (.tick o.N)
   rw [s1,yx]
   exact ⟨_,rfl,s2,s3⟩
  rw [qf k0,qc (show ¬ (false=true) by simp)]
  by_cases k11:o.yae=1
  .rw [qg k11,qe rfl]; exact k1
  rw [qf k11,qc (show ¬ (false=true) by simp)]
  by_cases k12:o.yae=2
  .rw [qg k12,qe rfl]; exact k1
  rw [qf k12,qc (show ¬ (false=true) by simp)]
  by_cases k13:o.yae=3
  .rw [qg k13]; exact k1
  rw [qf k13]
  unfold zco
  rw [qc (show ¬ (false=true) by simp)]
  obtain ⟨z1,z2⟩:=yaor (decide (o.yae=6)) h
  by_cases k4:o.yae=4
  .rw [qg k4,qe rfl,ybhq m1 (by omega) (by omega),yx]
   by_cases h3:r.ym=3
   .rw [qe h3]
    obtain ⟨s1,s2,s3⟩:=ypf (c:=decide (o.yae=6)) (v:=w) h hB0 rfl (fun _ hx=>hx) hnl p2 hr (.prop o.yck (by omega) h3)
    simp only [ne_eq,not_true_eq_false,decide_false,qr,wn]
    rw [s1,yx]
    exact ⟨_,rfl,by rw [← k4] at *; exact s2,s3⟩
   .rw [qc h3]
    exact ⟨w,by simp,z1,z2⟩
  rw [qf k4,qc (show ¬ (false=true) by simp)]
  by_cases k5:o.yae=5
  .obtain ⟨q1,q2,q3⟩:=yud (k:=o.N) (n:=3) (by omega) (by omega)
   have hc:=m1.commit
   have q1':zdq o.N 3=some (yjd o.N 3):=q1
   rw [qg k5,qe rfl,q1',yx,ybs (n:=r.yl - yjd o.N 3) (by omega),ybci m1 (by omega) (by omega) (by simp),yx]
   by_cases hcb:yiw r (r.yl - yjd o.N 3) = true
   .rw [qe hcb]
    obtain ⟨s1,s2,s3⟩:=ypf (c:=decide (o.yae=6)) (v:=w) h hB0 rfl (fun _ hx=>hx) hnl p2 hr (.comp (r.yl - yjd o.N 3) [IntKind.u8.wrap (r.yl - yjd o.N 3)] (by simp) hcb)
    simp only [ne_eq,not_true_eq_false,decide_false,qr,wn]
    rw [s1,yx]
    exact ⟨_,rfl,s2,s3⟩
   .rw [qc hcb]
    exact ⟨w,by simp,z1,z2⟩
  rw [qf k5,qc (show ¬ (false=true) by simp)]
  by_cases k6:o.yae=6
  .rw [qg k6,qe rfl]
   rcases ybif m1 (by omega) with he | he
   .rw [he,yx]
    obtain ⟨s1,s2,s3⟩:=ypf (c:=decide (o.yae=6)) (v:=w) h hB0 rfl (fun _ hx=>hx) hnl p2 hr (.fall (by simp [k6]))
    simp only [ne_eq,not_true_eq_false,decide_false,qr,wn]
    rw [s1,yx]
    exact ⟨_,rfl,by rw [qg k6] at s2; exact s2,s3⟩
   .rw [he,yx]
    rw [qg k6] at z1
    exact ⟨w,by simp,z1,z2⟩
  .rw [qf k6,qc (show ¬ (false=true) by simp)]
   rw [qf k6] at z1
   exact ⟨w,rfl,z1,z2⟩
end
end Go.Proofs.Ytgoachcogmlhcaa.R
set_option maxRecDepth 100000
set_option linter.unusedVariables false
set_option linter.unusedSimpArgs false
noncomputable section
namespace Go.Proofs.Ytgoachcogmlhcaa.R
open Go
theorem yvu(b:Bool)(l:List Bool):yke (b :: l) = yke l + (if b=true then 1 else 0):=by
  unfold yke
  rw [List.countP_cons]
theorem yccr:∀ (a b:List Bool),a.length=b.length->(∀ j:Nat,¬ (a[j]? = some true/\b[j]? = some true))->yke a + yke b<=a.length
  | [],[],_,_=>by simp [yke]
  | x :: a,y :: b,hl,h=>by
    have h0:=h 0
    have ih:=yccr a b (by simpa using hl) fun j hj=>h (j + 1) (by simpa using hj)
    rw [yvu,yvu,ws]
    cases x <;> cases y <;> simp at h0 ⊢ <;> omega
theorem yvm{a b:List Bool}(hl:a.length=b.length)(ha:ydv a=true)(hb:ydv b=true):∃ j:Nat,a[j]? = some true/\b[j]? = some true:=by
  unfold ydv at ha hb
  simp only [wv] at ha hb
  rcases Classical.em (∃ j:Nat,a[j]? = some true/\b[j]? = some true) with h | h
  .exact h
  .have:=yccr a b hl fun j hj=>h ⟨j,hj⟩
   omega
abbrev yoy:=Int->Int->Int
abbrev ysc:=Int->Int
structure yte (V:yoy) (L:ysc) (r:ye):Prop where
  cur:V r.yc r.Id=r.yan
  fut:∀ t,r.yc < t->V t r.Id=0
  cand:r.ym=2->∀ j:Nat,r.yq[j]? = some true->V r.yc ((j:Int) + 1) = r.Id
  lead:r.ym=3->L r.yc=r.Id
def MsgV(V:yoy)(x:yj):Prop:=x.yae=4->x.Ok=true->x.To≠0/\V x.yc x.From=x.To
def GloV(n:Nat)(V:yoy)(L:ysc):Prop:=∀ t,L t≠0->∃ g:List Bool,g.length=n/\ydv g=true/\∀ j:Nat,g[j]? = some true->V t ((j:Int) + 1) = L t
structure ytd (id:Int) (V V':yoy) (L L':ysc):Prop where
  v:∀ t k,V t k≠0->V' t k=V t k
  o:∀ t k,k≠id->V' t k=V t k
  l:∀ t,L t≠0->L' t=L t
theorem ytd.refl(id:Int)(V:yoy)(L:ysc):ytd id V V L L:=⟨fun _ _ _=>rfl,fun _ _ _=>rfl,fun _ _=>rfl⟩
theorem ytd.trans{id:Int}{V V' V'':yoy}{L L' L'':ysc}(h:ytd id V V' L L')(h':ytd id V' V'' L' L''):ytd id V V'' L L'':=
  ⟨fun t k hk=>by rw [h'.v t k (by rw [h.v t k hk]; exact hk),h.v t k hk],fun t k hk=>by rw [h'.o t k hk,h.o t k hk],fun t ht=>by rw [h'.l t (by rw [h.l t ht]; exact ht),h.l t ht]⟩
section
variable {n:Nat} {V V':yoy} {L L':ysc} {r:ye} {x:yj}
theorem MsgV.ext{id:Int}(he:ytd id V V' L L')(h:MsgV V x):MsgV V' x:=fun h1 h2=>by
  obtain ⟨a,b⟩:=h h1 h2
  exact ⟨a,by rw [he.v _ _ (by rw [b]; exact a),b]⟩
theorem yte.ext{id:Int}(he:ytd id V V' L L')(hne:r.Id≠id)(h0:r.Id≠0)(h:yte V L r):yte V' L' r:=
  ⟨by rw [he.o _ _ hne]; exact h.cur,fun t ht=>by rw [he.o _ _ hne]; exact h.fut t ht,fun h2 j hj=>by
    have:=h.cand h2 j hj
    rw [he.v _ _ (by rw [this]; exact h0),this],fun h3=>by
    have:=h.lead h3
    rw [he.l _ (by rw [this]; exact h0),this]⟩
def yahr(n:Nat)(V:yoy)(L:ysc)(r:ye)(p:ye × List yj):Prop:=
  ∃ V' L',ytd r.Id V V' L L'/\yte V' L' p.1/\GloV n V' L'/\∀ y∈p.2,MsgV V' y
theorem yahr.keep{p:ye × List yj}(hg:GloV n V L)(hm:yte V L p.1)(hy:∀ y∈p.2,y.yae≠4\/y.Ok=false):yahr n V L r p:=
  ⟨V,L,ytd.refl _ _ _,hm,hg,fun y hy2 h1 h2=>by
    rcases hy y hy2 with h | h
    .exact absurd h1 h
    .rw [h] at h2; cases h2⟩
theorem yahr.comp{q:ye}{p:ye × List yj}{L2:ysc}{V2:yoy}(he:ytd r.Id V V2 L L2)(hi:q.Id=r.Id)(h:yahr n V2 L2 q p):yahr n V L r p:=by
  obtain ⟨V',L',h1,h2,h3,h4⟩:=h
  rw [hi] at h1
  exact ⟨V',L',he.trans h1,h2,h3,h4⟩
theorem yte.of{q:ye}(h:yte V L r)(h1:q.Id=r.Id)(h2:q.yc=r.yc)(h3:q.yan=r.yan)(h4:q.ym=0\/q.ym=1\/(q.ym=r.ym/\q.yq=r.yq)\/(q.ym=3/\r.ym=3)):yte V L q:=
  ⟨by rw [h1,h2,h3]; exact h.cur,fun t ht=>by rw [h1]; exact h.fut t (by rw [← h2]; exact ht),fun hr j hj=>by
    rcases h4 with h4 | h4 | ⟨h4,h5⟩ | ⟨h4,h5⟩
    .omega
    .omega
    .rw [h1,h2]; exact h.cand (by omega) j (by rw [← h5]; exact hj)
    .omega,fun hr=>by
    rcases h4 with h4 | h4 | ⟨h4,h5⟩ | ⟨h4,h5⟩
    .omega
    .omega
    .rw [h1,h2]; exact h.lead (by omega)
    .rw [h1,h2]; exact h.lead h5⟩
theorem yte.follow(h:yte V L r)(t l:Int):yte V L (yai r t l):=by
  by_cases hlt:r.yc < t
  .have e1:(yai r t l).yc=t:=by simp [yai,hlt]
   have e2:(yai r t l).yan=0:=by simp [yai,hlt]
   have e3:(yai r t l).Id=r.Id:=rfl
   refine ⟨by rw [e1,e2,e3]; exact h.fut t hlt,fun u hu=>by rw [e3]; exact h.fut u (by rw [e1] at hu; omega),fun hr=>?_,fun hr=>?_⟩
   .simp [yai] at hr
   .simp [yai] at hr
  .exact h.of rfl (by simp [yai,hlt]) (by simp [yai,hlt]) (.inl rfl)
open Classical in
open Classical in
theorem GloV.ext{id:Int}(hg:GloV n V L)(he:ytd id V V' L L):GloV n V' L:=fun t ht=>by
  obtain ⟨g,h1,h2,h3⟩:=hg t ht
  exact ⟨g,h1,h2,fun j hj=>by
    have:=h3 j hj
    rw [he.v _ _ (by rw [this]; exact ht),this]⟩
theorem ybrd(hid:1<=r.Id){j:Nat}(hj:(yfq r)[j]? = some true):(j:Int) + 1=r.Id:=by
  unfold yfq ybl at hj
  by_cases he:(r.Id - 1).toNat=j
  .omega
  .rw [ja he] at hj
   rw [kh] at hj
   split at hj
   .simp at hj
   .cases hj
theorem yuj:(ybm r).yc=r.yc:=by unfold ybm; split <;> rfl
theorem ybsp{l:List Bool}{i:Int}(h0:0<=i){j:Nat}(hj:(ybl l i true)[j]? = some true):(j:Int) = i\/l[j]? = some true:=by
  unfold ybl at hj
  by_cases he:i.toNat=j
  .left; omega
  .rw [ja he] at hj
   exact .inr hj
end
structure InvV (n:Nat) (w:yab) (V:yoy) (L:ysc):Prop where
  mem:∀ (k:Nat) (r:ye),w.R[k]? = some r->yte V L r
  net:∀ x∈w.Net,MsgV V x
  glo:GloV n V L
end Go.Proofs.Ytgoachcogmlhcaa.R
set_option maxRecDepth 100000
set_option linter.unusedVariables false
set_option linter.unusedSimpArgs false
noncomputable section
namespace Go.Proofs.Ytgoachcogmlhcaa.R
open Go
theorem ybhg{l:List TOp}(hl:l.length<=250):∀ (m k n:Nat),l.length - k=m->k<=l.length->m < n->zdp l n (k:Int) = some ((l.drop k).all fun o=>decide (o.yck.length<=20)):=by
  intro m
  induction m with
  | zero=>
    intro k n hm hk hn
    obtain ⟨n,rfl⟩:∃ n',n=n' + 1:=⟨n - 1,by omega⟩
    have hk':¬ ((k:Int) < (l.length:Int)):=by omega
    rw [zdp,zgu,qf hk',qc (by simp),jv (by omega)]
    rfl
  | succ m ih=>
    intro k n hm hk hn
    obtain ⟨n,rfl⟩:∃ n',n=n' + 1:=⟨n - 1,by omega⟩
    have hlt:k < l.length:=by omega
    have hk':((k:Int) < (l.length:Int)):=by omega
    rw [zdp,zgu,qg hk',qe rfl,yoi hlt,yx,ygy (by omega),ih (k + 1) n (by omega) (by omega) (by omega),List.drop_eq_getElem_cons hlt,List.all_cons]
    by_cases h:20 < l[k].yck.length
    .have h1:((20:Int) < (l[k].yck.length:Int)):=by omega
     have h2:¬ l[k].yck.length<=20:=by omega
     simp [h1,h2]
    .have h1:¬ ((20:Int) < (l[k].yck.length:Int)):=by omega
     have h2:l[k].yck.length<=20:=by omega
     simp [h1,h2]
theorem ybyh(l:List TOp):∃ b,zkg l=some b/\(b=true->l.length<=250/\∀ o∈l,o.yck.length<=20):=by
  unfold zkg
  by_cases h:(250:Int) < (l.length:Int)
  .exact ⟨false,by simp [h],by simp⟩
  .refine ⟨(l.drop 0).all fun o=>decide (o.yck.length<=20),?_,fun hb=>⟨by omega,fun o ho=>?_⟩⟩
   .rw [qf h,qc (by simp)]
    exact ybhg (by omega) _ 0 _ rfl (jb _) (by omega)
   .have:=List.all_eq_true.1 hb o (by simpa using ho)
    simpa using this
theorem yckr{n:Int}(h:0<=n/\n<=255):zlb n=some (((n % 5).toNat + 1:Nat):Int):=by
  unfold zlb
  rw [ybs (n:=n) (by omega),Int.tmod_eq_emod_of_nonneg h.1,ybs (by omega)]
  congr 1
  omega
def yms(n:Nat):yab:=⟨(List.range n).map fun (k:Nat)=>yiz ((k:Int) + 1) (n:Int),[]⟩
theorem ybbu{n:Nat}(hn:n<=5):∀ (m k f:Nat),n - k=m->k<=n->m < f->zdj (n:Int) f ((k:Int) + 1) ((List.range k).map fun (k:Nat)=>yiz ((k:Int) + 1) (n:Int)) = some (yms n):=by
  intro m
  induction m with
  | zero=>
    intro k f hm hk hf
    obtain ⟨f,rfl⟩:∃ f',f=f' + 1:=⟨f - 1,by omega⟩
    have hk':¬ ((k:Int) + 1<=(n:Int)):=by omega
    have e:k=n:=by omega
    rw [zdj,zgr,qf hk',qc (by simp),e]
    rfl
  | succ m ih=>
    intro k f hm hk hf
    obtain ⟨f,rfl⟩:∃ f',f=f' + 1:=⟨f - 1,by omega⟩
    have hk':((k:Int) + 1<=(n:Int)):=by omega
    have hi:=ih (k + 1) f (by omega) (by omega) (by omega)
    have e:(List.range (k + 1)).map (fun (k:Nat)=>yiz ((k:Int) + 1) (n:Int)) = (List.range k).map (fun (k:Nat)=>yiz ((k:Int) + 1) (n:Int))++[yiz ((k:Int) + 1) (n:Int)]:=by rw [List.range_succ,ke]; rfl
    rw [e] at hi
    rw [zdj,zgr,qg hk',qe rfl,ybqy (by omega) hk' (by omega),yx,qe (ycs (by simp; omega)),ybs (by omega)]
    have e2:((k + 1:Nat):Int) + 1=(k:Int) + 1 + 1:=by omega
    rw [e2] at hi
    exact hi
theorem ybuo{n:Nat}(hn:n<=5):zkf (n:Int) = some (yms n):=by
  have:=ybbu hn n 0 (((n:Int) - 1 + 1).toNat + 1) (by omega) (jb _) (by omega)
  unfold zkf
  simpa using this
theorem yss{n k:Nat}{r:ye}(h:(yms n).R[k]? = some r):k < n/\r=yiz ((k:Int) + 1) (n:Int):=by
  have h:((List.range n).map fun (k:Nat)=>yiz ((k:Int) + 1) (n:Int))[k]? = some r:=h
  rw [jw] at h
  cases hk:(List.range n)[k]? with
  | none=>rw [hk] at h; cases h
  | some j=>
    rw [hk] at h
    have hlt:k < n:=by
      rcases qz k n with h | h
      .exact h
      .rw [qm (by simpa using h)] at hk; cases hk
    rw [List.getElem?_range hlt] at hk
    obtain rfl:=qd hk
    exact ⟨hlt,by simpa using h.symm⟩
theorem yarc{n:Nat}(h1:1<=n)(h5:n<=5):OkW 20 n (yms n):=by
  refine ⟨⟨h1,h5⟩,by simp [yms],fun k r hr=>?_,by simp [yms],by simp [yms]⟩
  obtain ⟨hk,rfl⟩:=yss hr
  exact ⟨ydfg (r:=yiz 1 1) (by simp [yiz]) (by omega) (by omega) (by omega) (by omega),rfl,rfl⟩
end Go.Proofs.Ytgoachcogmlhcaa.R
set_option maxRecDepth 100000
set_option linter.unusedVariables false
set_option linter.unusedSimpArgs false
noncomputable section
namespace Go.Proofs.Ytgoachcogmlhcaa.R
open Go
abbrev yfc:=List yk
def tAt(f:yfc)(i:Nat):Int:=if i=0 then 0 else match f[i - 1]? with | some e=>e.yc | none=>0
abbrev ypy:=Int->yfc
def Pre(G:ypy)(f:yfc):Prop:=∀ i:Nat,1<=i->i<=f.length->i<=(G (tAt f i)).length/\f.take i=(G (tAt f i)).take i
theorem yagz(f:yfc):tAt f 0=0:=by simp [tAt]
theorem yzs{f:yfc}{i m:Nat}(h:i<=m):tAt (f.take m) i=tAt f i:=by
  unfold tAt
  split
  .rfl
  .rename_i h0
   rw [qn,qe (by omega)]
theorem yjq{f g:yfc}{i m:Nat}(h:i<=m)(he:f.take m=g.take m):tAt f i=tAt g i:=by
  rw [← yzs (f:=f) h,he,yzs h]
theorem ypw{f g:yfc}{i m:Nat}(h:i<=m)(he:f.take m=g.take m):f.take i=g.take i:=by
  have:(f.take m).take i=(g.take m).take i:=by rw [he]
  rwa [List.take_take,List.take_take,wi h] at this
theorem yrx{f:yfc}{i:Nat}(h1:1<=i)(h2:i<=f.length):tAt f i=(f[i - 1]'(by omega)).yc:=by
  unfold tAt
  rw [qc (by omega),qj (by omega)]
theorem Pre.take{G:ypy}{f:yfc}(h:Pre G f)(m:Nat):Pre G (f.take m):=by
  intro i h1 h2
  have h3:i<=m/\i<=f.length:=by simp at h2; omega
  rw [yzs h3.1,List.take_take,wi h3.1]
  exact h i h1 h3.2
theorem Pre.meet{G:ypy}{f g:yfc}(hf:Pre G f)(hg:Pre G g){i:Nat}(h1:1<=i)(h2:i<=f.length)(h3:i<=g.length)(he:tAt f i=tAt g i):f.take i=g.take i:=by
  rw [(hf i h1 h2).2,(hg i h1 h3).2,he]
structure Gh where
  V:yoy
  L:ysc
  G:ypy
  A:Int->Int->Nat
  C:Int->Int->yfc
  T:Int->Int
  F:ypy
def May(n:Nat)(g:Gh)(t:Int)(i:Nat):Prop:=∃ q:List Bool,q.length=n/\ydv q=true/\∀ j:Nat,q[j]? = some true->i<=g.A ((j:Int) + 1) t\/g.T ((j:Int) + 1)<=t
def Done(n:Nat)(g:Gh)(t:Int)(i:Nat):Prop:=tAt (g.G t) i=t/\i<=(g.G t).length/\∃ q:List Bool,q.length=n/\ydv q=true/\∀ j:Nat,q[j]? = some true->i<=g.A ((j:Int) + 1) t
theorem Done.may{n:Nat}{g:Gh}{t:Int}{i:Nat}(h:Done n g t i):May n g t i:=by
  obtain ⟨_,_,q,q1,q2,q3⟩:=h
  exact ⟨q,q1,q2,fun j hj=>.inl (q3 j hj)⟩
structure ydy (n:Nat) (g:Gh):Prop where
  a0:∀ k t,g.T k < t->g.A k t=0
  aG:∀ k t,g.A k t<=(g.G t).length
  aF:∀ k,(g.F k).take (g.A k (g.T k)) = (g.G (g.T k)).take (g.A k (g.T k))/\g.A k (g.T k)<=(g.F k).length
  pF:∀ k,Pre g.G (g.F k)
  pG:∀ t,Pre g.G (g.G t)
  tG:∀ t,∀ e∈g.G t,1<=e.yc/\e.yc<=t
  sG:∀ t,(g.G t).Pairwise (fun a b=>a.yc<=b.yc)
  pC:∀ t c,Pre g.G (g.C t c)/\∀ e∈g.C t c,e.yc < t
  lG:∀ t,g.L t=0->g.G t = []
  S:∀ t t' i,t < t'->g.L t'≠0->1<=i->i<=(g.G t).length->tAt (g.G t) i=t->May n g t i->i<=(g.G t').length/\(g.G t').take i=(g.G t).take i
  K:∀ k t i,t<=g.T k->1<=i->i<=g.A k t->tAt (g.G t) i=t->May n g t i->i<=(g.F k).length/\(g.F k).take i=(g.G t).take i
  VL:∀ t' k,g.V t' k≠0->∀ t i,t < t'->1<=i->i<=g.A k t->tAt (g.G t) i=t->May n g t i->i<=(g.C t' (g.V t' k)).length/\(g.C t' (g.V t' k)).take i=(g.G t).take i
  q:∀ t,g.L t≠0->∃ q:List Bool,q.length=n/\ydv q=true/\∀ j:Nat,q[j]? = some true->g.V t ((j:Int) + 1) = g.L t
  vt:∀ t k,g.V t k≠0->t<=g.T k
  vc:∀ t k,g.V t k≠0->t<=g.T (g.V t k)
  tF:∀ k,∀ e∈g.F k,e.yc<=g.T k
section
variable {n:Nat} {g:Gh}
def Gh.rise(g:Gh)(k t:Int):Gh:={ g with T:=fun x=>if x=k then t else g.T x }
theorem yagp{k t' t:Int}{i:Nat}(ht:g.T k<=t')(h:May n (g.rise k t') t i):May n g t i:=by
  obtain ⟨q,q1,q2,q3⟩:=h
  refine ⟨q,q1,q2,fun j hj=>?_⟩
  rcases q3 j hj with h | h
  .exact .inl h
  .right
   unfold Gh.rise at h
   simp only at h
   split at h
   .rename_i hk; rw [hk]; omega
   .exact h
theorem ycan(h:ydy n g){k t':Int}(ht:g.T k<=t'):ydy n (g.rise k t'):=by
  have hT:∀ x,g.T x<=(g.rise k t').T x:=by
    intro x
    unfold Gh.rise
    simp only
    split
    .rename_i hk; rw [hk]; exact ht
    .exact qh _
  refine { h with a0:=fun x t hx=>h.a0 x t (by have:=hT x; omega),aF:=fun x=>?_,S:=fun t t2 i h1 h2 h3 h4 h5 h6=>h.S t t2 i h1 h2 h3 h4 h5 (yagp ht h6),K:=fun x t i h1 h2 h3 h4 h5=>?_,VL:=fun t2 x h1 t i h2 h3 h4 h5 h6=>h.VL t2 x h1 t i h2 h3 h4 h5 (yagp ht h6),vt:=fun t x hx=>by have:=h.vt t x hx; have:=hT x; omega,vc:=fun t x hx=>kd (h.vc t x hx) (hT (g.V t x)),tF:=fun x e he=>by have:=h.tF x e he; have:=hT x; omega }
  .show (g.F x).take (g.A x ((g.rise k t').T x)) = (g.G ((g.rise k t').T x)).take (g.A x ((g.rise k t').T x))/\g.A x ((g.rise k t').T x)<=(g.F x).length
   rcases jz (g.T x) ((g.rise k t').T x) with hlt | hle
   .rw [h.a0 x _ hlt]; simp
   .have:(g.rise k t').T x=g.T x:=by have:=hT x; omega
    rw [this]; exact h.aF x
  .rcases jz (g.T x) t with hlt | hle
   .have h3:i<=g.A x t:=h3
    rw [h.a0 x _ hlt] at h3
    omega
   .exact h.K x t i hle h2 h3 h4 (yagp ht h5)
theorem Pre.sorted(h:ydy n g){f:yfc}(hf:Pre g.G f):f.Pairwise (fun a b=>a.yc<=b.yc):=by
  rcases jf f.length with h0 | h0
  .rw [wg h0]; exact List.Pairwise.nil
  .obtain ⟨p1,p2⟩:=hf f.length h0 (qk _)
   rw [List.take_length] at p2
   rw [p2]
   exact (h.sG _).sublist (List.take_sublist _ _)
theorem yzr{f:yfc}(hs:f.Pairwise (fun a b=>a.yc<=b.yc)){i j:Nat}(h1:1<=i)(h2:i<=j)(h3:j<=f.length):tAt f i<=tAt f j:=by
  rw [yrx h1 (by omega),yrx (by omega) h3]
  rcases qz i j with hij | hij
  .exact List.pairwise_iff_getElem.1 hs (i - 1) (j - 1) (by omega) (by omega) (by omega)
  .have:i=j:=by omega
   subst this
   exact qh _
theorem yadx{f:yfc}{i:Nat}(h1:1<=i)(h2:i<=f.length):∃ e∈f,e.yc=tAt f i:=by
  rw [yrx h1 h2]
  exact ⟨_,jd _,rfl⟩
theorem Pre.pos(h:ydy n g){f:yfc}(hf:Pre g.G f){e:yk}(he:e∈f):1<=e.yc:=by
  obtain ⟨i,hi,rfl⟩:=List.getElem_of_mem he
  obtain ⟨p1,p2⟩:=hf (i + 1) (by omega) (by omega)
  have e1:tAt f (i + 1) = tAt (g.G (tAt f (i + 1))) (i + 1):=yjq (qk _) p2
  obtain ⟨e,q1,q2⟩:=yadx (f:=g.G (tAt f (i + 1))) (i:=i + 1) (by omega) p1
  have:=(h.tG _ e q1).1
  rw [q2,← e1,yrx (by omega) (by omega)] at this
  exact this
theorem yahb{f g:yfc}{i m:Nat}(h:f=g.take m)(hi:i<=m)(hm:m<=g.length):i<=f.length/\f.take i=g.take i:=by
  subst h
  refine ⟨by simp; omega,by rw [List.take_take,wi hi]⟩
theorem ybhm(h:ydy n g){f c:yfc}(hf:Pre g.G f)(hc:Pre g.G c){t:Int}{i:Nat}(h1:1<=i)(hi:i<=f.length)(he:f.take i=(g.G t).take i)(hiG:i<=(g.G t).length)(ht:tAt (g.G t) i=t)(hm:May n g t i)
    (hn:tAt f f.length < tAt c c.length\/(tAt f f.length=tAt c c.length/\f.length<=c.length)):i<=c.length/\c.take i=(g.G t).take i:=by
  have et:tAt f i=t:=by rw [yjq (qk _) he,ht]
  have htl:t<=tAt f f.length:=by rw [← et]; exact yzr (Pre.sorted h hf) h1 hi (qk _)
  rcases hn with hn | ⟨hn,hl⟩
  .have hc1:1<=c.length:=by
     rcases jf c.length with h0 | h0
     .rw [h0,yagz] at hn
      obtain ⟨e,q1,q2⟩:=yadx h1 hiG
      have:=(h.tG _ e q1).1
      omega
     .exact h0
   obtain ⟨p1,p2⟩:=hc c.length hc1 (qk _)
   rw [List.take_length] at p2
   have hlt0:t < tAt c c.length:=by omega
   generalize hT0:tAt c c.length=T0 at *
   have hL:g.L T0≠0:=fun h0=>by rw [h.lG T0 h0] at p1; simp only [List.length_nil] at p1; omega
   obtain ⟨s1,s2⟩:=h.S t T0 i (by omega) hL h1 hiG ht hm
   have hic:i<=c.length:=by
     rcases qz c.length i with hlt | hge
     .exfalso
      have e1:tAt (g.G T0) c.length=T0:=by
        have:tAt c c.length=tAt (g.G T0) c.length:=yjq (m:=c.length) (qk _) (by rw [List.take_length]; exact p2)
        rw [← this]; exact hT0
      have e2:=yzr (h.sG T0) hc1 (kn hlt) s1
      have e3:tAt (g.G T0) i=t:=by rw [yjq (qk _) s2,ht]
      have e4:=yzr (h.sG T0) hc1 (kn hlt) s1
      rw [e1,e3] at e4
      have:t < T0:=hlt0
      omega
     .exact hge
   obtain ⟨_,q2⟩:=yahb p2 hic p1
   exact ⟨hic,by rw [q2,s2]⟩
  .have hic:i<=c.length:=by omega
   obtain ⟨p1,p2⟩:=hc c.length (by omega) (qk _)
   obtain ⟨r1,r2⟩:=hf f.length (by omega) (qk _)
   rw [List.take_length] at p2 r2
   rw [← hn] at p1 p2
   obtain ⟨_,q2⟩:=yahb p2 hic p1
   obtain ⟨_,q3⟩:=yahb r2 hi r1
   exact ⟨hic,by rw [q2,← q3,he]⟩
open Classical in
def Gh.vote(g:Gh)(k c:Int):Gh:={ g with V:=fun t x=>if t=g.T k/\x=k then c else g.V t x }
theorem ycbu(h:ydy n g){k c:Int}(hv:g.V (g.T k) k=0\/g.V (g.T k) k=c)(hct:g.T k<=g.T c)
    (hn:tAt (g.F k) (g.F k).length < tAt (g.C (g.T k) c) (g.C (g.T k) c).length\/(tAt (g.F k) (g.F k).length=tAt (g.C (g.T k) c) (g.C (g.T k) c).length/\(g.F k).length<=(g.C (g.T k) c).length)):ydy n (g.vote k c):=by
  have hV:∀ t x,(t=g.T k/\x=k/\(g.vote k c).V t x=c)\/(g.vote k c).V t x=g.V t x:=by
    intro t x
    unfold Gh.vote
    simp only
    split
    .rename_i hh; exact .inl ⟨hh.1,hh.2,rfl⟩
    .exact .inr rfl
  refine { h with VL:=fun t' x h1 t i h2 h3 h4 h5 h6=>?_,q:=fun t ht=>?_,vt:=fun t x hx=>?_,vc:=fun t x hx=>?_ }
  .rcases hV t' x with ⟨e1,e2,e3⟩ | e
   .rw [e3]
    subst e1 e2
    have hk:=h.K x t i (by omega) h3 h4 h5 h6
    exact ybhm h (h.pF x) (h.pC _ c).1 h3 hk.1 hk.2 (ww h4 (h.aG x t)) h5 h6 hn
   .rw [e] at h1 ⊢
    exact h.VL t' x h1 t i h2 h3 h4 h5 h6
  .obtain ⟨q,q1,q2,q3⟩:=h.q t ht
   refine ⟨q,q1,q2,fun j hj=>?_⟩
   have:=q3 j hj
   rcases hV t ((j:Int) + 1) with ⟨e1,e2,e3⟩ | e
   .rw [e3]
    subst e1
    rw [e2] at this
    rcases hv with h0 | h0
    .rw [h0] at this; exact absurd this.symm ht
    .rw [← h0]; exact this
   .rw [e]; exact this
  .rcases hV t x with ⟨e1,e2,e3⟩ | e
   .show t<=g.T x; rw [e1,e2]; exact qh _
   .rw [e] at hx; exact h.vt t x hx
  .rcases hV t x with ⟨e1,e2,e3⟩ | e
   .rw [e3]; show t<=g.T c; rw [e1]; exact hct
   .rw [e] at hx ⊢; exact h.vc t x hx
end
section
variable {n:Nat} {g:Gh}
theorem yajy{g g':Gh}{t:Int}{i:Nat}(h:∀ j,(i<=g'.A j t\/g'.T j<=t)->(i<=g.A j t\/g.T j<=t))(hm:May n g' t i):May n g t i:=by
  obtain ⟨q,q1,q2,q3⟩:=hm
  exact ⟨q,q1,q2,fun j hj=>h _ (q3 j hj)⟩
theorem Pre.nil(G:ypy):Pre G []:=by intro i h1 h2; simp only [List.length_nil] at h2; omega
def Gh.stand(g:Gh)(k:Int):Gh:={ g with T:=fun x=>if x=k then g.T k + 1 else g.T x,V:=fun t x=>if t=g.T k + 1/\x=k then k else g.V t x,C:=fun t c=>if t=g.T k + 1/\c=k then g.F k else g.C t c }
theorem ybtd(h:ydy n g){k:Int}(hk:k≠0):ydy n (g.stand k):=by
  have hT:∀ x,g.T x<=(g.stand k).T x:=by
    intro x
    unfold Gh.stand
    simp only
    split
    .rename_i hk; rw [hk]; omega
    .exact qh _
  have hTk:(g.stand k).T k=g.T k + 1:=by unfold Gh.stand; simp
  have hTo:∀ x,x≠k->(g.stand k).T x=g.T x:=by intro x hx; unfold Gh.stand; simp [hx]
  have hV:∀ t x,(t=g.T k + 1/\x=k/\(g.stand k).V t x=k)\/(¬ (t=g.T k + 1/\x=k)/\(g.stand k).V t x=g.V t x):=by
    intro t x
    unfold Gh.stand
    simp only
    split
    .rename_i hh; exact .inl ⟨hh.1,hh.2,rfl⟩
    .rename_i hh; exact .inr ⟨hh,rfl⟩
  have hC:∀ t c,(t=g.T k + 1/\c=k/\(g.stand k).C t c=g.F k)\/(¬ (t=g.T k + 1/\c=k)/\(g.stand k).C t c=g.C t c):=by
    intro t x
    unfold Gh.stand
    simp only
    split
    .rename_i hh; exact .inl ⟨hh.1,hh.2,rfl⟩
    .rename_i hh; exact .inr ⟨hh,rfl⟩
  have hM:∀ t i,May n (g.stand k) t i->May n g t i:=fun t i=>yajy fun j hj=>by
    rcases hj with h | h
    .exact .inl h
    .have:=hT j; right; omega
  refine { h with a0:=fun x t hx=>h.a0 x t (by have:=hT x; omega),aF:=fun x=>?_,S:=fun t t2 i h1 h2 h3 h4 h5 h6=>h.S t t2 i h1 h2 h3 h4 h5 (hM _ _ h6),K:=fun x t i h1 h2 h3 h4 h5=>?_,VL:=fun t2 x h1 t i h2 h3 h4 h5 h6=>?_,vt:=fun t x hx=>?_,vc:=fun t x hx=>?_,tF:=fun x e he=>by have:=h.tF x e he; have:=hT x; omega,pC:=fun t c=>?_,q:=fun t ht=>?_ }
  .show (g.F x).take (g.A x ((g.stand k).T x)) = (g.G ((g.stand k).T x)).take (g.A x ((g.stand k).T x))/\g.A x ((g.stand k).T x)<=(g.F x).length
   rcases jz (g.T x) ((g.stand k).T x) with hlt | hle
   .rw [h.a0 x _ hlt]; simp
   .have:(g.stand k).T x=g.T x:=by have:=hT x; omega
    rw [this]; exact h.aF x
  .rcases hC t c with ⟨e1,e2,e3⟩ | ⟨_,e⟩
   .rw [e3]
    exact ⟨h.pF k,fun e he=>by have:=h.tF k e he; omega⟩
   .rw [e]; exact h.pC t c
  .rcases jz (g.T x) t with hlt | hle
   .have h3:i<=g.A x t:=h3
    rw [h.a0 x _ hlt] at h3
    omega
   .exact h.K x t i hle h2 h3 h4 (hM _ _ h5)
  .rcases hV t2 x with ⟨e1,e2,e3⟩ | ⟨hn,e⟩
   .rw [e3]
    rcases hC t2 k with ⟨_,_,e4⟩ | ⟨e4,_⟩
    .rw [e4,← e2]
     exact h.K x t i (by rw [e2]; omega) h3 h4 h5 (hM _ _ h6)
    .exact absurd ⟨e1,rfl⟩ e4
   .rw [e] at h1 ⊢
    rcases hC t2 (g.V t2 x) with ⟨e5,e6,_⟩ | ⟨_,e4⟩
    .have:=h.vc t2 x h1
     rw [e6] at this
     omega
    .rw [e4]
     exact h.VL t2 x h1 t i h2 h3 h4 h5 (hM _ _ h6)
  .obtain ⟨q,q1,q2,q3⟩:=h.q t ht
   refine ⟨q,q1,q2,fun j hj=>?_⟩
   have:=q3 j hj
   rcases hV t ((j:Int) + 1) with ⟨e1,e2,e3⟩ | ⟨_,e⟩
   .have:=h.vt t ((j:Int) + 1) (by rw [this]; exact ht)
    rw [e2] at this
    omega
   .rw [e]; exact this
  .rcases hV t x with ⟨e1,e2,e3⟩ | ⟨_,e⟩
   .rw [e2,hTk,e1]; exact qh _
   .rw [e] at hx; have:=h.vt t x hx; have:=hT x; omega
  .rcases hV t x with ⟨e1,e2,e3⟩ | ⟨_,e⟩
   .rw [e3,hTk,e1]; exact qh _
   .rw [e] at hx ⊢; exact kd (h.vc t x hx) (hT _)
theorem Pre.grow{G G':ypy}(hG:∀ t i,i<=(G t).length->i<=(G' t).length/\(G' t).take i=(G t).take i){f:yfc}(h:Pre G f):Pre G' f:=by
  intro i h1 h2
  obtain ⟨p1,p2⟩:=h i h1 h2
  obtain ⟨g1,g2⟩:=hG _ i p1
  exact ⟨g1,by rw [g2]; exact p2⟩
def Gh.elect(g:Gh)(k:Int):Gh:={ g with L:=fun t=>if t=g.T k then k else g.L t,G:=fun t=>if t=g.T k then g.F k else g.G t,A:=fun x t=>if x=k/\t=g.T k then (g.F k).length else g.A x t }
theorem ybkt(h:ydy n g){k:Int}(hk:k≠0)(hL:g.L (g.T k) = 0)(hF:g.F k=g.C (g.T k) k)(hq:∃ q:List Bool,q.length=n/\ydv q=true/\∀ j:Nat,q[j]? = some true->g.V (g.T k) ((j:Int) + 1) = k):ydy n (g.elect k):=by
  have hG0:=h.lG _ hL
  have hlt:∀ e∈g.F k,e.yc < g.T k:=by rw [hF]; exact (h.pC _ _).2
  have hG:∀ t i,i<=(g.G t).length->i<=((g.elect k).G t).length/\((g.elect k).G t).take i=(g.G t).take i:=by
    intro t i hi
    unfold Gh.elect
    simp only
    split
    .rename_i e
     rw [e,hG0] at hi ⊢
     have:i=0:=by simpa using hi
     subst this
     simp
    .exact ⟨hi,rfl⟩
  have hGt:(g.elect k).G (g.T k) = g.F k:=by unfold Gh.elect; simp
  have hGo:∀ t,t≠g.T k->(g.elect k).G t=g.G t:=by intro t ht; unfold Gh.elect; simp [ht]
  have hLt:(g.elect k).L (g.T k) = k:=by unfold Gh.elect; simp
  have hLo:∀ t,t≠g.T k->(g.elect k).L t=g.L t:=by intro t ht; unfold Gh.elect; simp [ht]
  have hAk:(g.elect k).A k (g.T k) = (g.F k).length:=by unfold Gh.elect; simp
  have hAo:∀ x t,¬ (x=k/\t=g.T k)->(g.elect k).A x t=g.A x t:=by intro x t ht; unfold Gh.elect; simp only [ht,↓reduceIte]
  have hA0:∀ x,g.A x (g.T k) = 0:=by intro x; have:=h.aG x (g.T k); rw [hG0] at this; simpa using this
  have hno:∀ i,1<=i->i<=(g.F k).length->tAt (g.F k) i≠g.T k:=by
    intro i h1 h2 e
    obtain ⟨x,x1,x2⟩:=yadx h1 h2
    have:=hlt x x1
    omega
  have hM:∀ t i,May n (g.elect k) t i->May n g t i:=fun t i=>yajy fun j hj=>by
    rcases hj with h | h
    .by_cases hjk:j=k/\t=g.T k
     .right; rw [hjk.1,hjk.2]; exact qh _
     .rw [hAo j t hjk] at h; exact .inl h
    .exact .inr h
  have hAle:∀ x t i,1<=i->i<=(g.elect k).A x t->tAt ((g.elect k).G t) i=t->t≠g.T k/\i<=g.A x t:=by
    intro x t i h1 h2 h3
    have ht:t≠g.T k:=by
      intro e
      subst e
      rw [hGt] at h3
      by_cases hx:x=k
      .subst hx
       rw [hAk] at h2
       exact hno i h1 h2 h3
      .rw [hAo x _ (fun e=>hx e.1),hA0] at h2
       omega
    refine ⟨ht,?_⟩
    rwa [hAo x t (fun e=>ht e.2)] at h2
  refine { h with a0:=fun x t hx=>?_,aG:=fun x t=>?_,aF:=fun x=>?_,pF:=fun x=>(h.pF x).grow hG,pG:=fun t=>?_,tG:=fun t=>?_,sG:=fun t=>?_,pC:=fun t c=>⟨(h.pC t c).1.grow hG,(h.pC t c).2⟩,lG:=fun t ht=>?_,S:=fun t t2 i h1 h2 h3 h4 h5 h6=>?_,K:=fun x t i h1 h2 h3 h4 h5=>?_,VL:=fun t2 x h1 t i h2 h3 h4 h5 h6=>?_,q:=fun t ht=>?_ }
  .have hx:g.T x < t:=hx
   rw [hAo x t (by rintro ⟨rfl,rfl⟩; omega)]
   exact h.a0 x t hx
  .by_cases hh:x=k/\t=g.T k
   .rw [hh.1,hh.2,hAk,hGt]; exact qk _
   .rw [hAo x t hh]
    exact (hG t _ (h.aG x t)).1
  .show (g.F x).take ((g.elect k).A x (g.T x)) = ((g.elect k).G (g.T x)).take ((g.elect k).A x (g.T x))/\(g.elect k).A x (g.T x)<=(g.F x).length
   by_cases hh:x=k
   .subst hh
    rw [hAk,hGt]
    exact ⟨rfl,qk _⟩
   .rw [hAo x _ (fun e=>hh e.1)]
    have:=h.aF x
    exact ⟨by rw [this.1,(hG _ _ (h.aG x (g.T x))).2],this.2⟩
  .by_cases ht:t=g.T k
   .subst ht; rw [hGt]; exact (h.pF k).grow hG
   .rw [hGo t ht]; exact (h.pG t).grow hG
  .by_cases ht:t=g.T k
   .subst ht; rw [hGt]; exact fun e he=>⟨Pre.pos h (h.pF k) he,h.tF k e he⟩
   .rw [hGo t ht]; exact h.tG t
  .by_cases ht:t=g.T k
   .subst ht; rw [hGt]; exact Pre.sorted h (h.pF k)
   .rw [hGo t ht]; exact h.sG t
  .by_cases e:t=g.T k
   .subst e; rw [hLt] at ht; exact absurd ht hk
   .rw [hLo t e] at ht; rw [hGo t e]; exact h.lG t ht
  .have ht:t≠g.T k:=by
     intro e
     subst e
     rw [hGt] at h4 h5
     exact hno i h3 h4 h5
   rw [hGo t ht] at h4 h5 ⊢
   by_cases e:t2=g.T k
   .subst e
    rw [hGt]
    obtain ⟨q,q1,q2,q3⟩:=hq
    obtain ⟨p,p1,p2,p3⟩:=hM t i h6
    obtain ⟨j,j1,j2⟩:=yvm (p1.trans q1.symm) p2 q2
    have hv:=q3 j j2
    have hj:=h.vt (g.T k) ((j:Int) + 1) (by rw [hv]; exact hk)
    rcases p3 j j1 with hp | hp
    .have:=h.VL (g.T k) ((j:Int) + 1) (by rw [hv]; exact hk) t i h1 h3 hp h5 (hM t i h6)
     rw [hv,← hF] at this
     exact this
    .omega
   .rw [hGo t2 e]
    rw [hLo t2 e] at h2
    exact h.S t t2 i h1 h2 h3 h4 h5 (hM t i h6)
  .obtain ⟨ht,h3'⟩:=hAle x t i h2 h3 h4
   rw [hGo t ht] at h4 ⊢
   exact h.K x t i h1 h2 h3' h4 (hM t i h5)
  .obtain ⟨ht,h4'⟩:=hAle x t i h3 h4 h5
   rw [hGo t ht] at h5 ⊢
   exact h.VL t2 x h1 t i h2 h3 h4' h5 (hM t i h6)
  .by_cases e:t=g.T k
   .subst e; rw [hLt]; exact hq
   .rw [hLo t e] at ht ⊢; exact h.q t ht
def Gh.add(g:Gh)(k:Int)(e:yk):Gh:={ g with G:=fun t=>if t=g.T k then g.F k++[e] else g.G t,F:=fun x=>if x=k then g.F k++[e] else g.F x,A:=fun x t=>if x=k/\t=g.T k then (g.F k).length + 1 else g.A x t }
theorem ypl{f:yfc}{e:yk}{i:Nat}(hi:i<=f.length):(f++[e]).take i=f.take i:=List.take_append_of_le_length hi
theorem yand{f:yfc}{e:yk}{i:Nat}(hi:i<=f.length):tAt (f++[e]) i=tAt f i:=yjq (qk _) (ypl hi)
theorem yavh{f:yfc}{e:yk}:tAt (f++[e]) (f.length + 1) = e.yc:=by
  rw [yrx (by omega) (by simp)]
  simp
theorem ycdw(h:ydy n g){k:Int}{e:yk}(he:e.yc=g.T k)(h1t:1<=g.T k)(hL:g.L (g.T k)≠0)(hF:g.F k=g.G (g.T k)):ydy n (g.add k e):=by
  have hGt:(g.add k e).G (g.T k) = g.F k++[e]:=by unfold Gh.add; simp
  have hGo:∀ t,t≠g.T k->(g.add k e).G t=g.G t:=by intro t ht; unfold Gh.add; simp [ht]
  have hFk:(g.add k e).F k=g.F k++[e]:=by unfold Gh.add; simp
  have hFo:∀ x,x≠k->(g.add k e).F x=g.F x:=by intro t ht; unfold Gh.add; simp [ht]
  have hAk:(g.add k e).A k (g.T k) = (g.F k).length + 1:=by unfold Gh.add; simp
  have hAo:∀ x t,¬ (x=k/\t=g.T k)->(g.add k e).A x t=g.A x t:=by intro x t ht; unfold Gh.add; simp only [ht,↓reduceIte]
  have hG:∀ t i,i<=(g.G t).length->i<=((g.add k e).G t).length/\((g.add k e).G t).take i=(g.G t).take i:=by
    intro t i hi
    by_cases ht:t=g.T k
    .subst ht
     rw [hGt,hF]
     exact ⟨by simp; omega,ypl hi⟩
    .rw [hGo t ht]; exact ⟨hi,rfl⟩
  have hM:∀ t i,May n (g.add k e) t i->May n g t i:=fun t i=>yajy fun j hj=>by
    rcases hj with h | h
    .by_cases hjk:j=k/\t=g.T k
     .right; rw [hjk.1,hjk.2]; exact qh _
     .rw [hAo j t hjk] at h; exact .inl h
    .exact .inr h
  have hbig:∀ x i,x≠k->i<=(g.add k e).A x (g.T k)->i<=(g.F k).length:=by
    intro x i hx hi
    rw [hAo x _ (fun q=>hx q.1)] at hi
    have:=h.aG x (g.T k)
    rw [← hF] at this
    omega
  refine { h with a0:=fun x t hx=>?_,aG:=fun x t=>?_,aF:=fun x=>?_,pF:=fun x=>?_,pG:=fun t=>?_,tG:=fun t=>?_,sG:=fun t=>?_,pC:=fun t c=>⟨(h.pC t c).1.grow hG,(h.pC t c).2⟩,lG:=fun t ht=>?_,S:=fun t t2 i h1 h2 h3 h4 h5 h6=>?_,K:=fun x t i h1 h2 h3 h4 h5=>?_,VL:=fun t2 x h1 t i h2 h3 h4 h5 h6=>?_,tF:=fun x=>?_ }
  .have hx:g.T x < t:=hx
   rw [hAo x t (by rintro ⟨rfl,rfl⟩; omega)]
   exact h.a0 x t hx
  .by_cases hh:x=k/\t=g.T k
   .rw [hh.1,hh.2,hAk,hGt]; simp
   .rw [hAo x t hh]
    exact (hG t _ (h.aG x t)).1
  .show ((g.add k e).F x).take ((g.add k e).A x (g.T x)) = ((g.add k e).G (g.T x)).take ((g.add k e).A x (g.T x))/\(g.add k e).A x (g.T x)<=((g.add k e).F x).length
   by_cases hh:x=k
   .subst hh
    rw [hAk,hGt,hFk]
    exact ⟨rfl,by simp⟩
   .rw [hAo x _ (fun e=>hh e.1),hFo x hh]
    have:=h.aF x
    exact ⟨by rw [this.1,(hG _ _ (h.aG x (g.T x))).2],this.2⟩
  .by_cases hx:x=k
   .subst hx
    rw [hFk]
    intro i i1 i2
    rcases qz (g.F x).length i with hi | hi
    .have:i=(g.F x).length + 1:=by simp at i2; omega
     subst this
     rw [yavh,he,hGt]
     exact ⟨by simp,rfl⟩
    .rw [yand hi,ypl hi]
     exact (h.pF x).grow hG i i1 hi
   .rw [hFo x hx]; exact (h.pF x).grow hG
  .by_cases ht:t=g.T k
   .subst ht
    rw [hGt]
    intro i i1 i2
    rcases qz (g.F k).length i with hi | hi
    .have:i=(g.F k).length + 1:=by simp at i2; omega
     subst this
     rw [yavh,he,hGt]
     exact ⟨by simp,rfl⟩
    .rw [yand hi,ypl hi]
     exact (h.pF k).grow hG i i1 hi
   .rw [hGo t ht]; exact (h.pG t).grow hG
  .by_cases ht:t=g.T k
   .subst ht
    rw [hGt]
    intro x hx
    rcases qt.1 hx with hx | hx
    .rw [hF] at hx; exact h.tG _ x hx
    .rw [wb.1 hx,he]; exact ⟨h1t,qh _⟩
   .rw [hGo t ht]; exact h.tG t
  .by_cases ht:t=g.T k
   .subst ht
    rw [hGt]
    refine List.pairwise_append.2 ⟨by rw [hF]; exact h.sG _,List.pairwise_singleton _ _,fun a ha b hb=>?_⟩
    rw [wb.1 hb,he]
    exact h.tF k a ha
   .rw [hGo t ht]; exact h.sG t
  .have ht:g.L t=0:=ht
   rw [hGo t (by rintro rfl; exact hL ht)]
   exact h.lG t ht
  .have h2:g.L t2≠0:=h2
   have hold:i<=(g.G t).length\/t=g.T k:=by
     by_cases ht:t=g.T k
     .exact .inr ht
     .rw [hGo t ht] at h4; exact .inl h4
   have hold:i<=(g.G t).length:=by
     rcases hold with h | ht
     .exact h
     .subst ht
      obtain ⟨q,q1,q2,q3⟩:=h.q t2 h2
      obtain ⟨p,p1,p2,p3⟩:=h6
      obtain ⟨j,j1,j2⟩:=yvm (p1.trans q1.symm) p2 q2
      have hj:=h.vt t2 ((j:Int) + 1) (by rw [q3 j j2]; exact h2)
      have hjk:(j:Int) + 1≠k:=by intro e; rw [e] at hj; omega
      rcases p3 j j1 with hp | hp
      .rw [← hF]; exact hbig _ i hjk hp
      .have hp:g.T ((j:Int) + 1)<=g.T k:=hp
       omega
   obtain ⟨g1,g2⟩:=hG t i hold
   rw [yjq (qk _) g2] at h5
   obtain ⟨s1,s2⟩:=h.S t t2 i h1 h2 h3 hold h5 (hM t i h6)
   obtain ⟨r1,r2⟩:=hG t2 i s1
   exact ⟨r1,by rw [r2,g2,s2]⟩
  .have h1:t<=g.T x:=h1
   by_cases hxk:x=k/\t=g.T k
   .obtain ⟨rfl,rfl⟩:=hxk
    rw [hAk] at h3
    rw [hFk,hGt]
    exact ⟨by simp; omega,rfl⟩
   .have h3':=h3
    rw [hAo x t hxk] at h3'
    obtain ⟨g1,g2⟩:=hG t i (ww h3' (h.aG x t))
    rw [yjq (qk _) g2] at h4
    obtain ⟨s1,s2⟩:=h.K x t i h1 h2 h3' h4 (hM t i h5)
    rw [g2,← s2]
    by_cases hx:x=k
    .subst hx
     rw [hFk]
     exact ⟨by simp; omega,ypl s1⟩
    .rw [hFo x hx]; exact ⟨s1,rfl⟩
  .have h1:g.V t2 x≠0:=h1
   have hv:=h.vt t2 x h1
   have hxk:¬ (x=k/\t=g.T k):=by rintro ⟨rfl,rfl⟩; omega
   rw [hAo x t hxk] at h4
   obtain ⟨g1,g2⟩:=hG t i (ww h4 (h.aG x t))
   rw [yjq (qk _) g2] at h5
   rw [g2]
   exact h.VL t2 x h1 t i h2 h3 h4 h5 (hM t i h6)
  .show ∀ x'∈(g.add k e).F x,x'.yc<=g.T x
   by_cases hx:x=k
   .subst hx
    rw [hFk]
    intro y hy
    rcases qt.1 hy with hy | hy
    .exact h.tF x y hy
    .rw [wb.1 hy,he]; exact qh _
   .rw [hFo x hx]; exact h.tF x
open Classical in
def yfu(f gt:yfc)(m:Nat):yfc:=if m<=f.length/\f.take m=gt.take m then f else gt.take m
def Gh.accept(g:Gh)(k:Int)(m:Nat):Gh:={ g with F:=fun x=>if x=k then yfu (g.F k) (g.G (g.T k)) m else g.F x,A:=fun x t=>if x=k/\t=g.T k then Nat.max (g.A k t) m else g.A x t }
theorem yajz{f gt:yfc}{m:Nat}(hm:m<=gt.length):m<=(yfu f gt m).length/\(yfu f gt m).take m=gt.take m:=by
  unfold yfu
  split
  .rename_i h; exact h
  .exact ⟨by simp; omega,by rw [List.take_take,Nat.min_self]⟩
theorem ytr{f gt:yfc}{m c:Nat}(hc:c<=f.length)(he:f.take c=gt.take c)(hg:c<=gt.length):c<=(yfu f gt m).length/\(yfu f gt m).take c=gt.take c:=by
  unfold yfu
  split
  .exact ⟨hc,he⟩
  .rename_i h
   have hmc:c<=m:=by
     rcases qz m c with hlt | hge
     .exact absurd ⟨by omega,ypw (kn hlt) he⟩ h
     .exact hge
   exact ⟨by simp; omega,by rw [List.take_take,wi hmc]⟩
theorem ybbp(h:ydy n g){k:Int}{m:Nat}(hm:m<=(g.G (g.T k)).length)(hL:g.L (g.T k)≠0):ydy n (g.accept k m):=by
  have hFk:(g.accept k m).F k=yfu (g.F k) (g.G (g.T k)) m:=by unfold Gh.accept; simp
  have hFo:∀ x,x≠k->(g.accept k m).F x=g.F x:=by intro t ht; unfold Gh.accept; simp [ht]
  have hAk:(g.accept k m).A k (g.T k) = Nat.max (g.A k (g.T k)) m:=by unfold Gh.accept; simp
  have hAo:∀ x t,¬ (x=k/\t=g.T k)->(g.accept k m).A x t=g.A x t:=by intro x t ht; unfold Gh.accept; simp only [ht,↓reduceIte]
  have hM:∀ t i,May n (g.accept k m) t i->May n g t i:=fun t i=>yajy fun j hj=>by
    rcases hj with h | h
    .by_cases hjk:j=k/\t=g.T k
     .right; rw [hjk.1,hjk.2]; exact qh _
     .rw [hAo j t hjk] at h; exact .inl h
    .exact .inr h
  have haF:=h.aF k
  have hmt:=yajz (f:=g.F k) hm
  have hka:=ytr (m:=m) haF.2 haF.1 (h.aG k _)
  have hmax:Nat.max (g.A k (g.T k)) m<=(yfu (g.F k) (g.G (g.T k)) m).length/\(yfu (g.F k) (g.G (g.T k)) m).take (Nat.max (g.A k (g.T k)) m) = (g.G (g.T k)).take (Nat.max (g.A k (g.T k)) m):=by
    rcases Nat.le_total (g.A k (g.T k)) m with hle | hle
    .rw [show Nat.max (g.A k (g.T k)) m=m from Nat.max_eq_right hle]; exact hmt
    .rw [show Nat.max (g.A k (g.T k)) m=g.A k (g.T k) from Nat.max_eq_left hle]; exact hka
  have hmF:∀ y∈yfu (g.F k) (g.G (g.T k)) m,y∈g.F k\/y∈g.G (g.T k):=by
    intro y hy
    unfold yfu at hy
    split at hy
    .exact .inl hy
    .exact .inr (List.mem_of_mem_take hy)
  refine { h with a0:=fun x t hx=>?_,aG:=fun x t=>?_,aF:=fun x=>?_,pF:=fun x=>?_,S:=fun t t2 i h1 h2 h3 h4 h5 h6=>h.S t t2 i h1 h2 h3 h4 h5 (hM t i h6),K:=fun x t i h1 h2 h3 h4 h5=>?_,VL:=fun t2 x h1 t i h2 h3 h4 h5 h6=>?_,tF:=fun x=>?_ }
  .have hx:g.T x < t:=hx
   rw [hAo x t (by rintro ⟨rfl,rfl⟩; omega)]
   exact h.a0 x t hx
  .by_cases hh:x=k/\t=g.T k
   .rw [hh.1,hh.2,hAk]; exact Nat.max_le.2 ⟨h.aG _ _,hm⟩
   .rw [hAo x t hh]
    exact h.aG x t
  .show ((g.accept k m).F x).take ((g.accept k m).A x (g.T x)) = (g.G (g.T x)).take ((g.accept k m).A x (g.T x))/\(g.accept k m).A x (g.T x)<=((g.accept k m).F x).length
   by_cases hh:x=k
   .subst hh
    rw [hAk,hFk]
    exact ⟨hmax.2,hmax.1⟩
   .rw [hAo x _ (fun e=>hh e.1),hFo x hh]
    exact h.aF x
  .by_cases hx:x=k
   .subst hx
    rw [hFk]
    unfold yfu
    split
    .exact h.pF x
    .exact (h.pG _).take m
   .rw [hFo x hx]; exact h.pF x
  .have h1:t<=g.T x:=h1
   by_cases hx:x=k
   .subst hx
    by_cases ht:t=g.T x
    .subst ht
     rw [hAk] at h3
     rw [hFk]
     exact ⟨by omega,ypw h3 hmax.2⟩
    .rw [hAo x t (fun q=>ht q.2)] at h3
     obtain ⟨s1,s2⟩:=h.K x t i h1 h2 h3 h4 (hM t i h5)
     obtain ⟨r1,r2⟩:=h.S t (g.T x) i (by omega) hL h2 (ww h3 (h.aG x t)) h4 (hM t i h5)
     rw [hFk]
     have:=ytr (m:=m) s1 (s2.trans r2.symm) r1
     exact ⟨this.1,this.2.trans r2⟩
   .rw [hAo x t (fun q=>hx q.1)] at h3
    rw [hFo x hx]
    exact h.K x t i h1 h2 h3 h4 (hM t i h5)
  .have h1:g.V t2 x≠0:=h1
   have hv:=h.vt t2 x h1
   have hxk:¬ (x=k/\t=g.T k):=by rintro ⟨rfl,rfl⟩; omega
   rw [hAo x t hxk] at h4
   exact h.VL t2 x h1 t i h2 h3 h4 h5 (hM t i h6)
  .show ∀ x'∈(g.accept k m).F x,x'.yc<=g.T x
   by_cases hx:x=k
   .subst hx
    rw [hFk]
    intro y hy
    rcases hmF y hy with hy | hy
    .exact h.tF x y hy
    .exact (h.tG _ y hy).2
   .rw [hFo x hx]; exact h.tF x
end
end Go.Proofs.Ytgoachcogmlhcaa.R
set_option maxRecDepth 100000
set_option linter.unusedVariables false
set_option linter.unusedSimpArgs false
noncomputable section
namespace Go.Proofs.Ytgoachcogmlhcaa.R
open Go
structure yfy (k:Int) (g g':Gh):Prop where
  T:∀ x,x≠k->g'.T x=g.T x
  Tk:∀ x,g.T x<=g'.T x
  F:∀ x,x≠k->g'.F x=g.F x
  Ak:∀ x t,g.A x t<=g'.A x t
  V:∀ t x,x≠k->g'.V t x=g.V t x
  Vk:∀ t x,g.V t x≠0->g'.V t x=g.V t x
  C:∀ t x,x≠k->g'.C t x=g.C t x
  Ck:∀ t x,t<=g.T x->g'.C t x=g.C t x
  L:∀ t,g.L t≠0->g'.L t=g.L t
  Lk:∀ t x,x≠k->x≠0->g'.L t=x->g.L t=x
  G:∀ t i,i<=(g.G t).length->i<=(g'.G t).length/\(g'.G t).take i=(g.G t).take i
  Gk:∀ t,g.L t≠0->g.L t≠k->g'.G t=g.G t
theorem yfy.refl(k:Int)(g:Gh):yfy k g g:=
  ⟨fun _ _=>rfl,fun _=>qh _,fun _ _=>rfl,fun _ _=>qk _,fun _ _ _=>rfl,fun _ _ _=>rfl,fun _ _ _=>rfl,fun _ _ _=>rfl,fun _ _=>rfl,fun _ _ _ _ h=>h,fun _ _ h=>⟨h,rfl⟩,fun _ _ _=>rfl⟩
theorem yfy.trans{k:Int}{g g' g'':Gh}(h:yfy k g g')(h':yfy k g' g''):yfy k g g'' where
  T x hx:=(h'.T x hx).trans (h.T x hx)
  Tk x:=kd (h.Tk x) (h'.Tk x)
  F x hx:=(h'.F x hx).trans (h.F x hx)
  Ak x t:=ww (h.Ak x t) (h'.Ak x t)
  V t x hx:=(h'.V t x hx).trans (h.V t x hx)
  Vk t x hx:=by rw [h'.Vk t x (by rw [h.Vk t x hx]; exact hx),h.Vk t x hx]
  C t x hx:=(h'.C t x hx).trans (h.C t x hx)
  Ck t x hx:=by rw [h'.Ck t x (kd hx (h.Tk x)),h.Ck t x hx]
  L t ht:=by rw [h'.L t (by rw [h.L t ht]; exact ht),h.L t ht]
  Lk t x h1 h2 h3:=h.Lk t x h1 h2 (h'.Lk t x h1 h2 h3)
  G t i hi:=by
    obtain ⟨a1,a2⟩:=h.G t i hi
    obtain ⟨b1,b2⟩:=h'.G t i a1
    exact ⟨b1,b2.trans a2⟩
  Gk t h1 h2:=by rw [h'.Gk t (by rw [h.L t h1]; exact h1) (by rw [h.L t h1]; exact h2),h.Gk t h1 h2]
section
variable {n:Nat} {g g':Gh} {k:Int}
theorem ycam{t:Int}(ht:g.T k<=t):yfy k g (g.rise k t):=by
  refine { yfy.refl k g with T:=fun x hx=>by simp [Gh.rise,hx],Tk:=fun x=>?_ }
  show g.T x<=if x=k then t else g.T x
  split
  .rename_i h; rw [h]; exact ht
  .exact qh _
theorem ycbt{c:Int}(hv:g.V (g.T k) k=0\/g.V (g.T k) k=c):yfy k g (g.vote k c):=by
  refine { yfy.refl k g with V:=fun t x hx=>by simp [Gh.vote,hx],Vk:=fun t x h0=>?_ }
  show (if t=g.T k/\x=k then c else g.V t x) = g.V t x
  split
  .rename_i h
   rw [h.1,h.2] at h0 ⊢
   rcases hv with hv | hv
   .exact absurd hv h0
   .exact hv.symm
  .rfl
theorem ybtc(h:ydy n g):yfy k g (g.stand k):=by
  refine { yfy.refl k g with T:=fun x hx=>by simp [Gh.stand,hx],Tk:=fun x=>?_,V:=fun t x hx=>by simp [Gh.stand,hx],Vk:=fun t x h0=>?_,C:=fun t x hx=>by simp [Gh.stand,hx],Ck:=fun t x ht=>?_ }
  .show g.T x<=if x=k then g.T k + 1 else g.T x
   split
   .rename_i h; rw [h]; omega
   .exact qh _
  .show (if t=g.T k + 1/\x=k then k else g.V t x) = g.V t x
   split
   .rename_i hh
    have:=h.vt t x h0
    rw [hh.1,hh.2] at this
    omega
   .rfl
  .show (if t=g.T k + 1/\x=k then g.F k else g.C t x) = g.C t x
   split
   .rename_i hh
    rw [hh.1,hh.2] at ht
    omega
   .rfl
theorem ybks(h:ydy n g)(hL:g.L (g.T k) = 0):yfy k g (g.elect k):=by
  have hG0:=h.lG _ hL
  refine { yfy.refl k g with Ak:=fun x t=>?_,L:=fun t ht=>?_,Lk:=fun t x h1 h2 h3=>?_,G:=fun t i hi=>?_,Gk:=fun t h1 h2=>?_ }
  .show g.A x t<=if x=k/\t=g.T k then (g.F k).length else g.A x t
   split
   .rename_i hh
    have:=h.aG x t
    rw [hh.2,hG0] at this
    have:g.A x t=0:=by rw [hh.2]; simpa using this
    omega
   .exact qk _
  .show (if t=g.T k then k else g.L t) = g.L t
   split
   .rename_i hh; rw [hh,hL] at ht; exact absurd rfl ht
   .rfl
  .have h3:(if t=g.T k then k else g.L t) = x:=h3
   split at h3
   .exact absurd h3.symm h1
   .exact h3
  .show i<=(if t=g.T k then g.F k else g.G t).length/\(if t=g.T k then g.F k else g.G t).take i=_
   split
   .rename_i hh
    rw [hh,hG0] at hi ⊢
    have:i=0:=by simpa using hi
    subst this
    simp
   .exact ⟨hi,rfl⟩
  .show (if t=g.T k then g.F k else g.G t) = g.G t
   split
   .rename_i hh; rw [hh] at h1; exact absurd hL h1
   .rfl
theorem ycdv(h:ydy n g){e:yk}(hL:g.L (g.T k) = k)(hF:g.F k=g.G (g.T k)):yfy k g (g.add k e):=by
  refine { yfy.refl k g with F:=fun x hx=>by simp [Gh.add,hx],Ak:=fun x t=>?_,G:=fun t i hi=>?_,Gk:=fun t h1 h2=>?_ }
  .show g.A x t<=if x=k/\t=g.T k then (g.F k).length + 1 else g.A x t
   split
   .rename_i hh
    have:=h.aG x t
    rw [hF,← hh.2]
    omega
   .exact qk _
  .show i<=(if t=g.T k then g.F k++[e] else g.G t).length/\(if t=g.T k then g.F k++[e] else g.G t).take i=_
   split
   .rename_i hh
    rw [hh,← hF] at hi ⊢
    exact ⟨by simp; omega,ypl hi⟩
   .exact ⟨hi,rfl⟩
  .show (if t=g.T k then g.F k++[e] else g.G t) = g.G t
   split
   .rename_i hh; rw [hh,hL] at h2; exact absurd rfl h2
   .rfl
theorem ybbo{m:Nat}:yfy k g (g.accept k m):=by
  refine { yfy.refl k g with F:=fun x hx=>by simp [Gh.accept,hx],Ak:=fun x t=>?_ }
  show g.A x t<=if x=k/\t=g.T k then Nat.max (g.A k t) m else g.A x t
  split
  .rename_i hh; rw [hh.1]; exact Nat.le_max_left _ _
  .exact qk _
theorem Done.ext(he:yfy k g g'){t:Int}{i:Nat}(h:Done n g t i):Done n g' t i:=by
  obtain ⟨d1,d2,q,q1,q2,q3⟩:=h
  obtain ⟨a1,a2⟩:=he.G t i d2
  exact ⟨by rw [yjq (qk _) a2]; exact d1,a1,q,q1,q2,fun j hj=>ww (q3 j hj) (he.Ak _ _)⟩
def Wit(n:Nat)(g:Gh)(c:Nat)(f:yfc)(T:Int):Prop:=c=0\/∃ t i,Done n g t i/\t<=T/\c<=i/\c<=f.length/\f.take c=(g.G t).take c
theorem Wit.ext(he:yfy k g g'){c:Nat}{f:yfc}{T:Int}(h:Wit n g c f T):Wit n g' c f T:=by
  rcases h with h | ⟨t,i,h1,h2,h3,h4,h5⟩
  .exact .inl h
  .exact .inr ⟨t,i,h1.ext he,h2,h3,h4,by rw [(he.G t c (ww h3 h1.2.1)).2]; exact h5⟩
theorem Wit.mono{c d:Nat}{f f':yfc}{T T':Int}(h:Wit n g c f T)(hT:T<=T')(hd:d<=c)(hf:d<=f'.length)(he:f'.take d=f.take d):Wit n g d f' T':=by
  rcases h with h | ⟨t,i,h1,h2,h3,h4,h5⟩
  .exact .inl (by omega)
  .exact .inr ⟨t,i,h1,by omega,by omega,hf,by rw [he]; exact ypw hd h5⟩
theorem Wit.len{c:Nat}{f:yfc}{T:Int}(h:Wit n g c f T):c<=f.length:=by
  rcases h with h | ⟨t,i,h1,h2,h3,h4,h5⟩
  .omega
  .exact h4
theorem ycfa(h:ydy n g){t T:Int}{i:Nat}(hd:Done n g t i)(ht:t<=T)(hL:g.L T≠0):i<=(g.G T).length/\(g.G T).take i=(g.G t).take i:=by
  rcases jf i with h0 | h0
  .subst h0; simp
  .rcases jz t T with hlt | hle
   .exact h.S t T i hlt hL h0 hd.2.1 hd.1 hd.may
   .have:t=T:=by omega
    subst this
    exact ⟨hd.2.1,rfl⟩
theorem yavr(h:ydy n g){c:Nat}{f:yfc}{T:Int}(hw:Wit n g c f T)(hL:g.L T≠0):c<=(g.G T).length/\f.take c=(g.G T).take c:=by
  rcases hw with h0 | ⟨t,i,h1,h2,h3,h4,h5⟩
  .subst h0; simp
  .obtain ⟨a1,a2⟩:=ycfa h h1 h2 hL
   exact ⟨by omega,by rw [h5]; exact (ypw h3 a2).symm⟩
end
structure ygt (l:yag) (f:yfc):Prop where
  b0:0<=l.yn
  b:l.yn.toNat<=f.length
  e:l.yi=f.drop l.yn.toNat
  t:l.yv=tAt f l.yn.toNat
section
variable {l:yag} {f:yfc}
theorem ygt.last(h:ygt l f):yac l=(f.length:Int):=by
  have:=h.b; have:=h.b0
  unfold yac
  rw [h.e,wq]
  omega
theorem ygt.term(h:ygt l f){i t:Int}(ht:ycz l i=some t):l.yn<=i/\i.toNat<=f.length/\t=tAt f i.toNat:=by
  obtain ⟨h1,h2⟩:=ymn ht
  rw [h.last] at h2
  have hb:=h.b; have hb0:=h.b0
  refine ⟨h1,by omega,?_⟩
  unfold ycz at ht
  split at ht
  .rename_i hh
   rw [hh]
   rw [← qd ht]
   exact h.t
  .split at ht
   .cases ht
   .rename_i n1 n2
    have e1:l.yi[(i - l.yn - 1).toNat]? = some (f[i.toNat - 1]'(by omega)):=by
      rw [h.e,qo,show l.yn.toNat + (i - l.yn - 1).toNat=i.toNat - 1 by omega,qj (by omega)]
    rw [e1] at ht
    rw [yrx (by omega) (by omega)]
    exact (qd ht).symm
theorem ygt.term_at(h:ygt l f){i:Int}(h1:l.yn<=i)(h2:i.toNat<=f.length):ycz l i=some (tAt f i.toNat):=by
  have hb:=h.b; have hb0:=h.b0
  have hl:=h.last
  unfold ycz
  split
  .rename_i hh
   rw [hh,h.t]
  .split
   .omega
   .rename_i n1 n2
    have e1:l.yi[(i - l.yn - 1).toNat]? = some (f[i.toNat - 1]'(by omega)):=by
      rw [h.e,qo,show l.yn.toNat + (i - l.yn - 1).toNat=i.toNat - 1 by omega,qj (by omega)]
    rw [e1,yrx (by omega) (by omega)]
    rfl
theorem ygt.lastTerm(h:ygt l f):yee l=tAt f f.length:=by
  have hb:=h.b; have hb0:=h.b0
  unfold yee
  rw [h.last,h.term_at (by omega) (by omega)]
  simp
theorem ygt.compact(h:ygt l f){i:Int}(h1:l.yn<=i)(h2:i.toNat<=f.length):ygt (yix l i) f:=by
  have hb:=h.b; have hb0:=h.b0
  refine ⟨by show 0<=i; omega,h2,?_,?_⟩
  .show l.yi.drop (i - l.yn).toNat=f.drop i.toNat
   rw [h.e,jp,show l.yn.toNat + (i - l.yn).toNat=i.toNat by omega]
  .show (ycz l i).getD 0=tAt f i.toNat
   rw [h.term_at h1 h2]
   rfl
theorem ygt.add(h:ygt l f)(e:yk):ygt ⟨l.yn,l.yv,l.yi++[e]⟩ (f++[e]):=by
  have hb:=h.b
  refine ⟨h.b0,by simp; omega,?_,?_⟩
  .show l.yi++[e] = (f++[e]).drop l.yn.toNat
   rw [List.drop_append_of_le_length hb,h.e]
  .show l.yv=tAt (f++[e]) l.yn.toNat
   rw [yand hb,h.t]
theorem ybvu{f:yfc}{m a:Nat}{e:yk}{r:List yk}(h:e :: r=(f.take m).drop a):a < m/\f[a]? = some e/\r=(f.take m).drop (a + 1):=by
  have h0:((f.take m).drop a)[0]? = some e:=by rw [← h]; rfl
  rw [qo,qn] at h0
  simp only [ka] at h0
  split at h0
  .rename_i hh
   refine ⟨hh,h0,?_⟩
   have:r=(e :: r).drop 1:=rfl
   rw [this,h,jp]
  .cases h0
theorem yakv{f:yfc}{a:Nat}{e:yk}(h:f[a]? = some e):tAt f (a + 1) = e.yc:=by
  unfold tAt
  rw [qc (by omega),show a + 1 - 1=a by omega,h]
theorem yase{f:yfc}{a:Nat}{e:yk}(h:f[a]? = some e):a < f.length:=by
  rcases qz a f.length with h1 | h1
  .exact h1
  .rw [qm h1] at h; cases h
theorem yatt{G:ypy}{f gt:yfc}(hf:Pre G f)(hg:Pre G gt){b m:Nat}(hm:m<=gt.length):∀ (es:List yk) (k:Nat),b + k<=f.length->b + k<=m->f.take (b + k) = gt.take (b + k)->es=(gt.take m).drop (b + k)->yhk (f.drop b) k es=(yfu f gt m).drop b
  | [],k,h1,h2,h3,h4=>by
    have hl:=congrArg List.length h4
    simp only [List.length_nil,wq,qp] at hl
    have e:b + k=m:=by omega
    unfold yhk yfu
    rw [qe (by rw [← e]; exact ⟨h1,h3⟩)]
  | e :: r,k,h1,h2,h3,h4=>by
    obtain ⟨d1,d2,d3⟩:=ybvu h4
    have t2:=yakv d2
    have l2:=yase d2
    unfold yhk
    rw [qo]
    have hcut:(f.drop b).take k=(gt.take (b + k)).drop b:=by
      rw [← h3,List.drop_take,show b + k - b=k by omega]
    have hrest:(gt.take (b + k)).drop b++(e :: r) = (gt.take m).drop b:=by
      rw [h4]
      have:gt.take (b + k) = (gt.take m).take (b + k):=by rw [List.take_take,wi h2]
      rw [this,List.drop_take,show b + k - b=k by omega,← jp]
      exact List.take_append_drop k _
    cases hx:f[b + k]? with
    | none=>
      have hfl:f.length<=b + k:=kg.1 hx
      show f.drop b++(e :: r) = _
      unfold yfu
      rw [qc (by omega),← hrest,← h3,wm hfl]
    | some x=>
      have hxl:=yase hx
      show (if x.yc=e.yc then yhk (f.drop b) (k + 1) r else (f.drop b).take k++(e :: r)) = _
      have tx:=yakv hx
      split
      .rename_i he
       have h3':f.take (b + k + 1) = gt.take (b + k + 1):=Pre.meet hf hg (by omega) (by omega) (by omega) (by rw [tx,t2,he])
       exact yatt hf hg hm r (k + 1) (by omega) (by omega) h3' d3
      .rename_i he
       unfold yfu
       rw [qc,hcut,hrest]
       rintro ⟨_,q⟩
       have:=yjq (i:=b + k + 1) (m:=m) (by omega) q
       rw [tx,t2] at this
       exact he this
theorem ybai{G:ypy}{gt:yfc}(h:ygt l f)(hf:Pre G f)(hg:Pre G gt){at0 term:Int}{es:List yk}(h1:l.yn<=at0)(hm:at0.toNat + es.length<=gt.length)(ht:term=tAt gt at0.toNat)(he:es=(gt.take (at0.toNat + es.length)).drop at0.toNat)(hok:(ylm l at0 term es).2.2=true) :
    ygt (ylm l at0 term es).1 (yfu f gt (at0.toNat + es.length))/\(ylm l at0 term es).2.1=((at0.toNat + es.length:Nat):Int):=by
  have hb:=h.b; have hb0:=h.b0
  unfold ylm at hok ⊢
  cases hx:ycz l at0 with
  | none=>rw [hx] at hok; cases hok
  | some mine=>
    rw [hx] at hok
    simp only at hok ⊢
    split at hok
    .cases hok
    .rename_i hmt
     have hmt:mine=term:=jq.1 hmt
     rw [qc (jq.2 hmt)]
     obtain ⟨t1,t2,t3⟩:=h.term hx
     have htk:f.take at0.toNat=gt.take at0.toNat:=by
       rcases jf at0.toNat with h0 | h0
       .rw [h0]; simp
       .exact Pre.meet hf hg h0 t2 (by omega) (by rw [← t3,hmt,ht])
     have htb:f.take l.yn.toNat=gt.take l.yn.toNat:=ypw (by omega) htk
     have hk:=ytr (m:=at0.toNat + es.length) hb htb (by omega)
     refine ⟨⟨hb0,hk.1,?_,?_⟩,?_⟩
     .show yhk l.yi (at0 - l.yn).toNat es=(yfu f gt (at0.toNat + es.length)).drop l.yn.toNat
      rw [h.e]
      have hbk:l.yn.toNat + (at0 - l.yn).toNat=at0.toNat:=by omega
      exact yatt hf hg hm es _ (by rw [hbk]; exact t2) (by omega) (by rw [hbk]; exact htk) (by rw [hbk]; exact he)
     .show l.yv=tAt _ l.yn.toNat
      rw [h.t]
      exact yjq (qk _) (htb.trans hk.2.symm)
     .show at0 + (es.length:Int) = _
      omega
theorem ygt.reset{gt:yfc}{G:ypy}(h:ygt l f)(hf:Pre G f)(hg:Pre G gt){at0 term:Int}(h1:l.yn < at0)(hm:at0.toNat<=gt.length)(ht:term=tAt gt at0.toNat):ygt (ykc l at0 term) (yfu f gt at0.toNat):=by
  have hb:=h.b; have hb0:=h.b0
  unfold ykc
  split
  .rename_i hx
   obtain ⟨t1,t2,t3⟩:=h.term hx
   have htk:f.take at0.toNat=gt.take at0.toNat:=Pre.meet hf hg (by omega) t2 (by omega) (by rw [← t3,ht])
   unfold yfu
   rw [qe ⟨t2,htk⟩]
   exact h.compact t1 t2
  .rename_i hx
   have hne:¬ (at0.toNat<=f.length/\f.take at0.toNat=gt.take at0.toNat):=by
     rintro ⟨n1,n2⟩
     apply hx
     rw [h.term_at (by omega) n1,ht,yjq (qk _) n2]
   unfold yfu
   rw [qc hne]
   refine ⟨by show 0<=at0; omega,by show at0.toNat<=_; simp; omega,?_,?_⟩
   .show [] = (gt.take at0.toNat).drop at0.toNat
    rw [jv (by simp; omega)]
   .show term=tAt (gt.take at0.toNat) at0.toNat
    rw [yzs (qk _),ht]
end
end Go.Proofs.Ytgoachcogmlhcaa.R
set_option maxRecDepth 100000
set_option linter.unusedVariables false
set_option linter.unusedSimpArgs false
noncomputable section
namespace Go.Proofs.Ytgoachcogmlhcaa.R
open Go
structure ydhl (g:Gh) (r:ye):Prop where
  t:1<=r.yc
  v:∀ j:Nat,r.yq[j]? = some true->g.V r.yc ((j:Int) + 1) = r.Id
  f:g.F r.Id=g.C r.yc r.Id
  l:g.L r.yc≠r.Id
structure ydhm (g:Gh) (r:ye):Prop where
  t:1<=r.yc
  l:g.L r.yc=r.Id
  f:g.F r.Id=g.G r.yc
  m:∀ (j:Nat) (v:Int),r.yaa[j]? = some v->v<=(g.A ((j:Int) + 1) r.yc:Int)
  x:∀ v∈r.Next,v<=yac r.yg + 1
structure yej (n:Nat) (g:Gh) (r:ye):Prop where
  T:g.T r.Id=r.yc
  V:g.V r.yc r.Id=r.yan
  log:ygt r.yg (g.F r.Id)
  bc:r.yg.yn<=r.yl
  wit:Wit n g r.yl.toNat (g.F r.Id) r.yc
  cand:r.ym=2->ydhl g r
  lead:r.ym=3->ydhm g r
  who:r.ym=3↔r.yak=r.Id
structure yhb (n:Nat) (g:Gh) (x:yj):Prop where
  ask:x.yae=3->x.yc<=g.T x.From/\x.At=((g.C x.yc x.From).length:Int)/\x.ybf=tAt (g.C x.yc x.From) (g.C x.yc x.From).length
  vote:x.yae=4->x.Ok=true->x.To≠0/\g.V x.yc x.From=x.To
  ents:x.yae=5->g.L x.yc≠0/\x.At.toNat + x.yi.length<=(g.G x.yc).length/\x.yi=((g.G x.yc).take (x.At.toNat + x.yi.length)).drop x.At.toNat/\x.ybf=tAt (g.G x.yc) x.At.toNat/\Wit n g x.yl.toNat (g.G x.yc) x.yc
  told:x.yae=6->x.Ok=true->x.At.toNat<=g.A x.From x.yc
  snap:x.yae=7->g.L x.yc≠0/\x.At.toNat<=(g.G x.yc).length/\x.ybf=tAt (g.G x.yc) x.At.toNat/\Wit n g x.At.toNat (g.G x.yc) x.yc
section
variable {n:Nat} {g g':Gh} {k:Int} {r:ye} {x:yj}
theorem yhb.ext(he:yfy k g g')(h:yhb n g x):yhb n g' x where
  ask hk:=by
    obtain ⟨a1,a2,a3⟩:=h.ask hk
    rw [he.Ck _ _ a1]
    exact ⟨kd a1 (he.Tk _),a2,a3⟩
  vote hk ho:=by
    obtain ⟨a1,a2⟩:=h.vote hk ho
    exact ⟨a1,by rw [he.Vk _ _ (by rw [a2]; exact a1),a2]⟩
  ents hk:=by
    obtain ⟨a1,a2,a3,a4,a5⟩:=h.ents hk
    obtain ⟨b1,b2⟩:=he.G _ _ a2
    obtain ⟨c1,c2⟩:=he.G _ _ (ww (kc _ x.yi.length) a2)
    obtain ⟨d1,d2⟩:=he.G _ _ a5.len
    refine ⟨by rw [he.L _ a1]; exact a1,b1,by rw [b2]; exact a3,by rw [yjq (qk _) c2]; exact a4,(a5.ext he).mono (qh _) (qk _) d1 d2⟩
  told hk ho:=ww (h.told hk ho) (he.Ak _ _)
  snap hk:=by
    obtain ⟨a1,a2,a4,a5⟩:=h.snap hk
    obtain ⟨c1,c2⟩:=he.G _ _ a2
    refine ⟨by rw [he.L _ a1]; exact a1,c1,by rw [yjq (qk _) c2]; exact a4,(a5.ext he).mono (qh _) (qk _) c1 c2⟩
theorem yej.ext(he:yfy k g g')(hne:r.Id≠k)(h0:r.Id≠0)(h:yej n g r):yej n g' r where
  T:=by rw [he.T _ hne]; exact h.T
  V:=by rw [he.V _ _ hne]; exact h.V
  log:=by rw [he.F _ hne]; exact h.log
  bc:=h.bc
  wit:=by rw [he.F _ hne]; exact h.wit.ext he
  cand hr:=by
    have hc:=h.cand hr
    refine ⟨hc.t,fun j hj=>?_,by rw [he.F _ hne,he.C _ _ hne]; exact hc.f,fun hl=>hc.l (he.Lk _ _ hne h0 hl)⟩
    have:=hc.v j hj
    rw [he.Vk _ _ (by rw [this]; exact h0),this]
  lead hr:=by
    have hl:=h.lead hr
    refine ⟨hl.t,by rw [he.L _ (by rw [hl.l]; exact h0)]; exact hl.l,?_,fun j v hj=>?_,hl.x⟩
    .rw [he.F _ hne,he.Gk _ (by rw [hl.l]; exact h0) (by rw [hl.l]; exact hne)]; exact hl.f
    .have:=hl.m j v hj
     have:=he.Ak ((j:Int) + 1) r.yc
     omega
  who:=h.who
theorem yhb.mute(h:x.yae=1\/x.yae=2\/((x.yae=4\/x.yae=6)/\x.Ok=false)):yhb n g x:=by
  refine ⟨fun hk=>?_,fun hk ho=>?_,fun hk=>?_,fun hk ho=>?_,fun hk=>?_⟩
  all_goals
    rcases h with h | h | ⟨h | h,h'⟩
  all_goals first
    | omega
    | (rw [h'] at ho; cases ho)
theorem yhb.one(h:yhb n g x):∀ y∈[x],yhb n g y:=fun y hy=>by rw [wb.1 hy]; exact h
def yjr(n:Nat)(g:Gh)(k:Int)(p:ye × List yj):Prop:=∃ g',yfy k g g'/\ydy n g'/\yej n g' p.1/\∀ y∈p.2,yhb n g' y
theorem yjr.keep{p:ye × List yj}(hi:ydy n g)(hm:yej n g p.1)(hy:∀ y∈p.2,yhb n g y):yjr n g k p:=⟨g,yfy.refl _ _,hi,hm,hy⟩
theorem yjr.comp{p:ye × List yj}(he:yfy k g g')(h:yjr n g' k p):yjr n g k p:=by
  obtain ⟨g2,a1,a2,a3,a4⟩:=h
  exact ⟨g2,he.trans a1,a2,a3,a4⟩
theorem yej.of{q:ye}(h:yej n g r)(h1:q.Id=r.Id)(h2:q.yc=r.yc)(h3:q.yan=r.yan)(h5:q.yg=r.yg)(h6:q.yl=r.yl)(h4:((q.ym=0\/q.ym=1)/\q.yak≠q.Id)\/(q.ym=r.ym/\q.yq=r.yq/\q.Next=r.Next/\q.yaa=r.yaa/\q.yak=r.yak)):yej n g q where
  T:=by rw [h1,h2]; exact h.T
  V:=by rw [h1,h2,h3]; exact h.V
  log:=by rw [h1,h5]; exact h.log
  bc:=by rw [h5,h6]; exact h.bc
  wit:=by rw [h1,h2,h6]; exact h.wit
  cand hr:=by
    rcases h4 with ⟨h4,_⟩ | ⟨a1,a2,a3,a4,a5⟩
    .omega
    .have hc:=h.cand (by omega)
     refine ⟨by rw [h2]; exact hc.t,fun j hj=>by rw [h1,h2]; exact hc.v j (by rw [← a2]; exact hj),by rw [h1,h2]; exact hc.f,by rw [h1,h2]; exact hc.l⟩
  lead hr:=by
    rcases h4 with ⟨h4,_⟩ | ⟨a1,a2,a3,a4,a5⟩
    .omega
    .have hc:=h.lead (by omega)
     refine ⟨by rw [h2]; exact hc.t,by rw [h1,h2]; exact hc.l,by rw [h1,h2]; exact hc.f,fun j v hj=>by rw [h2]; exact hc.m j v (by rw [← a4]; exact hj),by rw [a3,h5]; exact hc.x⟩
  who:=by
    rcases h4 with ⟨h4,h7⟩ | ⟨a1,a2,a3,a4,a5⟩
    .constructor
     .intro; omega
     .intro e; exact absurd e h7
    .rw [a1,a5,h1]; exact h.who
theorem yej.follow(hi:ydy n g)(h:yej n g r){t l:Int}(hl:l≠r.Id):∃ g',yfy r.Id g g'/\ydy n g'/\yej n g' (yai r t l)/\g'.L=g.L/\g'.G=g.G/\g'.F=g.F:=by
  by_cases hlt:r.yc < t
  .have e1:(yai r t l).yc=t:=by simp [yai,hlt]
   have e2:(yai r t l).yan=0:=by simp [yai,hlt]
   have e3:(yai r t l).Id=r.Id:=rfl
   have hT:=h.T
   have hle:g.T r.Id<=t:=by omega
   have hx:=ycam (g:=g) hle
   refine ⟨_,hx,ycan hi hle,?_,rfl,rfl,rfl⟩
   refine ⟨?_,?_,h.log,h.bc,?_,fun hr=>?_,fun hr=>?_,?_⟩
   .rw [e1,e3]; simp [Gh.rise]
   .rw [e1,e2,e3]
    show g.V t r.Id=0
    rcases Classical.em (g.V t r.Id=0) with h0 | h0
    .exact h0
    .have:=hi.vt t r.Id h0; omega
   .rw [e1,e3]; exact (h.wit.ext hx).mono (by omega) (qk _) h.wit.len rfl
   .have hr:(0:Int) = 2:=hr; omega
   .have hr:(0:Int) = 3:=hr; omega
   .constructor
    .intro hr; have hr:(0:Int) = 3:=hr; omega
    .intro hr; exact absurd hr hl
  .exact ⟨g,yfy.refl _ _,hi,h.of rfl (by simp [yai,hlt]) (by simp [yai,hlt]) rfl rfl (.inl ⟨.inl rfl,hl⟩),rfl,rfl,rfl⟩
theorem ybth(l:List yk)(a:Nat):(l.drop a).take 8=(l.take (a + ((l.drop a).take 8).length)).drop a:=by
  rw [List.drop_take,show a + ((l.drop a).take 8).length - a=((l.drop a).take 8).length by omega]
  rcases Nat.le_total (l.drop a).length 8 with hle | hle
  .rw [wm hle,wm (qk _)]
  .rw [qp,wi hle]
theorem yzv{B:Int}(hi:ydy n g)(h:yej n g r)(hok:OkR B r)(h3:r.ym=3){to:Int}(h1:1<=to)(h2:to<=r.N):yhb n g (ybj r to):=by
  have hl:=h.lead h3
  have hid:r.Id≠0:=by have:=hok.id; omega
  have hL:g.L r.yc≠0:=by rw [hl.l]; exact hid
  have hb:=h.log.b; have hb0:=h.log.b0; have hbc:=h.bc
  have hlast:=h.log.last
  have hlt:(to - 1).toNat < r.Next.length:=by have:=hok.na h3; omega
  have hnx:yax r to∈r.Next:=by
    unfold yax
    rw [qj hlt]
    exact jd hlt
  have hn1:=hok.nb _ hnx
  have hn2:=hl.x _ hnx
  have hf:=hl.f
  have hw:=h.wit
  rw [hf] at hb hlast hw
  have hlog:=h.log
  rw [hf] at hlog
  unfold ybj
  split
  .rename_i hle
   refine ⟨fun hk=>by simp at hk,fun hk=>by simp at hk,fun hk=>by simp at hk,fun hk=>by simp at hk,fun _=>?_⟩
   exact ⟨hL,hb,hlog.t,hw.mono (qh _) (by show r.yg.yn.toNat<=_; omega) hb rfl⟩
  .rename_i hle
   refine ⟨fun hk=>by simp at hk,fun hk=>by simp at hk,fun _=>?_,fun hk=>by simp at hk,fun hk=>by simp at hk⟩
   have hent:(yax r to - 1).toNat + (ykf r.yg (yax r to)).length<=(g.G r.yc).length/\ykf r.yg (yax r to) = ((g.G r.yc).take ((yax r to - 1).toNat + (ykf r.yg (yax r to)).length)).drop (yax r to - 1).toNat:=by
     unfold ykf
     split
     .rename_i hh
      refine ⟨by simp; omega,?_⟩
      rw [List.length_nil,ka,jv (by simp; omega)]
     .rename_i hh
      have e1:(r.yg.yi.drop (yax r to - r.yg.yn - 1).toNat) = (g.G r.yc).drop (yax r to - 1).toNat:=by
        rw [hlog.e,jp,show r.yg.yn.toNat + (yax r to - r.yg.yn - 1).toNat=(yax r to - 1).toNat by omega]
      rw [e1]
      refine ⟨?_,ybth _ _⟩
      rw [qp,wq]
      omega
   refine ⟨hL,hent.1,hent.2,?_,hw⟩
   show (ycz r.yg (yax r to - 1)).getD 0=_
   rw [hlog.term_at (by omega) (by omega)]
   rfl
theorem yalv{α:Type}{l:List α}{a:Nat}{e:α}(h:l[a]? = some e):a < l.length:=by
  rcases qz a l.length with h1 | h1
  .exact h1
  .rw [qm h1] at h; cases h
theorem countP_map(l:List Int)(c:Int):yke (l.map fun x=>decide (c<=x)) = yqe l c:=by
  unfold yke yqe
  rw [List.countP_map]
  rfl
theorem yaid{B:Int}(h:yej n g r)(hok:OkR B r)(hN:r.N=(n:Int))(h3:r.ym=3):yej n g (ybm r):=by
  unfold ybm
  split
  .rename_i hc
   obtain ⟨c1,c2⟩:=hc
   have hl:=h.lead h3
   obtain ⟨_,hR,_,_⟩:=yzh hok h3
   obtain ⟨t1,t2,t3⟩:=h.log.term c1
   have hcm:=hok.commit
   have hml:=hok.ma h3
   refine ⟨h.T,h.V,h.log,by show r.yg.yn<=yff r.yaa; exact t1,?_,fun hr=>by have hr:r.ym=2:=hr; omega,fun _=>⟨hl.t,hl.l,hl.f,hl.m,hl.x⟩,h.who⟩
   have t2':=t2
   rw [hl.f] at t2 t3
   refine .inr ⟨r.yc,(yff r.yaa).toNat,⟨t3.symm,t2,r.yaa.map fun x=>decide (yff r.yaa<=x),by rw [wj]; omega,?_,fun j hj=>?_⟩,qh _,qk _,t2',by rw [hl.f]⟩
   .unfold ydv
    rw [countP_map,wj]
    exact qg hR.maj
   .rw [jw] at hj
    cases hv:r.yaa[j]? with
    | none=>rw [hv] at hj; cases hj
    | some v=>
      rw [hv] at hj
      have hj:decide (yff r.yaa<=v) = true:=qd hj
      have hj:=ki hj
      have:=hl.m j v hv
      omega
  .exact h
theorem ybbv{B:Int}(hi:ydy n g)(h:yej n g r)(hok:OkR B r)(h3:r.ym=3)(data:List Int):∃ g',yfy r.Id g g'/\ydy n g'/\yej n g' (ydf r data):=by
  have hl:=h.lead h3
  have hT:=h.T
  have hid:r.Id≠0:=by have:=hok.id; omega
  have hL:g.L (g.T r.Id) = r.Id:=by rw [hT]; exact hl.l
  have hF:g.F r.Id=g.G (g.T r.Id):=by rw [hT]; exact hl.f
  have hx:=ycdv hi (e:=⟨r.yc,data⟩) hL hF
  have hFk:(g.add r.Id ⟨r.yc,data⟩).F r.Id=g.F r.Id++[⟨r.yc,data⟩]:=by simp [Gh.add]
  have hlast:=h.log.last
  have hlast':yac (ydf r data).yg=yac r.yg + 1:=by
    have:=(h.log.add ⟨r.yc,data⟩).last
    rw [wk] at this
    show yac ⟨r.yg.yn,r.yg.yv,r.yg.yi++[⟨r.yc,data⟩]⟩ = _
    rw [this,hlast]
    simp
  refine ⟨_,hx,ycdw hi hT.symm (by rw [hT]; exact hl.t) (by rw [hL]; exact hid) hF,?_⟩
  refine ⟨h.T,h.V,?_,h.bc,?_,fun hr=>by have hr:r.ym=2:=hr; omega,fun _=>⟨hl.t,hl.l,?_,fun j v hj=>?_,fun v hv=>?_⟩,h.who⟩
  .show ygt _ ((g.add r.Id ⟨r.yc,data⟩).F r.Id)
   rw [hFk]
   exact h.log.add _
  .show Wit n _ r.yl.toNat ((g.add r.Id ⟨r.yc,data⟩).F r.Id) r.yc
   rw [hFk]
   have:=h.wit.len
   exact (h.wit.ext hx).mono (qh _) (qk _) (by simp; omega) (ypl this)
  .show (g.add r.Id ⟨r.yc,data⟩).F r.Id=(g.add r.Id ⟨r.yc,data⟩).G r.yc
   rw [hFk]
   simp [Gh.add,hT]
  .have hj:(ybl r.yaa (r.Id - 1) (yac r.yg + 1))[j]? = some v:=hj
   show v<=(((g.add r.Id ⟨r.yc,data⟩).A ((j:Int) + 1) r.yc:Nat):Int)
   unfold ybl at hj
   have hidp:=hok.id
   by_cases hjk:(r.Id - 1).toNat=j
   .have e:(j:Int) + 1=r.Id:=by omega
    have hjl:(r.Id - 1).toNat < r.yaa.length:=by
      have:=yalv hj
      rw [kl] at this
      omega
    rw [← hjk,wu hjl] at hj
    have hj:=qd hj
    rw [e]
    simp only [Gh.add,hT,true_and,and_self,↓reduceIte]
    omega
   .rw [ja hjk] at hj
    have:=hl.m j v hj
    have:=hx.Ak ((j:Int) + 1) r.yc
    omega
  .have hv:v∈r.Next:=hv
   have:=hl.x v hv
   rw [hlast']
   omega
theorem yaar{B:Int}(hi:ydy n g)(h:yej n g r)(hok:OkR B r)(hB0:0<=B)(hN:r.N=(n:Int))(h3:r.ym=3){data:List Int}(hd:data.length<=1000):yjr n g r.Id (yct r data):=by
  obtain ⟨g',e1,e2,e3⟩:=ybbv hi h hok h3 data
  have hok':=yvr hok h3 hd
  have hm:=yaid e3 hok' hN h3
  refine ⟨g',e1,e2,hm,fun y hy=>?_⟩
  obtain ⟨to,hto,rfl⟩:=wh.1 hy
  obtain ⟨o1,o2,_⟩:=ygl hok hto
  exact yzv e2 hm (yst hok' h3) (by rw [yer]; exact h3) o1 (by rw [yfn]; exact o2)
theorem yajt{B:Int}(hi:ydy n g)(h:yej n g r)(hok:OkR B r)(hB0:0<=B)(hN:r.N=(n:Int))(h2:r.ym=2)(hgl:r.yq.length=n)(hw:ydv r.yq=true):yjr n g r.Id (yco r):=by
  have hc:=h.cand h2
  have hT:=h.T
  have hid:r.Id≠0:=by have:=hok.id; omega
  have hL:g.L (g.T r.Id) = 0:=by
    rw [hT]
    rcases Classical.em (g.L r.yc=0) with h0 | h0
    .exact h0
    .exfalso
     obtain ⟨q,q1,q2,q3⟩:=hi.q r.yc h0
     obtain ⟨j,j1,j2⟩:=yvm (q1.trans hgl.symm) q2 hw
     apply hc.l
     rw [← q3 j j1,hc.v j j2]
  have hx:=ybks hi hL
  have hinv:=ybkt hi hid hL (by rw [hT]; exact hc.f) ⟨r.yq,hgl,hw,fun j hj=>by rw [hT]; exact hc.v j hj⟩
  have e1:(yft r).yc=r.yc:=by simp [yft,yai]
  have e2:(yft r).yan=r.yan:=by simp [yft,yai]
  refine .comp hx (yaar (r:=yft r) hinv ?_ (yux hok hB0) hB0 hN rfl (by simp))
  refine ⟨by rw [e1]; exact h.T,by rw [e1,e2]; exact h.V,h.log,h.bc,by rw [e1]; exact h.wit.ext hx,fun hr=>by simp [yft] at hr,fun _=>⟨by rw [e1]; exact hc.t,?_,?_,fun j v hj=>?_,fun v hv=>?_⟩,?_⟩
  .rw [e1]; show (if r.yc=g.T r.Id then r.Id else g.L r.yc) = r.Id; rw [qe hT.symm]
  .rw [e1]; show g.F r.Id=(if r.yc=g.T r.Id then g.F r.Id else g.G r.yc); rw [qe hT.symm]
  .have hj:(List.replicate r.N.toNat (0:Int))[j]? = some v:=hj
   rw [kh] at hj
   split at hj
   .have:=qd hj; omega
   .cases hj
  .have hv:v∈List.replicate r.N.toNat (yac r.yg + 1):=hv
   rw [(List.mem_replicate.1 hv).2]
   exact qh _
  .constructor
   .intro _; rfl
   .intro _; rfl
theorem yaff{B:Int}(hi:ydy n g)(h:yej n g r)(hok:OkR B r)(hB0:0<=B)(hN:r.N=(n:Int)):yjr n g r.Id (yea r):=by
  have hT:=h.T
  have hid:r.Id≠0:=by have:=hok.id; omega
  have e1:(yas r).yc=r.yc + 1:=by simp [yas,yai]; omega
  have hx:=ybtc (k:=r.Id) hi
  have hinv:=ybtd hi hid
  have hm:yej n (g.stand r.Id) (yas r):=by
    refine ⟨by rw [e1]; simp [Gh.stand,yas,yai,hT],by rw [e1]; simp [Gh.stand,yas,yai,hT],h.log,h.bc,by rw [e1]; exact (h.wit.ext hx).mono (by omega) (qk _) h.wit.len rfl,fun _=>⟨?_,fun j hj=>?_,?_,?_⟩,fun hr=>by simp [yas] at hr,?_⟩
    .rw [e1]; have:=hok.term; omega
    .have hj:(yfq r)[j]? = some true:=hj
     have:=ybrd hok.id.1 hj
     rw [e1,this]
     simp [Gh.stand,yas,yai,hT]
    .rw [e1]; simp [Gh.stand,yas,yai,hT]
    .rw [e1]
     show g.L (r.yc + 1)≠r.Id
     intro hl
     obtain ⟨q,q1,q2,q3⟩:=hi.q (r.yc + 1) (by rw [hl]; exact hid)
     obtain ⟨j,j1,_⟩:=yvm rfl q2 q2
     have hv:=q3 j j1
     have:=hi.vc (r.yc + 1) ((j:Int) + 1) (by rw [hv,hl]; exact hid)
     rw [hv,hl,hT] at this
     omega
    .constructor
     .intro hr; simp [yas] at hr
     .intro hr; have hr:(0:Int) = r.Id:=hr; omega
  refine .comp hx ?_
  unfold yea
  split
  .rename_i hw
   refine yajt hinv hm (yll hok hB0) (by omega) hN rfl ?_ hw
   show (yfq r).length=n
   unfold yfq
   rw [ydx]
   simp
   omega
  .refine .keep hinv hm fun y hy=>?_
   obtain ⟨to,_,rfl⟩:=wh.1 hy
   refine ⟨fun _=>?_,fun hk=>by simp [yex] at hk,fun hk=>by simp [yex] at hk,fun hk=>by simp [yex] at hk,fun hk=>by simp [yex] at hk⟩
   have hc:=(hm.cand rfl).f
   show (yas r).yc<=(g.stand r.Id).T (yas r).Id/\yac (yas r).yg=(((g.stand r.Id).C (yas r).yc (yas r).Id).length:Int)/\yee (yas r).yg=tAt ((g.stand r.Id).C (yas r).yc (yas r).Id) ((g.stand r.Id).C (yas r).yc (yas r).Id).length
   rw [← hc]
   exact ⟨by rw [hm.T]; exact qh _,hm.log.last,hm.log.lastTerm⟩
theorem ybjm{B:Int}(h:yej n g r)(hok:OkR B r)(draw:Int):yej n g (ygu r draw):=
  h.of rfl (by simp [ygu,yai]) (by simp [ygu,yai]) rfl rfl (.inl ⟨.inr rfl,by show (0:Int)≠r.Id; have:=hok.id; omega⟩)
theorem ybjn{B:Int}(hi:ydy n g)(h:yej n g r)(hok:OkR B r)(hB0:0<=B)(hN:r.N=(n:Int))(draw:Int):yjr n g r.Id (yhx r draw):=by
  have hm:=ybjm h hok draw
  unfold yhx
  split
  .exact yaff hi hm (yrh hok hB0 draw) hB0 hN
  .refine .keep hi hm fun y hy=>?_
   obtain ⟨to,_,rfl⟩:=wh.1 hy
   exact .mute (.inl rfl)
theorem ybiv{B:Int}(hi:ydy n g)(h:yej n g r)(hok:OkR B r)(hB0:0<=B)(hN:r.N=(n:Int))(draw:Int):yjr n g r.Id (ycj r draw):=by
  have hq:∀ c:Int,yej n g { r with yu:=c }:=fun c=>h.of rfl rfl rfl rfl rfl (.inr ⟨rfl,rfl,rfl,rfl,rfl⟩)
  unfold ycj
  simp only
  split
  .rename_i h3
   split
   .refine .keep hi (hq 0) fun y hy=>?_
    obtain ⟨to,hto,rfl⟩:=wh.1 hy
    obtain ⟨o1,o2,_⟩:=ygl hok hto
    exact yzv hi (hq 0) (yahd hok hB0) h3 o1 o2
   .exact .keep hi (hq _) (by simp)
  .split
   .exact ybjn hi (hq _) (ypm hok) (by omega) hN draw
   .exact .keep hi (hq _) (by simp)
end
end Go.Proofs.Ytgoachcogmlhcaa.R
set_option maxRecDepth 100000
set_option linter.unusedVariables false
set_option linter.unusedSimpArgs false
noncomputable section
namespace Go.Proofs.Ytgoachcogmlhcaa.R
open Go
section
variable {n:Nat} {g g':Gh} {k:Int} {r:ye} {x:yj} {B:Int}
theorem yaat(h:x.At.toNat=x.At.toNat){q:ye}{t at0:Int}(ha:at0.toNat<=g.A q.Id t):yhb n g (ydr q x 6 t at0 true):=
  ⟨fun hk=>by simp [ydr] at hk,fun hk=>by simp [ydr] at hk,fun hk=>by simp [ydr] at hk,fun _ _=>ha,fun hk=>by simp [ydr] at hk⟩
theorem ysr{q:ye}{kind t at0:Int}(hk:kind=2\/kind=4\/kind=6){ok:Bool}(ho:kind=2\/ok=false):yhb n g (ydr q x kind t at0 ok):=by
  refine .mute ?_
  show kind=1\/kind=2\/((kind=4\/kind=6)/\ok=false)
  rcases ho with ho | ho
  .exact .inr (.inl ho)
  .rcases hk with hk | hk | hk
   .exact .inr (.inl hk)
   .exact .inr (.inr ⟨.inl hk,ho⟩)
   .exact .inr (.inr ⟨.inr hk,ho⟩)
theorem ybiz(hi:ydy n g)(h:yej n g r)(hid:r.Id≠0)(hf:1<=x.From)(hx:yhb n g x)(hk3:x.yae=3):yjr n g r.Id (yjf r x):=by
  have hT:=h.T
  unfold yjf
  by_cases hb:ymq r x=true
  .rw [qe hb]
   unfold ymq ykb at hb
   simp only [qq,ju,wv] at hb
   obtain ⟨b1,b2,b3,b4⟩:=hb
   obtain ⟨a1,a2,a3⟩:=hx.ask hk3
   have hv:g.V (g.T r.Id) r.Id=0\/g.V (g.T r.Id) r.Id=x.From:=by rw [hT,h.V]; exact b3
   have hext:=ycbt hv
   have hVt:(g.vote r.Id x.From).V r.yc r.Id=x.From:=by simp [Gh.vote,hT]
   rw [b1] at a1 a2 a3
   refine ⟨_,hext,ycbu hi hv (by rw [hT]; exact a1) ?_,⟨h.T,hVt,h.log,h.bc,h.wit.ext hext,fun hr=>?_,fun hr=>?_,h.who⟩,yhb.one ⟨fun hk=>by simp [ydr] at hk,fun _ _=>⟨by show x.From≠0; omega,hVt⟩,fun hk=>by simp [ydr] at hk,fun hk=>by simp [ydr] at hk,fun hk=>by simp [ydr] at hk⟩⟩
   .rw [hT,← a3]
    rw [h.log.lastTerm,h.log.last] at b4
    rcases b4 with b4 | ⟨b4,b5⟩
    .exact .inl b4
    .exact .inr ⟨b4.symm,by omega⟩
   .have hr:r.ym=2:=hr
    omega
   .have hr:r.ym=3:=hr
    omega
  .rw [qc hb]
   exact .keep hi h (yhb.one (ysr (.inr (.inl rfl)) (.inr rfl)))
theorem yasj(hi:ydy n g)(h:yej n g r)(hd:yld r x=false)(hf:x.From≠r.Id):∃ g',yfy r.Id g g'/\ydy n g'/\yej n g' (yec r x)/\(yec r x).yc=x.yc:=by
  obtain ⟨g',e1,e2,e3,_⟩:=h.follow hi (t:=x.yc) (l:=x.From) hf
  refine ⟨g',e1,e2,e3.of rfl rfl rfl rfl rfl (.inr ⟨rfl,rfl,rfl,rfl,rfl⟩),?_⟩
  unfold yld at hd
  simp only [js,jk] at hd
  show (if r.yc < x.yc then x.yc else r.yc) = x.yc
  split <;> omega
theorem yxx{q:ye}(hi:ydy n g)(h:yej n g q)(hL:g.L q.yc≠0){m:Nat}(hm:m<=(g.G q.yc).length)(hr:q.ym=0){p:ye}(p1:p.Id=q.Id)(p2:p.yc=q.yc)(p3:p.yan=q.yan)(p4:p.ym=q.ym)(p5:p.yak=q.yak)
    (hlog:ygt p.yg (yfu (g.F q.Id) (g.G q.yc) m)) (hbc:p.yg.yn<=p.yl) (hw:p.yl=q.yl\/(p.yl.toNat<=m/\Wit n g p.yl.toNat (g.G q.yc) q.yc)):yfy q.Id g (g.accept q.Id m)/\ydy n (g.accept q.Id m)/\yej n (g.accept q.Id m) p/\m<=(g.accept q.Id m).A q.Id q.yc:=by
  have hT:=h.T
  have hx:yfy q.Id g (g.accept q.Id m):=ybbo
  have hm':m<=(g.G (g.T q.Id)).length:=by rw [hT]; exact hm
  have hF:(g.accept q.Id m).F q.Id=yfu (g.F q.Id) (g.G q.yc) m:=by simp [Gh.accept,hT]
  have hA:(g.accept q.Id m).A q.Id q.yc=Nat.max (g.A q.Id q.yc) m:=by simp [Gh.accept,hT]
  refine ⟨hx,ybbp hi hm' (by rw [hT]; exact hL),⟨?_,?_,?_,hbc,?_,fun h2=>?_,fun h3=>?_,?_⟩,?_⟩
  .rw [p1,p2]; exact h.T
  .rw [p1,p2,p3]; exact h.V
  .rw [p1,hF]; exact hlog
  .rw [p1,p2,hF]
   rcases hw with hw | ⟨hw1,hw2⟩
   .rw [hw]
    obtain ⟨w1,w2⟩:=yavr hi h.wit hL
    have:=ytr (m:=m) h.wit.len w2 w1
    exact (h.wit.ext hx).mono (qh _) (qk _) this.1 (this.2.trans w2.symm)
   .obtain ⟨m1,m2⟩:=yajz (f:=g.F q.Id) hm
    exact (hw2.ext hx).mono (qh _) (qk _) (ww hw1 m1) (ypw hw1 m2)
  .omega
  .omega
  .rw [p4,p5,p1]; exact h.who
  .rw [hA]; exact Nat.le_max_right _ _
theorem yado(a b:Int):a<=yil a b/\b<=yil a b/\(yil a b=a\/yil a b=b):=by
  unfold yil
  split
  .omega
  .omega
theorem yaml(a b:Int):yim a b<=a/\yim a b<=b/\(yim a b=a\/yim a b=b):=by
  unfold yim
  split <;> omega
theorem ybvv{q:ye}(hi:ydy n g)(h:yej n g q)(hok:OkR B q)(hx:OkM B x)(hL:g.L q.yc≠0)(hxe:x.At.toNat + x.yi.length<=(g.G q.yc).length)(hes:x.yi=((g.G q.yc).take (x.At.toNat + x.yi.length)).drop x.At.toNat)(hat:x.ybf=tAt (g.G q.yc) x.At.toNat)(hpo:(yev q.yg x.At x.ybf x.yi).2.2=true) :
    ∃ m:Nat,m<=(g.G q.yc).length/\ygt (yev q.yg x.At x.ybf x.yi).1 (yfu (g.F q.Id) (g.G q.yc) m)/\(yev q.yg x.At x.ybf x.yi).2.1=(m:Int)/\(yev q.yg x.At x.ybf x.yi).1.yn=q.yg.yn:=by
  have hb:=h.log.b; have hb0:=h.log.b0; have hbc:=h.bc
  have hx0:=hx.at0.1
  obtain ⟨w1,w2⟩:=yavr hi h.wit hL
  have hbt:(g.F q.Id).take q.yg.yn.toNat=(g.G q.yc).take q.yg.yn.toNat:=ypw (by omega) w2
  have hbase:∀ {a t:Int} {es:List yk},(ylm q.yg a t es).1.yn=q.yg.yn:=by
    intro a t es
    unfold ylm
    split
    .rfl
    .split <;> rfl
  unfold yev at hpo ⊢
  split
  .rename_i hlt
   rw [qe hlt] at hpo
   split
   .rename_i hsm
    refine ⟨q.yg.yn.toNat,by omega,?_,(show q.yg.yn=((q.yg.yn.toNat:Nat):Int) by omega),rfl⟩
    unfold yfu
    rw [qe ⟨hb,hbt⟩]
    exact h.log
   .rename_i hsm
    rw [qc hsm] at hpo
    have hlen:q.yg.yn.toNat + (x.yi.drop (q.yg.yn - x.At).toNat).length=x.At.toNat + x.yi.length:=by
      rw [wq]
      omega
    have hd:x.yi.drop (q.yg.yn - x.At).toNat=((g.G q.yc).take (x.At.toNat + x.yi.length)).drop q.yg.yn.toNat:=by
      have:=congrArg (List.drop (q.yg.yn - x.At).toNat) hes
      rw [jp,show x.At.toNat + (q.yg.yn - x.At).toNat=q.yg.yn.toNat by omega] at this
      exact this
    have:=ybai (G:=g.G) (gt:=g.G q.yc) h.log (hi.pF _) (hi.pG _) (qh _) (by rw [hlen]; exact hxe) (by rw [h.log.t]; exact yjq (qk _) hbt) (by rw [hlen]; exact hd) hpo
    rw [hlen] at this
    exact ⟨_,hxe,this.1,this.2,hbase⟩
  .rename_i hlt
   rw [qc hlt] at hpo
   have:=ybai (G:=g.G) (gt:=g.G q.yc) h.log (hi.pF _) (hi.pG _) (by omega) hxe hat hes hpo
   exact ⟨_,hxe,this.1,this.2,hbase⟩
theorem yaox(hi:ydy n g)(h:yej n g r)(hok:OkR B r)(hB0:0<=B)(hx:OkM B x)(hf:x.From≠r.Id)(hm:yhb n g x)(hk:x.yae=5):yjr n g r.Id (yfo r x):=by
  unfold yfo
  split
  .exact .keep hi h (yhb.one (ysr (.inr (.inr rfl)) (.inr rfl)))
  .rename_i hd
   have hd:yld r x=false:=by simpa using hd
   obtain ⟨g',e1,e2,e3,e4⟩:=yasj hi h hd hf
   obtain ⟨a1,a2,a3,a4,a5⟩:=(hm.ext e1).ents hk
   rw [← e4] at a1 a2 a3 a4 a5
   have hqo:=yafu hok hB0 hx
   have hlg:(yec r x).yg=r.yg:=rfl
   refine .comp e1 ?_
   simp only
   split
   .rename_i hpo
    obtain ⟨m,m1,m2,m3,m4⟩:=ybvv e2 e3 hqo hx a1 a2 a3 a4 hpo
    rw [hlg] at m2 m3 m4
    have hcm:=hok.commit
    have hmx:=yado r.yl (yim x.yl (yev r.yg x.At x.ybf x.yi).2.1)
    have hmn:=yaml x.yl (yev r.yg x.At x.ybf x.yi).2.1
    have hxc:=hx.commit
    obtain ⟨f1,f2,f3,f4⟩:=yxx e2 e3 a1 m1 rfl (p:={ yec r x with yg:=(yev r.yg x.At x.ybf x.yi).1,yl:=yil r.yl (yim x.yl (yev r.yg x.At x.ybf x.yi).2.1) }) rfl rfl rfl rfl rfl m2
      (by show (yev r.yg x.At x.ybf x.yi).1.yn<=yil r.yl _; rw [m4]; have:=h.bc; omega)
      (by
        show yil r.yl _=r.yl\/_
        rcases hmx.2.2 with hh | hh
        .exact .inl hh
        .right
         show (yil r.yl _).toNat<=m/\Wit n g' (yil r.yl _).toNat _ _
         rw [hh]
         refine ⟨by omega,a5.mono (qh _) (by omega) ?_ rfl⟩
         have:=a5.len
         omega)
    refine ⟨_,f1,f2,f3,yhb.one (yaat rfl ?_)⟩
    rw [m3]
    exact f4
   .exact .keep e2 e3 (yhb.one (ysr (.inr (.inr rfl)) (.inr rfl)))
theorem ybik(hi:ydy n g)(h:yej n g r)(hok:OkR B r)(hx:OkM B x)(hf:x.From≠r.Id)(hm:yhb n g x)(hk:x.yae=7):yjr n g r.Id (yky r x):=by
  unfold yky
  split
  .exact .keep hi h (yhb.one (ysr (.inr (.inr rfl)) (.inr rfl)))
  .rename_i hd
   have hd:yld r x=false:=by simpa using hd
   obtain ⟨g',e1,e2,e3,e4⟩:=yasj hi h hd hf
   obtain ⟨a1,a2,a4,a5⟩:=(hm.ext e1).snap hk
   rw [← e4] at a1 a2 a4 a5
   have hlg:(yec r x).yg=r.yg:=rfl
   have hbc:=h.bc
   have hcm:=hok.commit
   refine .comp e1 ?_
   simp only
   split
   .rename_i hlt
    have hl:ygt (ykc r.yg x.At x.ybf) (yfu (g'.F (yec r x).Id) (g'.G (yec r x).yc) x.At.toNat):=ygt.reset (G:=g'.G) e3.log (e2.pF _) (e2.pG _) (by rw [hlg]; omega) a2 a4
    have hbase:(ykc r.yg x.At x.ybf).yn=x.At:=by unfold ykc; split <;> rfl
    obtain ⟨f1,f2,f3,f4⟩:=yxx e2 e3 a1 a2 rfl (p:={ yec r x with yg:=ykc r.yg x.At x.ybf,yl:=x.At,yaf:=x.yck }) rfl rfl rfl rfl rfl hl
      (by show (ykc r.yg x.At x.ybf).yn<=x.At; rw [hbase]; exact qh _) (.inr ⟨qk _,a5⟩)
    exact ⟨_,f1,f2,f3,yhb.one (yaat rfl f4)⟩
   .rename_i hlt
    obtain ⟨w1,w2⟩:=yavr e2 e3.wit a1
    have hml:ygt (yec r x).yg (yfu (g'.F (yec r x).Id) (g'.G (yec r x).yc) (yec r x).yl.toNat):=by
      unfold yfu
      rw [qe ⟨e3.wit.len,w2⟩]
      exact e3.log
    obtain ⟨f1,f2,f3,f4⟩:=yxx e2 e3 a1 w1 rfl (p:=yec r x) rfl rfl rfl rfl rfl hml e3.bc (.inl rfl)
    exact ⟨_,f1,f2,f3,yhb.one (yaat rfl f4)⟩
theorem ybix(hi:ydy n g)(h:yej n g r)(hok:OkR B r)(hB0:0<=B)(hN:r.N=(n:Int))(hx:OkM B x)(hf1:1<=x.From)(hf2:x.From<=r.N)(ht:x.yc<=r.yc)(hm:yhb n g x)(hk:x.yae=6):yjr n g r.Id (yfx r x):=by
  unfold yfx
  split
  .exact .keep hi h (by simp)
  .rename_i hc
   have hte:x.yc=r.yc:=by omega
   have h3:r.ym=3:=by omega
   have hl:=h.lead h3
   have hlast:=h.log.last
   have hml:=hok.ma h3
   have hnl:=hok.na h3
   obtain ⟨_,mt0,mtB⟩:=yyq hok h3 hf1 hf2
   have hmt:yar r x.From<=(g.A x.From r.yc:Int):=by
     unfold yar at *
     have hlt:(x.From - 1).toNat < r.yaa.length:=by omega
     rw [qj hlt] at *
     have:=hl.m _ _ (qj hlt)
     rw [show (((x.From - 1).toNat:Nat):Int) + 1=x.From by omega] at this
     exact this
   have haG:∀ j,(g.A j r.yc:Int)<=yac r.yg:=by
     intro j
     have:=hi.aG j r.yc
     rw [← hl.f] at this
     omega
   have hnx:yax r x.From<=yac r.yg + 1:=by
     unfold yax
     have hlt:(x.From - 1).toNat < r.Next.length:=by omega
     rw [qj hlt]
     exact hl.x _ (jd hlt)
   have hma:yar r x.From<=yac r.yg:=kd hmt (haG _)
   have hmnA:=yaml x.At (yac r.yg)
   have hmn2:=yaml (yax r x.From - 2) x.At
   have htM:=yado (yar r x.From) (yim x.At (yac r.yg))
   have htN:=yado (yax r x.From) (yhh r x + 1)
   have htB:=yado (yar r x.From + 1) (yim (yax r x.From - 2) x.At + 1)
   have eM:yhh r x=yil (yar r x.From) (yim x.At (yac r.yg)):=rfl
   have eN:ykh r x=yil (yax r x.From) (yhh r x + 1):=rfl
   have eB:yol r x=yil (yar r x.From + 1) (yim (yax r x.From - 2) x.At + 1):=rfl
   split
   .rename_i hxo
    have hA:=hm.told hk hxo
    rw [hte] at hA
    have hx0:=hx.at0
    have hM:yhh r x<=(g.A x.From r.yc:Int):=by omega
    have hm0:yej n g { r with Next:=ybl r.Next (x.From - 1) (ykh r x),yaa:=ybl r.yaa (x.From - 1) (yhh r x) }:=by
      refine ⟨h.T,h.V,h.log,h.bc,h.wit,fun hr=>by have hr:r.ym=2:=hr; omega,fun _=>⟨hl.t,hl.l,hl.f,fun j v hj=>?_,fun v hv=>?_⟩,h.who⟩
      .have hj:(ybl r.yaa (x.From - 1) (yhh r x))[j]? = some v:=hj
       unfold ybl at hj
       by_cases hjk:(x.From - 1).toNat=j
       .have hjl:(x.From - 1).toNat < r.yaa.length:=by omega
        rw [← hjk,wu hjl] at hj
        have hj:=qd hj
        rw [show (j:Int) + 1=x.From by omega]
        show v<=(g.A x.From r.yc:Int)
        omega
       .rw [ja hjk] at hj
        exact hl.m j v hj
      .have hv:v∈ybl r.Next (x.From - 1) (ykh r x):=hv
       show v<=yac r.yg + 1
       rcases yru hv with hv | hv
       .omega
       .exact hl.x v hv
    have hq:=yaid hm0 (yahh hok h3 hx hf1 hf2) hN h3
    split
    .exact .keep hi hq (by simp)
    .exact .keep hi hq (yhb.one (yzv hi hq (yahm hok h3 hx hf1 hf2) (yer.trans h3) hf1 (by rw [yfn]; exact hf2)))
   .have hp:yej n g (yhq r x):=by
      refine ⟨h.T,h.V,h.log,h.bc,h.wit,fun hr=>by have hr:r.ym=2:=hr; omega,fun _=>⟨hl.t,hl.l,hl.f,hl.m,fun v hv=>?_⟩,h.who⟩
      have hv:v∈ybl r.Next (x.From - 1) (yol r x):=hv
      show v<=yac r.yg + 1
      rcases yru hv with hv | hv
      .omega
      .exact hl.x v hv
    exact .keep hi hp (yhb.one (yzv hi hp (yahl hok h3 hx hf1 hf2) h3 hf1 hf2))
theorem yakx(hi:ydy n g)(h:yej n g r)(hok:OkR B r)(hB0:0<=B)(hN:r.N=(n:Int))(hx:OkM B x)(hto:x.To=r.Id)(hf1:1<=x.From)(hf2:x.From<=r.N)(hf:x.From≠r.Id)(ht:x.yae≠1/\x.yae≠2->x.yc<=r.yc)(hm:yhb n g x):yjr n g r.Id (ydq r x):=by
  have none:yjr n g r.Id (r,[]):=.keep hi h (by simp)
  have hid:=hok.id
  unfold ydq
  split
  .exact .keep hi h (yhb.one (ysr (.inl rfl) (.inl rfl)))
  split
  .unfold yit
   split
   .rename_i hc
    have hl1:r.yak≠r.Id:=fun e=>by have:=h.who.2 e; omega
    have hgr:yej n g (yat r x):=h.of rfl rfl rfl rfl rfl (.inl ⟨.inr hc.2.1,hl1⟩)
    split
    .exact yaff (r:=yat r x) hi hgr (yfr hok true) hB0 hN
    .exact .keep hi hgr (by simp)
   .exact none
  split
  .rename_i hk3
   exact ybiz hi h (by omega) hf1 hm hk3
  split
  .rename_i hk4
   unfold ygb
   split
   .rename_i hc
    obtain ⟨c1,c2,c3⟩:=hc
    obtain ⟨v1,v2⟩:=hm.vote hk4 c1
    have hca:=h.cand c2
    have hgr:yej n g (yat r x):=by
      refine ⟨h.T,h.V,h.log,h.bc,h.wit,fun _=>⟨hca.t,fun j hj=>?_,hca.f,hca.l⟩,fun hr=>by have hr:r.ym=3:=hr; omega,h.who⟩
      have hj:(ybl r.yq (x.From - 1) true)[j]? = some true:=hj
      rcases ybsp (by omega) hj with hj | hj
      .show g.V r.yc ((j:Int) + 1) = r.Id
       rw [show (j:Int) + 1=x.From by omega,← c3,v2,hto]
      .exact hca.v j hj
    split
    .rename_i hw
     refine yajt (r:=yat r x) hi hgr (yfr hok true) hB0 hN c2 ?_ hw
     show (ybl r.yq _ _).length=n
     rw [ydx]
     have:=hok.ga (.inr c2)
     omega
    .exact .keep hi hgr (by simp)
   .exact none
  split
  .rename_i hk
   exact yaox hi h hok hB0 hx hf hm hk
  split
  .rename_i hk
   exact ybix hi h hok hB0 hN hx hf1 hf2 (ht (by omega)) hm hk
  split
  .rename_i hk
   exact ybik hi h hok hx hf hm hk
  .exact none
theorem yapb(hi:ydy n g)(h:yej n g r)(hok:OkR B r)(hB0:0<=B)(hN:r.N=(n:Int))(hx:OkM B x)(hm:yhb n g x):yjr n g r.Id (yaj r x):=by
  unfold yaj
  split
  .exact .keep hi h (by simp)
  .rename_i hr
   have hv:ydg r x=false:=by simpa using hr
   unfold ydg at hv
   simp only [js,jk] at hv
   obtain ⟨v1,v2,v3,v4,_⟩:=hv
   have v1:x.To=r.Id:=jq.1 v1
   have hid:=hok.id
   split
   .rename_i hb
    obtain ⟨g',e1,e2,e3,_⟩:=h.follow hi (t:=x.yc) (l:=0) (by omega)
    refine .comp e1 (yakx (r:=yai r x.yc 0) e2 e3 (yjj hok hx.term.2) hB0 hN hx v1 (by omega) (by show x.From<=r.N; omega) v4 (fun _=>?_) (hm.ext e1))
    show x.yc<=if r.yc < x.yc then x.yc else r.yc
    split <;> omega
   .rename_i hb
    refine yakx hi h hok hB0 hN hx v1 (by omega) (by omega) v4 (fun hk=>?_) hm
    rcases jz r.yc x.yc with hlt | hle
    .exfalso
     apply hb
     unfold yje
     simp [hlt,hk.1,hk.2]
    .exact hle
theorem yaow(hi:ydy n g)(h:yej n g r)(upto:Int)(snap:List Int)(hc:yiw r upto=true):yjr n g r.Id (yjv r upto snap,[]):=by
  unfold yiw at hc
  simp only [qq,wv] at hc
  obtain ⟨c1,c2,c3⟩:=hc
  have hcl:r.yl.toNat<=(g.F r.Id).length:=h.wit.len
  have hlast:yac (yix r.yg upto) = yac r.yg:=by
    rw [(h.log.compact (i:=upto) (by omega) (by omega)).last,h.log.last]
  refine .keep hi ⟨h.T,h.V,h.log.compact (by omega) (by omega),c2,h.wit,fun hr=>?_,fun hr=>?_,h.who⟩ (by simp)
  .have:=h.cand hr
   exact ⟨this.t,this.v,this.f,this.l⟩
  .have:=h.lead hr
   exact ⟨this.t,this.l,this.f,this.m,fun v hv=>by show v<=yac (yix r.yg upto) + 1; rw [hlast]; exact this.x v hv⟩
theorem yapc(hi:ydy n g)(h:yej n g r)(hid:1<=r.Id):yjr n g r.Id (ygx r,[]):=by
  have hbc:=h.bc
  refine .keep hi ⟨h.T,h.V,h.log,qh _,h.wit.mono (qh _) (by show r.yg.yn.toNat<=_; omega) h.log.b rfl,fun hr=>?_,fun hr=>?_,?_⟩ (by simp)
  .have hr:(0:Int) = 2:=hr
   omega
  .have hr:(0:Int) = 3:=hr
   omega
  .constructor
   .intro hr; have hr:(0:Int) = 3:=hr; omega
   .intro hr; have hr:(0:Int) = r.Id:=hr; omega
end
structure InvG (n:Nat) (w:yab) (g:Gh):Prop where
  mem:∀ (k:Nat) (r:ye),w.R[k]? = some r->yej n g r
  net:∀ x∈w.Net,yhb n g x
  inv:ydy n g
theorem yacd{c:Bool}{n:Nat}{w w':yab}{B:Int}{g:Gh}(hw:OkW B n w)(hB0:0<=B)(h:InvG n w g)(hs:ylz c w w'):∃ k g',yfy k g g'/\InvG n w' g':=by
  cases hs with
  | less net hn=>exact ⟨0,g,yfy.refl _ _,⟨h.mem,fun x hx=>h.net x (hn x hx),h.inv⟩⟩
  | act i r p net hi ha hn=>
    obtain ⟨m1,m2,m3⟩:=hw.mem i r hi
    have hmv:=h.mem i r hi
    have hgood:yjr n g r.Id p:=by
      cases ha with
      | tick draw=>exact ybiv h.inv hmv m1 hB0 m3 draw
      | recv x hx=>exact yapb h.inv hmv m1 hB0 m3 (hw.net x hx) (h.net x hx)
      | prop data hd h3=>exact yaar h.inv hmv m1 hB0 m3 h3 hd
      | comp upto snap hs hc=>exact yaow h.inv hmv upto snap hc
      | fall hc=>exact yapc h.inv hmv m1.id.1
    obtain ⟨g',g1,g2,g3,g4⟩:=hgood
    refine ⟨r.Id,g',g1,⟨fun k q hq=>?_,fun x hx=>?_,g2⟩⟩
    .have hq:(w.R.set i p.1)[k]? = some q:=hq
     by_cases hk:i=k
     .subst hk
      rw [wu (yalv hi)] at hq
      obtain rfl:=qd hq
      exact g3
     .rw [ja hk] at hq
      obtain ⟨q1,q2,q3⟩:=hw.mem k q hq
      exact (h.mem k q hq).ext g1 (by omega) (by omega)
    .rcases hn x hx with hx | hx
     .exact (h.net x hx).ext g1
     .exact g4 x hx
end Go.Proofs.Ytgoachcogmlhcaa.R
set_option maxRecDepth 100000
set_option linter.unusedVariables false
set_option linter.unusedSimpArgs false
noncomputable section
namespace Go.Proofs.Ytgoachcogmlhcaa.R
open Go
structure ActK (c:Bool) (r:ye) (net:List yj) (p:ye × List yj):Prop where
  b:r.yg.yn<=p.1.yg.yn
  cm:r.yl<=p.1.yl\/(c=true/\p.1.yl=p.1.yg.yn)
  s:p.1.yg.yn<=r.yl\/∃ x∈net,x.yae=7/\p.1.yg.yn=x.At
  m:∀ y∈p.2,y.yae=7->y.At=p.1.yg.yn
section
variable {c:Bool} {r:ye} {net:List yj} {x:yj}
theorem ActK.of{p:ye × List yj}(hbc:r.yg.yn<=r.yl)(h1:p.1.yg.yn=r.yg.yn)(h2:r.yl<=p.1.yl)(h3:∀ y∈p.2,y.yae=7->y.At=p.1.yg.yn):ActK c r net p:=
  ⟨by omega,.inl h2,.inl (by omega),h3⟩
end
def yarb:Gh:=⟨fun _ _=>0,fun _=>0,fun _=>[],fun _ _=>0,fun _ _=>[],fun _=>0,fun _=>[]⟩
theorem ybbs(n:Nat):ydy n yarb where
  a0 _ _ _:=rfl
  aG _ _:=jb _
  aF _:=⟨rfl,jb _⟩
  pF _:=Pre.nil _
  pG _:=Pre.nil _
  tG _ _ h:=nomatch h
  sG _:=List.Pairwise.nil
  pC _ _:=⟨Pre.nil _,fun _ h=>nomatch h⟩
  lG _ _:=rfl
  S _ _ _ _ h:=absurd rfl h
  K _ _ _ _ h1 h2:=by have h2:_<=0:=h2; omega
  VL _ _ h:=absurd rfl h
  q _ h:=absurd rfl h
  vt _ _ h:=absurd rfl h
  vc _ _ h:=absurd rfl h
  tF _ _ h:=nomatch h
theorem ybbt(n:Nat):InvG n (yms n) yarb:=by
  refine ⟨fun k r hr=>?_,by simp [yms],ybbs n⟩
  obtain ⟨hk,rfl⟩:=yss hr
  refine ⟨rfl,rfl,⟨qh _,jb _,rfl,rfl⟩,qh _,.inl rfl,fun h=>by simp [yiz] at h,fun h=>by simp [yiz] at h,?_⟩
  constructor
  .intro h; simp [yiz] at h
  .intro h
   have h:(0:Int) = (k:Int) + 1:=h
   omega
structure ydnh (c:Bool) (r q:ye):Prop where
  t:r.yc<=q.yc
  v:q.yc=r.yc->r.yan≠0->r.yan=q.yan
  cm:q.yl < r.yl->c=true/\q.yl=q.yg.yn
  b:r.yg.yn<=q.yg.yn
  l:q.yl<=yac q.yg
  w:q.ym=3↔q.yak=q.Id
end Go.Proofs.Ytgoachcogmlhcaa.R
