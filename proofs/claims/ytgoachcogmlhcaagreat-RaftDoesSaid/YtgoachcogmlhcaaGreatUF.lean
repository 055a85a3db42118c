/- What the members' functions compute, plainly: logs. -/
import Derived.Test.YtgoachcogmlhcaaGreatMF
import Derived.IntWalk
set_option maxRecDepth 100000
set_option linter.unusedVariables false
set_option linter.unusedSimpArgs false
noncomputable section
namespace Go.Proofs.YtgoachcogmlhcaaGreat.R
open Go
def inR(n:Int):Prop:=-9223372036854775808≤n∧n≤9223372036854775807
theorem yaxu{n:Int}(h:inR n):IntKind.i64.wrap n=n:=IntWalk.i64_in n h
theorem yas{n:Int}(h : -9000000000000≤n∧n≤9000000000000):IntKind.i64.wrap n=n:=yaxu (by unfold inR; omega)
theorem ycb{k:Nat}(h:k < 1000000000):IntKind.i64.wrap ((k:Int) + 1) = ((k + 1:Nat):Int):=by
  rw [yas (by omega)]; rfl
theorem ynq{α:Type}(l:List α)(k:Nat):ybu l (k:Int) = l[k]?:=by simp [ybu]
theorem ydq{α:Type}{l:List α}{k:Nat}(h:k < l.length):ybu l (k:Int) = some l[k]:=by rw [ynq,List.getElem?_eq_getElem h]
theorem yfb{α:Type}{l:List α}{i:Int}(h0:0≤i):ybu l i=l[i.toNat]?:=by simp [ybu,h0]
theorem ybg{n:Nat}(h:n≤549755813888):yco n=true:=by
  unfold yco yks
  simpa using h
theorem ybtb{n:Int}(h0:0≤n)(h1:n < 18446744073709551616):IntKind.u64.wrap n=n:=by
  simp only [IntKind.wrap,IntKind.signed,IntKind.bits]
  simp
  omega
theorem yip{α:Type}{l:List α}{i:Int}(h0:0≤i)(h1:i≤(l.length:Int)):yby l i l.length=some (l.drop i.toNat):=by
  unfold yby
  rw [if_pos ⟨h0,h1,Int.le_refl _⟩]
  simp
theorem yok{α:Type}{l:List α}{i:Int}(h0:0≤i)(h1:i≤(l.length:Int)):yby l 0 i=some (l.take i.toNat):=by
  unfold yby
  rw [if_pos ⟨Int.le_refl _,h0,h1⟩]
  simp
structure OkE (B:Int) (e:yc):Prop where
  t:0≤e.Term∧e.Term≤B
  d:e.ybq.length≤1000
structure OkG (B:Int) (l:yz):Prop where
  b:0≤l.yn
  bt:0≤l.yi∧l.yi≤B
  last:l.yn + (l.Entries.length:Int)≤B
  e:∀ x∈l.Entries,OkE B x
def yaz(l:yz):Int:=l.yn + (l.Entries.length:Int)
def ycm(l:yz)(i:Int):Option Int:=
  if i=l.yn then some l.yi else if i < l.yn∨yaz l < i then none else (l.Entries[(i - l.yn - 1).toNat]?).map yc.Term
def ydh(l:yz):Int:=(ycm l (yaz l)).getD 0
def yov(l:yz)(term at0:Int):Bool:=decide (ydh l < term) || (decide (term=ydh l) && decide (yaz l≤at0))
def ypj(l:yz)(at0:Int):List yc:=if at0≤l.yn∨yaz l < at0 then [] else (l.Entries.drop (at0 - l.yn - 1).toNat).take 8
theorem yase{l:List yc}(hl:l.length≤100000000)(hd:∀ x∈l,x.ybq.length≤1000):∀ (m k n:Nat) (out:List yc),l.length - k=m→k≤l.length→m < n→out.length≤k→zem l n (k:Int) out=some (out++l.drop k):=by
  intro m
  induction m with
  | zero=>
    intro k n out hm hk hn ho
    obtain ⟨n,rfl⟩:∃ n',n=n' + 1:=⟨n - 1,by omega⟩
    have hk':¬ ((k:Int) < (l.length:Int)):=by omega
    rw [zem,zjc,decide_eq_false hk',if_neg (by simp),List.drop_eq_nil_of_le (by omega),List.append_nil]
  | succ m ih=>
    intro k n out hm hk hn ho
    obtain ⟨n,rfl⟩:∃ n',n=n' + 1:=⟨n - 1,by omega⟩
    have hlt:k < l.length:=by omega
    have hk':((k:Int) < (l.length:Int)):=by omega
    have:=hd _ (List.getElem_mem hlt)
    rw [zem,zjc,decide_eq_true hk',if_pos rfl,ydq hlt,yk,if_pos (ybg (by omega)),if_pos (ybg (by omega)),ycb (by omega),ih (k + 1) n _ (by omega) (by omega) (by omega) (by simp; omega),List.drop_eq_getElem_cons hlt]
    simp
theorem yrt{l:List yc}(hl:l.length≤100000000)(hd:∀ x∈l,x.ybq.length≤1000):zid l=some l:=by
  have:=yase hl hd _ 0 ((((l.length:Int)) - ((0:Int))).toNat + 1) [] rfl (Nat.zero_le _) (by omega) (by simp)
  unfold zid
  simpa using this
section
variable {B:Int} {l:yz}
theorem OkG.len(h:OkG B l)(hB:B≤1000000):l.Entries.length≤1000000:=by have:=h.last; have:=h.b; omega
theorem yio(h:OkG B l)(hB:B≤1000000):zgd l=some l:=by
  have:=h.len hB
  unfold zgd
  rw [yrt (by omega) fun x hx=>(h.e x hx).d,yk]
theorem yfu(h:OkG B l)(hB:B≤1000000):zam l=some (yaz l):=by
  have:=h.last; have:=h.b
  unfold zam yaz
  rw [yas (by omega)]
theorem ybta{i:Int}(h0:i≠l.yn)(h:i < l.yn∨yaz l < i):ycm l i=none:=by
  unfold ycm
  rw [if_neg h0,if_pos h]
theorem yhy(h:OkG B l)(hB:B≤1000000){i:Int}(hi : -9000000≤i∧i≤9000000):zbv l i=some ((ycm l i).getD 0,(ycm l i).isSome):=by
  have h1:=h.last; have h2:=h.b
  unfold zbv ycm
  by_cases hb:i=l.yn
  ·rw [decide_eq_true hb,if_pos rfl,if_pos hb]; rfl
  ·rw [decide_eq_false hb,if_neg (by simp),if_neg hb]
   by_cases hlt:i < l.yn
   ·rw [decide_eq_true hlt,if_pos rfl,if_pos (.inl hlt)]; rfl
   ·rw [decide_eq_false hlt,if_neg (by simp),yfu h hB,yk]
    by_cases hgt:yaz l < i
    ·rw [decide_eq_true hgt,if_pos (.inr hgt)]; rfl
    ·rw [decide_eq_false hgt,if_neg (by omega)]
     unfold yaz at hgt
     unfold znv
     have hlt2:(i - l.yn - 1).toNat < l.Entries.length:=by omega
     rw [if_neg (by simp),yas (n:=i - l.yn) (by omega),yas (by omega),yfb (by omega),List.getElem?_eq_getElem hlt2,yk]
     rfl
theorem yty(h:OkG B l)(hB:B≤1000000):0≤yaz l∧yaz l≤B:=by
  have:=h.last; have:=h.b
  unfold yaz
  omega
theorem yjc(h:OkG B l)(hB:B≤1000000):zfs l=some (ydh l):=by
  have:=yty h hB
  unfold zfs
  rw [yfu h hB,yk,yhy h hB (by omega),yk]
  rfl
theorem yuv(h:OkG B l)(hB:B≤1000000)(term at0:Int):zlp l term at0=some (yov l term at0):=by
  unfold zlp yov
  rw [yjc h hB,yk]
  by_cases h1:ydh l < term
  ·simp [h1]
  ·by_cases h2:term=ydh l
   ·rw [decide_eq_false h1,if_neg (by simp),decide_eq_true h2,if_pos rfl,yfu h hB,yk]
    simp
   ·simp [h1,h2]
theorem yahw(h:OkG B l)(hB:0≤B)(i:Int):0≤(ycm l i).getD 0∧(ycm l i).getD 0≤B:=by
  unfold ycm
  split
  ·exact h.bt
  ·split
   ·simp; omega
   ·cases hx:l.Entries[(i - l.yn - 1).toNat]? with
    | none=>simp; omega
    | some e=>exact (h.e e (List.mem_of_getElem? hx)).t
theorem ybqu(h:OkG B l)(hB:B≤1000000){i:Int}(hi : -9000000≤i∧i≤9000000):znl l i 8=some (ypj l i):=by
  have h1:=h.last; have h2:=h.b; have h3:=h.len hB
  unfold znl ypj
  by_cases hb:i≤l.yn
  ·rw [decide_eq_true hb,if_pos rfl,if_pos (.inl hb)]; rfl
  ·rw [decide_eq_false hb,if_neg (by simp),yfu h hB,yk]
   by_cases hgt:yaz l < i
   ·rw [decide_eq_true hgt,if_pos rfl,if_pos (.inr hgt)]; rfl
   ·rw [decide_eq_false hgt,if_neg (by simp),if_neg (by omega)]
    unfold yaz at hgt
    unfold zlg
    have hd:∀ x∈(l.Entries.drop (i - l.yn - 1).toNat).take 8,x.ybq.length≤1000:=fun x hx=>(h.e x (List.mem_of_mem_drop (List.mem_of_mem_take hx))).d
    rw [if_neg (by simp),yas (n:=i - l.yn) (by omega),yas (by omega),yip (by omega) (by omega),yk]
    have hcut:yby (l.Entries.drop (i - l.yn - 1).toNat) 0 (if ((l.Entries.drop (i - l.yn - 1).toNat).length:Int) < 8 then ((l.Entries.drop (i - l.yn - 1).toNat).length:Int) else 8) = some ((l.Entries.drop (i - l.yn - 1).toNat).take 8):=by
      split
      ·rename_i hs
       rw [yok (by omega) (by omega)]
       congr 1
       rw [List.take_of_length_le (by omega),List.take_of_length_le (by omega)]
      ·rw [yok (by omega) (by omega)]; rfl
    rw [hcut,yk,yrt (by simp; omega) hd,yk]
theorem yash(h:OkG B l)(hB:B≤1000000){e:yc}(he:e.ybq.length≤1000):zkd l e=some ⟨l.yn,l.yi,l.Entries++[e]⟩:=by
  have h3:=h.len hB
  unfold zkd
  rw [yio h hB,yk,if_pos (ybg (by omega)),if_pos (ybg (by omega))]
def yjp(l:yz)(i:Int):yz:=⟨i,(ycm l i).getD 0,l.Entries.drop (i - l.yn).toNat⟩
theorem yxb(h:OkG B l)(hB:B≤1000000){i:Int}(hi : -9000000≤i∧i≤9000000):zlf l i=some (if (ycm l i).isSome then (yjp l i,0) else (⟨0,0,[]⟩,2)):=by
  have h1:=h.last; have h2:=h.b; have h3:=h.len hB
  unfold zlf
  rw [yhy h hB hi,yk]
  cases ht:ycm l i with
  | none=>simp
  | some t=>
    have hin:l.yn≤i∧i≤yaz l:=by
      unfold ycm at ht
      split at ht
      ·unfold yaz; omega
      ·split at ht
       ·cases ht
       ·omega
    unfold yaz at hin
    have hd:∀ x∈l.Entries.drop (i - l.yn).toNat,x.ybq.length≤1000:=fun x hx=>(h.e x (List.mem_of_mem_drop hx)).d
    simp only [Option.isSome_some,if_true]
    rw [yas (by omega),yip (by omega) (by omega),yk,yrt (by simp; omega) hd,yk]
    simp [yjp,ht]
def ymn(l:yz)(i term:Int):yz:=if ycm l i=some term then yjp l i else ⟨i,term,[]⟩
theorem ybeo(h:OkG B l)(hB:B≤1000000){i term:Int}(hi : -9000000≤i∧i≤9000000):zqd l i term=some (ymn l i term):=by
  unfold zqd ymn zmv
  rw [yhy h hB hi,yk]
  cases ht:ycm l i with
  | none=>simp
  | some t=>
    by_cases he:t=term
    ·simp [he,yxb h hB hi,ht,yk]
    ·simp [he]
end
end Go.Proofs.YtgoachcogmlhcaaGreat.R
set_option maxRecDepth 100000
set_option linter.unusedVariables false
set_option linter.unusedSimpArgs false
noncomputable section
namespace Go.Proofs.YtgoachcogmlhcaaGreat.R
open Go
def yhz(ents:List yc):Nat→List yc→List yc
  | _,[]=>ents
  | k,e :: r=>match ents[k]? with
    | some x=>if x.Term=e.Term then yhz ents (k + 1) r else ents.take k++(e :: r)
    | none=>ents++(e :: r)
def yie(l:yz)(mine:Int):Nat→Int
  | 0=>l.yn
  | k + 1=>if ycm l (l.yn + (k + 1:Nat)) = some mine then yie l mine k else l.yn + (k + 1:Nat)
def ysa(l:yz)(at0 mine:Int):Int:=yie l mine (at0 - 1 - l.yn).toNat
def ysp(l:yz)(at0 term:Int)(es:List yc):yz × Int × Bool:=
  match ycm l at0 with
  | none=>(l,yaz l,false)
  | some mine=>if mine≠term then (l,ysa l at0 mine,false) else (⟨l.yn,l.yi,yhz l.Entries (at0 - l.yn).toNat es⟩,at0 + (es.length:Int),true)
def yku(l:yz)(at0 term:Int)(es:List yc):yz × Int × Bool:=
  if at0 < l.yn then (if (es.length:Int) < l.yn - at0 then (l,l.yn,true) else ysp l l.yn l.yi (es.drop (l.yn - at0).toNat)) else ysp l at0 term es
theorem yauj(l:yz)(mine:Int):∀ k,l.yn≤yie l mine k∧yie l mine k≤l.yn + (k:Nat)
  | 0=>by simp [yie]
  | k + 1=>by
    have:=yauj l mine k
    unfold yie
    split
    ·omega
    ·omega
section
variable {B:Int} {l:yz}
theorem ykn{i t:Int}(h:ycm l i=some t):l.yn≤i∧i≤yaz l:=by
  unfold ycm at h
  split at h
  ·unfold yaz; omega
  ·split at h
   ·cases h
   ·omega
theorem yaqo(h:OkG B l)(hB:B≤1000000)(x:Int):zoy l x=some (l,(if x < l.yn then l.yn else x),false):=by
  unfold zoy
  rw [yio h hB,yk]
theorem ybid(h:OkG B l)(hB:B≤1000000)(mine:Int):∀ (k n:Nat),(k:Int)≤2000000→k < n→zar l (mine,true) n (l.yn + (k:Nat)) ((ycm l (l.yn + (k:Nat))).getD 0) (ycm l (l.yn + (k:Nat))).isSome=some (l,yie l mine k,false):=by
  have hb1:=h.last; have hb2:=h.b
  intro k
  induction k with
  | zero=>
    intro n hk hn
    obtain ⟨n,rfl⟩:∃ n',n=n' + 1:=⟨n - 1,by omega⟩
    have e0:l.yn + ((0:Nat):Int) = l.yn:=by omega
    rw [zar,zjr,e0]
    have h1:∀ v,zbp (zar l (mine,true) n) l l.yn v=some (l,l.yn,false)∨v=true:=by
      intro v
      cases v with
      | true=>exact .inr rfl
      | false=>
        left
        unfold zbp
        rw [if_neg (by simp),yaqo h hB,if_neg (by omega)]
    have h2:zbp (zar l (mine,true) n) l l.yn false=some (l,l.yn,false):=by
      rcases h1 false with h | h
      ·exact h
      ·cases h
    have hd:decide (l.yn < l.yn) = false:=decide_eq_false (by omega)
    rw [hd,h2]
    simp [yie]
  | succ k ih=>
    intro n hk hn
    obtain ⟨n,rfl⟩:∃ n',n=n' + 1:=⟨n - 1,by omega⟩
    have hbase:l.yn < l.yn + ((k + 1:Nat):Int):=by omega
    have hprev:IntKind.i64.wrap (l.yn + ((k + 1:Nat):Int) - 1) = l.yn + (k:Nat):=by rw [yas (by omega)]; omega
    rw [zar,zjr]
    have hno:zbp (zar l (mine,true) n) l (l.yn + ((k + 1:Nat):Int)) false=some (l,l.yn + ((k + 1:Nat):Int),false):=by
      unfold zbp
      rw [if_neg (by simp),yaqo h hB,if_neg (by omega)]
    cases ht:ycm l (l.yn + ((k + 1:Nat):Int)) with
    | none=>
      simp only [Option.isSome_none,Bool.false_eq_true,if_false]
      rw [hno]
      unfold yie
      rw [ht,if_neg (by simp)]
    | some t=>
      simp only [Option.isSome_some,if_true]
      change (if decide (t=mine) = true then zbp (zar l (mine,true) n) l (l.yn + ((k + 1:Nat):Int)) (decide (l.yn < l.yn + ((k + 1:Nat):Int))) else zbp (zar l (mine,true) n) l (l.yn + ((k + 1:Nat):Int)) false) = _
      by_cases hm:t=mine
      ·rw [decide_eq_true hm,if_pos rfl,decide_eq_true hbase]
       unfold zbp
       rw [if_pos rfl,hprev,yhy h hB (by omega),yk]
       simp only
       rw [ih n (by omega) (by omega)]
       conv=>rhs; unfold yie
       rw [ht,hm,if_pos rfl]
      ·rw [decide_eq_false hm,if_neg (by simp),hno]
       unfold yie
       rw [ht,if_neg (by simp [hm])]
theorem ybeq(h:OkG B l)(hB:B≤1000000){k0:Nat}{es:List yc}(hk0:(k0:Int)≤1000000)(hes:es.length≤1000)(hd:∀ x∈es,x.ybq.length≤1000) :
    ∀ (m j n:Nat),es.length - j=m→j≤es.length→m < n→zic l (l.yn + (k0:Nat)) es l n (j:Int) = some (⟨l.yn,l.yi,yhz l.Entries (k0 + j) (es.drop j)⟩,l.yn + (k0:Nat) + (es.length:Int),true):=by
  have hb1:=h.last; have hb2:=h.b; have hlen:=h.len hB
  have hk5:∀ out,zmo (l.yn + (k0:Nat)) es l out=some (⟨l.yn,l.yi,out⟩,l.yn + (k0:Nat) + (es.length:Int),true):=by
    intro out
    unfold zmo
    rw [yas (by omega)]
  have hk4:∀ (j:Nat) out,j≤es.length→out.length≤1000000→zmn (l.yn + (k0:Nat)) es l (j:Int) out=some (⟨l.yn,l.yi,out++es.drop j⟩,l.yn + (k0:Nat) + (es.length:Int),true):=by
    intro j out hj ho
    unfold zmn
    have e1:((j:Int)).toNat=j:=by omega
    rw [yip (by omega) (by omega),yk,e1,yrt (by simp; omega) fun x hx=>hd x (List.mem_of_mem_drop hx),yk,if_pos (ybg (by simp; omega)),hk5]
  intro m
  induction m with
  | zero=>
    intro j n hm hj hn
    obtain ⟨n,rfl⟩:∃ n',n=n' + 1:=⟨n - 1,by omega⟩
    have hj':¬ ((j:Int) < (es.length:Int)):=by omega
    rw [zic,zmu,decide_eq_false hj',if_neg (by simp),List.drop_eq_nil_of_le (by omega),hk5]
    simp [yhz]
  | succ m ih=>
    intro j n hm hj hn
    obtain ⟨n,rfl⟩:∃ n',n=n' + 1:=⟨n - 1,by omega⟩
    have hlt:j < es.length:=by omega
    have hj':((j:Int) < (es.length:Int)):=by omega
    have hpos:IntKind.i64.wrap (IntKind.i64.wrap (l.yn + (k0:Nat) + (j:Int)) - l.yn) = ((k0 + j:Nat):Int):=by
      rw [yas (n:=l.yn + (k0:Nat) + (j:Int)) (by omega),yas (by omega)]
      omega
    rw [zic,zmu,decide_eq_true hj',if_pos rfl,ydq hlt,yk,hpos,List.drop_eq_getElem_cons hlt]
    by_cases hin:k0 + j < l.Entries.length
    ·have h1:(((k0 + j:Nat):Int) < ((l.Entries.length:Nat):Int)):=by omega
     have h2:l.Entries[k0 + j]? = some l.Entries[k0 + j]:=List.getElem?_eq_getElem hin
     rw [decide_eq_true h1,if_pos rfl,ydq hin,yk]
     simp only [yhz,h2]
     by_cases ht:l.Entries[k0 + j].Term=es[j].Term
     ·rw [decide_eq_true ht,if_pos rfl,if_pos ht,ycb (by omega),ih (j + 1) n (by omega) (by omega) (by omega)]
      rfl
     ·have e1:(((k0 + j:Nat):Int)).toNat=k0 + j:=by omega
      rw [decide_eq_false ht,if_neg (by simp),if_neg ht,yok (by omega) (by omega),yk,e1,hk4 j _ (by omega) (by simp; omega),List.drop_eq_getElem_cons hlt]
    ·have h1:¬ (((k0 + j:Nat):Int) < ((l.Entries.length:Nat):Int)):=by omega
     have h2:l.Entries[k0 + j]? = none:=List.getElem?_eq_none (by omega)
     rw [decide_eq_false h1,if_neg (by simp),hk4 j _ (by omega) (by omega),List.drop_eq_getElem_cons hlt]
     simp only [yhz,h2]
theorem ybrg(h:OkG B l)(hB:B≤1000000){at0 term:Int}(ha:l.yn≤at0∧at0≤1000000){es:List yc}(hes:es.length≤1000)(hd:∀ x∈es,x.ybq.length≤1000):zmm l at0 term es=some (ysp l at0 term es):=by
  have hb1:=h.last; have hb2:=h.b
  unfold zmm ysp
  rw [yhy h hB (by omega),yk]
  cases ht:ycm l at0 with
  | none=>
    simp only [Option.isSome_none,Bool.false_eq_true,if_false]
    rw [yio h hB,yk,yfu h hB,yk]
  | some mine=>
    simp only [Option.isSome_some,if_true,Option.getD_some]
    by_cases hm:mine=term
    ·have e0:at0=l.yn + ((at0 - l.yn).toNat:Nat):=by omega
     have hz:=ybeq h hB (k0:=(at0 - l.yn).toNat) (es:=es) (by omega) hes hd _ 0 ((((es.length:Int)) - ((0:Int))).toNat + 1) rfl (Nat.zero_le _) (by omega)
     simp only [hm,ne_eq,not_true_eq_false,decide_false,Bool.false_eq_true,if_false]
     rw [yio h hB,yk]
     rw [← e0] at hz
     simpa using hz
    ·simp only [ne_eq,hm,not_false_eq_true,decide_true,if_true]
     by_cases hlow:at0 - 1 < l.yn
     ·have e1:at0=l.yn:=by omega
      have ht1:ycm l (at0 - 1) = none:=ybta (by omega) (.inl (by omega))
      rw [yas (by omega),yhy h hB (by omega),yk,ht1]
      simp only [Option.isSome_none,Option.getD_none]
      have:zar l (mine,true) 1000000 (at0 - 1) 0 false=some (l,l.yn,false):=by
        show zar l (mine,true) (999999 + 1) (at0 - 1) 0 false=_
        rw [zar,zjr,if_neg (by simp)]
        unfold zbp
        rw [if_neg (by simp),yaqo h hB,if_pos (by omega)]
      rw [this]
      have e2:(at0 - 1 - l.yn).toNat=0:=by omega
      unfold ysa
      rw [e2]
      rfl
     ·have e2:at0 - 1=l.yn + ((at0 - 1 - l.yn).toNat:Nat):=by omega
      have htm:=ykn ht
      have hz:=ybid h hB mine (at0 - 1 - l.yn).toNat 1000000 (by omega) (by unfold yaz at htm; omega)
      rw [yas (by omega),yhy h hB (by omega),yk]
      rw [← e2] at hz
      exact hz
theorem ybyx(h:OkG B l)(hB:B≤1000000){at0 term:Int}(ha:0≤at0∧at0≤1000000){es:List yc}(hes:es.length≤1000)(hd:∀ x∈es,x.ybq.length≤1000):zrx l at0 term es=some (yku l at0 term es):=by
  have hb1:=h.last; have hb2:=h.b
  unfold zrx yku
  by_cases hlt:at0 < l.yn
  ·rw [decide_eq_true hlt,if_pos rfl,if_pos hlt,yas (by omega)]
   by_cases hs:(es.length:Int) < l.yn - at0
   ·rw [decide_eq_true hs,if_pos rfl,if_pos hs,yio h hB,yk]
   ·rw [decide_eq_false hs,if_neg (by simp),if_neg hs,yip (by omega) (by omega),yk,ybrg h hB (by omega) (by simp; omega) fun x hx=>hd x (List.mem_of_mem_drop hx)]
  ·rw [decide_eq_false hlt,if_neg (by simp),if_neg hlt,ybrg h hB (by omega) hes hd]
end
end Go.Proofs.YtgoachcogmlhcaaGreat.R
set_option maxRecDepth 100000
set_option linter.unusedVariables false
set_option linter.unusedSimpArgs false
noncomputable section
namespace Go.Proofs.YtgoachcogmlhcaaGreat.R
open Go
def yfw(l:List Bool):Nat:=l.countP (fun b=>b)
def yhg(l:List Bool):Bool:=decide (l.length < 2 * yfw l)
theorem yyl(l:List Bool):yfw l≤l.length:=List.countP_le_length
theorem ywd{n:Nat}(h:n≤1000):zjs (n:Int) = some (if n=0 then 0 else ((n / 2 + 1:Nat):Int)):=by
  unfold zjs
  by_cases h0:n=0
  ·subst h0; simp
  ·have h1:¬ ((n:Int) < 1):=by omega
   have h2:(n:Int).tdiv 2=((n / 2:Nat):Int):=rfl
   rw [decide_eq_false h1,if_neg (by simp),if_neg h0,h2,yas (n:=((n / 2:Nat):Int)) (by omega),yas (by omega)]
   rfl
theorem ycby{l:List Bool}(hl:l.length≤1000):∀ (m k n:Nat),l.length - k=m→k≤l.length→m < n→zft l n ((yfw (l.take k):Nat):Int) (k:Int) = some (yhg l):=by
  intro m
  induction m with
  | zero=>
    intro k n hm hk hn
    obtain ⟨n,rfl⟩:∃ n',n=n' + 1:=⟨n - 1,by omega⟩
    have hk':¬ ((k:Int) < (l.length:Int)):=by omega
    rw [zft,zkg,decide_eq_false hk',if_neg (by simp),List.take_of_length_le (by omega)]
    unfold zpr yhg
    have hc:=yyl l
    by_cases h0:l.length=0
    ·have h1:¬ (0:Int) < (l.length:Int):=by omega
     rw [decide_eq_false h1,if_neg (by simp)]
     have:¬ l.length < 2 * yfw l:=by omega
     rw [decide_eq_false this]
    ·have h1:(0:Int) < (l.length:Int):=by omega
     rw [decide_eq_true h1,if_pos rfl,ywd hl,yk,if_neg h0]
     congr 1
     rw [decide_eq_decide]
     omega
  | succ m ih=>
    intro k n hm hk hn
    obtain ⟨n,rfl⟩:∃ n',n=n' + 1:=⟨n - 1,by omega⟩
    have hlt:k < l.length:=by omega
    have hk':((k:Int) < (l.length:Int)):=by omega
    have htake:l.take (k + 1) = l.take k++[l[k]]:=by rw [List.take_succ_eq_append_getElem hlt]
    have hcl:yfw (l.take k)≤k:=by have:=yyl (l.take k); simp at this; omega
    rw [zft,zkg,decide_eq_true hk',if_pos rfl,ydq hlt,yk]
    have hi:=ih (k + 1) n (by omega) (by omega) (by omega)
    rw [htake] at hi
    cases hb:l[k] with
    | true=>
      rw [if_pos rfl,ycb (by omega),ycb (by omega)]
      rw [hb] at hi
      have:yfw (l.take k++[true]) = yfw (l.take k) + 1:=by simp [yfw]
      rw [this] at hi
      exact hi
    | false=>
      rw [if_neg (by simp),ycb (by omega)]
      rw [hb] at hi
      have:yfw (l.take k++[false]) = yfw (l.take k):=by simp [yfw]
      rw [this] at hi
      exact hi
theorem ybfc{l:List Bool}(hl:l.length≤1000):znw l=some (yhg l):=by
  have:=ycby hl _ 0 ((((l.length:Int)) - ((0:Int))).toNat + 1) rfl (Nat.zero_le _) (by omega)
  unfold znw
  simpa [yfw] using this
theorem yclx(x y:Int):znt x y=some (decide (x < y)):=by
  unfold znt zms
  simp [yk]
theorem yagr{α:Type}(A:List α)(x:α)(C:List α):(A++x :: C)[A.length]? = some x:=by simp
theorem yaxd{α:Type}(A:List α)(x y:α)(C:List α):(A++x :: C).set A.length y=A++y :: C:=by simp
theorem ybfy{rec1:Int→List Int→Option (List Int)}{i:Int}:∀ (k:Nat) (A:List Int) (x:Int) (C D:List Int) (n:Nat),A.length=k→k < n→(A++x :: C++D).length≤1000→(A++C).Pairwise (·≤ ·)→(∀ y∈C,x≤y) →
    ∃ S,S.Pairwise (·≤ ·)∧S.Perm (A++x :: C)∧zn rec1 0 i n (k:Int) (A++x :: C++D) = rec1 (IntKind.i64.wrap (i + 1)) (S++D):=by
  intro k
  induction k with
  | zero=>
    intro A x C D n hA hn hlen hs hx
    obtain ⟨n,rfl⟩:∃ n',n=n' + 1:=⟨n - 1,by omega⟩
    obtain rfl:=List.eq_nil_of_length_eq_zero hA
    refine ⟨x :: C,List.pairwise_cons.2 ⟨hx,by simpa using hs⟩,List.Perm.refl _,?_⟩
    rw [zn,zaq]
    have:¬ ((0:Int) < ((0:Nat):Int)):=by omega
    rw [decide_eq_false this,if_neg (by simp)]
    unfold zad zbb
    rw [if_neg (by simp)]
    simp
  | succ k ih=>
    intro A x C D n hA hn hlen hs hx
    obtain ⟨n,rfl⟩:∃ n',n=n' + 1:=⟨n - 1,by omega⟩
    obtain ⟨A',y,rfl⟩:∃ A' y,A=A'++[y]:=by
      have hne:A≠[]:=by intro h; subst h; simp at hA
      exact ⟨A.dropLast,A.getLast hne,(List.dropLast_concat_getLast hne).symm⟩
    have hA':A'.length=k:=by simpa using hA
    have hk:((0:Int) < ((k + 1:Nat):Int)):=by omega
    have hkl:k < 1000:=by simp at hlen; omega
    have hw:IntKind.i64.wrap (((k + 1:Nat):Int) - 1) = (k:Int):=by rw [yas (by omega)]; omega
    have e1:A'++[y]++x :: C++D=A'++y :: (x :: (C++D)):=by simp
    have e2:A'++[y]++x :: C++D=(A'++[y])++x :: (C++D):=by simp
    have g1:ybu (A'++[y]++x :: C++D) ((k + 1:Nat):Int) = some x:=by
      rw [ynq,e2,← hA]; exact yagr _ _ _
    have g2:ybu (A'++[y]++x :: C++D) (k:Int) = some y:=by
      rw [ynq,e1,← hA']; exact yagr _ _ _
    have hs1:ybi (A'++[y]++x :: C++D) ((k + 1:Nat):Int) y=A'++y :: (y :: (C++D)):=by
      unfold ybi
      have:(((k + 1:Nat):Int)).toNat=(A'++[y]).length:=by rw [hA]; omega
      rw [e2,this,yaxd]
      simp
    have g3:ybu (A'++y :: (y :: (C++D))) (k:Int) = some y:=by rw [ynq,← hA']; exact yagr _ _ _
    have hs2:ybi (A'++y :: (y :: (C++D))) (k:Int) x=A'++x :: (y :: C)++D:=by
      unfold ybi
      have:((k:Int)).toNat=A'.length:=by omega
      rw [this,yaxd]
      simp
    have hsA:(A'++y :: C).Pairwise (·≤ ·):=by simpa using hs
    rw [zn,zaq,decide_eq_true hk,if_pos rfl,g1,yk,hw,g2,yk,yclx,yk]
    unfold zad zbb
    by_cases hlt:x < y
    ·rw [decide_eq_true hlt,if_pos rfl,hw,g2,yk,g1,yk,hs1,g3,yk,hs2]
     obtain ⟨S,h1,h2,h3⟩:=ih A' x (y :: C) D n hA' (by omega) (by simp at hlen ⊢; omega) hsA (by
       intro z hz
       rcases List.mem_cons.1 hz with rfl | hz
       ·omega
       ·exact hx z hz)
     refine ⟨S,h1,h2.trans ?_,h3⟩
     have:(A'++x :: y :: C).Perm (A'++y :: x :: C):=List.Perm.append_left _ (List.Perm.swap _ _ _)
     simpa using this
    ·rw [decide_eq_false hlt,if_neg (by simp)]
     refine ⟨A'++[y]++x :: C,?_,List.Perm.refl _,by simp⟩
     have hp:=List.pairwise_append.1 hs
     have hA2:=List.pairwise_append.1 hsA
     refine List.pairwise_append.2 ⟨hp.1,List.pairwise_cons.2 ⟨hx,hp.2.1⟩,?_⟩
     intro a ha b hb
     rcases List.mem_cons.1 hb with rfl | hb
     ·rcases List.mem_append.1 ha with ha | ha
      ·have:=hA2.2.2 a ha y List.mem_cons_self
       omega
      ·simp at ha; omega
     ·exact hp.2.2 a ha b hb
theorem ybfz{len:Nat}(hlen:len≤1000):∀ (m i n:Nat) (S D:List Int),len - i=m→S.length=i→S.length + D.length=len→m < n→S.Pairwise (·≤ ·) →
    ∃ R,R.Pairwise (·≤ ·)∧R.Perm (S++D)∧zl 0 (len:Int) n (i:Int) (S++D) = some R:=by
  intro m
  induction m with
  | zero=>
    intro i n S D hm hS hSD hn hs
    obtain ⟨n,rfl⟩:∃ n',n=n' + 1:=⟨n - 1,by omega⟩
    have hD:D = []:=List.eq_nil_of_length_eq_zero (by omega)
    subst hD
    have:¬ ((i:Int) < (len:Int)):=by omega
    refine ⟨S,hs,by simp,?_⟩
    rw [zl,zap,decide_eq_false this,if_neg (by simp)]
    simp
  | succ m ih=>
    intro i n S D hm hS hSD hn hs
    obtain ⟨n,rfl⟩:∃ n',n=n' + 1:=⟨n - 1,by omega⟩
    match D,hSD with
    | [],hSD=>simp at hSD; omega
    | x :: D,hSD=>
      have hlt:((i:Int) < (len:Int)):=by omega
      obtain ⟨S2,h1,h2,h3⟩:=ybfy (rec1:=zl 0 (len:Int) n) (i:=(i:Int)) i S x [] D 1000000 hS (by omega) (by simp at hSD ⊢; omega) (by simpa using hs) (by simp)
      have hl2:S2.length=i + 1:=by have:=h2.length_eq; simp at this; omega
      obtain ⟨R,q1,q2,q3⟩:=ih (i + 1) n S2 D (by omega) hl2 (by simp at hSD; omega) (by omega) h1
      refine ⟨R,q1,q2.trans ?_,?_⟩
      ·have:=h2.append_right D
       simpa using this
      ·have e1:S++x :: D=S++x :: []++D:=by simp
       rw [zl,zap,decide_eq_true hlt,if_pos rfl,e1,h3,ycb (by omega)]
       exact q3
theorem ycpc{l:List Int}(hl:l.length≤12)(h0:0 < l.length):∃ R,R.Pairwise (·≤ ·)∧R.Perm l∧zhb l=some R:=by
  obtain ⟨x,D,rfl⟩:∃ x D,l=x :: D:=by
    cases l with
    | nil=>simp at h0
    | cons x D=>exact ⟨x,D,rfl⟩
  obtain ⟨R,h1,h2,h3⟩:=ybfz (len:=(x :: D).length) (by omega) _ 1 ((((x :: D).length:Int) - 1).toNat + 1) [x] D rfl rfl (by simp; omega) (by omega) (by simp)
  refine ⟨R,h1,h2,?_⟩
  have hins:zbl (x :: D) 0 ((x :: D).length:Int) = some R:=by
    unfold zbl
    have:IntKind.i64.wrap ((0:Int) + 1) = ((1:Nat):Int):=by rw [yas (by omega)]; rfl
    rw [this]
    exact h3
  have hlen:R.length=(x :: D).length:=h2.length_eq
  have hbits:∃ r,zmw (IntKind.u64.wrap (((x :: D).length:Nat):Int)) = some r:=by
    rw [ybtb (by omega) (by omega)]
    unfold zmw zno
    have a1:¬ (4294967296:Int)≤(((x :: D).length:Nat):Int):=by omega
    have a2:¬ (65536:Int)≤(((x :: D).length:Nat):Int):=by omega
    have a3:¬ (256:Int)≤(((x :: D).length:Nat):Int):=by omega
    have a4:IntKind.u8.wrap (((x :: D).length:Nat):Int) = (((x :: D).length:Nat):Int):=by
      simp only [IntKind.wrap,IntKind.signed,IntKind.bits]
      simp
      simp at hl
      omega
    rw [decide_eq_false a1,if_neg (by simp)]
    unfold zhi
    rw [decide_eq_false a2,if_neg (by simp)]
    unfold zhj
    rw [decide_eq_false a3,if_neg (by simp)]
    unfold zhk
    rw [a4]
    unfold nthS
    rw [if_pos (by omega)]
    have e1:(((x :: D).length:Nat):Int).toNat=(x :: D).length:=by omega
    rw [e1,List.getElem?_eq_getElem (by show (x :: D).length < 256; omega)]
    exact ⟨_,rfl⟩
  obtain ⟨b,hb⟩:=hbits
  unfold zhb
  rw [hb,yk]
  have hp:zfy (x :: D) 0 (((x :: D).length:Nat):Int) b=some R:=by
    show zai (x :: D) 0 (((x :: D).length:Nat):Int) b (999999 + 1) = some R
    rw [zai,zdk]
    have:IntKind.i64.wrap ((((x :: D).length:Nat):Int) - 0)≤12:=by rw [yas (by omega)]; omega
    rw [decide_eq_true this,if_pos rfl,hins,yk,decide_eq_true hlen,if_pos rfl]
  rw [hp,yk,decide_eq_true hlen,if_pos rfl]
def ygw(l:List Int)(c:Int):Nat:=l.countP (fun x=>decide (c≤x))
structure ynw (l:List Int) (c:Int):Prop where
  mem:c∈l
  maj:l.length < 2 * ygw l c
  top:∀ y∈l,l.length < 2 * ygw l y→y≤c
theorem ynw.uniq{l:List Int}{c d:Int}(h:ynw l c)(h':ynw l d):c=d:=by
  have:=h.top d h'.mem h'.maj
  have:=h'.top c h.mem h.maj
  omega
open Classical in
def yer(l:List Int):Int:=if h:∃ c,ynw l c then Classical.choose h else 0
theorem yasn{l:List Int}{c:Int}(h:ynw l c):yer l=c:=by
  unfold yer
  have hx:∃ c,ynw l c:=⟨c,h⟩
  rw [dif_pos hx]
  exact (Classical.choose_spec hx).uniq h
theorem yadh{p:Int→Bool}:∀ {l:List Int},(∀ x∈l,p x=true)→l.countP p=l.length
  | [],_=>rfl
  | x :: l,h=>by
    have h1:=h x List.mem_cons_self
    have h2:=yadh (l:=l) fun y hy=>h y (List.mem_cons_of_mem _ hy)
    simp [List.countP_cons,h1,h2]
theorem yaai{p:Int→Bool}:∀ {l:List Int},(∀ x∈l,p x=false)→l.countP p=0
  | [],_=>rfl
  | x :: l,h=>by
    have h1:=h x List.mem_cons_self
    have h2:=yaai (l:=l) fun y hy=>h y (List.mem_cons_of_mem _ hy)
    simp [List.countP_cons,h1,h2]
theorem yara{l R:List Int}(hs:R.Pairwise (·≤ ·))(hp:R.Perm l)(h0:0 < l.length):∃ c,R[l.length - (l.length / 2 + 1)]? = some c∧ynw l c:=by
  have hlen:=hp.length_eq
  have hk:l.length - (l.length / 2 + 1) < R.length:=by omega
  refine ⟨R[l.length - (l.length / 2 + 1)],List.getElem?_eq_getElem hk,?_⟩
  generalize hkk:l.length - (l.length / 2 + 1) = k at hk
  have hcnt:∀ c,ygw l c=ygw R c:=fun c=>(hp.countP_eq _).symm
  have hsplit:R=R.take k++R[k] :: R.drop (k + 1):=by rw [← List.drop_eq_getElem_cons hk,List.take_append_drop]
  have hmem:R[k]∈R:=List.getElem_mem hk
  generalize R[k] = a at hsplit hmem ⊢
  have hpw:=hs
  rw [hsplit] at hpw
  have hpa:=List.pairwise_append.1 hpw
  have hpc:=List.pairwise_cons.1 hpa.2.1
  refine ⟨hp.mem_iff.1 hmem,?_,?_⟩
  ·rw [hcnt]
   have:ygw R a≥l.length / 2 + 1:=by
     unfold ygw
     conv=>lhs; rw [hsplit]
     rw [List.countP_append]
     have h1:(a :: R.drop (k + 1)).countP (fun x=>decide (a≤x)) = (a :: R.drop (k + 1)).length:=yadh fun x hx=>by
       rcases List.mem_cons.1 hx with rfl | hx
       ·simp
       ·simpa using hpc.1 x hx
     have h2:(a :: R.drop (k + 1)).length=l.length / 2 + 1:=by simp; omega
     omega
   omega
  ·intro y hy hmaj
   rw [hcnt] at hmaj
   rcases Int.lt_or_le a y with hlt | hle
   ·exfalso
    have:ygw R y≤l.length / 2:=by
      unfold ygw
      conv=>lhs; rw [hsplit]
      rw [List.countP_append,List.countP_cons]
      have h1:(R.take k).countP (fun x=>decide (y≤x)) = 0:=yaai fun x hx=>by
        have:=hpa.2.2 x hx a List.mem_cons_self
        simp; omega
      have h2:¬ y≤a:=by omega
      have h3:(R.drop (k + 1)).countP (fun x=>decide (y≤x))≤(R.drop (k + 1)).length:=List.countP_le_length
      have h4:(R.drop (k + 1)).length=l.length / 2:=by simp; omega
      simp [h1,h2]
      omega
    omega
   ·exact hle
theorem yub{l:List Int}(hl:l.length≤12)(h0:0 < l.length):zen l=some (yer l)∧ynw l (yer l):=by
  obtain ⟨R,h1,h2,h3⟩:=ycpc hl h0
  obtain ⟨c,h4,h5⟩:=yara h1 h2 h0
  have hc:=yasn h5
  refine ⟨?_,by rw [hc]; exact h5⟩
  have hlen:=h2.length_eq
  unfold zen
  rw [ywd (by omega),yk,if_neg (by omega)]
  unfold zom
  have a1:¬ (((l.length / 2 + 1:Nat):Int) < 1):=by omega
  have a2:¬ ((l.length:Int) < ((l.length / 2 + 1:Nat):Int)):=by omega
  rw [decide_eq_false a1,if_neg (by simp),decide_eq_false a2]
  unfold zip
  have e1:IntKind.i64.wrap (((l.length:Nat):Int) - ((l.length / 2 + 1:Nat):Int)) = ((l.length - (l.length / 2 + 1):Nat):Int):=by rw [yas (by omega)]; omega
  rw [if_neg (by simp),if_pos (ybg (by omega)),h3,yk,decide_eq_true hlen,if_pos rfl,e1,ynq,h4,yk,yk,hc]
end Go.Proofs.YtgoachcogmlhcaaGreat.R
set_option maxRecDepth 100000
set_option linter.unusedVariables false
set_option linter.unusedSimpArgs false
noncomputable section
namespace Go.Proofs.YtgoachcogmlhcaaGreat.R
open Go
structure OkR (B:Int) (r:ye):Prop where
  id:1≤r.Id∧r.Id≤r.N
  n:r.N≤7
  term:0≤r.Term∧r.Term≤B
  vote:0≤r.yac∧r.yac≤7
  commit:0≤r.yl∧r.yl≤B
  clock:0≤r.yu∧r.yu≤B
  wait:0≤r.yae∧r.yae≤20
  log:OkG B r.yj
  snap:r.yy.length≤1000
  gl:r.ym.length≤7
  nl:r.Next.length≤7
  ml:r.yr.length≤7
  ga:r.yv=1∨r.yv=2→(r.ym.length:Int) = r.N
  na:r.yv=3→(r.Next.length:Int) = r.N
  ma:r.yv=3→(r.yr.length:Int) = r.N
  nb:∀ x∈r.Next,1≤x∧x≤B + 1
  mb:∀ x∈r.yr,0≤x∧x≤B
def yfe(id:Int):Nat→Int→List Int
  | 0,_=>[]
  | k + 1,to=>if to≠id then to :: yfe id k (to + 1) else yfe id k (to + 1)
def ydr(r:ye):List Int:=yfe r.Id r.N.toNat 1
def yeb(r:ye)(to:Int):Int:=(r.Next[(to - 1).toNat]?).getD 0
def ydm(r:ye)(to:Int):yg:=
  if yeb r to≤r.yj.yn then ⟨7,0,r.Id,to,r.Term,r.yj.yn,r.yj.yi,r.yl,false,[],r.yy⟩
  else ⟨5,0,r.Id,to,r.Term,yeb r to - 1,(ycm r.yj (yeb r to - 1)).getD 0,r.yl,false,ypj r.yj (yeb r to),[]⟩
def yaj(r:ye)(term lead:Int):ye:=
  ⟨r.Id,r.N,if r.Term < term then term else r.Term,if r.Term < term then 0 else r.yac,0,lead,r.yj,r.yl,r.yy,[],[],[],r.yu,r.yae⟩
def ycc(r:ye):ye:=
  if ycm r.yj (yer r.yr) = some r.Term∧r.yl < yer r.yr then { r with yl:=yer r.yr } else r
def yeo(r:ye)(data:List Int):ye:=
  { r with yj:=⟨r.yj.yn,r.yj.yi,r.yj.Entries++[⟨r.Term,data⟩]⟩,yr:=ybi r.yr (r.Id - 1) (yaz r.yj + 1) }
def ydc(r:ye)(data:List Int):ye × List yg:=(ycc (yeo r data),(ydr r).map (ydm (ycc (yeo r data))))
def yus(r:ye):ye:=
  { yaj r r.Term r.Id with yv:=3,yu:=0,Next:=List.replicate r.N.toNat (yaz r.yj + 1),yr:=List.replicate r.N.toNat 0 }
def yki(r:ye):ye × List yg:=ydc (yus r) []
def ygq(r:ye):List Bool:=ybi (List.replicate r.N.toNat false) (r.Id - 1) true
def yin(r:ye):ye:={ yaj r (r.Term + 1) 0 with yac:=r.Id,yv:=2,yu:=0,ym:=ygq r }
def yvz(r:ye)(to:Int):yg:=⟨3,0,r.Id,to,r.Term,yaz r.yj,ydh r.yj,0,false,[],[]⟩
def yht(r:ye):ye × List yg:=if yhg (ygq r) = true then yki (yin r) else (yin r,(ydr r).map (yvz (yin r)))
def yms(draw:Int):Int:=10 + (IntKind.u64.wrap draw) % 10
def ymx(r:ye)(draw:Int):ye:={ yaj r r.Term 0 with yv:=1,yu:=0,yae:=yms draw,ym:=ygq r }
def askM(r:ye)(to:Int):yg:=⟨1,0,r.Id,to,r.Term + 1,yaz r.yj,ydh r.yj,0,false,[],[]⟩
def yow(r:ye)(draw:Int):ye × List yg:=if yhg (ygq r) = true then yht (ymx r draw) else (ymx r draw,(ydr r).map (askM (ymx r draw)))
theorem ybtm{F:Nat→Int→yd→Option yd}{step:Int→yd→Option yd}{g:Int→yg}{r:ye}
    (hF:∀ n to m,F (n + 1) to m=if decide (to≤m.ya.N) = true then (if decide (to≠m.ya.Id) = true then bnd (step to m) (fun q=>F n (IntKind.i64.wrap (to + 1)) q) else F n (IntKind.i64.wrap (to + 1)) m) else some m)
    (hN:r.N≤7) (hs:∀ to out,1≤to→to≤r.N→to≠r.Id→out.length≤100→step to ⟨r,out⟩ = some ⟨r,out++[g to]⟩) :
    ∀ (k n:Nat) (to:Int) (out:List yg),1≤to→to≤9→(r.N - to + 1).toNat=k→k < n→out.length≤50 - k→F n to ⟨r,out⟩ = some ⟨r,out++(yfe r.Id k to).map g⟩:=by
  intro k
  induction k with
  | zero=>
    intro n to out h1 h9 hk hn ho
    obtain ⟨n,rfl⟩:∃ n',n=n' + 1:=⟨n - 1,by omega⟩
    have:¬ to≤r.N:=by omega
    rw [hF,decide_eq_false this,if_neg (by simp)]
    simp [yfe]
  | succ k ih=>
    intro n to out h1 h9 hk hn ho
    obtain ⟨n,rfl⟩:∃ n',n=n' + 1:=⟨n - 1,by omega⟩
    have hle:to≤r.N:=by omega
    rw [hF,decide_eq_true hle,if_pos rfl,yas (by omega)]
    by_cases hid:to=r.Id
    ·have:¬ (to≠r.Id):=fun h=>h hid
     simp only [this,decide_false,Bool.false_eq_true,if_false]
     rw [ih n (to + 1) out (by omega) (by omega) (by omega) (by omega) (by omega)]
     simp [yfe,hid]
    ·simp only [ne_eq,hid,not_false_eq_true,decide_true,if_true]
     rw [hs to out h1 hle hid (by omega),yk,ih n (to + 1) _ (by omega) (by omega) (by omega) (by omega) (by simp; omega)]
     simp [yfe,hid]
theorem yon{F:Nat→Int→yd→Option yd}{step:Int→yd→Option yd}{g:Int→yg}{r:ye}
    (hF:∀ n to m,F (n + 1) to m=if decide (to≤m.ya.N) = true then (if decide (to≠m.ya.Id) = true then bnd (step to m) (fun q=>F n (IntKind.i64.wrap (to + 1)) q) else F n (IntKind.i64.wrap (to + 1)) m) else some m)
    (hN0:0≤r.N) (hN:r.N≤7) (hs:∀ to out,1≤to→to≤r.N→to≠r.Id→out.length≤100→step to ⟨r,out⟩ = some ⟨r,out++[g to]⟩) (out:List yg) (ho:out.length≤40) :
    F 1000000 1 ⟨r,out⟩ = some ⟨r,out++(ydr r).map g⟩:=by
  have:=ybtm hF hN hs (r.N - 1 + 1).toNat 1000000 1 out (by omega) (by omega) rfl (by omega) (by omega)
  rw [this]
  have e:(r.N - 1 + 1).toNat=r.N.toNat:=by omega
  rw [e]
  rfl
theorem yaxb{to:Int}{x:yg}{m:yd}(h:m.f_out.length≤100000):zcy to x m=some ⟨m.ya,m.f_out++[⟨x.yar,x.yct,m.ya.Id,to,x.Term,x.At,x.ybd,x.yl,x.Ok,x.Entries,x.ybq⟩]⟩:=by
  unfold zcy
  rw [if_pos (ybg (by omega))]
theorem yark{to:Int}{x:yg}{m:yd}(h:m.f_out.length≤100000):zef to x m=some ⟨m.ya,m.f_out++[⟨x.yar,x.yct,m.ya.Id,to,x.Term,x.At,x.ybd,x.yl,x.Ok,[],[]⟩]⟩:=by
  unfold zef
  rw [if_pos (ybg (by omega))]
theorem yvs{to:Int}{x:yg}{m:yd}(h:m.f_out.length≤100000):zcu to x m=some ⟨m.ya,m.f_out++[⟨x.yar,x.yct,m.ya.Id,to,x.Term,x.At,x.ybd,x.yl,x.Ok,[],[]⟩]⟩:=by
  unfold zcu
  rw [if_pos (ybg (by omega))]
theorem yvt{to:Int}{x:yg}{m:yd}(h:m.f_out.length≤100000):zeg to x m=some ⟨m.ya,m.f_out++[⟨x.yar,x.yct,m.ya.Id,to,x.Term,x.At,x.ybd,x.yl,x.Ok,[],[]⟩]⟩:=by
  unfold zeg
  rw [if_pos (ybg (by omega))]
structure OkT (B:Int) (r:ye):Prop where
  n:r.N≤7
  n0:0≤r.N
  log:OkG B r.yj
  snap:r.yy.length≤1000
  na:(r.Next.length:Int) = r.N
  nb:∀ x∈r.Next,1≤x∧x≤B + 1
section
variable {B:Int} {r:ye}
theorem ynp(h:OkT B r){to:Int}(h1:1≤to)(h2:to≤r.N):ybu r.Next (to - 1) = some (yeb r to)∧1≤yeb r to∧yeb r to≤B + 1:=by
  have hlt:(to - 1).toNat < r.Next.length:=by have:=h.na; omega
  unfold yeb
  rw [yfb (by omega),List.getElem?_eq_getElem hlt]
  exact ⟨rfl,h.nb _ (List.getElem_mem hlt)⟩
theorem yart{S:Int→yg→yd→Option yd}{T:Int→yd→Option yd}
    (hT:∀ to m,T to m=bnd (ybu m.ya.Next (IntKind.i64.wrap (to - (1:Int)))) fun e=>
      if (decide (e≤m.ya.yj.yn)) = true then
       if (yco (m.ya.yy).length) = true then bnd (S to (yg.mk (7:Int) (0:Int) (0:Int) (0:Int) m.ya.Term m.ya.yj.yn m.ya.yj.yi m.ya.yl false [] m.ya.yy) m) fun r0_2=>some r0_2 else none
      else
        bnd (zbv m.ya.yj (IntKind.i64.wrap (e - (1:Int)))) fun r0=>bnd (znl m.ya.yj e (8:Int)) fun r0_1=>
        bnd (S to (yg.mk (5:Int) (0:Int) (0:Int) (0:Int) m.ya.Term (IntKind.i64.wrap (e - (1:Int))) r0.1 m.ya.yl false r0_1 []) m) fun r0_2=>some r0_2)
    (hS:∀ to x (m:yd),m.f_out.length≤100000→S to x m=some ⟨m.ya,m.f_out++[⟨x.yar,x.yct,m.ya.Id,to,x.Term,x.At,x.ybd,x.yl,x.Ok,x.Entries,x.ybq⟩]⟩)
    (h:OkT B r) (hB:B≤1000000) {to:Int} (h1:1≤to) (h2:to≤r.N) {out:List yg} (ho:out.length≤100):T to ⟨r,out⟩ = some ⟨r,out++[ydm r to]⟩:=by
  obtain ⟨e1,e2,e3⟩:=ynp h h1 h2
  have hn:=h.n
  rw [hT]
  simp only
  rw [yas (by omega),e1,yk]
  unfold ydm
  by_cases hb:yeb r to≤r.yj.yn
  ·rw [decide_eq_true hb,if_pos rfl,if_pos hb,if_pos (ybg (by have:=h.snap; omega)),hS _ _ _ (by simp only; omega),yk]
  ·rw [decide_eq_false hb,if_neg (by simp),if_neg hb,yas (by omega),yhy h.log hB (by omega),yk,ybqu h.log hB (by omega),yk,hS _ _ _ (by simp only; omega),yk]
theorem yack(h:OkT B r)(hB:B≤1000000){to:Int}(h1:1≤to)(h2:to≤r.N){out:List yg}(ho:out.length≤100):zbc to ⟨r,out⟩ = some ⟨r,out++[ydm r to]⟩:=
  yart (S:=zcy) (fun _ _=>rfl) (fun _ _ _ h=>yaxb h) h hB h1 h2 ho
theorem yaxo(h:OkT B r)(hB:B≤1000000){to:Int}(h1:1≤to)(h2:to≤r.N){out:List yg}(ho:out.length≤100):zgo to ⟨r,out⟩ = some ⟨r,out++[ydm r to]⟩:=
  yart (S:=zcy) (fun _ _=>rfl) (fun _ _ _ h=>yaxb h) h hB h1 h2 ho
theorem ycqa(h:OkT B r)(hB:B≤1000000){out:List yg}(ho:out.length≤40):zkh ⟨r,out⟩ = some ⟨r,out++(ydr r).map (ydm r)⟩:=
  yon (F:=fun n to m=>zfe n to m.ya.Id m.ya.N m.ya.Term m.ya.yac m.ya.yv m.ya.yaf m.ya.yj.yn m.ya.yj.yi m.ya.yj.Entries m.ya.yl m.ya.yu m.ya.yae m.ya.yy m.ya.ym m.ya.Next m.ya.yr m.f_out) (step:=zbc) (fun _ _ _=>rfl) h.n0 h.n (fun _ _ h1 h2 _ ho=>yack h hB h1 h2 ho) out ho
theorem ycdu(h:OkT B r)(hB:B≤1000000){out:List yg}(ho:out.length≤40):zhl ⟨r,out⟩ = some ⟨r,out++(ydr r).map (ydm r)⟩:=
  yon (F:=fun n to m=>zda n to m.ya.Id m.ya.N m.ya.Term m.ya.yac m.ya.yv m.ya.yaf m.ya.yj.yn m.ya.yj.yi m.ya.yj.Entries m.ya.yl m.ya.yu m.ya.yae m.ya.yy m.ya.ym m.ya.Next m.ya.yr m.f_out) (step:=zbc) (fun _ _ _=>rfl) h.n0 h.n (fun _ _ h1 h2 _ ho=>yack h hB h1 h2 ho) out ho
theorem ycdx(h:OkT B r)(hB:B≤1000000){out:List yg}(ho:out.length≤40):zhn ⟨r,out⟩ = some ⟨r,out++(ydr r).map (ydm r)⟩:=
  yon (F:=fun n to m=>zdd n to m.ya.Id m.ya.N m.ya.Term m.ya.yac m.ya.yv m.ya.yaf m.ya.yj.yn m.ya.yj.yi m.ya.yj.Entries m.ya.yl m.ya.yu m.ya.yae m.ya.yy m.ya.ym m.ya.Next m.ya.yr m.f_out) (step:=zbc) (fun _ _ _=>rfl) h.n0 h.n (fun _ _ h1 h2 _ ho=>yack h hB h1 h2 ho) out ho
theorem ybsz(hl:OkG B r.yj)(hB:B≤1000000){to:Int}{out:List yg}(ho:out.length≤100):zei to ⟨r,out⟩ = some ⟨r,out++[yvz r to]⟩:=by
  unfold zei
  simp only
  rw [yfu hl hB,yk,yjc hl hB,yk,yark (by simp only; omega),yk]
  rfl
theorem ycdy(hl:OkG B r.yj)(hB:B≤1000000)(ht:0≤r.Term∧r.Term≤1000000){to:Int}{out:List yg}(ho:out.length≤100):zfz to ⟨r,out⟩ = some ⟨r,out++[askM r to]⟩:=by
  unfold zfz
  simp only
  rw [yfu hl hB,yk,yjc hl hB,yk,yas (by omega),yark (by simp only; omega),yk]
  rfl
theorem ycdv(hn0:0≤r.N)(hn:r.N≤7)(hl:OkG B r.yj)(hB:B≤1000000){out:List yg}(ho:out.length≤40):zhm ⟨r,out⟩ = some ⟨r,out++(ydr r).map (yvz r)⟩:=
  yon (F:=fun n to m=>zdb n to m.ya.Id m.ya.N m.ya.Term m.ya.yac m.ya.yv m.ya.yaf m.ya.yj.yn m.ya.yj.yi m.ya.yl m.ya.yu m.ya.yae m.ya.yj.Entries m.ya.yy m.ya.ym m.ya.Next m.ya.yr m.f_out) (step:=zei) (fun _ _ _=>rfl) hn0 hn (fun _ _ _ _ _ ho=>ybsz hl hB ho) out ho
theorem ycdw(hn0:0≤r.N)(hn:r.N≤7)(hl:OkG B r.yj)(hB:B≤1000000)(ht:0≤r.Term∧r.Term≤1000000){out:List yg}(ho:out.length≤40):zkv ⟨r,out⟩ = some ⟨r,out++(ydr r).map (askM r)⟩:=
  yon (F:=fun n to m=>zdc n to m.ya.Id m.ya.N m.ya.Term m.ya.yac m.ya.yv m.ya.yaf m.ya.yj.yn m.ya.yj.yi m.ya.yl m.ya.yu m.ya.yae m.ya.yj.Entries m.ya.yy m.ya.ym m.ya.Next m.ya.yr m.f_out) (step:=zfz) (fun _ _ _=>rfl) hn0 hn (fun _ _ _ _ _ ho=>ycdy hl hB ht ho) out ho
end
end Go.Proofs.YtgoachcogmlhcaaGreat.R
set_option maxRecDepth 100000
set_option linter.unusedVariables false
set_option linter.unusedSimpArgs false
noncomputable section
namespace Go.Proofs.YtgoachcogmlhcaaGreat.R
open Go
section
variable {B:Int} {r:ye} {out:List yg}
theorem OkE.mono{e:yc}{B':Int}(h:OkE B e)(hb:B≤B'):OkE B' e:=⟨⟨h.t.1,by have:=h.t.2; omega⟩,h.d⟩
theorem OkG.mono{l:yz}{B':Int}(h:OkG B l)(hb:B≤B'):OkG B' l:=
  ⟨h.b,⟨h.bt.1,by have:=h.bt.2; omega⟩,by have:=h.last; omega,fun x hx=>(h.e x hx).mono hb⟩
theorem OkR.mono{B':Int}(h:OkR B r)(hb:B≤B'):OkR B' r:=
  ⟨h.id,h.n,⟨h.term.1,by have:=h.term.2; omega⟩,h.vote,⟨h.commit.1,by have:=h.commit.2; omega⟩,⟨h.clock.1,by have:=h.clock.2; omega⟩,h.wait,h.log.mono hb,h.snap,h.gl,h.nl,h.ml,h.ga,h.na,h.ma,
    fun x hx=>by have:=h.nb x hx; omega,fun x hx=>by have:=h.mb x hx; omega⟩
theorem OkR.tell(h:OkR B r)(h3:r.yv=3):OkT B r:=⟨h.n,by have:=h.id; omega,h.log,h.snap,h.na h3,h.nb⟩
theorem yry(t l:Int):zat t l ⟨r,out⟩ = some ⟨yaj r t l,out⟩:=by
  unfold zat zfm yaj
  by_cases h:r.Term < t
  ·simp [h]
  ·simp [h]
theorem yadq(t l:Int):zdf t l ⟨r,out⟩ = some ⟨yaj r t l,out⟩:=yry t l
theorem yda{α:Type}(l:List α)(i:Int)(x:α):(ybi l i x).length=l.length:=by simp [ybi]
theorem yabk{who:Int}(h1:1≤who)(h2:who≤(r.ym.length:Int))(h3:r.ym.length≤7):zbt who ⟨r,out⟩ = some (yhg (ybi r.ym (who - 1) true),⟨{ r with ym:=ybi r.ym (who - 1) true },out⟩):=by
  unfold zbt
  have hlt:(who - 1).toNat < r.ym.length:=by omega
  simp only
  rw [yas (by omega),yfb (by omega),List.getElem?_eq_getElem hlt,yk,ybfc (by rw [yda]; omega),yk]
theorem yaiq{who:Int}(h1:1≤who)(h2:who≤(r.ym.length:Int))(h3:r.ym.length≤7):zco who ⟨r,out⟩ = some (yhg (ybi r.ym (who - 1) true),⟨{ r with ym:=ybi r.ym (who - 1) true },out⟩):=yabk h1 h2 h3
theorem yafq(h:OkR B r)(h3:r.yv=3):zen r.yr=some (yer r.yr)∧ynw r.yr (yer r.yr)∧0≤yer r.yr∧yer r.yr≤B:=by
  have hm:=h.ma h3; have hid:=h.id; have hml:=h.ml
  obtain ⟨h1,h2⟩:=yub (l:=r.yr) (by omega) (by omega)
  exact ⟨h1,h2,h.mb _ h2.mem⟩
theorem ywn(h:OkR B r)(hB:B≤1000000)(h3:r.yv=3):zfg ⟨r,out⟩ = some ⟨ycc r,out⟩:=by
  obtain ⟨h1,h2,h4⟩:=yafq h h3
  unfold zfg ycc zde
  simp only
  rw [h1,yk,yhy h.log hB (by omega),yk]
  cases ht:ycm r.yj (yer r.yr) with
  | none=>simp
  | some t=>
    by_cases hc:r.yl < yer r.yr
    ·by_cases he:t=r.Term
     ·simp [hc,he]
     ·simp [hc,he]
    ·simp [hc]
theorem yayi(h:OkR B r)(hB:B≤1000000)(h3:r.yv=3):zfk ⟨r,out⟩ = some ⟨ycc r,out⟩:=ywn h hB h3
theorem yayj(h:OkR B r)(hB:B≤1000000)(h3:r.yv=3):zfl ⟨r,out⟩ = some ⟨ycc r,out⟩:=ywn h hB h3
theorem yvu{α:Type}{l:List α}{i:Int}{x y:α}(h:y∈ybi l i x):y=x∨y∈l:=by
  unfold ybi at h
  rcases List.mem_or_eq_of_mem_set h with h | h
  ·exact .inr h
  ·exact .inl h
theorem yoq(h:OkR B r)(h3:r.yv=3){data:List Int}(hd:data.length≤1000):OkR (B + 1) (yeo r data):=by
  have hl:=h.log.last; have hb:=h.log.b; have ht:=h.term
  have hm:=h.mono (B':=B + 1) (by omega)
  refine { hm with log:=⟨h.log.b,⟨h.log.bt.1,by have:=h.log.bt.2; show r.yj.yi≤_; omega⟩,?_,?_⟩,ml:=?_,ma:=?_,mb:=?_ }
  ·show r.yj.yn + ((r.yj.Entries++[_]).length:Int)≤_
   simp
   omega
  ·intro x hx
   have hx:x∈r.yj.Entries++[⟨r.Term,data⟩]:=hx
   rcases List.mem_append.1 hx with hx | hx
   ·exact (h.log.e x hx).mono (by omega)
   ·simp at hx
    subst hx
    exact ⟨⟨ht.1,by show r.Term≤_; omega⟩,hd⟩
  ·show (ybi r.yr _ _).length≤7
   rw [yda]; exact h.ml
  ·intro h4
   show ((ybi r.yr _ _).length:Int) = r.N
   rw [yda]; exact h.ma h3
  ·intro x hx
   rcases yvu hx with rfl | hx
   ·unfold yaz; omega
   ·have:=h.mb x hx; omega
theorem yor(h:OkR B r)(h3:r.yv=3):OkR B (ycc r):=by
  obtain ⟨_,_,h1,h2⟩:=yafq h h3
  unfold ycc
  split
  ·exact { h with commit:=⟨h1,h2⟩ }
  ·exact h
theorem yih:(ycc r).yv=r.yv:=by unfold ycc; split <;> rfl
theorem ypg:(ycc r).Id=r.Id:=by unfold ycc; split <;> rfl
theorem yll:(ycc r).N=r.N:=by unfold ycc; split <;> rfl
theorem ysy(data:List Int):ydr (ycc (yeo r data)) = ydr r:=by
  unfold ydr
  rw [ypg,yll]
  rfl
theorem yacy{A:yd→Option yd}{C L:yd→Option yd}{data:List Int}
    (hA:∀ m,A m=bnd (zkd m.ya.yj (yc.mk m.ya.Term data)) fun r0=>bnd (zam r0) fun r0_1=>bnd (ybu m.ya.yr (IntKind.i64.wrap (m.ya.Id - (1:Int)))) fun e=>
      bnd (C (yd.mk (ye.mk m.ya.Id m.ya.N m.ya.Term m.ya.yac m.ya.yv m.ya.yaf r0 m.ya.yl m.ya.yy m.ya.ym m.ya.Next (ybi m.ya.yr (IntKind.i64.wrap (m.ya.Id - (1:Int))) r0_1) m.ya.yu m.ya.yae) m.f_out)) fun r0_2=>bnd (L r0_2) fun r0_3=>some r0_3)
    (hC:∀ {r:ye} {out:List yg},OkR (B + 1) r→r.yv=3→C ⟨r,out⟩ = some ⟨ycc r,out⟩)
    (hL:∀ {r:ye} {out:List yg},OkT (B + 1) r→out.length≤40→L ⟨r,out⟩ = some ⟨r,out++(ydr r).map (ydm r)⟩)
    (h:OkR B r) (hB:B + 1≤1000000) (h3:r.yv=3) (hd:data.length≤1000) (ho:out.length≤40):A ⟨r,out⟩ = some ⟨(ydc r data).1,out++(ydc r data).2⟩:=by
  have hb:=yoq h h3 hd
  have hid:=h.id; have hm:=h.ma h3; have hn:=h.n
  have hlt:(r.Id - 1).toNat < r.yr.length:=by omega
  have hlast:yaz ⟨r.yj.yn,r.yj.yi,r.yj.Entries++[⟨r.Term,data⟩]⟩ = yaz r.yj + 1:=by
    unfold yaz
    simp
    omega
  rw [hA]
  simp only
  have hlog:OkG (B + 1) ⟨r.yj.yn,r.yj.yi,r.yj.Entries++[⟨r.Term,data⟩]⟩:=hb.log
  rw [yash h.log (by omega) hd,yk,yfu hlog hB,yk,yas (by omega),yfb (by omega),List.getElem?_eq_getElem hlt,yk,hlast]
  have hc:=hC (r:=yeo r data) (out:=out) hb h3
  have hc':C ⟨⟨r.Id,r.N,r.Term,r.yac,r.yv,r.yaf,⟨r.yj.yn,r.yj.yi,r.yj.Entries++[⟨r.Term,data⟩]⟩,r.yl,r.yy,r.ym,r.Next,ybi r.yr (r.Id - 1) (yaz r.yj + 1),r.yu,r.yae⟩,out⟩ = some ⟨ycc (yeo r data),out⟩:=hc
  rw [hc',yk,hL ((yor hb h3).tell (by rw [yih]; exact h3)) ho,yk,ysy]
  rfl
theorem ybgn(h:OkR B r)(hB:B + 1≤1000000)(h3:r.yv=3)(ho:out.length≤40):zff ⟨r,out⟩ = some ⟨(ydc r []).1,out++(ydc r []).2⟩:=
  yacy (C:=zfg) (L:=zhl) (fun _=>rfl) (fun h=>ywn h hB) (fun h ho=>ycdu h hB ho) h hB h3 (by simp) ho
theorem yaya(h:OkR B r)(hB:B + 1≤1000000)(h3:r.yv=3){data:List Int}(hd:data.length≤1000)(ho:out.length≤40):zim data ⟨r,out⟩ = some ⟨(ydc r data).1,out++(ydc r data).2⟩:=
  yacy (C:=zfk) (L:=zhn) (fun _=>rfl) (fun h=>yayi h hB) (fun h ho=>ycdx h hB ho) h hB h3 hd ho
theorem yjs(h:OkR B r){t l:Int}(ht:t≤B):OkR B (yaj r t l):=by
  have h1:=h.term
  refine { h with term:=?_,vote:=?_,gl:=by simp [yaj],nl:=by simp [yaj],ml:=by simp [yaj],ga:=?_,na:=?_,ma:=?_,nb:=by simp [yaj],mb:=by simp [yaj] }
  ·show 0≤(if r.Term < t then t else r.Term)∧(if r.Term < t then t else r.Term)≤B
   split <;> omega
  ·show 0≤(if r.Term < t then 0 else r.yac)∧(if r.Term < t then 0 else r.yac)≤7
   have:=h.vote
   split <;> omega
  ·intro h; simp [yaj] at h
  ·intro h; simp [yaj] at h
  ·intro h; simp [yaj] at h
theorem yabo(h:OkR B r)(hB0:0≤B):OkR B (yus r):=by
  have hid:=h.id; have hn:=h.n
  have hl:=h.log.last; have hb:=h.log.b
  have hf:=yjs h (t:=r.Term) (l:=r.Id) h.term.2
  refine { hf with clock:=⟨Int.le_refl _,hB0⟩,nl:=?_,ml:=?_,ga:=?_,na:=?_,ma:=?_,nb:=?_,mb:=?_ }
  ·show (List.replicate _ _).length≤7; simp; omega
  ·show (List.replicate _ _).length≤7; simp; omega
  ·intro h; simp [yus] at h
  ·intro _; show ((List.replicate _ _).length:Int) = r.N; simp; omega
  ·intro _; show ((List.replicate _ _).length:Int) = r.N; simp; omega
  ·intro x hx
   have hx:x∈List.replicate r.N.toNat (yaz r.yj + 1):=hx
   have:=(List.mem_replicate.1 hx).2
   subst this
   unfold yaz
   omega
  ·intro x hx
   have hx:x∈List.replicate r.N.toNat (0:Int):=hx
   have:=(List.mem_replicate.1 hx).2
   subst this
   omega
theorem ycng{α:Type}(a b:α)(k m:Nat):(List.replicate k a++List.replicate (m + 1) b).set k a=List.replicate (k + 1) a++List.replicate m b:=by
  have h1:List.replicate k a++List.replicate (m + 1) b=List.replicate k a++b :: List.replicate m b:=rfl
  have h2:(List.replicate k a++b :: List.replicate m b).set (List.replicate k a).length a=List.replicate k a++a :: List.replicate m b:=by simp
  rw [h1]
  rw [List.length_replicate] at h2
  rw [h2,List.replicate_succ']
  simp
theorem ybqi{q:ye}(hq:OkG B q.yj)(hB:B + 1≤1000000)(hn:0≤q.N∧q.N≤7):∀ (m k n:Nat),q.N.toNat - k=m→k≤q.N.toNat→m < n →
    zu ⟨q,out⟩ n (k:Int) (List.replicate k (yaz q.yj + 1)++List.replicate (q.N.toNat - k) 0) = zed ⟨q,out⟩ (List.replicate q.N.toNat (yaz q.yj + 1)):=by
  intro m
  induction m with
  | zero=>
    intro k n hm hk hn2
    obtain ⟨n,rfl⟩:∃ n',n=n' + 1:=⟨n - 1,by omega⟩
    have hk':¬ ((k:Int) < ((q.N.toNat:Nat):Int)):=by omega
    have e:k=q.N.toNat:=by omega
    rw [zu,zdg]
    simp only
    rw [decide_eq_false hk',if_neg (by simp),e]
    simp
  | succ m ih=>
    intro k n hm hk hn2
    obtain ⟨n,rfl⟩:∃ n',n=n' + 1:=⟨n - 1,by omega⟩
    have hk':((k:Int) < ((q.N.toNat:Nat):Int)):=by omega
    have hr:=yty hq (by omega)
    obtain ⟨d,hd⟩:∃ d,q.N.toNat - k=d + 1:=⟨q.N.toNat - k - 1,by omega⟩
    have hlt:k < (List.replicate k (yaz q.yj + 1)++List.replicate (d + 1) (0:Int)).length:=by simp
    rw [zu,zdg]
    simp only
    rw [decide_eq_true hk',if_pos rfl,yfu hq (by omega),yk,hd,ydq hlt,yk,ycb (by omega),yas (n:=yaz q.yj + 1) (by omega)]
    have hs:ybi (List.replicate k (yaz q.yj + 1)++List.replicate (d + 1) (0:Int)) (k:Int) (yaz q.yj + 1) = List.replicate (k + 1) (yaz q.yj + 1)++List.replicate (q.N.toNat - (k + 1)) 0:=by
      unfold ybi
      have e1:((k:Int)).toNat=k:=by omega
      have e2:q.N.toNat - (k + 1) = d:=by omega
      rw [e1,e2,ycng]
    rw [hs]
    exact ih (k + 1) n (by omega) (by omega) (by omega)
theorem yafa{n:Int}(h:0≤n∧n≤7):mkB n=true:=by
  unfold mkB
  have h1:n≤((yks:Nat):Int):=by unfold yks; omega
  rw [decide_eq_true h.1,decide_eq_true h1]
  rfl
theorem ybqh(h:OkR B r)(hB0:0≤B)(hB:B + 1≤1000000)(ho:out.length≤40):(if (mkB (yaj r r.Term r.Id).N) = true then zu ⟨yaj r r.Term r.Id,out⟩ ((((((yaj r r.Term r.Id).N.toNat:Nat):Int)) - ((0:Int))).toNat + 1) (0:Int) (List.replicate (yaj r r.Term r.Id).N.toNat (0:Int)) else none) = some ⟨(yki r).1,out++(yki r).2⟩:=by
  have hid:=h.id; have hn:=h.n
  have hN:(yaj r r.Term r.Id).N=r.N:=rfl
  rw [hN,if_pos (yafa (by omega))]
  have hlp:=ybqi (q:=yaj r r.Term r.Id) (out:=out) h.log hB (by rw [hN]; omega) _ 0 ((((r.N.toNat:Nat):Int) - 0).toNat + 1) rfl (Nat.zero_le _) (by rw [hN]; omega)
  simp only [List.replicate_zero,List.nil_append,Nat.sub_zero,hN] at hlp
  have hlp':zu ⟨yaj r r.Term r.Id,out⟩ ((((r.N.toNat:Nat):Int) - 0).toNat + 1) 0 (List.replicate r.N.toNat 0) = zed ⟨yaj r r.Term r.Id,out⟩ (List.replicate r.N.toNat (yaz (yaj r r.Term r.Id).yj + 1)):=hlp
  rw [hlp']
  unfold zed
  have ha:=ybgn (out:=out) (yabo h hB0) hB rfl ho
  have ha':zff ⟨⟨(yaj r r.Term r.Id).Id,(yaj r r.Term r.Id).N,(yaj r r.Term r.Id).Term,(yaj r r.Term r.Id).yac,3,(yaj r r.Term r.Id).yaf,(yaj r r.Term r.Id).yj,(yaj r r.Term r.Id).yl,(yaj r r.Term r.Id).yy,(yaj r r.Term r.Id).ym,List.replicate r.N.toNat (yaz (yaj r r.Term r.Id).yj + 1),List.replicate (yaj r r.Term r.Id).N.toNat 0,0,(yaj r r.Term r.Id).yae⟩,out⟩ = some ⟨(ydc (yus r) []).1,out++(ydc (yus r) []).2⟩:=ha
  simp only
  rw [ha',yk]
  rfl
theorem yawn(h:OkR B r)(hB0:0≤B)(hB:B + 1≤1000000)(ho:out.length≤40):zcx ⟨r,out⟩ = some ⟨(yki r).1,out++(yki r).2⟩:=by
  unfold zcx
  rw [yadq,yk]
  exact ybqh h hB0 hB ho
theorem ybqg:zee=zcx:=by
  have hl:∀ (q:yd) n v m,zba q n v m=zu q n v m:=by
    intro q n
    induction n with
    | zero=>intro v m; rfl
    | succ n ih=>
      intro v m
      rw [zba,zu,zgh,zdg]
      have:zba q n=zu q n:=by funext v m; exact ih v m
      rw [this]
      rfl
  funext m
  unfold zee zcx
  have:zat=zdf:=rfl
  rw [this]
  congr 1
  funext q
  rw [hl]
theorem yxw(h:OkR B r)(hB0:0≤B):OkR (B + 1) (yin r):=by
  have hid:=h.id; have hn:=h.n; have ht:=h.term
  have hf:=yjs (h.mono (B':=B + 1) (by omega)) (t:=r.Term + 1) (l:=0) (by omega)
  refine { hf with clock:=⟨Int.le_refl _,by show (0:Int)≤_; omega⟩,vote:=?_,gl:=?_,ga:=?_,na:=?_,ma:=?_ }
  ·show 0≤r.Id∧r.Id≤7; omega
  ·show (ygq r).length≤7; unfold ygq; rw [yda]; simp; omega
  ·intro _; show ((ygq r).length:Int) = r.N; unfold ygq; rw [yda]; simp; omega
  ·intro h; simp [yin] at h
  ·intro h; simp [yin] at h
theorem yarq(h:OkR B r)(hB0:0≤B)(hB:B + 2≤1000000)(ho:out.length≤40):zgb ⟨r,out⟩ = some ⟨(yht r).1,out++(yht r).2⟩:=by
  have hid:=h.id; have hn:=h.n; have ht:=h.term
  have hq:=yxw h hB0
  unfold zgb
  have hw:IntKind.i64.wrap (r.Term + 1) = r.Term + 1:=yas (by omega)
  simp only
  rw [hw,yadq,yk]
  have hN:(yaj r (r.Term + 1) 0).N=r.N:=rfl
  simp only
  rw [hN,if_pos (yafa (by omega))]
  have hg:=yabk (r:={ yaj r (r.Term + 1) 0 with yac:=r.Id,yv:=2,yu:=0,ym:=List.replicate r.N.toNat false }) (who:=r.Id) (out:=out) (by omega) (by simp; omega) (by simp; omega)
  have hg':zbt (yaj r (r.Term + 1) 0).Id ⟨⟨(yaj r (r.Term + 1) 0).Id,(yaj r (r.Term + 1) 0).N,(yaj r (r.Term + 1) 0).Term,(yaj r (r.Term + 1) 0).Id,2,(yaj r (r.Term + 1) 0).yaf,(yaj r (r.Term + 1) 0).yj,(yaj r (r.Term + 1) 0).yl,(yaj r (r.Term + 1) 0).yy,List.replicate r.N.toNat false,(yaj r (r.Term + 1) 0).Next,(yaj r (r.Term + 1) 0).yr,0,(yaj r (r.Term + 1) 0).yae⟩,out⟩ = some (yhg (ygq r),⟨yin r,out⟩):=hg
  rw [← hN] at hg' ⊢
  rw [hg',yk]
  unfold yht
  cases hw:yhg (ygq r) with
  | true=>
    simp only [if_true]
    rw [yawn hq (by omega) (by omega) ho,yk]
  | false=>
    simp only [Bool.false_eq_true,if_false]
    have hsl:OkG (B + 1) (yin r).yj:=hq.log
    rw [ycdv (r:=yin r) (by show 0≤r.N; omega) (by show r.N≤7; omega) hsl (by omega) ho,yk]
    rfl
theorem ybgb:zge=zgb:=rfl
theorem yaxt(draw:Int):zpf draw=some (yms draw):=by
  unfold zpf yms
  have h0:0≤IntKind.u64.wrap draw:=by
    simp only [IntKind.wrap,IntKind.signed,IntKind.bits]
    simp
    omega
  rw [Int.tmod_eq_emod_of_nonneg h0,yas (n:=IntKind.u64.wrap draw % 10) (by omega),yas (by omega)]
theorem ycpn(draw:Int):0≤yms draw∧yms draw≤20:=by unfold yms; omega
theorem yagk(h:OkR B r)(hB0:0≤B)(draw:Int):OkR B (ymx r draw):=by
  have hid:=h.id; have hn:=h.n; have ht:=h.term
  have hf:=yjs h (t:=r.Term) (l:=0) (by omega)
  refine { hf with clock:=⟨Int.le_refl _,hB0⟩,wait:=ycpn draw,gl:=?_,ga:=?_,na:=?_,ma:=?_ }
  ·show (ygq r).length≤7; unfold ygq; rw [yda]; simp; omega
  ·intro _; show ((ygq r).length:Int) = r.N; unfold ygq; rw [yda]; simp; omega
  ·intro h; simp [ymx] at h
  ·intro h; simp [ymx] at h
theorem ycqe(h:OkR B r)(hB0:0≤B)(hB:B + 2≤1000000)(draw:Int)(ho:out.length≤40):zhy draw ⟨r,out⟩ = some ⟨(yow r draw).1,out++(yow r draw).2⟩:=by
  have hid:=h.id; have hn:=h.n; have ht:=h.term
  have hq:=yagk h hB0 draw
  unfold zhy
  simp only
  rw [yry,yk,yaxt,yk]
  have hN:(yaj r r.Term 0).N=r.N:=rfl
  simp only
  rw [hN,if_pos (yafa (by omega))]
  have hg:=yabk (r:={ yaj r r.Term 0 with yv:=1,yu:=0,yae:=yms draw,ym:=List.replicate r.N.toNat false }) (who:=r.Id) (out:=out) (by omega) (by simp; omega) (by simp; omega)
  have hg':zbt (yaj r r.Term 0).Id ⟨⟨(yaj r r.Term 0).Id,(yaj r r.Term 0).N,(yaj r r.Term 0).Term,(yaj r r.Term 0).yac,1,(yaj r r.Term 0).yaf,(yaj r r.Term 0).yj,(yaj r r.Term 0).yl,(yaj r r.Term 0).yy,List.replicate r.N.toNat false,(yaj r r.Term 0).Next,(yaj r r.Term 0).yr,0,yms draw⟩,out⟩ = some (yhg (ygq r),⟨ymx r draw,out⟩):=hg
  rw [← hN] at hg' ⊢
  rw [hg',yk]
  unfold yow
  cases hw:yhg (ygq r) with
  | true=>
    simp only [if_true]
    rw [yarq hq hB0 hB ho,yk]
  | false=>
    simp only [Bool.false_eq_true,if_false]
    have hsl:OkG B (ymx r draw).yj:=hq.log
    rw [ycdw (r:=ymx r draw) (by show 0≤r.N; omega) (by show r.N≤7; omega) hsl (by omega) (by have:=hq.term; omega) ho,yk]
    rfl
end
end Go.Proofs.YtgoachcogmlhcaaGreat.R
set_option maxRecDepth 100000
set_option linter.unusedVariables false
set_option linter.unusedSimpArgs false
noncomputable section
namespace Go.Proofs.YtgoachcogmlhcaaGreat.R
open Go
structure OkM (B:Int) (x:yg):Prop where
  term:0≤x.Term∧x.Term≤B
  at0:0≤x.At∧x.At≤B
  att:0≤x.ybd∧x.ybd≤B
  commit:0≤x.yl∧x.yl≤B
  el:x.Entries.length≤8
  e:∀ y∈x.Entries,OkE B y
  d:x.ybq.length≤1000
  ate:x.At + (x.Entries.length:Int)≤B
def yfl(r:ye)(x:yg)(kind term at0:Int)(ok:Bool):yg:=⟨kind,0,r.Id,x.From,term,at0,0,0,ok,[],[]⟩
def yoc(r:ye):Bool:=decide (r.yv≠3) && (decide (r.yaf=0) || decide (10≤r.yu))
def yqp(r:ye)(x:yg):Bool:=decide (r.Term < x.Term) && (yoc r && yov r.yj x.ybd x.At)
def ykx(r:ye)(x:yg):ye × List yg:=(r,[yfl r x 2 (if yqp r x=true then x.Term else r.Term) 0 (yqp r x)])
def yig(r:ye)(x:yg):Bool:=decide (x.Term=r.Term) && (decide (r.yv=0) && ((decide (r.yac=0) || decide (r.yac=x.From)) && yov r.yj x.ybd x.At))
def yjm(r:ye)(x:yg):ye × List yg:=if yig r x=true then ({ r with yac:=x.From,yu:=0 },[yfl r x 4 r.Term 0 true]) else (r,[yfl r x 4 r.Term 0 false])
def yic(r:ye)(x:yg):Bool:=decide (x.Term < r.Term) || decide (r.yv=3)
def yme(r:ye)(x:yg):ye:={ yaj r x.Term x.From with yu:=0 }
def ygo(a b:Int):Int:=if a < b then b else a
def yhf(a b:Int):Int:=if b < a then b else a
def ygg(r:ye)(x:yg):ye × List yg:=
  if yic r x=true then (r,[yfl r x 6 r.Term 0 false]) else
  let q:=yme r x
  let p:=yku r.yj x.At x.ybd x.Entries
  if p.2.2=true then ({ q with yj:=p.1,yl:=ygo r.yl (yhf x.yl p.2.1) },[yfl q x 6 q.Term p.2.1 true]) else (q,[yfl q x 6 q.Term p.2.1 false])
def ykm(r:ye)(x:yg):ye × List yg:=
  if yic r x=true then (r,[yfl r x 6 r.Term 0 false]) else
  let q:=yme r x
  if r.yl < x.At then ({ q with yj:=ymn r.yj x.At x.ybd,yl:=x.At,yy:=x.ybq },[yfl q x 6 q.Term x.At true]) else (q,[yfl q x 6 q.Term r.yl true])
def yhp(r:ye)(to:Int):Int:=(r.yr[(to - 1).toNat]?).getD 0
def yhv(r:ye)(x:yg):Int:=ygo (yhp r x.From) (yhf x.At (yaz r.yj))
def ygy(r:ye)(x:yg):Int:=ygo (yeb r x.From) (yhv r x + 1)
def yol(r:ye)(x:yg):Int:=ygo (yhp r x.From + 1) (yhf (yeb r x.From - 2) x.At + 1)
def ycj(r:ye)(x:yg):ye:=ycc { r with Next:=ybi r.Next (x.From - 1) (ygy r x),yr:=ybi r.yr (x.From - 1) (yhv r x) }
def ymq(r:ye)(x:yg):ye:={ r with Next:=ybi r.Next (x.From - 1) (yol r x) }
def yhw(r:ye)(x:yg):ye × List yg:=
  if x.Term < r.Term∨r.yv≠3 then (r,[]) else
  if x.Ok=true then (if yaz r.yj < ygy r x then (ycj r x,[]) else (ycj r x,[ydm (ycj r x) x.From])) else (ymq r x,[ydm (ymq r x) x.From])
def ybc(r:ye)(x:yg):ye:={ r with ym:=ybi r.ym (x.From - 1) true }
def yoo(r:ye)(x:yg):ye × List yg:=
  if x.Ok=true∧r.yv=1∧x.Term=r.Term + 1 then (if yhg (ybc r x).ym=true then yht (ybc r x) else (ybc r x,[])) else (r,[])
def ykp(r:ye)(x:yg):ye × List yg:=
  if x.Ok=true∧r.yv=2∧x.Term=r.Term then (if yhg (ybc r x).ym=true then yki (ybc r x) else (ybc r x,[])) else (r,[])
def ycv(r:ye)(x:yg):Bool:=decide (x.To≠r.Id) || (decide (x.From < 1) || (decide (r.N < x.From) || (decide (x.From=r.Id) || (decide (x.Term < 0) || (decide (1099511627776 < x.Term) || decide (x.At < 0))))))
def ylc(r:ye)(x:yg):Bool:=decide (r.Term < x.Term) && (decide (x.yar≠1) && (decide (x.yar≠2) || !x.Ok))
def yif(r:ye)(x:yg):ye × List yg:=
  if x.yar=1 then ykx r x else if x.yar=2 then yoo r x else if x.yar=3 then yjm r x else if x.yar=4 then ykp r x
  else if x.yar=5 then ygg r x else if x.yar=6 then yhw r x else if x.yar=7 then ykm r x else (r,[])
def ygj(r:ye)(x:yg):ye × List yg:=
  if ycv r x=true then (r,[]) else if ylc r x=true then yif (yaj r x.Term 0) x else yif r x
def ypp(r:ye)(draw:Int):ye × List yg:=
  let q:={ r with yu:=r.yu + 1 }
  if r.yv=3 then (if 2≤r.yu + 1 then ({ r with yu:=0 },(ydr r).map (ydm { r with yu:=0 })) else (q,[])) else if r.yae≤r.yu + 1 then yow q draw else (q,[])
section
variable {B:Int} {r:ye} {x:yg} {out:List yg}
theorem yajm(h:OkR B r)(hB:B≤1000000):zoh r=some ⟨r,[]⟩:=by
  have h1:=h.snap; have h2:=h.gl; have h3:=h.nl; have h4:=h.ml
  unfold zoh zta
  rw [yio h.log hB,yk,if_pos (ybg (by omega)),if_pos (ybg (by omega)),if_pos (ybg (by omega)),if_pos (ybg (by omega)),yk]
theorem ybtu(h:OkR B r)(hB:B≤1000000)(ho:out.length≤40):zga x ⟨r,out⟩ = some ⟨(ykx r x).1,out++(ykx r x).2⟩:=by
  have k3:∀ ok t,zdr x ⟨r,out⟩ ok t=some ⟨r,out++[yfl r x 2 t 0 ok]⟩:=by
    intro ok t
    unfold zdr
    rw [yvs (by simp only; omega),yk]
    rfl
  have k2:∀ ok,zcn x ⟨r,out⟩ ok=some ⟨r,out++[yfl r x 2 (if ok=true then x.Term else r.Term) 0 ok]⟩:=by
    intro ok
    unfold zcn
    cases ok with
    | true=>simp only [if_true]; exact k3 _ _
    | false=>simp only [Bool.false_eq_true,if_false]; exact k3 _ _
  have k1:∀ f,zcm x ⟨r,out⟩ f=some ⟨r,out++[yfl r x 2 (if (decide (r.Term < x.Term) && (f && yov r.yj x.ybd x.At)) = true then x.Term else r.Term) 0 (decide (r.Term < x.Term) && (f && yov r.yj x.ybd x.At))]⟩:=by
    intro f
    unfold zcm
    simp only
    by_cases ht:r.Term < x.Term
    ·rw [decide_eq_true ht,if_pos rfl]
     cases f with
     | true=>
       rw [if_pos rfl,yuv h.log hB,yk,k2]
       simp
     | false=>rw [if_neg (by simp),k2]; simp
    ·rw [decide_eq_false ht,if_neg (by simp),k2]; simp
  unfold zga ykx yqp yoc
  simp only
  by_cases h3:r.yv=3
  ·simp only [h3,ne_eq,not_true_eq_false,decide_false,Bool.false_eq_true,if_false]
   rw [k1]
   simp
  ·simp only [h3,ne_eq,not_false_eq_true,decide_true,if_true]
   by_cases hl:r.yaf=0
   ·rw [decide_eq_true hl,if_pos rfl,k1]; simp
   ·rw [decide_eq_false hl,if_neg (by simp),k1]; simp
theorem ycpm(h:OkR B r)(hB:B≤1000000)(ho:out.length≤40):zgq x ⟨r,out⟩ = some ⟨(yjm r x).1,out++(yjm r x).2⟩:=by
  have k1:∀ ok,zan x ⟨r,out⟩ ok=some (if ok=true then ⟨{ r with yac:=x.From,yu:=0 },out++[yfl r x 4 r.Term 0 true]⟩ else ⟨r,out++[yfl r x 4 r.Term 0 false]⟩):=by
    intro ok
    unfold zan zgr
    cases ok with
    | true=>simp only [if_true]; rw [yvs (by simp only; omega),yk]; rfl
    | false=>simp only [Bool.false_eq_true,if_false]; rw [yvs (by simp only; omega),yk]; rfl
  have fin:∀ ok,ok=yig r x→zan x ⟨r,out⟩ ok=some ⟨(yjm r x).1,out++(yjm r x).2⟩:=by
    intro ok he
    rw [k1,he]
    unfold yjm
    cases yig r x <;> simp
  unfold zgq
  simp only
  by_cases h1:x.Term=r.Term
  ·rw [decide_eq_true h1,if_pos rfl]
   by_cases h2:r.yv=0
   ·rw [decide_eq_true h2,if_pos rfl]
    by_cases h3:r.yac=0
    ·rw [decide_eq_true h3,if_pos rfl,yuv h.log hB,yk]
     exact fin _ (by simp [yig,h1,h2,h3])
    ·rw [decide_eq_false h3,if_neg (by simp)]
     by_cases h4:r.yac=x.From
     ·rw [decide_eq_true h4,if_pos rfl,yuv h.log hB,yk]
      exact fin _ (by simp [yig,h1,h2,h4])
     ·rw [decide_eq_false h4,if_neg (by simp)]
      exact fin _ (by simp [yig,h3,h4])
   ·rw [decide_eq_false h2,if_neg (by simp)]
    exact fin _ (by simp [yig,h2])
  ·rw [decide_eq_false h1,if_neg (by simp)]
   exact fin _ (by simp [yig,h1])
theorem yaui(ho:out.length≤40):zgm x ⟨r,out⟩ = some (if yic r x=true then (false,⟨r,out++[yfl r x 6 r.Term 0 false]⟩) else (true,⟨yme r x,out⟩)):=by
  have k1:∀ v,zec x ⟨r,out⟩ v=some (if v=true then (false,⟨r,out++[yfl r x 6 r.Term 0 false]⟩) else (true,⟨yme r x,out⟩)):=by
    intro v
    unfold zec
    cases v with
    | true=>simp only [if_true]; rw [yvs (by simp only; omega),yk]; rfl
    | false=>simp only [Bool.false_eq_true,if_false]; rw [yry,yk]; rfl
  unfold zgm yic
  simp only
  by_cases h1:x.Term < r.Term
  ·rw [decide_eq_true h1,if_pos rfl,k1]; simp
  ·rw [decide_eq_false h1,if_neg (by simp),k1]; simp
theorem yayo(h:OkR B r)(hB:B≤1000000)(hx:OkM B x)(ho:out.length≤40):zeb x ⟨r,out⟩ = some ⟨(ygg r x).1,out++(ygg r x).2⟩:=by
  have hx1:=hx.at0; have hx2:=hx.el
  unfold zeb ygg
  rw [yaui ho,yk]
  cases hd:yic r x with
  | true=>simp
  | false=>
    simp only [Bool.false_eq_true,if_false,if_true]
    have hlog:(yme r x).yj=r.yj:=rfl
    have hcm:(yme r x).yl=r.yl:=rfl
    rw [hlog,ybyx h.log hB (by omega) (by omega) fun y hy=>(hx.e y hy).d,yk]
    cases hp:(yku r.yj x.At x.ybd x.Entries).2.2 with
    | true=>
      simp only [if_true]
      unfold zct
      rw [yvt (by simp only; omega),yk]
      simp only [hcm,ygo,yhf,yfl]
      rfl
    | false=>
      simp only [Bool.false_eq_true,if_false]
      unfold zct
      rw [yvt (by simp only; omega),yk]
      rfl
theorem ycoj(h:OkR B r)(hB:B≤1000000)(hx:OkM B x)(ho:out.length≤40):zgn x ⟨r,out⟩ = some ⟨(ykm r x).1,out++(ykm r x).2⟩:=by
  have hx1:=hx.at0; have hx2:=hx.d
  unfold zgn ykm
  rw [yaui ho,yk]
  cases hd:yic r x with
  | true=>simp
  | false=>
    simp only [Bool.false_eq_true,if_false,if_true]
    have hlog:(yme r x).yj=r.yj:=rfl
    have hcm:(yme r x).yl=r.yl:=rfl
    rw [hcm]
    by_cases hc:r.yl < x.At
    ·rw [decide_eq_true hc,if_pos rfl,if_pos hc,hlog,ybeo h.log hB (by omega),yk,if_pos (ybg (by omega))]
     unfold zeh
     rw [yvt (by simp only; omega),yk]
     rfl
    ·rw [decide_eq_false hc,if_neg (by simp),if_neg hc]
     unfold zeh
     rw [yvt (by simp only; omega),yk]
     rfl
theorem yuy(h:OkR B r)(h3:r.yv=3){to:Int}(h1:1≤to)(h2:to≤r.N):ybu r.yr (to - 1) = some (yhp r to)∧0≤yhp r to∧yhp r to≤B:=by
  have hlt:(to - 1).toNat < r.yr.length:=by have:=h.ma h3; omega
  unfold yhp
  rw [yfb (by omega),List.getElem?_eq_getElem hlt]
  exact ⟨rfl,h.mb _ (List.getElem_mem hlt)⟩
theorem yalv{l:List Int}{i:Int}{v:Int}(h0:0≤i)(h1:i.toNat < l.length):ybu (ybi l i v) i=some v:=by
  rw [yfb h0,ybi]
  simp [h1]
theorem yzx(h:OkR B r)(h3:r.yv=3)(hx:OkM B x)(h1:1≤x.From)(h2:x.From≤r.N):0≤yhv r x∧yhv r x≤B:=by
  obtain ⟨_,m1,m2⟩:=yuy h h3 h1 h2
  have hx1:=hx.at0
  have hl:=h.log.last; have hb:=h.log.b
  unfold yhv ygo yhf yaz
  split <;> split at * <;> omega
theorem yaxr(h:OkR B r)(h3:r.yv=3)(hx:OkM B x)(h1:1≤x.From)(h2:x.From≤r.N):1≤ygy r x∧ygy r x≤B + 1:=by
  obtain ⟨_,n1,n2⟩:=ynp (h.tell h3) h1 h2
  have:=yzx h h3 hx h1 h2
  unfold ygy ygo
  split <;> omega
theorem yaxq(h:OkR B r)(h3:r.yv=3)(hx:OkM B x)(h1:1≤x.From)(h2:x.From≤r.N):1≤yol r x∧yol r x≤B + 1:=by
  obtain ⟨_,n1,n2⟩:=ynp (h.tell h3) h1 h2
  obtain ⟨_,m1,m2⟩:=yuy h h3 h1 h2
  have hx1:=hx.at0
  unfold yol ygo yhf
  split <;> split at * <;> omega
theorem yaco(h:OkR B r)(h3:r.yv=3)(hx:OkM B x)(h1:1≤x.From)(h2:x.From≤r.N):OkR B { r with Next:=ybi r.Next (x.From - 1) (ygy r x),yr:=ybi r.yr (x.From - 1) (yhv r x) }:=by
  have a1:=yzx h h3 hx h1 h2; have a2:=yaxr h h3 hx h1 h2
  refine { h with nl:=?_,ml:=?_,na:=?_,ma:=?_,nb:=?_,mb:=?_ }
  ·show (ybi r.Next _ _).length≤7; rw [yda]; exact h.nl
  ·show (ybi r.yr _ _).length≤7; rw [yda]; exact h.ml
  ·intro h; show ((ybi r.Next _ _).length:Int) = r.N; rw [yda]; exact OkR.na (B:=B) (by assumption) h3
  ·intro h; show ((ybi r.yr _ _).length:Int) = r.N; rw [yda]; exact OkR.ma (B:=B) (by assumption) h3
  ·intro y hy; rcases yvu hy with rfl | hy
   ·exact a2
   ·exact h.nb y hy
  ·intro y hy; rcases yvu hy with rfl | hy
   ·exact a1
   ·exact h.mb y hy
theorem yacq(h:OkR B r)(h3:r.yv=3)(hx:OkM B x)(h1:1≤x.From)(h2:x.From≤r.N):OkR B (ycj r x):=yor (yaco h h3 hx h1 h2) h3
theorem yacp(h:OkR B r)(h3:r.yv=3)(hx:OkM B x)(h1:1≤x.From)(h2:x.From≤r.N):OkR B (ymq r x):=by
  have a2:=yaxq h h3 hx h1 h2
  refine { h with nl:=?_,na:=?_,nb:=?_ }
  ·show (ybi r.Next _ _).length≤7; rw [yda]; exact h.nl
  ·intro h; show ((ybi r.Next _ _).length:Int) = r.N; rw [yda]; exact OkR.na (B:=B) (by assumption) h3
  ·intro y hy; rcases yvu hy with rfl | hy
   ·exact a2
   ·exact h.nb y hy
theorem ysk:(ycc r).yj=r.yj:=by unfold ycc; split <;> rfl
theorem yale:(ycc r).Next=r.Next:=by unfold ycc; split <;> rfl
theorem ycpj(h:OkR B r)(hB:B≤1000000)(hx:OkM B x)(h1:1≤x.From)(h2:x.From≤r.N)(ho:out.length≤40):zgp x ⟨r,out⟩ = some ⟨(yhw r x).1,out++(yhw r x).2⟩:=by
  have hx1:=hx.at0
  have hn:=h.n
  have kf:∀ v,v=false→r.yv=3→¬ x.Term < r.Term→zbu x ⟨r,out⟩ v=some ⟨(yhw r x).1,out++(yhw r x).2⟩:=by
    intro v hv h3 ht
    subst hv
    obtain ⟨a1,a2,a3⟩:=ynp (h.tell h3) h1 h2
    obtain ⟨b1,b2,b3⟩:=yuy h h3 h1 h2
    have c1:=yzx h h3 hx h1 h2
    have hltn:(x.From - 1).toNat < r.Next.length:=by have:=h.na h3; omega
    have hltm:(x.From - 1).toNat < r.yr.length:=by have:=h.ma h3; omega
    unfold zbu yhw
    simp only
    have hnot:¬ (x.Term < r.Term∨r.yv≠3):=by
      rintro (h | h)
      ·exact ht h
      ·exact h h3
    rw [if_neg hnot,if_neg (show ¬ (false=true) by simp),yas (n:=x.From - 1) (by omega)]
    cases hok:x.Ok with
    | true=>
      simp only [if_true]
      rw [b1,yk,yfu h.log hB,yk,a1,yk]
      have em:(if yhp r x.From < (if yaz r.yj < x.At then yaz r.yj else x.At) then (if yaz r.yj < x.At then yaz r.yj else x.At) else yhp r x.From) = yhv r x:=rfl
      rw [em,yalv (by omega) hltm,yk,yas (n:=yhv r x + 1) (by omega)]
      have en:(if yeb r x.From < yhv r x + 1 then yhv r x + 1 else yeb r x.From) = ygy r x:=rfl
      rw [en]
      have hc:=yayj (out:=out) (yaco h h3 hx h1 h2) hB h3
      have hc':zfl ⟨⟨r.Id,r.N,r.Term,r.yac,r.yv,r.yaf,r.yj,r.yl,r.yy,r.ym,ybi r.Next (x.From - 1) (ygy r x),ybi r.yr (x.From - 1) (yhv r x),r.yu,r.yae⟩,out⟩ = some ⟨ycj r x,out⟩:=hc
      have hnx:(ycj r x).Next=ybi r.Next (x.From - 1) (ygy r x):=yale
      have hlg:(ycj r x).yj=r.yj:=ysk
      rw [hc',yk]
      simp only
      rw [hnx,yalv (by omega) hltn,yk,hlg,yfu h.log hB,yk]
      by_cases hl:yaz r.yj < ygy r x
      ·rw [decide_eq_true hl,if_pos rfl,if_pos hl]
       simp
      ·rw [decide_eq_false hl,if_neg (by simp),if_neg hl]
       unfold zej
       have hq:=yacq h h3 hx h1 h2
       have hr3:(ycj r x).yv=3:=by unfold ycj; rw [yih]; exact h3
       have hN:(ycj r x).N=r.N:=yll
       have ht2:=yaxo (out:=out) (hq.tell hr3) hB h1 (by rw [hN]; exact h2) (by omega)
       have ht3:zgo x.From ⟨⟨(ycj r x).Id,(ycj r x).N,(ycj r x).Term,(ycj r x).yac,(ycj r x).yv,(ycj r x).yaf,⟨(ycj r x).yj.yn,(ycj r x).yj.yi,(ycj r x).yj.Entries⟩,(ycj r x).yl,(ycj r x).yy,(ycj r x).ym,(ycj r x).Next,(ycj r x).yr,(ycj r x).yu,(ycj r x).yae⟩,out⟩ = some ⟨ycj r x,out++[ydm (ycj r x) x.From]⟩:=ht2
       rw [hnx,hlg] at ht3
       rw [ht3,yk]
    | false=>
      simp only [Bool.false_eq_true,if_false]
      rw [b1,yk,a1,yk,yas (n:=yeb r x.From - 2) (by omega),yas (n:=yhp r x.From + 1) (by omega)]
      have ew:IntKind.i64.wrap ((if x.At < yeb r x.From - 2 then x.At else yeb r x.From - 2) + 1) = yhf (yeb r x.From - 2) x.At + 1:=by
        unfold yhf
        rw [yas (by split <;> omega)]
      rw [ew]
      have en:(if yhp r x.From + 1 < yhf (yeb r x.From - 2) x.At + 1 then yhf (yeb r x.From - 2) x.At + 1 else yhp r x.From + 1) = yol r x:=rfl
      rw [en]
      unfold zej
      have hq:=yacp h h3 hx h1 h2
      have ht2:=yaxo (out:=out) (hq.tell h3) hB h1 h2 (by omega)
      have ht3:zgo x.From ⟨⟨r.Id,r.N,r.Term,r.yac,r.yv,r.yaf,⟨r.yj.yn,r.yj.yi,r.yj.Entries⟩,r.yl,r.yy,r.ym,ybi r.Next (x.From - 1) (yol r x),r.yr,r.yu,r.yae⟩,out⟩ = some ⟨ymq r x,out++[ydm (ymq r x) x.From]⟩:=ht2
      rw [ht3,yk]
  have kt:(x.Term < r.Term∨r.yv≠3)→zbu x ⟨r,out⟩ true=some ⟨(yhw r x).1,out++(yhw r x).2⟩:=by
    intro hh
    unfold zbu yhw
    rw [if_pos rfl,if_pos hh]
    simp
  unfold zgp
  simp only
  by_cases ht:x.Term < r.Term
  ·rw [decide_eq_true ht,if_pos rfl]; exact kt (.inl ht)
  ·rw [decide_eq_false ht,if_neg (by simp)]
   by_cases h3:r.yv=3
   ·exact kf _ (by simp [h3]) h3 ht
   ·have:decide (r.yv≠3) = true:=by simp [h3]
    rw [this]; exact kt (.inr h3)
end
end Go.Proofs.YtgoachcogmlhcaaGreat.R
set_option maxRecDepth 100000
set_option linter.unusedVariables false
set_option linter.unusedSimpArgs false
noncomputable section
namespace Go.Proofs.YtgoachcogmlhcaaGreat.R
open Go
section
variable {B:Int} {r:ye} {x:yg}
theorem ykg(h:OkR B r)(v:Bool):OkR B (ybc r x):=by
  refine { h with gl:=?_,ga:=?_ }
  ·show (ybi r.ym _ _).length≤7; rw [yda]; exact h.gl
  ·intro hr; show ((ybi r.ym _ _).length:Int) = r.N; rw [yda]; exact h.ga hr
theorem yaxm(h:OkR B r)(hB0:0≤B)(hB:B + 2≤1000000)(hx:OkM B x)(h1:1≤x.From)(h2:x.From≤r.N) :
    zhx x r.Id r.N r.Term r.yac r.yv r.yaf r.yj.yn r.yj.yi r.yl r.yu r.yae r.yj.Entries r.yy r.ym r.Next r.yr [] = some (yif r x):=by
  have ht:=h.term
  unfold zhx yif
  by_cases k1:x.yar=1
  ·have ha:zga x ⟨⟨r.Id,r.N,r.Term,r.yac,r.yv,r.yaf,⟨r.yj.yn,r.yj.yi,r.yj.Entries⟩,r.yl,r.yy,r.ym,r.Next,r.yr,r.yu,r.yae⟩,[]⟩ = some ⟨(ykx r x).1,[]++(ykx r x).2⟩:=ybtu h (by omega) (by simp)
   rw [decide_eq_true k1,if_pos rfl,if_pos k1,ha,yk]; rfl
  rw [decide_eq_false k1,if_neg (show ¬ (false=true) by simp),if_neg k1]
  by_cases k2:x.yar=2
  ·rw [decide_eq_true k2,if_pos (show true=true from rfl),if_pos k2]
   unfold yoo
   have kf:zdv false r.Id r.N r.Term r.yac r.yv r.yaf r.yj.yn r.yj.yi r.yl r.yu r.yae r.yj.Entries r.yy r.ym r.Next r.yr [] = some (r,[]):=rfl
   by_cases a1:x.Ok=true
   ·rw [if_pos a1]
    by_cases a2:r.yv=1
    ·rw [decide_eq_true a2,if_pos (show true=true from rfl),yas (by omega)]
     by_cases a3:x.Term=r.Term + 1
     ·have hgl:(r.ym.length:Int) = r.N:=h.ga (.inl a2)
      have hg:zco x.From ⟨⟨r.Id,r.N,r.Term,r.yac,r.yv,r.yaf,⟨r.yj.yn,r.yj.yi,r.yj.Entries⟩,r.yl,r.yy,r.ym,r.Next,r.yr,r.yu,r.yae⟩,[]⟩ = some (yhg (ybc r x).ym,⟨ybc r x,[]⟩):=yaiq (r:=r) h1 (by omega) h.gl
      rw [decide_eq_true a3,if_pos (show true=true from rfl),if_pos ⟨a1,a2,a3⟩,hg,yk]
      unfold zdv
      simp only
      cases hw:yhg (ybc r x).ym with
      | true=>
        have hs:zge ⟨⟨(ybc r x).Id,(ybc r x).N,(ybc r x).Term,(ybc r x).yac,(ybc r x).yv,(ybc r x).yaf,⟨(ybc r x).yj.yn,(ybc r x).yj.yi,(ybc r x).yj.Entries⟩,(ybc r x).yl,(ybc r x).yy,(ybc r x).ym,(ybc r x).Next,(ybc r x).yr,(ybc r x).yu,(ybc r x).yae⟩,[]⟩ = some ⟨(yht (ybc r x)).1,[]++(yht (ybc r x)).2⟩:=by
          rw [ybgb]; exact yarq (ykg h true) hB0 hB (by simp)
        rw [if_pos rfl,if_pos rfl,hs,yk]; rfl
      | false=>rfl
     ·have:¬ (x.Ok=true∧r.yv=1∧x.Term=r.Term + 1):=fun hh=>a3 hh.2.2
      rw [decide_eq_false a3,if_neg (show ¬ (false=true) by simp),if_neg this]; rfl
    ·have:¬ (x.Ok=true∧r.yv=1∧x.Term=r.Term + 1):=fun hh=>a2 hh.2.1
     rw [decide_eq_false a2,if_neg (show ¬ (false=true) by simp),if_neg this]; rfl
   ·have:¬ (x.Ok=true∧r.yv=1∧x.Term=r.Term + 1):=fun hh=>a1 hh.1
    rw [if_neg a1,if_neg this]; rfl
  rw [decide_eq_false k2,if_neg (show ¬ (false=true) by simp),if_neg k2]
  by_cases k3:x.yar=3
  ·have ha:zgq x ⟨⟨r.Id,r.N,r.Term,r.yac,r.yv,r.yaf,⟨r.yj.yn,r.yj.yi,r.yj.Entries⟩,r.yl,r.yy,r.ym,r.Next,r.yr,r.yu,r.yae⟩,[]⟩ = some ⟨(yjm r x).1,[]++(yjm r x).2⟩:=ycpm h (by omega) (by simp)
   rw [decide_eq_true k3,if_pos (show true=true from rfl),if_pos k3,ha,yk]; rfl
  rw [decide_eq_false k3,if_neg (show ¬ (false=true) by simp),if_neg k3]
  by_cases k4:x.yar=4
  ·rw [decide_eq_true k4,if_pos (show true=true from rfl),if_pos k4]
   unfold ykp
   by_cases a1:x.Ok=true
   ·rw [if_pos a1]
    by_cases a2:r.yv=2
    ·rw [decide_eq_true a2,if_pos (show true=true from rfl)]
     by_cases a3:x.Term=r.Term
     ·have hgl:(r.ym.length:Int) = r.N:=h.ga (.inr a2)
      have hg:zco x.From ⟨⟨r.Id,r.N,r.Term,r.yac,r.yv,r.yaf,⟨r.yj.yn,r.yj.yi,r.yj.Entries⟩,r.yl,r.yy,r.ym,r.Next,r.yr,r.yu,r.yae⟩,[]⟩ = some (yhg (ybc r x).ym,⟨ybc r x,[]⟩):=yaiq (r:=r) h1 (by omega) h.gl
      rw [decide_eq_true a3,if_pos (show true=true from rfl),if_pos ⟨a1,a2,a3⟩,hg,yk]
      unfold zfp
      simp only
      cases hw:yhg (ybc r x).ym with
      | true=>
        have hs:zee ⟨⟨(ybc r x).Id,(ybc r x).N,(ybc r x).Term,(ybc r x).yac,(ybc r x).yv,(ybc r x).yaf,⟨(ybc r x).yj.yn,(ybc r x).yj.yi,(ybc r x).yj.Entries⟩,(ybc r x).yl,(ybc r x).yy,(ybc r x).ym,(ybc r x).Next,(ybc r x).yr,(ybc r x).yu,(ybc r x).yae⟩,[]⟩ = some ⟨(yki (ybc r x)).1,[]++(yki (ybc r x)).2⟩:=by
          rw [ybqg]; exact yawn (ykg h true) hB0 (by omega) (by simp)
        rw [if_pos rfl,if_pos rfl,hs,yk]; rfl
      | false=>rfl
     ·have:¬ (x.Ok=true∧r.yv=2∧x.Term=r.Term):=fun hh=>a3 hh.2.2
      rw [decide_eq_false a3,if_neg (show ¬ (false=true) by simp),if_neg this]; rfl
    ·have:¬ (x.Ok=true∧r.yv=2∧x.Term=r.Term):=fun hh=>a2 hh.2.1
     rw [decide_eq_false a2,if_neg (show ¬ (false=true) by simp),if_neg this]; rfl
   ·have:¬ (x.Ok=true∧r.yv=2∧x.Term=r.Term):=fun hh=>a1 hh.1
    rw [if_neg a1,if_neg this]; rfl
  rw [decide_eq_false k4,if_neg (show ¬ (false=true) by simp),if_neg k4]
  by_cases k5:x.yar=5
  ·have ha:zeb x ⟨⟨r.Id,r.N,r.Term,r.yac,r.yv,r.yaf,⟨r.yj.yn,r.yj.yi,r.yj.Entries⟩,r.yl,r.yy,r.ym,r.Next,r.yr,r.yu,r.yae⟩,[]⟩ = some ⟨(ygg r x).1,[]++(ygg r x).2⟩:=yayo h (by omega) hx (by simp)
   rw [decide_eq_true k5,if_pos (show true=true from rfl),if_pos k5,ha,yk]; rfl
  rw [decide_eq_false k5,if_neg (show ¬ (false=true) by simp),if_neg k5]
  by_cases k6:x.yar=6
  ·have ha:zgp x ⟨⟨r.Id,r.N,r.Term,r.yac,r.yv,r.yaf,⟨r.yj.yn,r.yj.yi,r.yj.Entries⟩,r.yl,r.yy,r.ym,r.Next,r.yr,r.yu,r.yae⟩,[]⟩ = some ⟨(yhw r x).1,[]++(yhw r x).2⟩:=ycpj h (by omega) hx h1 h2 (by simp)
   rw [decide_eq_true k6,if_pos (show true=true from rfl),if_pos k6,ha,yk]; rfl
  rw [decide_eq_false k6,if_neg (show ¬ (false=true) by simp),if_neg k6]
  by_cases k7:x.yar=7
  ·have ha:zgn x ⟨⟨r.Id,r.N,r.Term,r.yac,r.yv,r.yaf,⟨r.yj.yn,r.yj.yi,r.yj.Entries⟩,r.yl,r.yy,r.ym,r.Next,r.yr,r.yu,r.yae⟩,[]⟩ = some ⟨(ykm r x).1,[]++(ykm r x).2⟩:=ycoj h (by omega) hx (by simp)
   rw [decide_eq_true k7,if_pos (show true=true from rfl),if_pos k7,ha,yk]; rfl
  rw [decide_eq_false k7,if_neg (show ¬ (false=true) by simp),if_neg k7]
  rfl
theorem yafr(h:OkR B r)(hB0:0≤B)(hB:B + 2≤1000000)(hx:OkM B x):zlh r x=some (ygj r x):=by
  have kt:∀ v,v=ycv r x→zbg x ⟨r,[]⟩ v=some (ygj r x):=by
    intro v hv
    unfold zbg ygj
    rw [← hv]
    cases v with
    | true=>rfl
    | false=>
      have hv:=hv.symm
      unfold ycv at hv
      simp only [Bool.or_eq_false_iff,decide_eq_false_iff_not] at hv
      have h1:1≤x.From:=by omega
      have h2:x.From≤r.N:=by omega
      simp only [Bool.false_eq_true,if_false]
      have kk:∀ w,w=ylc r x→zdu x ⟨r,[]⟩ w=some (if ylc r x=true then yif (yaj r x.Term 0) x else yif r x):=by
        intro w hw
        unfold zdu
        rw [← hw]
        cases w with
        | true=>
          simp only [if_true]
          rw [yry,yk]
          exact yaxm (yjs h hx.term.2) hB0 hB hx h1 h2
        | false=>
          simp only [Bool.false_eq_true,if_false]
          exact yaxm h hB0 hB hx h1 h2
      by_cases t1:r.Term < x.Term
      ·rw [decide_eq_true t1,if_pos rfl]
       by_cases t2:x.yar=1
       ·have e:decide (x.yar≠1) = false:=by simp [t2]
        rw [e,if_neg (by simp)]
        exact kk _ (by simp [ylc,t2])
       ·have e:decide (x.yar≠1) = true:=by simp [t2]
        rw [e,if_pos rfl]
        by_cases t3:x.yar=2
        ·have e:decide (x.yar≠2) = false:=by simp [t3]
         rw [e,if_neg (by simp)]
         exact kk _ (by simp [ylc,t1,t3])
        ·have e:decide (x.yar≠2) = true:=by simp [t3]
         rw [e,if_pos rfl]
         exact kk _ (by simp [ylc,t1,t2,t3])
      ·rw [decide_eq_false t1,if_neg (by simp)]
       exact kk _ (by simp [ylc,t1])
  unfold zlh
  rw [yajm h (by omega),yk]
  simp only
  by_cases a1:x.To=r.Id
  ·have e:decide (x.To≠r.Id) = false:=by simp [a1]
   rw [e,if_neg (by simp)]
   by_cases a2:x.From < 1
   ·rw [decide_eq_true a2,if_pos rfl]; exact kt _ (by simp [ycv,a2])
   rw [decide_eq_false a2,if_neg (by simp)]
   by_cases a3:r.N < x.From
   ·rw [decide_eq_true a3,if_pos rfl]; exact kt _ (by simp [ycv,a3])
   rw [decide_eq_false a3,if_neg (by simp)]
   by_cases a4:x.From=r.Id
   ·rw [decide_eq_true a4,if_pos rfl]; exact kt _ (by simp [ycv,a4])
   rw [decide_eq_false a4,if_neg (by simp)]
   by_cases a5:x.Term < 0
   ·rw [decide_eq_true a5,if_pos rfl]; exact kt _ (by simp [ycv,a5])
   rw [decide_eq_false a5,if_neg (by simp)]
   by_cases a6:1099511627776 < x.Term
   ·rw [decide_eq_true a6,if_pos rfl]; exact kt _ (by simp [ycv,a6])
   rw [decide_eq_false a6,if_neg (by simp)]
   exact kt _ (by simp [ycv,a1,a2,a3,a4,a5,a6])
  ·have e:decide (x.To≠r.Id) = true:=by simp [a1]
   rw [e,if_pos rfl]; exact kt _ (by simp [ycv,a1])
theorem yacm(h:OkR B r):OkR (B + 1) { r with yu:=r.yu + 1 }:=by
  have hc:=h.clock
  have hm:=h.mono (B':=B + 1) (by omega)
  exact { hm with clock:=⟨by show 0≤r.yu + 1; omega,by show r.yu + 1≤B + 1; omega⟩ }
theorem yacn(h:OkR B r)(hB0:0≤B):OkR B { r with yu:=0 }:={ h with clock:=⟨Int.le_refl _,hB0⟩ }
theorem yaxp(h:OkR B r)(hB0:0≤B)(hB:B + 3≤1000000)(draw:Int):zpe r draw=some (ypp r draw):=by
  have hc:=h.clock
  have hw:IntKind.i64.wrap (r.yu + 1) = r.yu + 1:=yas (by omega)
  unfold zpe ypp
  rw [yajm h (by omega),yk]
  simp only
  unfold znx
  by_cases h3:r.yv=3
  ·rw [decide_eq_true h3,if_pos rfl,if_pos h3]
   simp only [hw]
   by_cases h2:2≤r.yu + 1
   ·have ha:zkh ⟨⟨r.Id,r.N,r.Term,r.yac,r.yv,r.yaf,r.yj,r.yl,r.yy,r.ym,r.Next,r.yr,0,r.yae⟩,[]⟩ = some ⟨{ r with yu:=0 },[]++(ydr { r with yu:=0 }).map (ydm { r with yu:=0 })⟩:=ycqa ((yacn h hB0).tell h3) (by omega) (by simp)
    rw [decide_eq_true h2,if_pos rfl,if_pos h2,ha,yk]; rfl
   ·rw [decide_eq_false h2,if_neg (show ¬ (false=true) by simp),if_neg h2]
    have e:decide (r.yv≠3) = false:=by simp [h3]
    rw [e,if_neg (show ¬ (false=true) by simp)]
    unfold zli
    simp only [hw]
    rfl
  ·rw [decide_eq_false h3,if_neg (show ¬ (false=true) by simp),if_neg h3,if_neg (show ¬ (false=true) by simp)]
   have e:decide (r.yv≠3) = true:=by simp [h3]
   simp only [hw]
   rw [e,if_pos (show true=true from rfl)]
   unfold zli
   simp only [hw]
   by_cases hwt:r.yae≤r.yu + 1
   ·have ha:zhy draw ⟨⟨r.Id,r.N,r.Term,r.yac,r.yv,r.yaf,r.yj,r.yl,r.yy,r.ym,r.Next,r.yr,r.yu + 1,r.yae⟩,[]⟩ = some ⟨(yow { r with yu:=r.yu + 1 } draw).1,[]++(yow { r with yu:=r.yu + 1 } draw).2⟩:=ycqe (yacm h) (by omega) (by omega) draw (by simp)
    rw [decide_eq_true hwt,if_pos rfl,if_pos hwt,ha,yk]; rfl
   ·rw [decide_eq_false hwt,if_neg (show ¬ (false=true) by simp),if_neg hwt]; rfl
theorem yvd(h:OkR B r)(hB:B + 1≤1000000){data:List Int}(hd:data.length≤1000):zit r data=some (if r.yv=3 then ((ydc r data).1,yaz (ydc r data).1.yj,(ydc r data).2,0) else (r,0,[],15)):=by
  unfold zit
  rw [yajm h (by omega),yk]
  simp only
  by_cases h3:r.yv=3
  ·have e:decide (r.yv≠3) = false:=by simp [h3]
   have hl:(ydc r data).1.yj=(yeo r data).yj:=ysk
   have hq:=(yor (yoq h h3 hd) h3).log
   rw [e,if_neg (by simp),if_pos h3,yaya h hB h3 hd (by simp),yk]
   show bnd (some ((ydc r data).1,[]++(ydc r data).2)) _=_
   rw [yk]
   simp only
   have hlast:zam (ydc r data).1.yj=some (yaz (ydc r data).1.yj):=yfu hq hB
   rw [hlast,yk]
   simp
  ·have e:decide (r.yv≠3) = true:=by simp [h3]
   rw [e,if_pos rfl,if_neg h3]
def yfn(r:ye)(upto:Int):Bool:=decide (r.yj.yn < upto) && (decide (upto≤r.yl) && (ycm r.yj upto).isSome)
def ylf(r:ye)(upto:Int)(snap:List Int):ye:={ r with yj:=yjp r.yj upto,yy:=snap }
theorem yuh(h:OkR B r)(hB:B≤1000000){upto:Int}(hu : -1000000≤upto∧upto≤1000000){snap:List Int}(hs:snap.length≤1000):zis r upto snap=some (if yfn r upto=true then (ylf r upto snap,0) else (r,2)):=by
  have kk:∀ v,zhw upto snap ⟨r,[]⟩ v=some (if v=false∧(ycm r.yj upto).isSome=true then (ylf r upto snap,0) else (r,2)):=by
    intro v
    unfold zhw
    cases v with
    | true=>simp
    | false=>
      simp only [Bool.false_eq_true,if_false]
      rw [yxb h.log hB (by omega),yk]
      cases ht:ycm r.yj upto with
      | none=>simp
      | some t=>
        simp only [Option.isSome_some,if_true]
        rw [if_neg (by simp),if_pos (ybg (by omega))]
        simp [ylf]
  unfold zis
  rw [yajm h hB,yk]
  simp only
  by_cases h1:upto≤r.yj.yn
  ·have:¬ r.yj.yn < upto:=by omega
   rw [decide_eq_true h1,if_pos rfl,kk]
   simp [yfn,this]
  ·have h1':r.yj.yn < upto:=by omega
   rw [decide_eq_false h1,if_neg (by simp),kk]
   by_cases h2:r.yl < upto
   ·have:¬ upto≤r.yl:=by omega
    simp [yfn,h2,this]
   ·have:upto≤r.yl:=by omega
    simp [yfn,h2,this,h1']
end
end Go.Proofs.YtgoachcogmlhcaaGreat.R
set_option maxRecDepth 100000
set_option linter.unusedVariables false
set_option linter.unusedSimpArgs false
noncomputable section
namespace Go.Proofs.YtgoachcogmlhcaaGreat.R
open Go
theorem yof{id:Int}:∀ {k:Nat} {a to:Int},to∈yfe id k a→a≤to∧to < a + k∧to≠id
  | 0,a,to,h=>by simp [yfe] at h
  | k + 1,a,to,h=>by
    unfold yfe at h
    split at h
    ·rename_i hn
     rcases List.mem_cons.1 h with rfl | h
     ·exact ⟨Int.le_refl _,by omega,hn⟩
     ·have:=yof h; omega
    ·have:=yof h; omega
theorem ysn{id:Int}:∀ (k:Nat) (a:Int),(yfe id k a).length≤k
  | 0,a=>by simp [yfe]
  | k + 1,a=>by
    unfold yfe
    split
    ·have:=ysn (id:=id) k (a + 1); simp; omega
    ·have:=ysn (id:=id) k (a + 1); omega
structure ygu (B:Int) (r:ye) (p:ye × List yg):Prop where
  ok:OkR B p.1
  id:p.1.Id=r.Id
  n:p.1.N=r.N
  len:p.2.length≤7
  msg:∀ y∈p.2,OkM B y∧y.From=r.Id
section
variable {B:Int} {r:ye} {x:yg}
theorem OkM.mono{B':Int}(h:OkM B x)(hb:B≤B'):OkM B' x:=
  ⟨⟨h.term.1,by have:=h.term.2; omega⟩,⟨h.at0.1,by have:=h.at0.2; omega⟩,⟨h.att.1,by have:=h.att.2; omega⟩,⟨h.commit.1,by have:=h.commit.2; omega⟩,h.el,fun y hy=>(h.e y hy).mono hb,h.d,by have:=h.ate; omega⟩
theorem ygu.mono{B':Int}{p:ye × List yg}(h:ygu B r p)(hb:B≤B'):ygu B' r p:=⟨h.ok.mono hb,h.id,h.n,h.len,fun y hy=>⟨(h.msg y hy).1.mono hb,(h.msg y hy).2⟩⟩
theorem yafd(h:OkR B r){to:Int}(ht:to∈ydr r):1≤to∧to≤r.N∧to≠r.Id:=by
  have:=yof ht
  have:=h.id
  omega
theorem ypn(h:OkR B r):(ydr r).length≤7:=by
  have:=ysn (id:=r.Id) r.N.toNat 1
  have:=h.n
  unfold ydr
  omega
theorem ybvt(h:OkG B r.yj)(i:Int):(ypj r.yj i).length≤8∧(∀ y∈ypj r.yj i,OkE B y)∧(0≤B→1≤i→i - 1≤B→i - 1 + ((ypj r.yj i).length:Int)≤B):=by
  have hl:=h.last; have hb:=h.b
  unfold ypj
  split
  ·simp
  ·rename_i hc
   unfold yaz at hc
   refine ⟨by simp; omega,fun y hy=>h.e y (List.mem_of_mem_drop (List.mem_of_mem_take hy)),fun _ _ _=>?_⟩
   simp
   omega
theorem yvw(h:OkR B r)(hB0:0≤B)(h3:r.yv=3){to:Int}(h1:1≤to)(h2:to≤r.N):OkM B (ydm r to):=by
  obtain ⟨_,n1,n2⟩:=ynp (h.tell h3) h1 h2
  have hl:=h.log.last; have hb:=h.log.b
  unfold ydm
  split
  ·exact ⟨h.term,⟨h.log.b,by show r.yj.yn≤B; omega⟩,h.log.bt,h.commit,by simp,by simp,h.snap,by show r.yj.yn + (([]:List yc).length:Int)≤B; simp; omega⟩
  ·obtain ⟨f1,f2,f3⟩:=ybvt h.log (yeb r to)
   exact ⟨h.term,⟨by show 0≤yeb r to - 1; omega,by show yeb r to - 1≤B; omega⟩,yahw h.log hB0 _,h.commit,f1,f2,by simp,f3 hB0 n1 (by omega)⟩
theorem yaar(h:OkG B r.yj)(hB0:0≤B):0≤ydh r.yj∧ydh r.yj≤B:=yahw h hB0 _
theorem yapw(h:OkG B r.yj):0≤yaz r.yj∧yaz r.yj≤B:=by
  have hl:=h.last; have hb:=h.b
  unfold yaz
  omega
theorem ycbx(h:OkR B r)(hB0:0≤B)(to:Int):OkM B (yvz r to):=by
  have hl:=yapw h.log
  exact ⟨h.term,hl,yaar h.log hB0,⟨Int.le_refl _,hB0⟩,by simp [yvz],by simp [yvz],by simp [yvz],by show yaz r.yj + (([]:List yc).length:Int)≤B; simp; omega⟩
theorem ycdz(h:OkR B r)(hB0:0≤B)(to:Int):OkM (B + 1) (askM r to):=by
  have hl:=yapw h.log
  have ht:=h.term
  have hlt:=yaar h.log hB0
  exact ⟨⟨by show 0≤r.Term + 1; omega,by show r.Term + 1≤B + 1; omega⟩,⟨hl.1,by show yaz r.yj≤B + 1; omega⟩,⟨hlt.1,by show ydh r.yj≤B + 1; omega⟩,⟨Int.le_refl _,by show (0:Int)≤B + 1; omega⟩,by simp [askM],by simp [askM],by simp [askM],by show yaz r.yj + (([]:List yc).length:Int)≤B + 1; simp; omega⟩
theorem yiq{kind term at0:Int}{ok:Bool}(hB0:0≤B)(ht:0≤term∧term≤B)(ha:0≤at0∧at0≤B):OkM B (yfl r x kind term at0 ok):=
  ⟨ht,ha,⟨Int.le_refl _,hB0⟩,⟨Int.le_refl _,hB0⟩,by simp [yfl],by simp [yfl],by simp [yfl],by show at0 + (([]:List yc).length:Int)≤B; simp; omega⟩
theorem yacb(h:OkR B r):ygu B r (r,[]):=⟨h,rfl,rfl,by simp,by simp⟩
theorem yuf(h:OkR B r)(hB0:0≤B)(h3:r.yv=3){data:List Int}(hd:data.length≤1000):ygu (B + 1) r (ydc r data):=by
  have hb:=yoq h h3 hd
  have hc:=yor hb h3
  refine ⟨hc,ypg,yll,by show ((ydr r).map _).length≤7; rw [List.length_map]; exact ypn h,fun y hy=>?_⟩
  have hy:y∈(ydr r).map (ydm (ycc (yeo r data))):=hy
  obtain ⟨to,ht,rfl⟩:=List.mem_map.1 hy
  obtain ⟨t1,t2,_⟩:=yafd h ht
  have hn:(ycc (yeo r data)).N=r.N:=yll
  refine ⟨yvw hc (by omega) (by rw [yih]; exact h3) t1 (by rw [hn]; exact t2),?_⟩
  have hi:(ycc (yeo r data)).Id=r.Id:=ypg
  unfold ydm
  split <;> exact hi
theorem yapx(h:OkR B r)(hB0:0≤B):ygu (B + 1) r (yki r):=by
  have:=yuf (yabo h hB0) hB0 rfl (data:=[]) (by simp)
  exact ⟨this.ok,this.id,this.n,this.len,this.msg⟩
theorem yajg(h:OkR B r)(hB0:0≤B):ygu (B + 2) r (yht r):=by
  have hq:=yxw h hB0
  unfold yht
  split
  ·have:=yapx hq (by omega)
   exact ⟨this.ok.mono (by omega),this.id,this.n,this.len,fun y hy=>⟨(this.msg y hy).1.mono (by omega),(this.msg y hy).2⟩⟩
  ·refine ⟨hq.mono (by omega),rfl,rfl,by rw [List.length_map]; exact ypn h,fun y hy=>?_⟩
   obtain ⟨to,ht,rfl⟩:=List.mem_map.1 hy
   exact ⟨(ycbx hq (by omega) to).mono (by omega),rfl⟩
theorem ycea(h:OkR B r)(hB0:0≤B)(draw:Int):ygu (B + 2) r (yow r draw):=by
  have hq:=yagk h hB0 draw
  unfold yow
  split
  ·have:=yajg hq hB0
   exact ⟨this.ok,this.id,this.n,this.len,this.msg⟩
  ·refine ⟨hq.mono (by omega),rfl,rfl,by rw [List.length_map]; exact ypn h,fun y hy=>?_⟩
   obtain ⟨to,ht,rfl⟩:=List.mem_map.1 hy
   exact ⟨(ycdz hq hB0 to).mono (by omega),rfl⟩
theorem yaru(h:OkR B r)(hB0:0≤B)(draw:Int):ygu (B + 3) r (ypp r draw):=by
  have h0:=yacm h
  have h1:=yacn h hB0
  unfold ypp
  simp only
  split
  ·rename_i h3
   split
   ·refine ⟨h1.mono (by omega),rfl,rfl,by rw [List.length_map]; exact ypn h,fun y hy=>?_⟩
    obtain ⟨to,ht,rfl⟩:=List.mem_map.1 hy
    obtain ⟨t1,t2,_⟩:=yafd h ht
    exact ⟨(yvw h1 hB0 h3 t1 t2).mono (by omega),by unfold ydm; split <;> rfl⟩
   ·exact ⟨h0.mono (by omega),rfl,rfl,by simp,by simp⟩
  ·split
   ·have:=ycea h0 (by omega) draw
    exact ⟨this.ok.mono (by omega),this.id,this.n,this.len,fun y hy=>⟨(this.msg y hy).1.mono (by omega),(this.msg y hy).2⟩⟩
   ·exact ⟨h0.mono (by omega),rfl,rfl,by simp,by simp⟩
theorem ybqw{ents:List yc}(he:∀ y∈ents,OkE B y):∀ (k:Nat) (new:List yc),(∀ y∈new,OkE B y)→(∀ y∈yhz ents k new,OkE B y)∧((yhz ents k new).length≤ents.length∨(yhz ents k new).length≤k + new.length):=by
  intro k new
  induction new generalizing k with
  | nil=>intro _; exact ⟨he,.inl (Nat.le_refl _)⟩
  | cons e r ih=>
    intro hn
    unfold yhz
    split
    ·split
     ·obtain ⟨h1,h2⟩:=ih (k + 1) fun y hy=>hn y (List.mem_cons_of_mem _ hy)
      exact ⟨h1,by simp only [List.length_cons]; omega⟩
     ·refine ⟨fun y hy=>?_,.inr (by simp; omega)⟩
      rcases List.mem_append.1 hy with hy | hy
      ·exact he y (List.mem_of_mem_take hy)
      ·exact hn y hy
    ·rename_i hg
     have:=List.getElem?_eq_none_iff.1 hg
     refine ⟨fun y hy=>?_,.inr (by simp; omega)⟩
     rcases List.mem_append.1 hy with hy | hy
     ·exact he y hy
     ·exact hn y hy
theorem yawu{l:yz}(h:OkG B l)(hB0:0≤B){at0 term:Int}{es:List yc}(h1:l.yn≤at0)(h2:at0≤B)(h3:at0 + (es.length:Int)≤B)(he:∀ y∈es,OkE B y):OkG B (ysp l at0 term es).1∧0≤(ysp l at0 term es).2.1∧(ysp l at0 term es).2.1≤B:=by
  have hl:=h.last; have hb:=h.b
  unfold ysp
  split
  ·exact ⟨h,by unfold yaz; show 0≤l.yn + _; omega,by unfold yaz; show l.yn + _≤B; omega⟩
  ·rename_i mine hm
   split
   ·have:=yauj l mine (at0 - 1 - l.yn).toNat
    refine ⟨h,?_,?_⟩
    ·show 0≤ysa l at0 mine; unfold ysa; omega
    ·show ysa l at0 mine≤B
     unfold ysa
     rcases Int.lt_or_le at0 (l.yn + 1) with hlt | hge
     ·have e:(at0 - 1 - l.yn).toNat=0:=by omega
      rw [e]; unfold yie; omega
     ·omega
   ·obtain ⟨m1,m2⟩:=ybqw h.e (at0 - l.yn).toNat es he
    refine ⟨⟨h.b,h.bt,?_,m1⟩,by show 0≤at0 + _; omega,h3⟩
    show l.yn + ((yhz _ _ _).length:Int)≤B
    omega
theorem ycmv{l:yz}(h:OkG B l)(hB0:0≤B)(hx:OkM B x):OkG B (yku l x.At x.ybd x.Entries).1∧0≤(yku l x.At x.ybd x.Entries).2.1∧(yku l x.At x.ybd x.Entries).2.1≤B:=by
  have hl:=h.last; have hb:=h.b; have ha:=hx.at0; have hate:=hx.ate
  unfold yku
  split
  ·split
   ·exact ⟨h,h.b,by show l.yn≤B; omega⟩
   ·exact yawu h hB0 (Int.le_refl _) (by omega) (by simp; omega) fun y hy=>hx.e y (List.mem_of_mem_drop hy)
  ·exact yawu h hB0 (by omega) ha.2 hate hx.e
theorem yaag{l:yz}(h:OkG B l)(hB0:0≤B){i:Int}(h1:l.yn≤i)(h2:i≤yaz l):OkG B (yjp l i):=by
  have hl:=h.last; have hb:=h.b
  unfold yaz at h2
  refine ⟨by show 0≤i; omega,yahw h hB0 i,?_,fun y hy=>h.e y (List.mem_of_mem_drop hy)⟩
  show i + ((l.Entries.drop _).length:Int)≤B
  simp
  omega
theorem ybsd{l:yz}(h:OkG B l)(hB0:0≤B){i term:Int}(h1:0≤i)(h2:i≤B)(ht:0≤term∧term≤B):OkG B (ymn l i term):=by
  unfold ymn
  split
  ·rename_i hh
   have:=ykn hh
   exact yaag h hB0 this.1 this.2
  ·exact ⟨h1,ht,by simp; exact h2,by simp⟩
theorem yaly(h:OkR B r)(hB0:0≤B)(hx:OkM B x):OkR B (yme r x):=by
  have:=yjs h (t:=x.Term) (l:=x.From) hx.term.2
  exact { this with clock:=⟨Int.le_refl _,hB0⟩ }
theorem yars(h:OkR B r)(hB0:0≤B)(hx:OkM B x)(h1:1≤x.From)(h2:x.From≤r.N):ygu (B + 2) r (yif r x):=by
  have ht:=h.term; have hid:=h.id; have hn:=h.n
  have one:∀ {q:ye} {m:yg},OkR B q→q.Id=r.Id→q.N=r.N→OkM B m→m.From=r.Id→ygu (B + 2) r (q,[m]):=fun hq e1 e2 hm e3=>
    ⟨hq.mono (by omega),e1,e2,by simp,fun y hy=>by simp at hy; subst hy; exact ⟨hm.mono (by omega),e3⟩⟩
  have none:ygu (B + 2) r (r,[]):=(yacb h).mono (by omega)
  unfold yif
  split
  ·exact one h rfl rfl (yiq hB0 (by split; exact hx.term; exact h.term) ⟨Int.le_refl _,hB0⟩) rfl
  split
  ·unfold yoo
   split
   ·have hg:=ykg (x:=x) h true
    split
    ·have:=yajg hg hB0
     exact ⟨this.ok,this.id,this.n,this.len,this.msg⟩
    ·exact ⟨hg.mono (by omega),rfl,rfl,by simp,by simp⟩
   ·exact none
  split
  ·unfold yjm
   split
   ·have hq:OkR B { r with yac:=x.From,yu:=0 }:={ h with vote:=⟨by show 0≤x.From; omega,by show x.From≤7; omega⟩,clock:=⟨Int.le_refl _,hB0⟩ }
    exact one hq rfl rfl (yiq hB0 h.term ⟨Int.le_refl _,hB0⟩) rfl
   ·exact one h rfl rfl (yiq hB0 h.term ⟨Int.le_refl _,hB0⟩) rfl
  split
  ·unfold ykp
   split
   ·have hg:=ykg (x:=x) h true
    split
    ·have:=yapx hg hB0
     exact ⟨this.ok.mono (by omega),this.id,this.n,this.len,fun y hy=>⟨(this.msg y hy).1.mono (by omega),(this.msg y hy).2⟩⟩
    ·exact ⟨hg.mono (by omega),rfl,rfl,by simp,by simp⟩
   ·exact none
  split
  ·unfold ygg
   split
   ·exact one h rfl rfl (yiq hB0 h.term ⟨Int.le_refl _,hB0⟩) rfl
   ·obtain ⟨p1,p2,p3⟩:=ycmv h.log hB0 hx
    have hq:=yaly h hB0 hx
    simp only
    split
    ·have hc:=h.commit; have hxc:=hx.commit
     have hmm:0≤ygo r.yl (yhf x.yl (yku r.yj x.At x.ybd x.Entries).2.1)∧ygo r.yl (yhf x.yl (yku r.yj x.At x.ybd x.Entries).2.1)≤B:=by
       unfold ygo yhf
       split <;> split at * <;> omega
     exact one (q:={ yme r x with yj:=(yku r.yj x.At x.ybd x.Entries).1,yl:=ygo r.yl (yhf x.yl (yku r.yj x.At x.ybd x.Entries).2.1) }) { hq with log:=p1,commit:=hmm } rfl rfl (yiq hB0 hq.term ⟨p2,p3⟩) rfl
    ·exact one hq rfl rfl (yiq hB0 hq.term ⟨p2,p3⟩) rfl
  split
  ·unfold yhw
   split
   ·exact none
   ·rename_i hr
    have h3:r.yv=3:=by
      rcases Classical.em (r.yv=3) with h | h
      ·exact h
      ·exact absurd (.inr h) hr
    have hq:=yacq h h3 hx h1 h2
    have hp:=yacp h h3 hx h1 h2
    have e1:(ycj r x).Id=r.Id:=ypg
    have e2:(ycj r x).N=r.N:=yll
    have e3:(ycj r x).yv=3:=by unfold ycj; rw [yih]; exact h3
    split
    ·split
     ·exact ⟨hq.mono (by omega),e1,e2,by simp,by simp⟩
     ·exact one hq e1 e2 (yvw hq hB0 e3 h1 (by rw [e2]; exact h2)) (by unfold ydm; split <;> exact e1)
    ·exact one hp rfl rfl (yvw hp hB0 h3 h1 h2) (by unfold ydm; split <;> rfl)
  split
  ·unfold ykm
   split
   ·exact one h rfl rfl (yiq hB0 h.term ⟨Int.le_refl _,hB0⟩) rfl
   ·have hq:=yaly h hB0 hx
    simp only
    split
    ·exact one (q:={ yme r x with yj:=ymn r.yj x.At x.ybd,yl:=x.At,yy:=x.ybq }) { hq with log:=ybsd h.log hB0 hx.at0.1 hx.at0.2 hx.att,commit:=hx.at0,snap:=hx.d } rfl rfl (yiq hB0 hq.term hx.at0) rfl
    ·exact one hq rfl rfl (yiq hB0 hq.term h.commit) rfl
  ·exact none
theorem yaau(h:OkR B r)(hB0:0≤B)(hx:OkM B x):ygu (B + 2) r (ygj r x):=by
  unfold ygj
  split
  ·exact (yacb h).mono (by omega)
  ·rename_i hr
   have hv:ycv r x=false:=by simpa using hr
   unfold ycv at hv
   simp only [Bool.or_eq_false_iff,decide_eq_false_iff_not] at hv
   split
   ·have:=yars (yjs h (t:=x.Term) (l:=0) hx.term.2) hB0 hx (by omega) (by show x.From≤r.N; omega)
    exact ⟨this.ok,this.id,this.n,this.len,this.msg⟩
   ·exact yars h hB0 hx (by omega) (by omega)
theorem yaah(h:OkR B r)(hB0:0≤B){upto:Int}{snap:List Int}(hs:snap.length≤1000)(hc:yfn r upto=true):ygu B r (ylf r upto snap,[]):=by
  unfold yfn at hc
  simp only [Bool.and_eq_true,decide_eq_true_eq] at hc
  obtain ⟨c1,c2,c3⟩:=hc
  obtain ⟨t,ht⟩:=Option.isSome_iff_exists.1 c3
  have:=ykn ht
  exact ⟨{ h with log:=yaag h.log hB0 this.1 this.2,snap:=hs },rfl,rfl,by simp,by simp⟩
end
end Go.Proofs.YtgoachcogmlhcaaGreat.R
set_option maxRecDepth 100000
set_option linter.unusedVariables false
set_option linter.unusedSimpArgs false
noncomputable section
namespace Go.Proofs.YtgoachcogmlhcaaGreat.R
open Go
def yzz:ye:=⟨0,0,0,0,0,0,⟨0,0,[]⟩,0,[],[],[],[],0,0⟩
def ygi(id n:Int):ye:=⟨id,n,0,0,0,0,⟨0,0,[]⟩,0,[],[],[],[],0,10 + id⟩
def yhc(r:ye):ye:=⟨r.Id,r.N,r.Term,r.yac,0,0,r.yj,r.yj.yn,r.yy,[],[],[],0,10 + r.Id⟩
theorem yafb{id n:Int}(h1:1≤id)(h2:id≤n)(h3:n≤7):zqp id n=some (ygi id n,0):=by
  unfold zqp zke
  have a1:¬ n < 1:=by omega
  have a2:¬ (7:Int) < n:=by omega
  have a3:¬ id < 1:=by omega
  have a4:¬ n < id:=by omega
  simp only [a1,a2,a3,a4,decide_false,Bool.false_eq_true,if_false]
  rw [yas (by omega)]
  rfl
theorem yayf{l:yz}(hl:l.Entries.length≤1000000):∀ (m k n:Nat) (t:Int),l.Entries.length - k=m→k≤l.Entries.length→m < n→∃ c,zah l n t (k:Int) = some c:=by
  intro m
  induction m with
  | zero=>
    intro k n t hm hk hn
    obtain ⟨n,rfl⟩:∃ n',n=n' + 1:=⟨n - 1,by omega⟩
    have hk':¬ ((k:Int) < (l.Entries.length:Int)):=by omega
    rw [zah,zfo,decide_eq_false hk',if_neg (by simp)]
    exact ⟨_,rfl⟩
  | succ m ih=>
    intro k n t hm hk hn
    obtain ⟨n,rfl⟩:∃ n',n=n' + 1:=⟨n - 1,by omega⟩
    have hlt:k < l.Entries.length:=by omega
    have hk':((k:Int) < (l.Entries.length:Int)):=by omega
    have k2:∀ v,∃ c,zhh (zah l n) (k:Int) l.Entries[k] v=some c:=by
      intro v
      unfold zhh
      cases v with
      | true=>exact ⟨_,rfl⟩
      | false=>
        rw [if_neg (by simp),ycb (by omega)]
        exact ih (k + 1) n _ (by omega) (by omega) (by omega)
    rw [zah,zfo,decide_eq_true hk',if_pos rfl,ydq hlt,yk]
    split
    ·exact k2 _
    ·exact k2 _
theorem yayg{l:yz}(hl:l.Entries.length≤1000000):∃ c,zlo l=some c:=by
  have k1:∀ v,∃ c,zcw l v=some c:=by
    intro v
    unfold zcw
    cases v with
    | true=>exact ⟨_,rfl⟩
    | false=>
      rw [if_neg (by simp)]
      exact yayf hl _ 0 _ _ rfl (Nat.zero_le _) (by omega)
  unfold zlo
  repeat' split
  all_goals exact k1 _
section
variable {B:Int} {r:ye} {x:yg}
theorem yafs(h:OkR B r)(hB:B≤1000000):zfd r.Id r.N r.Term r.yac r.yj r.yy=some (yhc r,0)∨zfd r.Id r.N r.Term r.yac r.yj r.yy=some (yzz,1):=by
  have hid:=h.id; have hn:=h.n; have hs:=h.snap
  have k1:∀ v,zaj r.Term r.yac r.yj r.yy (ygi r.Id r.N,0) v=some (yhc r,0)∨zaj r.Term r.yac r.yj r.yy (ygi r.Id r.N,0) v=some (yzz,1):=by
    intro v
    unfold zaj
    cases v with
    | true=>exact .inr rfl
    | false=>
      left
      rw [if_neg (by simp),yio h.log hB,yk,if_pos (ybg (by omega))]
      rfl
  obtain ⟨c,hc⟩:=yayg (l:=r.yj) (h.log.len hB)
  unfold zfd
  rw [yafb hid.1 hid.2 hn,yk,yjc h.log hB,yk,hc,yk]
  simp only [ne_eq,not_true_eq_false,decide_false,Bool.false_eq_true,if_false]
  repeat' split
  all_goals exact k1 _
theorem yaav(h:OkR B r)(hB0:20≤B):ygu B r (yhc r,[]):=by
  have hid:=h.id; have hn:=h.n
  have hl:=h.log.last; have hb:=h.log.b
  refine ⟨{ h with commit:=⟨hb,by show r.yj.yn≤B; omega⟩,clock:=⟨Int.le_refl _,by show (0:Int)≤B; omega⟩,wait:=⟨by show 0≤10 + r.Id; omega,by show 10 + r.Id≤20; omega⟩,gl:=by simp [yhc],nl:=by simp [yhc],ml:=by simp [yhc],ga:=?_,na:=?_,ma:=?_,nb:=by simp [yhc],mb:=by simp [yhc] },rfl,rfl,by simp,by simp⟩
  ·intro h; simp [yhc] at h
  ·intro h; simp [yhc] at h
  ·intro h; simp [yhc] at h
theorem ydlq{n:Int}(h1:1≤r.Id)(h:0≤B){id:Int}(h2:1≤id)(h3:id≤n)(h4:n≤7):OkR B (ygi id n):=by
  refine { id:=⟨h2,h3⟩,n:=h4,term:=⟨Int.le_refl _,h⟩,vote:=⟨Int.le_refl _,by simp [ygi]⟩,commit:=⟨Int.le_refl _,h⟩,clock:=⟨Int.le_refl _,h⟩,wait:=⟨by show 0≤10 + id; omega,by show 10 + id≤20; omega⟩,log:=⟨Int.le_refl _,⟨Int.le_refl _,h⟩,by show (0:Int) + (([]:List yc).length:Int)≤B; simp; exact h,by simp [ygi]⟩,snap:=by simp [ygi],gl:=by simp [ygi],nl:=by simp [ygi],ml:=by simp [ygi],ga:=?_,na:=?_,ma:=?_,nb:=by simp [ygi],mb:=by simp [ygi] }
  ·intro h; simp [ygi] at h
  ·intro h; simp [ygi] at h
  ·intro h; simp [ygi] at h
end
def yey(k:Int)(n:Nat):Int:=(IntKind.u64.wrap k) % (n:Int)
theorem ydnt(k:Int):0≤IntKind.u64.wrap k:=by
  simp only [IntKind.wrap,IntKind.signed,IntKind.bits]
  simp
  omega
theorem yqi{k:Int}{n:Nat}(h0:0 < n)(h1:n≤100000):zdm k (n:Int) = some (yey k n)∧0≤yey k n∧yey k n < (n:Int):=by
  have hk:=ydnt k
  have r1:0≤yey k n:=Int.emod_nonneg _ (by omega)
  have r2:yey k n < (n:Int):=Int.emod_lt_of_pos _ (by omega)
  refine ⟨?_,r1,r2⟩
  unfold zdm
  have hn:¬ ((n:Int) = 0):=by omega
  rw [ybtb (n:=(n:Int)) (by omega) (by omega),decide_eq_false hn,if_neg (by simp),Int.tmod_eq_emod_of_nonneg hk]
  have:IntKind.u64.wrap k % (n:Int) = yey k n:=rfl
  rw [this,yas (by omega)]
def yre(l:List yg):List yg:=if 60 < l.length then l.drop (l.length - 60) else l
theorem ybeg{l:List yg}{x:yg}(h:x∈yre l):x∈l:=by
  unfold yre at h
  split at h
  ·exact List.mem_of_mem_drop h
  ·exact h
theorem ybef(l:List yg):(yre l).length≤60:=by
  unfold yre
  split
  ·simp; omega
  ·omega
def setW(w:ybb)(i:Int)(p:ye × List yg):ybb:=⟨ybi w.R i p.1,yre (w.Net++p.2)⟩
theorem ydnd{w:ybb}{i:Int}{p:ye × List yg}(h0:0≤i)(h1:i.toNat < w.R.length)(h2:w.R.length≤100)(h3:w.Net.length≤1000)(h4:p.2.length≤1000):zhf w i p.1 p.2=some (setW w i p):=by
  unfold zhf setW yre
  rw [if_pos (ybg (by omega)),yfb h0,List.getElem?_eq_getElem h1,yk,if_pos (ybg (by omega)),if_pos (ybg (by omega))]
  by_cases hl:60 < w.Net.length + p.2.length
  ·have h5:(60:Int) < ((w.Net.length + p.2.length:Nat):Int):=by omega
   have h6:IntKind.i64.wrap (((w.Net.length + p.2.length:Nat):Int) - 60) = ((w.Net.length + p.2.length - 60:Nat):Int):=by rw [yas (by omega)]; omega
   have h7:60 < (w.Net++p.2).length:=by simp; omega
   rw [decide_eq_true h5,if_pos rfl,h6,yip (by omega) (by simp; omega),yk,if_pos h7]
   have e1:(((w.Net.length + p.2.length - 60:Nat):Int)).toNat=(w.Net++p.2).length - 60:=by simp
   rw [e1]
  ·have h5:¬ (60:Int) < ((w.Net.length + p.2.length:Nat):Int):=by omega
   have h7:¬ 60 < (w.Net++p.2).length:=by simp; omega
   rw [decide_eq_false h5,if_neg (by simp),if_neg h7]
def ymh(w:ybb)(k:Nat)(keep:Bool)(x:yg):ybb:=⟨w.R,w.Net.take k++(if keep=true then [x] else [])++w.Net.drop (k + 1)⟩
theorem ycbu{w:ybb}{k:Nat}{keep:Bool}(h:k < w.Net.length)(h2:w.Net.length≤1000):zqc w (k:Int) keep=some (ymh w k keep w.Net[k],w.Net[k]):=by
  have k1:∀ out:List yg,out.length≤2000→zjq w (k:Int) w.Net[k] out=some (⟨w.R,out++w.Net.drop (k + 1)⟩,w.Net[k]):=by
    intro out ho
    have e1:(((k + 1:Nat):Int)).toNat=k + 1:=by omega
    unfold zjq
    rw [ycb (by omega),yip (by omega) (by omega),yk,e1,if_pos (ybg (by simp; omega))]
  have e0:((k:Int)).toNat=k:=by omega
  unfold zqc
  rw [ydq h,yk,yok (by omega) (by omega),yk,e0,if_pos (ybg (by simp; omega))]
  unfold ymh
  cases keep with
  | true=>rw [if_pos rfl,if_pos (ybg (by simp; omega)),k1 _ (by simp; omega)]; simp
  | false=>rw [if_neg (by simp),k1 _ (by simp; omega)]; simp
theorem ybqr{w:ybb}{k:Nat}{keep:Bool}(h:k < w.Net.length){y:yg}(hy:y∈(ymh w k keep w.Net[k]).Net):y∈w.Net:=by
  unfold ymh at hy
  rcases List.mem_append.1 hy with hy | hy
  ·rcases List.mem_append.1 hy with hy | hy
   ·exact List.mem_of_mem_take hy
   ·cases keep with
    | true=>simp at hy; subst hy; exact List.getElem_mem h
    | false=>simp at hy
  ·exact List.mem_of_mem_drop hy
theorem ybqq{w:ybb}{k:Nat}{keep:Bool}{x:yg}(h:k < w.Net.length):(ymh w k keep x).Net.length≤w.Net.length:=by
  unfold ymh
  cases keep <;> simp <;> omega
inductive Act (crash:Bool) (r:ye) (net:List yg):ye × List yg→Prop
  | tick (draw:Int):Act crash r net (ypp r draw)
  | recv (x:yg) (hx:x∈net):Act crash r net (ygj r x)
  | prop (data:List Int) (hd:data.length≤1000) (h3:r.yv=3):Act crash r net (ydc r data)
  | comp (upto:Int) (snap:List Int) (hs:snap.length≤1000) (hc:yfn r upto=true):Act crash r net (ylf r upto snap,[])
  | fall (hc:crash=true):Act crash r net (yhc r,[])
inductive ypb (crash:Bool) (w:ybb):ybb→Prop
  | less (net:List yg) (h:∀ x∈net,x∈w.Net):ypb crash w ⟨w.R,net⟩
  | act (i:Nat) (r:ye) (p:ye × List yg) (net:List yg) (hi:w.R[i]? = some r) (ha:Act crash r w.Net p) (hn:∀ x∈net,x∈w.Net∨x∈p.2):ypb crash w ⟨w.R.set i p.1,net⟩
structure OkW (B:Int) (n:Nat) (w:ybb):Prop where
  n1:1≤n∧n≤5
  len:w.R.length=n
  mem:∀ (k:Nat) (r:ye),w.R[k]? = some r→OkR B r∧r.Id=(k:Int) + 1∧r.N=(n:Int)
  nl:w.Net.length≤60
  net:∀ x∈w.Net,OkM B x
section
variable {B:Int} {n:Nat} {w:ybb}
theorem OkW.mono{B':Int}(h:OkW B n w)(hb:B≤B'):OkW B' n w:=
  ⟨h.n1,h.len,fun k r hr=>⟨(h.mem k r hr).1.mono hb,(h.mem k r hr).2⟩,h.nl,fun x hx=>(h.net x hx).mono hb⟩
theorem ycdt{r:ye}{net:List yg}{p:ye × List yg}{c:Bool}(h:OkR B r)(hB0:20≤B)(hnet:∀ x∈net,OkM B x)(ha:Act c r net p):ygu (B + 3) r p:=by
  cases ha with
  | tick draw=>exact yaru h (by omega) draw
  | recv x hx=>exact (yaau h (by omega) (hnet x hx)).mono (by omega)
  | prop data hd h3=>exact (yuf h (by omega) h3 hd).mono (by omega)
  | comp upto snap hs hc=>exact (yaah h (by omega) hs hc).mono (by omega)
  | fall hc=>exact (yaav h hB0).mono (by omega)
theorem ydne{i:Nat}{r:ye}{p:ye × List yg}{net:List yg}(h:OkW B n w)(hi:w.R[i]? = some r)(hp:ygu (B + 3) r p)(hl:net.length≤60)(hn:∀ x∈net,OkM (B + 3) x):OkW (B + 3) n ⟨w.R.set i p.1,net⟩:=by
  have hlt:i < w.R.length:=by
    rcases Nat.lt_or_ge i w.R.length with h | h
    ·exact h
    ·rw [List.getElem?_eq_none h] at hi; cases hi
  refine ⟨h.n1,by show (w.R.set i p.1).length=n; rw [List.length_set]; exact h.len,fun k q hq=>?_,hl,hn⟩
  have hq2:(w.R.set i p.1)[k]? = some q:=hq
  by_cases hk:i=k
  ·subst hk
   rw [List.getElem?_set_self hlt] at hq2
   obtain rfl:=Option.some.inj hq2
   obtain ⟨_,m2,m3⟩:=h.mem i r hi
   exact ⟨hp.ok,by rw [hp.id]; exact m2,by rw [hp.n]; exact m3⟩
  ·rw [List.getElem?_set_ne hk] at hq2
   obtain ⟨m1,m2⟩:=h.mem k q hq2
   exact ⟨m1.mono (by omega),m2⟩
theorem yqo{c:Bool}{i:Int}{r:ye}{p:ye × List yg}{v:ybb}(h:OkW B n w)(hB0:20≤B)(hvR:v.R=w.R)(hvN:∀ x∈v.Net,x∈w.Net)(hvl:v.Net.length≤60)(h0:0≤i)(hi:w.R[i.toNat]? = some r)(ha:Act c r w.Net p) :
    zhf v i p.1 p.2=some (setW v i p)∧ypb c w (setW v i p)∧OkW (B + 3) n (setW v i p):=by
  obtain ⟨m1,m2,m3⟩:=h.mem _ r hi
  have hp:=ycdt m1 hB0 h.net ha
  have hlt:i.toNat < w.R.length:=by
    rcases Nat.lt_or_ge i.toNat w.R.length with h | h
    ·exact h
    ·rw [List.getElem?_eq_none h] at hi; cases hi
  have hwl:=h.len; have hn1:=h.n1; have hpl:=hp.len
  have hmem:∀ x∈yre (v.Net++p.2),x∈w.Net∨x∈p.2:=by
    intro x hx
    rcases List.mem_append.1 (ybeg hx) with hx | hx
    ·exact .inl (hvN x hx)
    ·exact .inr hx
  refine ⟨ydnd h0 (by rw [hvR]; exact hlt) (by rw [hvR]; omega) (by omega) (by omega),?_,?_⟩
  ·unfold setW ybi
   rw [hvR]
   exact .act i.toNat r p _ hi ha hmem
  ·unfold setW ybi
   rw [hvR]
   refine ydne h hi hp (ybef _) fun x hx=>?_
   rcases hmem x hx with hx | hx
   ·exact (h.net x hx).mono (by omega)
   ·exact (hp.msg x hx).1
theorem yajf(c:Bool)(h:OkW B n w):ypb c w w∧OkW (B + 3) n w:=⟨.less w.Net fun _ hx=>hx,h.mono (by omega)⟩
theorem ydop(h:OkW B n w)(hB0:20≤B)(hB:B≤100000)(o:TOp)(ho:o.ybq.length≤20):∃ w',zqo w o=some w'∧ypb (decide (o.yar=6)) w w'∧OkW (B + 3) n w':=by
  have hwl:=h.len; have hn1:=h.n1; have hnl:=h.nl
  obtain ⟨p1,p2,p3⟩:=yqi (k:=o.Who) (n:=w.R.length) (by omega) (by omega)
  have hlt:(yey o.Who w.R.length).toNat < w.R.length:=by omega
  obtain ⟨r,hr⟩:∃ r,w.R[(yey o.Who w.R.length).toNat]? = some r:=⟨_,List.getElem?_eq_getElem hlt⟩
  obtain ⟨m1,m2,m3⟩:=h.mem _ r hr
  unfold zqo
  rw [p1,yk,yfb p2,hr,yk]
  have k1:zey w o (yey o.Who w.R.length) r true=zey w o (yey o.Who w.R.length) r true→∃ w',zey w o (yey o.Who w.R.length) r true=some w'∧ypb (decide (o.yar=6)) w w'∧OkW (B + 3) n w':=by
    intro _
    unfold zey
    rw [if_pos rfl]
    by_cases hz:w.Net.length=0
    ·have:(w.Net.length:Int) = 0:=by omega
     rw [decide_eq_true this,if_pos rfl]
     obtain ⟨s1,s2⟩:=yajf (decide (o.yar=6)) h
     exact ⟨w,rfl,s1,s2⟩
    ·have:¬ (w.Net.length:Int) = 0:=by omega
     obtain ⟨q1,q2,q3⟩:=yqi (k:=o.N) (n:=w.Net.length) (by omega) (by omega)
     obtain ⟨k,hk⟩:∃ k:Nat,yey o.N w.Net.length=(k:Int):=⟨(yey o.N w.Net.length).toNat,by omega⟩
     have hkl:k < w.Net.length:=by omega
     rw [decide_eq_false this,if_neg (by simp),q1,yk,hk,ycbu hkl (by omega),yk]
     have hv:=@ybqr w k (decide (o.yar=3)) hkl
     have hvl:=ybqq (keep:=decide (o.yar=3)) (x:=w.Net[k]) hkl
     have hless:ypb (decide (o.yar=6)) w (ymh w k (decide (o.yar=3)) w.Net[k])∧OkW (B + 3) n (ymh w k (decide (o.yar=3)) w.Net[k]):=by
       refine ⟨.less _ fun x hx=>hv hx,?_⟩
       exact ⟨h.n1,h.len,(h.mono (B':=B + 3) (by omega)).mem,by omega,fun x hx=>(h.net x (hv hx)).mono (by omega)⟩
     have k2t:∃ w',zkc (ymh w k (decide (o.yar=3)) w.Net[k],w.Net[k]) true=some w'∧ypb (decide (o.yar=6)) w w'∧OkW (B + 3) n w':=⟨_,rfl,hless.1,hless.2⟩
     simp only
     split
     ·exact k2t
     ·split
      ·exact k2t
      ·rename_i ht1
       have ht1':¬ w.Net[k].To < 1:=by simpa using ht1
       by_cases ht2:(w.R.length:Int) < w.Net[k].To
       ·rw [decide_eq_true ht2]; exact k2t
       ·rw [decide_eq_false ht2]
        unfold zkc
        rw [if_neg (by simp)]
        have hxo:=h.net _ (List.getElem_mem hkl)
        have hlt2:(w.Net[k].To - 1).toNat < w.R.length:=by omega
        obtain ⟨r2,hr2⟩:∃ r2,w.R[(w.Net[k].To - 1).toNat]? = some r2:=⟨_,List.getElem?_eq_getElem hlt2⟩
        obtain ⟨c1,c2,c3⟩:=h.mem _ r2 hr2
        have hlR:(ymh w k (decide (o.yar=3)) w.Net[k]).R=w.R:=rfl
        simp only
        rw [yas (by omega),hlR,yfb (by omega),hr2,yk,yafr c1 (by omega) (by omega) hxo,yk]
        obtain ⟨s1,s2,s3⟩:=yqo (c:=decide (o.yar=6)) (v:=ymh w k (decide (o.yar=3)) w.Net[k]) (i:=w.Net[k].To - 1) h hB0 rfl (fun x hx=>hv hx) (by omega) (by omega) hr2 (.recv _ (List.getElem_mem hkl))
        rw [s1,yk]
        exact ⟨_,rfl,s2,s3⟩
  have k1:=k1 rfl
  by_cases k0:o.yar=0
  ·rw [decide_eq_true k0,if_pos rfl,yaxp m1 (by omega) (by omega),yk]
   obtain ⟨s1,s2,s3⟩:=yqo (c:=decide (o.yar=6)) (v:=w) h hB0 rfl (fun _ hx=>hx) hnl p2 hr (.tick o.N)
   rw [s1,yk]
   exact ⟨_,rfl,s2,s3⟩
  rw [decide_eq_false k0,if_neg (show ¬ (false=true) by simp)]
  by_cases k11:o.yar=1
  ·rw [decide_eq_true k11,if_pos rfl]; exact k1
  rw [decide_eq_false k11,if_neg (show ¬ (false=true) by simp)]
  by_cases k12:o.yar=2
  ·rw [decide_eq_true k12,if_pos rfl]; exact k1
  rw [decide_eq_false k12,if_neg (show ¬ (false=true) by simp)]
  by_cases k13:o.yar=3
  ·rw [decide_eq_true k13]; exact k1
  rw [decide_eq_false k13]
  unfold zey
  rw [if_neg (show ¬ (false=true) by simp)]
  obtain ⟨z1,z2⟩:=yajf (decide (o.yar=6)) h
  by_cases k4:o.yar=4
  ·rw [decide_eq_true k4,if_pos rfl,yvd m1 (by omega) (by omega),yk]
   by_cases h3:r.yv=3
   ·rw [if_pos h3]
    obtain ⟨s1,s2,s3⟩:=yqo (c:=decide (o.yar=6)) (v:=w) h hB0 rfl (fun _ hx=>hx) hnl p2 hr (.prop o.ybq (by omega) h3)
    simp only [ne_eq,not_true_eq_false,decide_false,Bool.false_eq_true,if_false]
    rw [s1,yk]
    exact ⟨_,rfl,by rw [← k4] at *; exact s2,s3⟩
   ·rw [if_neg h3]
    exact ⟨w,by simp,z1,z2⟩
  rw [decide_eq_false k4,if_neg (show ¬ (false=true) by simp)]
  by_cases k5:o.yar=5
  ·obtain ⟨q1,q2,q3⟩:=yqi (k:=o.N) (n:=3) (by omega) (by omega)
   have hc:=m1.commit
   have q1':zdm o.N 3=some (yey o.N 3):=q1
   rw [decide_eq_true k5,if_pos rfl,q1',yk,yas (n:=r.yl - yey o.N 3) (by omega),yuh m1 (by omega) (by omega) (by simp),yk]
   by_cases hcb:yfn r (r.yl - yey o.N 3) = true
   ·rw [if_pos hcb]
    obtain ⟨s1,s2,s3⟩:=yqo (c:=decide (o.yar=6)) (v:=w) h hB0 rfl (fun _ hx=>hx) hnl p2 hr (.comp (r.yl - yey o.N 3) [IntKind.u8.wrap (r.yl - yey o.N 3)] (by simp) hcb)
    simp only [ne_eq,not_true_eq_false,decide_false,Bool.false_eq_true,if_false]
    rw [s1,yk]
    exact ⟨_,rfl,s2,s3⟩
   ·rw [if_neg hcb]
    exact ⟨w,by simp,z1,z2⟩
  rw [decide_eq_false k5,if_neg (show ¬ (false=true) by simp)]
  by_cases k6:o.yar=6
  ·rw [decide_eq_true k6,if_pos rfl]
   rcases yafs m1 (by omega) with he | he
   ·rw [he,yk]
    obtain ⟨s1,s2,s3⟩:=yqo (c:=decide (o.yar=6)) (v:=w) h hB0 rfl (fun _ hx=>hx) hnl p2 hr (.fall (by simp [k6]))
    simp only [ne_eq,not_true_eq_false,decide_false,Bool.false_eq_true,if_false]
    rw [s1,yk]
    exact ⟨_,rfl,by rw [decide_eq_true k6] at s2; exact s2,s3⟩
   ·rw [he,yk]
    rw [decide_eq_true k6] at z1
    exact ⟨w,by simp,z1,z2⟩
  ·rw [decide_eq_false k6,if_neg (show ¬ (false=true) by simp)]
   rw [decide_eq_false k6] at z1
   exact ⟨w,rfl,z1,z2⟩
end
end Go.Proofs.YtgoachcogmlhcaaGreat.R
set_option maxRecDepth 100000
set_option linter.unusedVariables false
set_option linter.unusedSimpArgs false
noncomputable section
namespace Go.Proofs.YtgoachcogmlhcaaGreat.R
open Go
section
variable {B:Int} {l:yz}
theorem ykk(h:OkG B l)(hB:B≤1000000):zcg l=some (yaz l):=by
  have:=h.b; have:=h.last
  unfold zcg yaz
  rw [yas (by omega)]
theorem yacl(h:OkG B l)(k:Nat):ycm l (l.yn + (k:Int) + 1) = (l.Entries[k]?).map yc.Term:=by
  unfold ycm yaz
  rw [if_neg (by omega),show (l.yn + (k:Int) + 1 - l.yn - 1).toNat=k by omega]
  split
  ·rename_i hh
   rw [List.getElem?_eq_none (by omega)]
   rfl
  ·rfl
theorem ybfu(h:OkG B l)(hB:B≤1000000){j:Nat}{e:yc}(hj:l.Entries[j]? = some e):∀ (m k n:Nat),j - k=m→k≤j→m < n→zch l (l.yn + (j:Int) + 1) n (k:Int) = some (e.Term,true):=by
  have h1:=h.last; have h2:=h.b
  have hl:j < l.Entries.length:=by
    rcases Nat.lt_or_ge j l.Entries.length with h | h
    ·exact h
    ·rw [List.getElem?_eq_none h] at hj; cases hj
  intro m
  induction m with
  | zero=>
    intro k n hm hk hn
    obtain ⟨n,rfl⟩:∃ n',n=n' + 1:=⟨n - 1,by omega⟩
    have:k=j:=by omega
    subst this
    rw [zch,zfq,decide_eq_true (by omega),if_pos rfl,yas (n:=l.yn + 1) (by omega),yas (by omega),decide_eq_true (by omega),if_pos rfl,ynq,hj,yk]
  | succ m ih=>
    intro k n hm hk hn
    obtain ⟨n,rfl⟩:∃ n',n=n' + 1:=⟨n - 1,by omega⟩
    rw [zch,zfq,decide_eq_true (by omega),if_pos rfl,yas (n:=l.yn + 1) (by omega),yas (by omega),decide_eq_false (by omega),if_neg (by simp),ycb (by omega)]
    exact ih (k + 1) n (by omega) (by omega) (by omega)
theorem yasu(h:OkG B l)(hB:B≤1000000){i:Int}(hi:∀ k:Nat,k < l.Entries.length→l.yn + (k:Int) + 1≠i):∀ (m k n:Nat),l.Entries.length - k=m→k≤l.Entries.length→m < n→zch l i n (k:Int) = some (0,false):=by
  have h1:=h.last; have h2:=h.b
  intro m
  induction m with
  | zero=>
    intro k n hm hk hn
    obtain ⟨n,rfl⟩:∃ n',n=n' + 1:=⟨n - 1,by omega⟩
    rw [zch,zfq,decide_eq_false (by omega),if_neg (by simp)]
  | succ m ih=>
    intro k n hm hk hn
    obtain ⟨n,rfl⟩:∃ n',n=n' + 1:=⟨n - 1,by omega⟩
    have:=hi k (by omega)
    rw [zch,zfq,decide_eq_true (by omega),if_pos rfl,yas (n:=l.yn + 1) (by omega),yas (by omega),decide_eq_false (by omega),if_neg (by simp),ycb (by omega)]
    exact ih (k + 1) n (by omega) (by omega) (by omega)
theorem yim(h:OkG B l)(hB:B≤1000000)(i:Int):zbs l i=some ((ycm l i).getD 0,(ycm l i).isSome):=by
  have h1:=h.last; have h2:=h.b
  unfold zbs
  by_cases hb:i=l.yn
  ·rw [decide_eq_true hb,if_pos rfl,ycm,if_pos hb]; rfl
  ·rw [decide_eq_false hb,if_neg (by simp)]
   by_cases hin:l.yn < i∧i≤yaz l
   ·have hlt:(i - l.yn - 1).toNat < l.Entries.length:=by unfold yaz at hin; omega
    have he:=List.getElem?_eq_getElem hlt
    have e1:i=l.yn + ((i - l.yn - 1).toNat:Int) + 1:=by omega
    have:=ybfu h hB he _ 0 ((((l.Entries.length:Int)) - 0).toNat + 1) rfl (Nat.zero_le _) (by omega)
    rw [← e1] at this
    have e3:=yacl h (i - l.yn - 1).toNat
    rw [← e1,he] at e3
    rw [e3]
    exact this
   ·have e2:ycm l i=none:=by unfold ycm; rw [if_neg hb,if_pos (by omega)]
    rw [e2]
    unfold yaz at hin
    exact yasu h hB (fun k hk=>by omega) _ 0 ((((l.Entries.length:Int)) - 0).toNat + 1) rfl (Nat.zero_le _) (by omega)
theorem yasq(h:OkG B l)(hB:B≤1000000):zlv l=some (ydh l):=by
  unfold zlv
  rw [ykk h hB,yk,yim h hB,yk]
  rfl
theorem yard(h:OkG B l)(hB:B≤1000000)(term at0:Int):zmq l term at0=some (yov l term at0):=by
  unfold zmq yov
  rw [ykk h hB,yk,yim h hB,yk]
  change (if decide (term≠ydh l) = true then some (decide (ydh l < term)) else some (decide (yaz l≤at0))) = _
  by_cases h1:term=ydh l
  ·rw [decide_eq_false (p:=term≠ydh l) (by simpa using h1),if_neg (by simp)]; simp [h1]
  ·rw [decide_eq_true h1,if_pos rfl,decide_eq_false (p:=term=ydh l) h1]; simp
theorem yare(h:OkG B l)(hB:B≤1000000){s most:Nat}:∀ (m k n:Nat) (out:List yc),l.Entries.length - k=m→k≤l.Entries.length→m < n→out.length≤k →
    zfu l (l.yn + (s:Int) + 1) (most:Int) n (k:Int) out=some (out++(l.Entries.drop (max k s)).take (most - out.length)):=by
  have h1:=h.last; have h2:=h.b
  intro m
  induction m with
  | zero=>
    intro k n out hm hk hn ho
    obtain ⟨n,rfl⟩:∃ n',n=n' + 1:=⟨n - 1,by omega⟩
    rw [zfu,zki,decide_eq_false (by omega),if_neg (by simp)]
    unfold zjv
    rw [if_neg (by simp),List.drop_eq_nil_of_le (by omega)]
    simp
  | succ m ih=>
    intro k n out hm hk hn ho
    obtain ⟨n,rfl⟩:∃ n',n=n' + 1:=⟨n - 1,by omega⟩
    have hlt:k < l.Entries.length:=by omega
    rw [zfu,zki,decide_eq_true (by omega),if_pos rfl]
    unfold zjv
    by_cases hmo:out.length < most
    ·rw [decide_eq_true (by omega),if_pos rfl,yas (n:=l.yn + 1) (by omega),yas (by omega)]
     unfold zmy
     rw [ycb (by omega)]
     by_cases hs:s≤k
     ·rw [decide_eq_true (by omega),if_pos rfl,ydq hlt,yk,if_pos (ybg (by omega)),ih (k + 1) n _ (by omega) (by omega) (by omega) (by simp; omega)]
      rw [show max k s=k by omega,show max (k + 1) s=k + 1 by omega,List.drop_eq_getElem_cons hlt]
      rw [show most - out.length=(most - (out++[l.Entries[k]]).length) + 1 by simp; omega,List.take_succ_cons]
      simp
     ·rw [decide_eq_false (by omega),if_neg (by simp),ih (k + 1) n _ (by omega) (by omega) (by omega) (by omega),show max k s=max (k + 1) s by omega]
    ·rw [decide_eq_false (by omega),if_neg (by simp),show most - out.length=0 by omega]
     simp
theorem yaww(h:OkG B l)(hB:B≤1000000){i:Int}{most:Nat}:zeq l i (most:Int) = some (if i≤l.yn then [] else (l.Entries.drop (i - l.yn - 1).toNat).take most):=by
  have h1:=h.last; have h2:=h.b
  unfold zeq
  by_cases hb:i≤l.yn
  ·rw [decide_eq_true hb,if_pos rfl,if_pos hb]
  ·rw [decide_eq_false hb,if_neg (by simp),if_neg hb]
   have:=yare h hB (s:=(i - l.yn - 1).toNat) (most:=most) _ 0 ((((l.Entries.length:Int)) - 0).toNat + 1) [] rfl (Nat.zero_le _) (by omega) (Nat.zero_le _)
   rw [show l.yn + ((i - l.yn - 1).toNat:Int) + 1=i by omega] at this
   rw [show max 0 (i - l.yn - 1).toNat=(i - l.yn - 1).toNat by omega] at this
   simpa using this
theorem ycax(h:OkG B l)(hB:B≤1000000)(i:Int):zeq l i 8=some (ypj l i):=by
  have:=yaww h hB (i:=i) (most:=8)
  have e:zeq l i 8=_:=this
  rw [e]
  unfold ypj yaz
  by_cases hb:i≤l.yn
  ·rw [if_pos hb,if_pos (.inl hb)]
  ·rw [if_neg hb]
   split
   ·rw [List.drop_eq_nil_of_le (by have:=h.b; omega)]; rfl
   ·rfl
theorem yasp(h:OkG B l)(hB:B≤1000000){i:Int}:∀ (m k n:Nat),l.Entries.length - k=m→k≤l.Entries.length→k≤(i - l.yn).toNat→m < n→zgs l i n (k:Int) (l.Entries.take k) = some (l.Entries.take (i - l.yn).toNat):=by
  have h1:=h.last; have h2:=h.b
  intro m
  induction m with
  | zero=>
    intro k n hm hk hi hn
    obtain ⟨n,rfl⟩:∃ n',n=n' + 1:=⟨n - 1,by omega⟩
    rw [zgs,zls,decide_eq_false (by omega),if_neg (by simp)]
    unfold zlk
    rw [if_neg (by simp),List.take_of_length_le (by omega),List.take_of_length_le (by omega)]
  | succ m ih=>
    intro k n hm hk hi hn
    obtain ⟨n,rfl⟩:∃ n',n=n' + 1:=⟨n - 1,by omega⟩
    have hlt:k < l.Entries.length:=by omega
    rw [zgs,zls,decide_eq_true (by omega),if_pos rfl,yas (n:=l.yn + 1) (by omega),yas (by omega)]
    unfold zlk
    by_cases hc:l.yn + 1 + (k:Int)≤i
    ·rw [decide_eq_true hc,if_pos rfl,ydq hlt,yk,if_pos (ybg (by simp; omega)),ycb (by omega)]
     have e:l.Entries.take k++[l.Entries[k]] = l.Entries.take (k + 1):=by rw [List.take_add_one,List.getElem?_eq_getElem hlt]; rfl
     rw [e]
     exact ih (k + 1) n (by omega) (by omega) (by omega) (by omega)
    ·rw [decide_eq_false hc,if_neg (by simp),show (i - l.yn).toNat=k by omega]
theorem ydmr(h:OkG B l)(hB:B≤1000000)(i:Int):zre l i=some (l.Entries.take (i - l.yn).toNat):=by
  unfold zre
  exact yasp h hB _ 0 ((((l.Entries.length:Int)) - 0).toNat + 1) rfl (Nat.zero_le _) (Nat.zero_le _) (by omega)
theorem yarf(h:OkG B l)(hB:B≤1000000){mine:Int}{ok:Bool}:∀ (k n:Nat),l.yn + (k:Int)≤yaz l→k < n→zdy l (mine,ok) n (l.yn + (k:Int)) = some (yie l mine k):=by
  have h1:=h.last; have h2:=h.b
  intro k
  induction k with
  | zero=>
    intro n hk hn
    obtain ⟨n,rfl⟩:∃ n',n=n' + 1:=⟨n - 1,by omega⟩
    rw [zdy,zhz,decide_eq_false (by omega),if_neg (by simp)]
    unfold zhq yie
    rw [decide_eq_false (by omega),if_neg (by simp)]
    simp
  | succ k ih=>
    intro n hk hn
    obtain ⟨n,rfl⟩:∃ n',n=n' + 1:=⟨n - 1,by omega⟩
    have hlt:k < l.Entries.length:=by unfold yaz at hk; omega
    have et:ycm l (l.yn + ((k + 1:Nat):Int)) = some (l.Entries[k]'hlt).Term:=by
      rw [show l.yn + ((k + 1:Nat):Int) = l.yn + (k:Int) + 1 by omega,yacl h,List.getElem?_eq_getElem hlt]
      rfl
    rw [zdy,zhz,decide_eq_true (by omega),if_pos rfl,yim h hB,yk,yie,et]
    by_cases hm:(l.Entries[k]'hlt).Term=mine
    ·rw [decide_eq_false (by simpa using hm),if_neg (by simp),if_pos (by rw [hm]),yas (by unfold yaz at hk; omega),show l.yn + ((k + 1:Nat):Int) - 1=l.yn + (k:Int) by omega]
     exact ih n (by omega) (by omega)
    ·rw [decide_eq_true (by simpa using hm),if_pos rfl,if_neg (by simpa using hm)]
     unfold zhq
     rw [decide_eq_false (by omega),if_neg (by simp)]
theorem ycnl(h:OkG B l)(hB:B≤1000000){i mine:Int}(ht:ycm l i=some mine):zoa l i=some (ysa l i mine):=by
  have h1:=h.last; have h2:=h.b
  obtain ⟨h3,h4⟩:=ykn ht
  have h5:=yty h hB
  unfold zoa ysa
  rw [yim h hB,yk,ht,yas (by omega)]
  by_cases hb:i=l.yn
  ·have e:(i - 1 - l.yn).toNat=0:=by omega
   rw [e,show (1000000:Nat) = 999999 + 1 from rfl,zdy,zhz,decide_eq_false (by omega),if_neg (by simp)]
   unfold zhq yie
   rw [decide_eq_true (by omega),if_pos rfl]
  ·have:=yarf h hB (mine:=mine) (ok:=true) (i - 1 - l.yn).toNat 1000000 (by omega) (by omega)
   rw [show l.yn + ((i - 1 - l.yn).toNat:Int) = i - 1 by omega] at this
   exact this
theorem yasr(h:OkG B l)(hB:B≤1000000){k0:Nat}{es:List yc}(hk0:(k0:Int)≤1000000)(hes:es.length≤1000):∀ (m i n:Nat),es.length - i=m→i≤es.length→m < n →
    zds l (l.yn + (k0:Int)) es n (i:Int) = some (⟨l.yn,l.yi,yhz l.Entries (k0 + i) (es.drop i)⟩,l.yn + (k0:Int) + (es.length:Int),true):=by
  have h1:=h.last; have h2:=h.b
  intro m
  induction m with
  | zero=>
    intro i n hm hi hn
    obtain ⟨n,rfl⟩:∃ n',n=n' + 1:=⟨n - 1,by omega⟩
    rw [zds,zlr,decide_eq_false (by omega),if_neg (by simp),List.drop_eq_nil_of_le (by omega),yhz]
    unfold zqq
    rw [yas (by omega)]
  | succ m ih=>
    intro i n hm hi hn
    obtain ⟨n,rfl⟩:∃ n',n=n' + 1:=⟨n - 1,by omega⟩
    have hlt:i < es.length:=by omega
    have et:ycm l (l.yn + (k0:Int) + 1 + (i:Int)) = (l.Entries[k0 + i]?).map yc.Term:=by
      rw [show l.yn + (k0:Int) + 1 + (i:Int) = l.yn + ((k0 + i:Nat):Int) + 1 by omega,yacl h]
    have stop:∀ out,out=l.Entries.take (k0 + i)→ziu (zds l (l.yn + (k0:Int)) es n) l (l.yn + (k0:Int)) es (i:Int) false=some (⟨l.yn,l.yi,out++es.drop i⟩,l.yn + (k0:Int) + (es.length:Int),true):=by
      intro out ho
      unfold ziu
      rw [if_neg (by simp),yas (by omega),ydmr h hB,yk,if_pos (ybg (by simp; omega)),yip (by omega) (by omega),yk,show ((i:Int)).toNat=i by omega,if_pos (ybg (by simp; omega)),yas (by omega),show (l.yn + (k0:Int) + (i:Int) - l.yn).toNat=k0 + i by omega,ho]
    rw [zds,zlr,decide_eq_true (by omega),if_pos rfl,yas (n:=l.yn + (k0:Int) + 1) (by omega),yas (by omega),yim h hB,yk,et,List.drop_eq_getElem_cons hlt,yhz]
    cases hx:l.Entries[k0 + i]? with
    | none=>
      have hle:l.Entries.length≤k0 + i:=List.getElem?_eq_none_iff.1 hx
      rw [if_neg (by simp),stop l.Entries (List.take_of_length_le hle).symm,List.drop_eq_getElem_cons hlt]
    | some x=>
      rw [if_pos (by simp),ydq hlt,yk]
      simp only [Option.map_some,Option.getD_some]
      by_cases he:x.Term=es[i].Term
      ·rw [decide_eq_true he,if_pos he]
       unfold ziu
       rw [if_pos rfl,ycb (by omega),ih (i + 1) n (by omega) (by omega) (by omega)]
       rfl
      ·rw [decide_eq_false he,if_neg he,stop _ rfl,List.drop_eq_getElem_cons hlt]
theorem yaje(h:OkG B l)(hB:B≤1000000){at0 term:Int}(ha:l.yn≤at0∧at0≤1000000){es:List yc}(hes:es.length≤1000):zlj l at0 term es=some (ysp l at0 term es):=by
  have h1:=h.last; have h2:=h.b
  unfold zlj ysp
  rw [yim h hB,yk]
  cases hx:ycm l at0 with
  | none=>
    rw [if_neg (by simp),ykk h hB,yk]
  | some mine=>
    rw [if_pos (by simp)]
    change (if decide (mine≠term) = true then (bnd (zoa l at0) fun r0_2=>some (l,r0_2,false)) else zds l at0 es ((((es.length:Int)) - 0).toNat + 1) 0) = _
    by_cases hm:mine=term
    ·rw [decide_eq_false (by simpa using hm),if_neg (by simp)]
     have:=yasr h hB (k0:=(at0 - l.yn).toNat) (es:=es) (by omega) hes _ 0 ((((es.length:Int)) - 0).toNat + 1) rfl (Nat.zero_le _) (by omega)
     rw [show l.yn + ((at0 - l.yn).toNat:Int) = at0 by omega] at this
     simp only [hm,ne_eq,not_true_eq_false,if_false]
     exact this
    ·rw [decide_eq_true (by simpa using hm),if_pos rfl,ycnl h hB hx,yk]
     simp only [ne_eq,hm,not_false_eq_true,if_true]
theorem ydmq(h:OkG B l)(hB:B≤1000000){at0 term:Int}(ha:0≤at0∧at0≤1000000){es:List yc}(hes:es.length≤1000):zpg l at0 term es=some (yku l at0 term es):=by
  have h1:=h.last; have h2:=h.b
  unfold zpg yku
  by_cases hb:at0 < l.yn
  ·rw [decide_eq_true hb,if_pos rfl,if_pos hb,yas (by omega)]
   by_cases hs:(es.length:Int) < l.yn - at0
   ·rw [decide_eq_true hs,if_pos rfl,if_pos hs]
   ·rw [decide_eq_false hs,if_neg (by simp),if_neg hs,yip (by omega) (by omega),yk,yaje h hB (by omega) (by simp; omega)]
  ·rw [decide_eq_false hb,if_neg (by simp),if_neg hb,yaje h hB (by omega) hes]
theorem yaaw(h:OkG B l)(hB:B≤1000000){i:Int}(hi:l.yn≤i∧i≤9000000):zeq l (IntKind.i64.wrap (i + 1)) (l.Entries.length:Int) = some (l.Entries.drop (i - l.yn).toNat):=by
  have h2:=h.b
  rw [yas (by omega),yaww h hB,if_neg (by omega),show (i + 1 - l.yn - 1).toNat=(i - l.yn).toNat by omega,List.take_of_length_le (by simp)]
theorem ybfo(h:OkG B l)(hB:B≤1000000)(i:Int):zmx l i=some (if (ycm l i).isSome then (yjp l i,0) else (⟨0,0,[]⟩,2)):=by
  unfold zmx
  rw [yim h hB,yk]
  have h5:=yty h hB; have h2:=h.b
  cases hx:ycm l i with
  | none=>rfl
  | some t=>
    obtain ⟨h3,h4⟩:=ykn hx
    show bnd (zeq l (IntKind.i64.wrap (i + 1)) (l.Entries.length:Int)) _=_
    rw [yaaw h hB (by omega),yk]
    unfold yjp
    rw [hx]
    rfl
theorem ycay(h:OkG B l)(hB:B≤1000000)(i term:Int):zmr l i term=some (ymn l i term):=by
  unfold zmr ymn
  rw [yim h hB,yk]
  have h5:=yty h hB; have h2:=h.b
  cases hx:ycm l i with
  | none=>
    show zer l i term false=_
    unfold zer
    simp
  | some t=>
    obtain ⟨h3,h4⟩:=ykn hx
    show zer l i term (decide (t=term)) = _
    unfold zer
    by_cases ht:t=term
    ·rw [decide_eq_true ht,if_pos rfl,yaaw h hB (by omega),yk,if_pos (by rw [ht])]
     unfold yjp
     rw [hx,← ht]
     rfl
    ·rw [decide_eq_false ht,if_neg (by simp),if_neg (by simpa using ht)]
end
end Go.Proofs.YtgoachcogmlhcaaGreat.R
set_option maxRecDepth 100000
set_option linter.unusedVariables false
set_option linter.unusedSimpArgs false
noncomputable section
namespace Go.Proofs.YtgoachcogmlhcaaGreat.R
open Go
theorem yasv{l:List Bool}(hl:l.length≤1000):∀ (m k n:Nat),l.length - k=m→k≤l.length→m < n→zgu l n ((yfw (l.take k):Nat):Int) ((k - yfw (l.take k):Nat):Int) (k:Int) = some (yhg l):=by
  intro m
  induction m with
  | zero=>
    intro k n hm hk hn
    obtain ⟨n,rfl⟩:∃ n',n=n' + 1:=⟨n - 1,by omega⟩
    have hc:=yyl l
    rw [zgu,zlt,decide_eq_false (by omega),if_neg (by simp),List.take_of_length_le (by omega)]
    unfold zqr yhg
    congr 1
    rw [decide_eq_decide]
    omega
  | succ m ih=>
    intro k n hm hk hn
    obtain ⟨n,rfl⟩:∃ n',n=n' + 1:=⟨n - 1,by omega⟩
    have hlt:k < l.length:=by omega
    have htake:l.take (k + 1) = l.take k++[l[k]]:=by rw [List.take_succ_eq_append_getElem hlt]
    have hcl:yfw (l.take k)≤k:=by have:=yyl (l.take k); simp at this; omega
    rw [zgu,zlt,decide_eq_true (by omega),if_pos rfl,ydq hlt,yk]
    have hi:=ih (k + 1) n (by omega) (by omega) (by omega)
    rw [htake] at hi
    unfold zoc
    cases hb:l[k] with
    | true=>
      rw [if_pos rfl,ycb (by omega),ycb (by omega)]
      rw [hb] at hi
      have:yfw (l.take k++[true]) = yfw (l.take k) + 1:=by simp [yfw]
      rw [this,show k + 1 - (yfw (l.take k) + 1) = k - yfw (l.take k) by omega] at hi
      exact hi
    | false=>
      rw [if_neg (by simp),ycb (by omega),ycb (by omega)]
      rw [hb] at hi
      have:yfw (l.take k++[false]) = yfw (l.take k):=by simp [yfw]
      rw [this,show k + 1 - yfw (l.take k) = k - yfw (l.take k) + 1 by omega] at hi
      exact hi
theorem ybsh{l:List Bool}(hl:l.length≤1000):zph l=some (yhg l):=by
  have:=yasv hl _ 0 ((((l.length:Int)) - ((0:Int))).toNat + 1) rfl (Nat.zero_le _) (by omega)
  unfold zph
  simpa [yfw] using this
theorem ybsg{n:Nat}(h:n≤1000)(h0:0 < n):zob (n:Int) = some ((n / 2 + 1:Nat):Int):=by
  unfold zob
  have h2:(n:Int).tdiv 2=((n / 2:Nat):Int):=rfl
  have h3:(n:Int).tmod 2=((n % 2:Nat):Int):=rfl
  rw [decide_eq_false (by omega),if_neg (by simp),h3]
  by_cases he:n % 2=0
  ·rw [decide_eq_true (by omega),if_pos rfl,h2,yas (n:=((n / 2:Nat):Int)) (by omega),yas (by omega)]
   rfl
  ·have h4:((n:Int) - 1).tdiv 2=((n / 2:Nat):Int):=by
     rw [show (n:Int) - 1=((n - 1:Nat):Int) by omega]
     have:((n - 1:Nat):Int).tdiv 2=(((n - 1) / 2:Nat):Int):=rfl
     rw [this]
     omega
   rw [decide_eq_false (by omega),if_neg (by simp),yas (n:=(n:Int) - 1) (by omega),h4,yas (n:=((n / 2:Nat):Int)) (by omega),yas (by omega)]
   rfl
def yux(l:List Int)(c:Int):Prop:=l.length < 2 * ygw l c
theorem yast{rec1:Int→Bool→Int→Option Int}{l:List Int}{best:Int}{found:Bool}{i:Nat}(hl:l.length≤1000)(hi:i < l.length):∀ (m k n:Nat),l.length - k=m→k≤l.length→m < n →
    zcj rec1 l best found (i:Int) n ((ygw (l.take k) l[i]:Nat):Int) (k:Int) = zjh rec1 l best found (i:Int) ((ygw l l[i]:Nat):Int):=by
  intro m
  induction m with
  | zero=>
    intro k n hm hk hn
    obtain ⟨n,rfl⟩:∃ n',n=n' + 1:=⟨n - 1,by omega⟩
    rw [zcj,zhs,decide_eq_false (by omega),if_neg (by simp),List.take_of_length_le (by omega)]
  | succ m ih=>
    intro k n hm hk hn
    obtain ⟨n,rfl⟩:∃ n',n=n' + 1:=⟨n - 1,by omega⟩
    have hlt:k < l.length:=by omega
    have htake:l.take (k + 1) = l.take k++[l[k]]:=by rw [List.take_succ_eq_append_getElem hlt]
    have hcl:ygw (l.take k) l[i]≤k:=by
      have:ygw (l.take k) l[i]≤(l.take k).length:=List.countP_le_length
      simp at this
      omega
    have hi2:=ih (k + 1) n (by omega) (by omega) (by omega)
    rw [htake] at hi2
    rw [zcj,zhs,decide_eq_true (by omega),if_pos rfl,ydq hlt,yk,ydq hi,yk]
    unfold zjg
    by_cases hb:l[i]≤l[k]
    ·have:ygw (l.take k++[l[k]]) l[i] = ygw (l.take k) l[i] + 1:=by
       unfold ygw
       rw [List.countP_append,List.countP_singleton,if_pos (by simpa using hb)]
     rw [this] at hi2
     rw [decide_eq_true hb,if_pos rfl,ycb (by omega),ycb (by omega)]
     exact hi2
    ·have:ygw (l.take k++[l[k]]) l[i] = ygw (l.take k) l[i]:=by
       unfold ygw
       rw [List.countP_append,List.countP_singleton,if_neg (by simpa using hb)]
       rfl
     rw [this] at hi2
     rw [decide_eq_false hb,if_neg (by simp),ycb (by omega)]
     exact hi2
theorem yass{l:List Int}(hl:l.length≤1000)(h0:0 < l.length){c:Int}(hc:ynw l c):∀ (m i n:Nat) (best:Int) (found:Bool),l.length - i=m→i≤l.length→m < n →
    (found=false→∀ j x,j < i→l[j]? = some x→¬ yux l x)→(found=true→best∈l∧yux l best∧∀ j x,j < i→l[j]? = some x→yux l x→x≤best) →
    zak l n best found (i:Int) = some c:=by
  intro m
  induction m with
  | zero=>
    intro i n best found hm hi hn h1 h2
    obtain ⟨n,rfl⟩:∃ n',n=n' + 1:=⟨n - 1,by omega⟩
    rw [zak,zhr,decide_eq_false (by omega),if_neg (by simp)]
    obtain ⟨j,hj,hj2⟩:=List.getElem_of_mem hc.mem
    have hj3:l[j]? = some c:=by rw [List.getElem?_eq_getElem hj,hj2]
    cases found with
    | false=>exact absurd hc.maj (h1 rfl j c (by omega) hj3)
    | true=>
      obtain ⟨a1,a2,a3⟩:=h2 rfl
      have:=a3 j c (by omega) hj3 hc.maj
      have:=hc.top best a1 a2
      congr 1
      omega
  | succ m ih=>
    intro i n best found hm hi hn h1 h2
    obtain ⟨n,rfl⟩:∃ n',n=n' + 1:=⟨n - 1,by omega⟩
    have hlt:i < l.length:=by omega
    have hx:l[i]? = some l[i]:=List.getElem?_eq_getElem hlt
    have hcl:ygw l l[i]≤l.length:=List.countP_le_length
    have hin:=yast (rec1:=zak l n) (best:=best) (found:=found) hl hlt _ 0 ((((l.length:Int)) - ((0:Int))).toNat + 1) rfl (Nat.zero_le _) (by omega)
    have hin':zcj (zak l n) l best found (i:Int) ((((l.length:Int)) - ((0:Int))).toNat + 1) 0 0=_:=hin
    rw [zak,zhr,decide_eq_true (by omega),if_pos rfl,hin']
    unfold zjh
    rw [ybsg hl h0,yk]
    have keep:∀ f,f=found→(¬ yux l l[i]∨(found=true∧l[i]≤best))→zci (zak l n) l best (i:Int) f false=some c:=by
      intro f hf hk
      subst hf
      unfold zci zgt
      rw [if_neg (by simp),ycb (by omega)]
      refine ih (i + 1) n best f (by omega) (by omega) (by omega) (fun hf j x hj hx2=>?_) (fun hf=>?_)
      ·rcases Nat.lt_or_ge j i with hji | hji
       ·exact h1 hf j x hji hx2
       ·have:j=i:=by omega
        subst this
        rw [hx] at hx2
        obtain rfl:=Option.some.inj hx2
        rcases hk with hk | ⟨hk,_⟩
        ·exact hk
        ·rw [hf] at hk; cases hk
      ·obtain ⟨a1,a2,a3⟩:=h2 hf
       refine ⟨a1,a2,fun j x hj hx2 hm2=>?_⟩
       rcases Nat.lt_or_ge j i with hji | hji
       ·exact a3 j x hji hx2 hm2
       ·have:j=i:=by omega
        subst this
        rw [hx] at hx2
        obtain rfl:=Option.some.inj hx2
        rcases hk with hk | ⟨_,hk⟩
        ·exact absurd hm2 hk
        ·exact hk
    have take:∀ f,yux l l[i]→(∀ j x,j < i→l[j]? = some x→yux l x→x≤l[i])→zci (zak l n) l best (i:Int) f true=some c:=by
      intro f hm2 hmax
      unfold zci zgt
      rw [if_pos rfl,ydq hlt,yk,ycb (by omega)]
      refine ih (i + 1) n l[i] true (by omega) (by omega) (by omega) (by simp) (fun _=>⟨List.getElem_mem hlt,hm2,fun j x hj hx2 hm3=>?_⟩)
      rcases Nat.lt_or_ge j i with hji | hji
      ·exact hmax j x hji hx2 hm3
      ·have:j=i:=by omega
       subst this
       rw [hx] at hx2
       obtain rfl:=Option.some.inj hx2
       exact Int.le_refl _
    by_cases hmj:yux l l[i]
    ·rw [decide_eq_true (by unfold yux at hmj; omega),if_pos rfl]
     cases found with
     | false=>
       rw [if_neg (by simp)]
       exact take false hmj fun j x hj hx2 hm3=>absurd hm3 (h1 rfl j x hj hx2)
     | true=>
       obtain ⟨a1,a2,a3⟩:=h2 rfl
       rw [if_pos rfl,ydq hlt,yk]
       by_cases hlt2:best < l[i]
       ·rw [decide_eq_true hlt2]
        exact take true hmj fun j x hj hx2 hm3=>by have:=a3 j x hj hx2 hm3; omega
       ·rw [decide_eq_false hlt2]
        exact keep true rfl (.inr ⟨rfl,by omega⟩)
    ·rw [decide_eq_false (by unfold yux at hmj; omega),if_neg (by simp)]
     exact keep found rfl (.inl hmj)
theorem ybfq{l:List Int}(hl:l.length≤12)(h0:0 < l.length):zmz l=some (yer l):=by
  have hc:=(yub hl h0).2
  unfold zmz
  exact yass (by omega) h0 hc _ 0 _ 0 false rfl (Nat.zero_le _) (by omega) (fun _ j x hj=>absurd hj (by omega)) (by simp)
end Go.Proofs.YtgoachcogmlhcaaGreat.R
set_option maxRecDepth 100000
set_option linter.unusedVariables false
set_option linter.unusedSimpArgs false
noncomputable section
namespace Go.Proofs.YtgoachcogmlhcaaGreat.R
open Go
section
variable {B:Int} {r:ye}
theorem yls(t l:Int):zfh r t l=some (yaj r t l):=by
  unfold zfh yaj
  by_cases h:r.Term < t
  ·simp [h]
  ·simp [h]
theorem yafu{l:List Int}{who v:Int}(h1:1≤who)(h2:who≤(l.length:Int))(h3:l.length≤1000):zle l who v=some (ybi l (who - 1) v):=by
  have hlt:(who - 1).toNat < l.length:=by omega
  unfold zle
  rw [if_pos (ybg (by omega)),yas (by omega),yfb (by omega),List.getElem?_eq_getElem hlt,yk]
theorem ybsi{l:List Bool}{who:Int}(h1:1≤who)(h2:who≤(l.length:Int))(h3:l.length≤1000):zpj l who=some (ybi l (who - 1) true):=by
  have hlt:(who - 1).toNat < l.length:=by omega
  unfold zpj
  rw [if_pos (ybg (by omega)),yas (by omega),yfb (by omega),List.getElem?_eq_getElem hlt,yk]
theorem ybsj(h:OkR B r):zpk r.N r.Id=some (ygq r):=by
  have hid:=h.id; have hn:=h.n
  have hlt:(r.Id - 1).toNat < (List.replicate r.N.toNat false).length:=by simp; omega
  unfold zpk
  rw [if_pos (yafa (by omega)),yas (by omega),yfb (by omega),List.getElem?_eq_getElem hlt,yk]
  rfl
theorem yaws(h:OkR B r):yhg (ygq r) = decide (r.N=1):=by
  have hid:=h.id; have hn:=h.n
  have hc:yfw (ygq r) = 1:=by
    unfold ygq ybi yfw
    rw [List.set_eq_take_append_cons_drop,if_pos (by simp; omega)]
    simp [List.countP_replicate]
  unfold yhg
  rw [hc,decide_eq_decide]
  have:(ygq r).length=r.N.toNat:=by unfold ygq; rw [yda]; simp
  omega
theorem yajc(h:OkR B r)(hB:B≤1000000)(h3:r.yv=3):zgy r=some (ycc r).yl:=by
  have hm:=h.ma h3; have hid:=h.id; have hml:=h.ml
  unfold zgy ycc
  rw [ybfq (by omega) (by omega),yk,yim h.log hB,yk]
  unfold zia
  cases ht:ycm r.yj (yer r.yr) with
  | none=>simp
  | some t=>
    simp only [Option.isSome_some,if_true,Option.getD_some]
    by_cases e:t=r.Term
    ·subst e
     by_cases hc:r.yl < yer r.yr
     ·simp [hc]
     ·simp [hc]
    ·simp [e]
theorem yaaf:ycc r = { r with yl:=(ycc r).yl }:=by unfold ycc; split <;> rfl
theorem yaht(h:OkT B r)(hB:B≤1000000){to:Int}(h1:1≤to)(h2:to≤r.N):zjm r to=some (ydm r to):=by
  obtain ⟨e1,e2,e3⟩:=ynp h h1 h2
  have hn:=h.n
  unfold zjm ydm
  rw [yas (by omega),e1,yk]
  by_cases hb:yeb r to≤r.yj.yn
  ·rw [decide_eq_true hb,if_pos rfl,if_pos hb]
  ·rw [decide_eq_false hb,if_neg (by simp),if_neg hb,yas (by omega),yim h.log hB,yk,ycax h.log hB,yk]
theorem yaax{F:Nat→Int→List yg→Option (List yg)}{g:Int→yg}{r:ye}
    (hF:∀ n to out,1≤to→out.length≤100→F (n + 1) to out=if to≤r.N then (if to≠r.Id then F n (IntKind.i64.wrap (to + 1)) (out++[g to]) else F n (IntKind.i64.wrap (to + 1)) out) else some out)
    (hN:r.N≤7):∀ (k n:Nat) (to:Int) (out:List yg),1≤to→to≤9→(r.N - to + 1).toNat=k→k < n→out.length≤50 - k→F n to out=some (out++(yfe r.Id k to).map g):=by
  intro k
  induction k with
  | zero=>
    intro n to out h1 h9 hk hn ho
    obtain ⟨n,rfl⟩:∃ n',n=n' + 1:=⟨n - 1,by omega⟩
    rw [hF _ _ _ h1 (by omega),if_neg (by omega)]
    simp [yfe]
  | succ k ih=>
    intro n to out h1 h9 hk hn ho
    obtain ⟨n,rfl⟩:∃ n',n=n' + 1:=⟨n - 1,by omega⟩
    rw [hF _ _ _ h1 (by omega),if_pos (by omega),yas (by omega)]
    by_cases hid:to=r.Id
    ·rw [if_neg (by simpa using hid),ih n (to + 1) out (by omega) (by omega) (by omega) (by omega) (by omega)]
     simp [yfe,hid]
    ·rw [if_pos hid,ih n (to + 1) _ (by omega) (by omega) (by omega) (by omega) (by simp; omega)]
     simp [yfe,hid]
theorem yafv(h:OkT B r)(hB:B≤1000000):zhv r=some ((ydr r).map (ydm r)):=by
  have hn:=h.n; have hn0:=h.n0
  have hF:∀ n to (out:List yg),1≤to→out.length≤100→zcl r (n + 1) to out=if to≤r.N then (if to≠r.Id then zcl r n (IntKind.i64.wrap (to + 1)) (out++[ydm r to]) else zcl r n (IntKind.i64.wrap (to + 1)) out) else some out:=by
    intro n to out h1 ho
    rw [zcl,zky]
    unfold zjn
    by_cases hle:to≤r.N
    ·rw [decide_eq_true hle,if_pos rfl,if_pos hle]
     by_cases hid:to=r.Id
     ·rw [decide_eq_false (by simpa using hid),if_neg (by simp),if_neg (by simpa using hid)]
     ·rw [decide_eq_true hid,if_pos rfl,if_pos hid,yaht h hB h1 hle,yk,if_pos (ybg (by omega))]
    ·rw [decide_eq_false hle,if_neg (by simp),if_neg hle]
  have:=yaax hF hn (r.N - 1 + 1).toNat ((r.N - 1 + 1).toNat + 1) 1 [] (by omega) (by omega) rfl (by omega) (by simp)
  unfold zhv
  rw [this,show (r.N - 1 + 1).toNat=r.N.toNat by omega]
  rfl
theorem yajd(hn0:0≤r.N)(hn:r.N≤7)(hl:OkG B r.yj)(hB:B≤1000000)(kind term:Int):zha r kind term=some ((ydr r).map fun to=>⟨kind,0,r.Id,to,term,yaz r.yj,ydh r.yj,0,false,[],[]⟩):=by
  have hF:∀ n to (out:List yg),1≤to→out.length≤100→zcr r kind term (n + 1) to out=if to≤r.N then (if to≠r.Id then zcr r kind term n (IntKind.i64.wrap (to + 1)) (out++[⟨kind,0,r.Id,to,term,yaz r.yj,ydh r.yj,0,false,[],[]⟩]) else zcr r kind term n (IntKind.i64.wrap (to + 1)) out) else some out:=by
    intro n to out h1 ho
    rw [zcr,zmc]
    unfold zkl
    by_cases hle:to≤r.N
    ·rw [decide_eq_true hle,if_pos rfl,if_pos hle]
     by_cases hid:to=r.Id
     ·rw [decide_eq_false (by simpa using hid),if_neg (by simp),if_neg (by simpa using hid)]
     ·rw [decide_eq_true hid,if_pos rfl,if_pos hid,ykk hl hB,yk,yasq hl hB,yk,if_pos (ybg (by omega))]
    ·rw [decide_eq_false hle,if_neg (by simp),if_neg hle]
  have:=yaax (g:=fun to=>⟨kind,0,r.Id,to,term,yaz r.yj,ydh r.yj,0,false,[],[]⟩) hF hn (r.N - 1 + 1).toNat ((r.N - 1 + 1).toNat + 1) 1 [] (by omega) (by omega) rfl (by omega) (by simp)
  unfold zha
  rw [this,show (r.N - 1 + 1).toNat=r.N.toNat by omega]
  rfl
theorem yajb(h:OkR B r)(hB:B + 1≤1000000)(h3:r.yv=3){data:List Int}(hd:data.length≤1000):ziv r data=some (ydc r data):=by
  have hlen:=h.log.len (by omega)
  have hid:=h.id; have hma:=h.ma h3; have hml:=h.ml; have hlb:=h.log.b; have hla:=h.log.last
  have hb:=yoq h h3 hd
  have hr3:(yeo r data).yv=3:=h3
  have hc:=yajc hb hB hr3
  have ht:=yafv (r:=ycc (yeo r data)) ((yor hb hr3).tell (by rw [yih]; exact hr3)) hB
  have e1:yaz ⟨r.yj.yn,r.yj.yi,r.yj.Entries++[⟨r.Term,data⟩]⟩ = yaz r.yj + 1:=by unfold yaz; simp; omega
  have hl:zcg ⟨r.yj.yn,r.yj.yi,r.yj.Entries++[⟨r.Term,data⟩]⟩ = some (yaz r.yj + 1):=by
    have:=ykk (l:=(yeo r data).yj) hb.log hB
    rw [← e1]
    exact this
  unfold ziv
  rw [if_pos (ybg (by omega)),if_pos (ybg (by omega)),hl,yk,yafu (by omega) (by omega) (by omega),yk]
  have hc':zgy (ye.mk r.Id r.N r.Term r.yac r.yv r.yaf (yz.mk r.yj.yn r.yj.yi (r.yj.Entries++[(yc.mk r.Term data)])) r.yl r.yy r.ym r.Next (ybi r.yr (r.Id - 1) (yaz r.yj + 1)) r.yu r.yae) = some (ycc (yeo r data)).yl:=hc
  rw [hc',yk]
  have e2:(ye.mk r.Id r.N r.Term r.yac r.yv r.yaf (yz.mk r.yj.yn r.yj.yi (r.yj.Entries++[(yc.mk r.Term data)])) (ycc (yeo r data)).yl r.yy r.ym r.Next (ybi r.yr (r.Id - 1) (yaz r.yj + 1)) r.yu r.yae) = ycc (yeo r data):=(yaaf (r:=yeo r data)).symm
  rw [e2,ht,yk]
  unfold ydc
  rw [ysy]
theorem yarg{r q:ye}(hl:OkG B r.yj)(hB:B + 1≤1000000)(hn:0≤r.N∧r.N≤7):∀ (m k n:Nat),r.N.toNat - k=m→k≤r.N.toNat→m < n →
    zea r q n (k:Int) (List.replicate k (yaz r.yj + 1)) (List.replicate k 0) = zni q (List.replicate r.N.toNat (yaz r.yj + 1)) (List.replicate r.N.toNat 0):=by
  have hla:=hl.last; have hlb:=hl.b
  intro m
  induction m with
  | zero=>
    intro k n hm hk hn2
    obtain ⟨n,rfl⟩:∃ n',n=n' + 1:=⟨n - 1,by omega⟩
    have:k=r.N.toNat:=by omega
    subst this
    rw [zea,zkk,decide_eq_false (by omega),if_neg (by simp)]
  | succ m ih=>
    intro k n hm hk hn2
    obtain ⟨n,rfl⟩:∃ n',n=n' + 1:=⟨n - 1,by omega⟩
    have hw:IntKind.i64.wrap (yaz r.yj + 1) = yaz r.yj + 1:=yas (by unfold yaz; omega)
    rw [zea,zkk,decide_eq_true (by omega),if_pos rfl,ykk hl (by omega),yk,if_pos (ybg (by simp; omega)),if_pos (ybg (by simp; omega)),ycb (by omega),hw,← List.replicate_succ',← List.replicate_succ']
    exact ih (k + 1) n (by omega) (by omega) (by omega)
theorem yawx(h:OkR B r)(hB0:0≤B)(hB:B + 1≤1000000):zjl r=some (yki r):=by
  have hid:=h.id; have hn:=h.n
  have:=yarg (q:=yaj r r.Term r.Id) h.log hB (by omega) _ 0 (((r.N) - ((0:Int))).toNat + 1) rfl (Nat.zero_le _) (by omega)
  have h2:zea r (yaj r r.Term r.Id) (((r.N) - ((0:Int))).toNat + 1) 0 [] [] = _:=this
  unfold zjl
  rw [yls,yk,h2]
  unfold zni
  have hb:=yajb (data:=[]) (yabo h hB0) hB rfl (by simp)
  have hb':ziv (ye.mk (yaj r r.Term r.Id).Id (yaj r r.Term r.Id).N (yaj r r.Term r.Id).Term (yaj r r.Term r.Id).yac 3 (yaj r r.Term r.Id).yaf (yaj r r.Term r.Id).yj (yaj r r.Term r.Id).yl (yaj r r.Term r.Id).yy [] (List.replicate r.N.toNat (yaz r.yj + 1)) (List.replicate r.N.toNat 0) 0 (yaj r r.Term r.Id).yae) [] = some (ydc (yus r) []):=hb
  rw [hb',yk]
  rfl
theorem yarh(h:OkR B r)(hB0:0≤B)(hB:B + 2≤1000000):zie r=some (yht r):=by
  have hid:=h.id; have hn:=h.n; have ht:=h.term
  have hq:=yxw h hB0
  unfold zie yht
  rw [yas (by omega),yls,yk,ybsj h,yk,yaws h]
  by_cases h1:r.N=1
  ·rw [decide_eq_true h1,if_pos rfl,if_pos rfl]
   have:=yawx hq (by omega) (by omega)
   have e:zjl (ye.mk (yaj r (r.Term + 1) 0).Id (yaj r (r.Term + 1) 0).N (yaj r (r.Term + 1) 0).Term r.Id 2 (yaj r (r.Term + 1) 0).yaf (yaj r (r.Term + 1) 0).yj (yaj r (r.Term + 1) 0).yl (yaj r (r.Term + 1) 0).yy (ygq r) [] [] 0 (yaj r (r.Term + 1) 0).yae) = some (yki (yin r)):=this
   rw [e,yk]
  ·rw [decide_eq_false h1,if_neg (by simp),if_neg (by simp)]
   have:=yajd (r:=yin r) (by show 0≤r.N; omega) (by show r.N≤7; omega) hq.log (by omega) 3 (yin r).Term
   have e:zha (ye.mk (yaj r (r.Term + 1) 0).Id (yaj r (r.Term + 1) 0).N (yaj r (r.Term + 1) 0).Term r.Id 2 (yaj r (r.Term + 1) 0).yaf (yaj r (r.Term + 1) 0).yj (yaj r (r.Term + 1) 0).yl (yaj r (r.Term + 1) 0).yy (ygq r) [] [] 0 (yaj r (r.Term + 1) 0).yae) 3 (yaj r (r.Term + 1) 0).Term=_:=this
   rw [e,yk]
   rfl
theorem ydmp(h:OkR B r)(hB0:0≤B)(hB:B + 2≤1000000)(draw:Int):zpi r draw=some (yow r draw):=by
  have hid:=h.id; have hn:=h.n; have ht:=h.term
  have hq:=yagk h hB0 draw
  have hw:IntKind.i64.wrap ((10:Int) + (IntKind.i64.wrap ((IntKind.u64.wrap draw).tmod (10:Int)))) = yms draw:=by
    have:=yaxt draw
    unfold zpf at this
    exact Option.some.inj this
  unfold zpi yow
  rw [yls,yk,ybsj h,yk,yaws h,hw]
  by_cases h1:r.N=1
  ·rw [decide_eq_true h1,if_pos rfl,if_pos rfl]
   have:=yarh hq (by omega) (by omega)
   have e:zie (ye.mk (yaj r r.Term 0).Id (yaj r r.Term 0).N (yaj r r.Term 0).Term (yaj r r.Term 0).yac 1 (yaj r r.Term 0).yaf (yaj r r.Term 0).yj (yaj r r.Term 0).yl (yaj r r.Term 0).yy (ygq r) [] [] 0 (yms draw)) = some (yht (ymx r draw)):=this
   rw [e,yk]
  ·rw [decide_eq_false h1,if_neg (by simp),if_neg (by simp)]
   have hf:(yaj r r.Term 0).Term=r.Term:=by simp [yaj]
   have:=yajd (r:=ymx r draw) (by show 0≤r.N; omega) (by show r.N≤7; omega) hq.log (by omega) 1 ((ymx r draw).Term + 1)
   have e:zha (ye.mk (yaj r r.Term 0).Id (yaj r r.Term 0).N (yaj r r.Term 0).Term (yaj r r.Term 0).yac 1 (yaj r r.Term 0).yaf (yaj r r.Term 0).yj (yaj r r.Term 0).yl (yaj r r.Term 0).yy (ygq r) [] [] 0 (yms draw)) 1 ((yaj r r.Term 0).Term + 1) = _:=this
   rw [yas (by rw [hf]; omega),e,yk]
   rfl
theorem ycnk(h:OkR B r)(hB0:0≤B)(hB:B + 3≤1000000)(draw:Int):zqe r draw=some (ypp r draw):=by
  have hc:=h.clock
  have hq:=yacm h
  unfold zqe ypp
  rw [yas (by omega)]
  by_cases h3:r.yv=3
  ·rw [decide_eq_false (by simpa using h3),if_neg (by simp)]
   simp only
   rw [if_pos h3]
   by_cases h2:2≤r.yu + 1
   ·rw [decide_eq_false (by omega),if_neg (by simp),if_pos h2]
    have:=yafv (r:={ r with yu:=0 }) ((yacn h hB0).tell h3) (by omega)
    have e:zhv (ye.mk r.Id r.N r.Term r.yac r.yv r.yaf r.yj r.yl r.yy r.ym r.Next r.yr 0 r.yae) = _:=this
    rw [e,yk]
    rfl
   ·rw [decide_eq_true (by omega),if_pos rfl,if_neg h2]
  ·rw [decide_eq_true h3,if_pos rfl]
   simp only
   rw [if_neg h3]
   by_cases hw:r.yae≤r.yu + 1
   ·rw [decide_eq_true hw,if_pos rfl,if_pos hw]
    have:=ydmp hq (by omega) (by omega) draw
    have e:zpi (ye.mk r.Id r.N r.Term r.yac r.yv r.yaf r.yj r.yl r.yy r.ym r.Next r.yr (r.yu + 1) r.yae) draw=_:=this
    rw [e,yk]
   ·rw [decide_eq_false hw,if_neg (by simp),if_neg hw]
end
end Go.Proofs.YtgoachcogmlhcaaGreat.R
set_option maxRecDepth 100000
set_option linter.unusedVariables false
set_option linter.unusedSimpArgs false
noncomputable section
namespace Go.Proofs.YtgoachcogmlhcaaGreat.R
open Go
section
variable {B:Int} {r:ye} {x:yg}
theorem yhl(kind term at0:Int)(ok:Bool):zev r x kind term at0 ok=some [yfl r x kind term at0 ok]:=rfl
theorem ycba(h:OkR B r)(hB:B≤1000000):zoz r x=some (ykx r x):=by
  have k2:∀ v,v=yqp r x→zgk r x v=some (ykx r x):=by
    intro v hv
    unfold zgk ykx
    cases v with
    | true=>rw [if_pos rfl,yhl,yk,← hv]; rfl
    | false=>rw [if_neg (by simp),yhl,yk,← hv]; rfl
  have k1:∀ v,v = !yoc r→zgj r x v=some (ykx r x):=by
    intro v hv
    unfold zgj
    by_cases h1:r.Term < x.Term
    ·rw [decide_eq_true h1,if_pos rfl]
     cases v with
     | true=>
       rw [if_pos rfl]
       refine k2 _ ?_
       have:yoc r=false:=by cases hf:yoc r <;> simp_all
       simp [yqp,this]
     | false=>
       rw [if_neg (by simp),yard h.log hB,yk]
       refine k2 _ ?_
       have:yoc r=true:=by cases hf:yoc r <;> simp_all
       simp [yqp,this,h1]
    ·rw [decide_eq_false h1,if_neg (by simp)]
     exact k2 _ (by simp [yqp,h1])
  unfold zoz
  by_cases h3:r.yv=3
  ·rw [decide_eq_true h3,if_pos rfl]
   exact k1 _ (by simp [yoc,h3])
  ·rw [decide_eq_false h3,if_neg (by simp)]
   by_cases h4:r.yaf=0
   ·rw [decide_eq_false (by simpa using h4),if_neg (by simp)]
    exact k1 _ (by simp [yoc,h3,h4])
   ·rw [decide_eq_true h4,if_pos rfl]
    refine k1 _ ?_
    by_cases h5:r.yu < 10
    ·simp [yoc,h3,h4,h5]
    ·have:10≤r.yu:=by omega
     simp [yoc,h3,h4,h5,this]
theorem ycno(h:OkR B r)(hB:B≤1000000):zqg r x=some (yjm r x):=by
  have k2:∀ v,v = !yig r x→zfx r x v=some (yjm r x):=by
    intro v hv
    unfold zfx yjm
    cases v with
    | true=>
      have:yig r x=false:=by cases hf:yig r x <;> simp_all
      rw [if_pos rfl,yhl,yk,this]; rfl
    | false=>
      have:yig r x=true:=by cases hf:yig r x <;> simp_all
      rw [if_neg (by simp),yhl,yk,this]; rfl
  have k1:∀ v,v=(decide (r.yac=0) || decide (r.yac=x.From))→zkb r x v=some (yjm r x):=by
    intro v hv
    unfold zkb
    by_cases h1:x.Term=r.Term
    ·rw [decide_eq_false (by simpa using h1),if_neg (by simp)]
     by_cases h2:r.yv=0
     ·rw [decide_eq_false (by simpa using h2),if_neg (by simp)]
      cases v with
      | true=>
        rw [if_pos rfl,yard h.log hB,yk]
        exact k2 _ (by unfold yig; rw [← hv,decide_eq_true h1,decide_eq_true h2]; simp)
      | false=>
        rw [if_neg (by simp)]
        exact k2 _ (by unfold yig; rw [← hv]; simp)
     ·rw [decide_eq_true h2,if_pos rfl]
      exact k2 _ (by simp [yig,h2])
    ·rw [decide_eq_true h1,if_pos rfl]
     exact k2 _ (by simp [yig,h1])
  unfold zqg
  by_cases h3:r.yac=0
  ·rw [decide_eq_true h3,if_pos rfl]
   exact k1 _ (by simp [h3])
  ·rw [decide_eq_false h3,if_neg (by simp)]
   exact k1 _ (by simp [h3])
theorem ycaz(h:OkR B r)(hB0:0≤B)(hB:B + 2≤1000000)(h1:1≤x.From)(h2:x.From≤r.N)(hk:x.yar=2)(hok:x.Ok=true):zhu r x=some (yoo r x):=by
  have ht:=h.term; have hgl:=h.gl
  have k2:∀ q,r.yv=1∨x.yar=2→zex r x q=some ({ r with ym:=q },[]):=by
    intro q _
    unfold zex zck zgz
    rw [decide_eq_false (p:=x.yar=4) (by omega)]
    split <;> simp
  have kf:zbk r x false=some (r,[]):=by
    unfold zbk
    rw [if_neg (by simp),k2 _ (.inr hk)]
  unfold zhu yoo
  by_cases h3:r.yv=1
  ·have hga:=h.ga (.inl h3)
   rw [decide_eq_true h3,if_pos rfl,decide_eq_true hk,if_pos rfl,yas (by omega)]
   by_cases h4:x.Term=r.Term + 1
   ·rw [decide_eq_true h4,if_pos ⟨hok,h3,h4⟩]
    unfold zbk
    have hg:(ybi r.ym (x.From - 1) true).length=r.ym.length:=by simp [ybi]
    rw [if_pos rfl,ybsi h1 (by omega) (by omega),yk,ybsh (by rw [hg]; omega),yk]
    have e:(ybc r x).ym=ybi r.ym (x.From - 1) true:=rfl
    rw [e]
    cases hw:yhg (ybi r.ym (x.From - 1) true) with
    | true=>
      have:=yarh (ykg h true (x:=x)) hB0 hB
      have e2:zie (ye.mk r.Id r.N r.Term r.yac r.yv r.yaf r.yj r.yl r.yy (ybi r.ym (x.From - 1) true) r.Next r.yr r.yu r.yae) = some (yht (ybc r x)):=this
      rw [if_pos rfl,if_pos rfl,e2,yk]
    | false=>
      rw [if_neg (by simp),if_neg (by simp),k2 _ (.inl h3)]
      rfl
   ·rw [decide_eq_false h4,if_neg (fun hh=>h4 hh.2.2),kf]
  ·rw [decide_eq_false h3,if_neg (by simp),if_neg (fun hh=>h3 hh.2.1),kf]
theorem ybsk(h:OkR B r)(hB0:0≤B)(hB:B + 2≤1000000)(h1:1≤x.From)(h2:x.From≤r.N)(hk:x.yar=4)(hok:x.Ok=true):zhu r x=some (ykp r x):=by
  have ht:=h.term; have hgl:=h.gl
  have k1:zbk r x false=some (ykp r x):=by
    unfold zbk zex ykp
    have k3f:zck r x r.ym false=some (r,[]):=by
      unfold zck zgz
      rw [if_neg (by simp)]
    rw [if_neg (by simp)]
    by_cases h3:r.yv=2
    ·have hga:=h.ga (.inr h3)
     rw [decide_eq_true h3,if_pos rfl,decide_eq_true hk,if_pos rfl]
     by_cases h4:x.Term=r.Term
     ·rw [decide_eq_true h4,if_pos ⟨hok,h3,h4⟩]
      unfold zck
      have hg:(ybi r.ym (x.From - 1) true).length=r.ym.length:=by simp [ybi]
      rw [if_pos rfl,ybsi h1 (by omega) (by omega),yk,ybsh (by rw [hg]; omega),yk]
      have e:(ybc r x).ym=ybi r.ym (x.From - 1) true:=rfl
      rw [e]
      cases hw:yhg (ybi r.ym (x.From - 1) true) with
      | true=>
        have:=yawx (ykg h true (x:=x)) hB0 (by omega)
        have e2:zjl (ye.mk r.Id r.N r.Term r.yac r.yv r.yaf r.yj r.yl r.yy (ybi r.ym (x.From - 1) true) r.Next r.yr r.yu r.yae) = some (yki (ybc r x)):=this
        rw [if_pos rfl,if_pos rfl,e2,yk]
      | false=>
        rw [if_neg (by simp),if_neg (by simp)]
        rfl
     ·rw [decide_eq_false h4,if_neg (fun hh=>h4 hh.2.2),k3f]
    ·rw [decide_eq_false h3,if_neg (by simp),if_neg (fun hh=>h3 hh.2.1),k3f]
  unfold zhu
  rw [decide_eq_false (p:=x.yar=2) (by omega)]
  split
  ·exact k1
  ·exact k1
theorem ybft(h:OkR B r)(hB:B≤1000000)(hx:OkM B x)(hk:x.yar=5):zlu r x=some (ygg r x):=by
  have hxe:=hx.el; have hxa:=hx.at0
  have kt:yic r x=true→zbq r x true=some (ygg r x):=by
    intro hd
    unfold zbq ygg
    rw [if_pos rfl,yhl,yk,if_pos hd]
  have kf:yic r x=false→zbq r x false=some (ygg r x):=by
    intro hd
    unfold zbq ygg
    rw [if_neg (by simp),yls,yk,decide_eq_false (p:=x.yar=7) (by omega),if_neg (by simp),hd,if_neg (by simp)]
    have hp:=ydmq h.log hB (at0:=x.At) (term:=x.ybd) (es:=x.Entries) (by omega) (by omega)
    have hp':zpg (yaj r x.Term x.From).yj x.At x.ybd x.Entries=some (yku r.yj x.At x.ybd x.Entries):=hp
    rw [hp',yk]
    simp only
    generalize hP:yku r.yj x.At x.ybd x.Entries=P
    obtain ⟨l,m,ok⟩:=P
    cases ok with
    | true=>
      simp only [if_true]
      unfold zng znh
      have hc:(yaj r x.Term x.From).yl=r.yl:=rfl
      by_cases h1:m < x.yl
      ·rw [decide_eq_true h1,if_pos rfl,hc,show yhf x.yl m=m by unfold yhf; rw [if_pos h1]]
       by_cases h2:r.yl < m
       ·rw [decide_eq_true h2,if_pos rfl,yhl,yk,show ygo r.yl m=m by unfold ygo; rw [if_pos h2]]
        rfl
       ·rw [decide_eq_false h2,if_neg (by simp),yhl,yk,show ygo r.yl m=r.yl by unfold ygo; rw [if_neg h2]]
        rfl
      ·rw [decide_eq_false h1,if_neg (by simp),hc,show yhf x.yl m=x.yl by unfold yhf; rw [if_neg h1]]
       by_cases h2:r.yl < x.yl
       ·rw [decide_eq_true h2,if_pos rfl,yhl,yk,show ygo r.yl x.yl=x.yl by unfold ygo; rw [if_pos h2]]
        rfl
       ·rw [decide_eq_false h2,if_neg (by simp),yhl,yk,show ygo r.yl x.yl=r.yl by unfold ygo; rw [if_neg h2]]
        rfl
    | false=>
      simp only [Bool.false_eq_true,if_false]
      rw [yhl,yk]
      rfl
  unfold zlu
  by_cases h1:x.Term < r.Term
  ·rw [decide_eq_true h1,if_pos rfl]
   exact kt (by simp [yic,h1])
  ·rw [decide_eq_false h1,if_neg (by simp)]
   by_cases h2:r.yv=3
   ·rw [decide_eq_true h2]
    exact kt (by simp [yic,h2])
   ·rw [decide_eq_false h2]
    exact kf (by simp [yic,h1,h2])
theorem ycnm(h:OkR B r)(hB:B≤1000000)(hx:OkM B x)(hk:x.yar=7):zlu r x=some (ykm r x):=by
  have kt:yic r x=true→zbq r x true=some (ykm r x):=by
    intro hd
    unfold zbq ykm
    rw [if_pos rfl,yhl,yk,if_pos hd]
  have kf:yic r x=false→zbq r x false=some (ykm r x):=by
    intro hd
    unfold zbq ykm
    rw [if_neg (by simp),yls,yk,decide_eq_true hk,if_pos rfl,hd,if_neg (show ¬ (false=true) by simp)]
    have hc:(yaj r x.Term x.From).yl=r.yl:=rfl
    unfold znf
    simp only
    by_cases h1:r.yl < x.At
    ·have hp:=ycay h.log hB x.At x.ybd
     have hp':zmr (yaj r x.Term x.From).yj x.At x.ybd=some (ymn r.yj x.At x.ybd):=hp
     rw [hc,decide_eq_true h1,if_pos rfl,if_pos h1,hp',yk,yhl,yk]
     rfl
    ·rw [hc,decide_eq_false h1,if_neg (by simp),if_neg h1,yhl,yk]
     rfl
  unfold zlu
  by_cases h1:x.Term < r.Term
  ·rw [decide_eq_true h1,if_pos rfl]
   exact kt (by simp [yic,h1])
  ·rw [decide_eq_false h1,if_neg (by simp)]
   by_cases h2:r.yv=3
   ·rw [decide_eq_true h2]
    exact kt (by simp [yic,h2])
   ·rw [decide_eq_false h2]
    exact kf (by simp [yic,h1,h2])
theorem ycnn(h:OkR B r)(hB:B≤1000000)(hx:OkM B x)(h1:1≤x.From)(h2:x.From≤r.N):zqf r x=some (yhw r x):=by
  have hx1:=hx.at0; have hn:=h.n
  have kt:x.Term < r.Term∨r.yv≠3→zfw r x true=some (yhw r x):=by
    intro hd
    unfold zfw yhw
    rw [if_pos rfl,if_pos hd]
  have kf:¬ (x.Term < r.Term∨r.yv≠3)→zfw r x false=some (yhw r x):=by
    intro hd
    have h3:r.yv=3:=Classical.byContradiction fun hh=>hd (.inr hh)
    obtain ⟨a1,a2,a3⟩:=ynp (h.tell h3) h1 h2
    obtain ⟨b1,b2,b3⟩:=yuy h h3 h1 h2
    have c1:=yzx h h3 hx h1 h2
    have c2:=yaxr h h3 hx h1 h2
    have c3:=yaxq h h3 hx h1 h2
    have hnl:=h.na h3; have hml:=h.ma h3; have hn7:=h.nl; have hm7:=h.ml
    unfold zfw yhw
    rw [if_neg (by simp),if_neg hd,yas (n:=x.From - 1) (by omega),b1,yk,a1,yk,ykk h.log hB,yk]
    cases hok:x.Ok with
    | true=>
      simp only [if_true]
      have k6:∀ m nx,m=yhv r x→nx=ygy r x→zka r x (yaz r.yj) m nx=some (if yaz r.yj < ygy r x then (ycj r x,[]) else (ycj r x,[ydm (ycj r x) x.From])):=by
        intro m nx em en
        subst em en
        unfold zka
        have hcm:=yajc (yaco h h3 hx h1 h2) hB h3
        have e1:zgy (ye.mk r.Id r.N r.Term r.yac r.yv r.yaf r.yj r.yl r.yy r.ym (ybi r.Next (x.From - 1) (ygy r x)) (ybi r.yr (x.From - 1) (yhv r x)) r.yu r.yae) = some (ycj r x).yl:=hcm
        have e2:(ye.mk r.Id r.N r.Term r.yac r.yv r.yaf r.yj (ycj r x).yl r.yy r.ym (ybi r.Next (x.From - 1) (ygy r x)) (ybi r.yr (x.From - 1) (yhv r x)) r.yu r.yae) = ycj r x:=(yaaf (r:={ r with Next:=ybi r.Next (x.From - 1) (ygy r x),yr:=ybi r.yr (x.From - 1) (yhv r x) })).symm
        have hr3:(ycj r x).yv=3:=by unfold ycj; rw [yih]; exact h3
        have hnN:(ycj r x).N=r.N:=by unfold ycj; rw [yll]
        rw [yafu h1 (by omega) (by omega),yk,yafu h1 (by omega) (by omega),yk,e1,yk,e2]
        by_cases hl:yaz r.yj < ygy r x
        ·rw [decide_eq_true hl,if_pos rfl,if_pos hl]
        ·rw [decide_eq_false hl,if_neg (by simp),if_neg hl,yaht ((yacq h h3 hx h1 h2).tell hr3) hB h1 (by rw [hnN]; exact h2),yk]
      have k5:∀ m,m=yhv r x→zjz r x (yeb r x.From) (yaz r.yj) m=some (if yaz r.yj < ygy r x then (ycj r x,[]) else (ycj r x,[ydm (ycj r x) x.From])):=by
        intro m em
        unfold zjz
        by_cases hle:yeb r x.From≤m
        ·rw [decide_eq_true hle,if_pos rfl,yas (by omega)]
         exact k6 _ _ em (by unfold ygy ygo; rw [← em,if_pos (by omega)])
        ·rw [decide_eq_false hle,if_neg (by simp)]
         exact k6 _ _ em (by unfold ygy ygo; rw [← em,if_neg (by omega)])
      have k4:∀ far,far=yhf x.At (yaz r.yj)→zjy r x (yhp r x.From) (yeb r x.From) (yaz r.yj) far=some (if yaz r.yj < ygy r x then (ycj r x,[]) else (ycj r x,[ydm (ycj r x) x.From])):=by
        intro far ef
        unfold zjy
        by_cases hle:yhp r x.From < far
        ·rw [decide_eq_true hle,if_pos rfl]
         exact k5 _ (by unfold yhv ygo; rw [← ef,if_pos hle])
        ·rw [decide_eq_false hle,if_neg (by simp)]
         exact k5 _ (by unfold yhv ygo; rw [← ef,if_neg hle])
      by_cases hl:yaz r.yj < x.At
      ·rw [decide_eq_true hl,if_pos rfl]
       exact k4 _ (by unfold yhf; rw [if_pos hl])
      ·rw [decide_eq_false hl,if_neg (by simp)]
       exact k4 _ (by unfold yhf; rw [if_neg hl])
    | false=>
      simp only [Bool.false_eq_true,if_false]
      have k3:∀ nx,nx=yol r x→zjx r x nx=some (ymq r x,[ydm (ymq r x) x.From]):=by
        intro nx en
        subst en
        unfold zjx
        have ht:=yaht ((yacp h h3 hx h1 h2).tell h3) hB h1 (show x.From≤(ymq r x).N from h2)
        have ht':zjm (ye.mk r.Id r.N r.Term r.yac r.yv r.yaf r.yj r.yl r.yy r.ym (ybi r.Next (x.From - 1) (yol r x)) r.yr r.yu r.yae) x.From=some (ydm (ymq r x) x.From):=ht
        rw [yafu h1 (by omega) (by omega),yk,ht',yk]
        rfl
      have k2:∀ nx,nx=yhf (yeb r x.From - 2) x.At + 1→zjw r x (yhp r x.From) nx=some (ymq r x,[ydm (ymq r x) x.From]):=by
        intro nx en
        unfold zjw
        by_cases hle:nx≤yhp r x.From
        ·rw [decide_eq_true hle,if_pos rfl,yas (by omega)]
         exact k3 _ (by unfold yol ygo; rw [← en,if_neg (by omega)])
        ·rw [decide_eq_false hle,if_neg (by simp)]
         refine k3 _ ?_
         unfold yol ygo
         rw [← en]
         split
         ·rfl
         ·omega
      rw [yas (n:=yeb r x.From - 1) (by omega),yas (n:=yeb r x.From - 1 - 1) (by omega)]
      by_cases hl:x.At < yeb r x.From - 1 - 1
      ·rw [decide_eq_true hl,if_pos rfl,yas (by omega)]
       exact k2 _ (by unfold yhf; rw [if_pos (by omega)])
      ·rw [decide_eq_false hl,if_neg (by simp)]
       exact k2 _ (by unfold yhf; rw [if_neg (by omega)]; omega)
  unfold zqf
  by_cases h3:x.Term < r.Term
  ·rw [decide_eq_true h3,if_pos rfl]
   exact kt (.inl h3)
  ·rw [decide_eq_false h3,if_neg (by simp)]
   by_cases h4:r.yv=3
   ·rw [decide_eq_false (by simpa using h4)]
    exact kf (by rintro (hh | hh); exact h3 hh; exact hh h4)
   ·rw [decide_eq_true h4]
    exact kt (.inr h4)
theorem yawy(h:OkR B r)(hB0:0≤B)(hB:B + 2≤1000000)(hx:OkM B x)(h1:1≤x.From)(h2:x.From≤r.N):zgw x r.Id r.N r.Term r.yac r.yv r.yaf r.yj.yn r.yj.yi r.yj.Entries r.yl r.yy r.ym r.Next r.yr r.yu r.yae=some (yif r x):=by
  have er:(ye.mk r.Id r.N r.Term r.yac r.yv r.yaf (yz.mk r.yj.yn r.yj.yi r.yj.Entries) r.yl r.yy r.ym r.Next r.yr r.yu r.yae) = r:=rfl
  have k7:zjj r.Id r.N r.Term r.yac r.yv r.yaf r.yj.yn r.yj.yi r.yj.Entries r.yl r.yy r.ym r.Next r.yr r.yu r.yae=some (r,[]):=rfl
  unfold zgw yif
  rw [er]
  by_cases c1:x.yar=1
  ·rw [decide_eq_true c1,if_pos rfl,if_pos c1,ycba h (by omega),yk]
  rw [decide_eq_false c1,if_neg (show ¬ (false=true) by simp),if_neg c1]
  by_cases c3:x.yar=3
  ·rw [decide_eq_true c3,if_pos rfl,if_neg (by omega),if_pos c3,ycno h (by omega),yk]
  rw [decide_eq_false c3,if_neg (show ¬ (false=true) by simp)]
  have k5:x.yar=2∨x.yar=4→zeu x r.Id r.N r.Term r.yac r.yv r.yaf r.yj.yn r.yj.yi r.yj.Entries r.yl r.yy r.ym r.Next r.yr r.yu r.yae true=some (if x.yar=2 then yoo r x else ykp r x):=by
    intro hk
    unfold zeu
    rw [if_pos rfl,k7,er]
    cases hok:x.Ok with
    | true=>
      have ex:(yg.mk x.yar x.yct x.From x.To x.Term x.At x.ybd x.yl true x.Entries x.ybq) = x:=by rw [← hok]
      rw [if_pos rfl,ex]
      rcases hk with hk | hk
      ·rw [ycaz h hB0 hB h1 h2 hk hok,yk,if_pos hk]
      ·rw [ybsk h hB0 hB h1 h2 hk hok,yk,if_neg (by omega)]
    | false=>
      rw [if_neg (by simp)]
      unfold yoo ykp
      rw [hok]
      simp
  by_cases c2:x.yar=2
  ·rw [decide_eq_true c2,if_pos rfl,if_pos c2,k5 (.inl c2),if_pos c2]
  rw [decide_eq_false c2,if_neg (show ¬ (false=true) by simp),if_neg c2,if_neg c3]
  by_cases c4:x.yar=4
  ·rw [decide_eq_true c4,if_pos c4,k5 (.inr c4),if_neg c2]
  rw [decide_eq_false c4,if_neg c4]
  unfold zeu
  rw [if_neg (show ¬ (false=true) by simp)]
  unfold zji
  rw [er]
  by_cases c5:x.yar=5
  ·rw [decide_eq_true c5,if_pos rfl,if_pos rfl,if_pos c5,ybft h (by omega) hx c5,yk]
  rw [decide_eq_false c5,if_neg (show ¬ (false=true) by simp),if_neg c5]
  by_cases c7:x.yar=7
  ·rw [decide_eq_true c7,if_pos rfl,if_neg (by omega),if_pos c7,ycnm h (by omega) hx c7,yk]
  rw [decide_eq_false c7,if_neg (show ¬ (false=true) by simp)]
  by_cases c6:x.yar=6
  ·rw [decide_eq_true c6,if_pos rfl,if_pos c6,ycnn h (by omega) hx h1 h2,yk]
  ·rw [decide_eq_false c6,if_neg (show ¬ (false=true) by simp),if_neg c6,if_neg c7,k7]
theorem ybfr(h:OkR B r)(hB0:0≤B)(hB:B + 2≤1000000)(hx:OkM B x):znc r x=some (ygj r x):=by
  have k3:∀ v,ycv r x=false→v=ylc r x→zgv r x v=some (if ylc r x=true then yif (yaj r x.Term 0) x else yif r x):=by
    intro v hr hv
    have h1:1≤x.From∧x.From≤r.N:=by
      unfold ycv at hr
      simp only [Bool.or_eq_false_iff,decide_eq_false_iff_not] at hr
      omega
    unfold zgv
    cases v with
    | true=>
      rw [if_pos rfl,yls,yk,← hv,if_pos rfl]
      exact yawy (yjs h hx.term.2) hB0 hB hx h1.1 h1.2
    | false=>
      rw [if_neg (by simp),← hv,if_neg (by simp)]
      exact yawy h hB0 hB hx h1.1 h1.2
  have k2:∀ q,ycv r x=false→(!q) = (decide (x.yar≠1) && (decide (x.yar≠2) || !x.Ok))→zet r x q=some (if ylc r x=true then yif (yaj r x.Term 0) x else yif r x):=by
    intro q hr hq
    unfold zet
    by_cases ht:r.Term < x.Term
    ·rw [decide_eq_true ht,if_pos rfl]
     exact k3 _ hr (by unfold ylc; rw [hq,decide_eq_true ht]; simp)
    ·rw [decide_eq_false ht,if_neg (by simp)]
     exact k3 _ hr (by unfold ylc; rw [decide_eq_false ht]; simp)
  have kt:ycv r x=true→zac r x true=some (ygj r x):=by
    intro hr
    unfold zac ygj
    rw [if_pos rfl,if_pos hr]
  have kf:ycv r x=false→zac r x false=some (ygj r x):=by
    intro hr
    unfold zac ygj
    rw [if_neg (show ¬ (false=true) by simp),hr,if_neg (show ¬ (false=true) by simp)]
    by_cases c1:x.yar=1
    ·rw [decide_eq_true c1,if_pos rfl]
     exact k2 true hr (by simp [c1])
    ·rw [decide_eq_false c1,if_neg (by simp)]
     by_cases c2:x.yar=2
     ·rw [decide_eq_true c2,if_pos rfl]
      exact k2 _ hr (by simp [c2])
     ·rw [decide_eq_false c2,if_neg (by simp)]
      exact k2 false hr (by simp [c1,c2])
  unfold znc
  by_cases a1:x.To=r.Id
  ·rw [decide_eq_false (by simpa using a1),if_neg (by simp)]
   by_cases a2:x.From < 1
   ·rw [decide_eq_true a2,if_pos rfl]; exact kt (by simp [ycv,a2])
   ·rw [decide_eq_false a2,if_neg (by simp)]
    by_cases a3:r.N < x.From
    ·rw [decide_eq_true a3,if_pos rfl]; exact kt (by simp [ycv,a3])
    ·rw [decide_eq_false a3,if_neg (by simp)]
     by_cases a4:x.From=r.Id
     ·rw [decide_eq_true a4,if_pos rfl]; exact kt (by simp [ycv,a4])
     ·rw [decide_eq_false a4,if_neg (by simp)]
      by_cases a5:x.Term < 0
      ·rw [decide_eq_true a5,if_pos rfl]; exact kt (by simp [ycv,a5])
      ·rw [decide_eq_false a5,if_neg (by simp)]
       by_cases a6:1099511627776 < x.Term
       ·rw [decide_eq_true a6,if_pos rfl]; exact kt (by simp [ycv,a6])
       ·rw [decide_eq_false a6,if_neg (by simp)]
        by_cases a7:x.At < 0
        ·rw [decide_eq_true a7]; exact kt (by simp [ycv,a7])
        ·rw [decide_eq_false a7]; exact kf (by simp [ycv,a1,a2,a3,a4,a5,a6,a7])
  ·rw [decide_eq_true a1,if_pos rfl]; exact kt (by simp [ycv,a1])
theorem ybfp(h:OkR B r)(hB:B + 1≤1000000){data:List Int}(hd:data.length≤1000):znb r data=zit r data:=by
  rw [yvd h hB hd]
  unfold znb
  by_cases h3:r.yv=3
  ·have hl:(ydc r data).1.yj=(yeo r data).yj:=by unfold ydc; rw [ysk]
   rw [decide_eq_false (by simpa using h3),if_neg (by simp),if_pos h3,yajb h hB h3 hd,yk,ykk (by rw [hl]; exact (yoq h h3 hd).log) hB,yk]
  ·rw [decide_eq_true h3,if_pos rfl,if_neg h3]
theorem yarc(h:OkR B r)(hB:B≤1000000){upto:Int}(hu : -1000000≤upto∧upto≤1000000){snap:List Int}(hs:snap.length≤1000):zna r upto snap=zis r upto snap:=by
  rw [yuh h hB hu hs]
  have kt:yfn r upto=false→zes r upto snap true=some (if yfn r upto=true then (ylf r upto snap,0) else (r,2)):=by
    intro hc
    unfold zes
    rw [if_pos rfl,hc,if_neg (by simp)]
  unfold zna
  by_cases a1:upto≤r.yj.yn
  ·rw [decide_eq_true a1,if_pos rfl]
   exact kt (by unfold yfn; rw [decide_eq_false (by omega)]; simp)
  ·rw [decide_eq_false a1,if_neg (by simp)]
   by_cases a2:r.yl < upto
   ·rw [decide_eq_true a2]
    exact kt (by unfold yfn; rw [decide_eq_false (p:=upto≤r.yl) (by omega)]; simp)
   ·rw [decide_eq_false a2]
    unfold zes yfn
    rw [if_neg (by simp),ybfo h.log hB,yk,decide_eq_true (p:=r.yj.yn < upto) (by omega),decide_eq_true (p:=upto≤r.yl) (by omega)]
    cases ht:(ycm r.yj upto).isSome with
    | true=>simp [ylf]
    | false=>simp
end
end Go.Proofs.YtgoachcogmlhcaaGreat.R
set_option maxRecDepth 100000
set_option linter.unusedVariables false
set_option linter.unusedSimpArgs false
noncomputable section
namespace Go.Proofs.YtgoachcogmlhcaaGreat.R
open Go
def yafz(l:yz)(k:Nat):Int:=if k=0 then (if l.yi < 1 then 1 else l.yi) else (l.Entries[k - 1]?.map yc.Term).getD 0
theorem yajk{l:yz}(hl:l.Entries.length≤1000000) :
    ∀ (m k n:Nat) (t:Int),l.Entries.length - k=m→k≤l.Entries.length→m < n→t=yafz l k→1≤t→l.yi≤t →
      zah l n t (k:Int) = zab l n (k:Int)∧∃ r,zab l n (k:Int) = some r:=by
  intro m
  induction m with
  | zero=>
    intro k n t hm hk hn _ _ _
    obtain ⟨n,rfl⟩:∃ n',n=n' + 1:=⟨n - 1,by omega⟩
    have h1:¬ ((k:Int) < (l.Entries.length:Int)):=by omega
    rw [zab,zje,zah,zfo,decide_eq_false h1,if_neg (by simp),if_neg (by simp)]
    exact ⟨rfl,_,rfl⟩
  | succ m ih=>
    intro k n t hm hk hn ht h1 hb
    obtain ⟨n,rfl⟩:∃ n',n=n' + 1:=⟨n - 1,by omega⟩
    have hlt:k < l.Entries.length:=by omega
    have hk':((k:Int) < (l.Entries.length:Int)):=by omega
    rw [zab,zje,zah,zfo,decide_eq_true hk',if_pos rfl,if_pos rfl,ydq hlt,yk,yk]
    unfold zep zhh
    rw [ycb (by omega)]
    have hnext:¬ l.Entries[k].Term < t→zah l n l.Entries[k].Term ((k + 1:Nat):Int) = zab l n ((k + 1:Nat):Int)∧∃ r,zab l n ((k + 1:Nat):Int) = some r:=by
      intro h
      refine ih (k + 1) n _ (by omega) (by omega) (by omega) ?_ (by omega) (by omega)
      simp [yafz,List.getElem?_eq_getElem hlt]
    generalize zah l n l.Entries[k].Term ((k + 1:Nat):Int) = qa,zab l n ((k + 1:Nat):Int) = qb at hnext ⊢
    by_cases hk0:k=0
    ·subst hk0
     have ht':t=if l.yi < 1 then 1 else l.yi:=by simpa [yafz] using ht
     have h00:¬ ((0:Int) < ((0:Nat):Int)):=by omega
     by_cases c:l.Entries[0].Term < t
     ·refine ⟨?_,?_⟩ <;> by_cases c1:l.Entries[0].Term < 1 <;> by_cases c2:1099511627776 < l.Entries[0].Term <;> by_cases c3:l.Entries[0].Term < l.yi <;> simp [c,c1,c2,c3]
      all_goals (exfalso; split at ht' <;> omega)
     ·obtain ⟨g1,g2,g3⟩:=hnext c
      have c1:¬ l.Entries[0].Term < 1:=by omega
      have c3:¬ l.Entries[0].Term < l.yi:=by omega
      simp [c,c1,c3,h00,g1,g3]
      split <;> exact ⟨_,rfl⟩
    ·have hp:k - 1 < l.Entries.length:=by omega
     have hw:IntKind.i64.wrap ((k:Int) - 1) = ((k - 1:Nat):Int):=by
       rw [yaxu (by unfold inR; omega)]
       omega
     have h00:((0:Int) < (k:Int)):=by omega
     have ht':t=l.Entries[k - 1].Term:=by simpa [yafz,hk0,List.getElem?_eq_getElem hp] using ht
     subst ht'
     rw [decide_eq_true h00,if_pos rfl,hw,ydq hp,yk]
     by_cases c:l.Entries[k].Term < l.Entries[k - 1].Term
     ·refine ⟨?_,?_⟩ <;> by_cases c1:l.Entries[k].Term < 1 <;> by_cases c2:1099511627776 < l.Entries[k].Term <;> by_cases c3:l.Entries[k].Term < l.yi <;> simp [c,c1,c2,c3]
     ·obtain ⟨g1,g2,g3⟩:=hnext c
      have c1:¬ l.Entries[k].Term < 1:=by omega
      have c3:¬ l.Entries[k].Term < l.yi:=by omega
      by_cases c2:1099511627776 < l.Entries[k].Term
      ·simp [c,c1,c2,c3]
      ·simp [c,c1,c2,c3,g1,g3]
theorem yaso{l:yz}(hl:l.Entries.length≤1000000):zlo l=zmp l∧∃ r,zmp l=some r:=by
  have hlo:=yajk hl _ 0 ((((l.Entries.length:Int)) - ((0:Int))).toNat + 1) (if l.yi < 1 then 1 else l.yi) rfl (Nat.zero_le _) (by omega) rfl (by split <;> omega) (by split <;> omega)
  obtain ⟨g1,g2,g3⟩:=hlo
  replace g1:zah l ((((l.Entries.length:Int)) - ((0:Int))).toNat + 1) (if l.yi < 1 then 1 else l.yi) (0:Int) = zab l ((((l.Entries.length:Int)) - ((0:Int))).toNat + 1) (0:Int):=g1
  replace g3:zab l ((((l.Entries.length:Int)) - ((0:Int))).toNat + 1) (0:Int) = some g2:=g3
  unfold zlo zmp zcw zgi zeo
  rw [g1,g3]
  generalize zab l ((((l.Entries.length:Int)) - ((0:Int))).toNat + 1) (0:Int) = q at g3
  by_cases c1:l.yn < 0
  ·simp [c1]
  ·by_cases c2:1099511627776 < l.yn
   ·simp [c1,c2]
   ·by_cases c3:l.yi < 0
    ·simp [c1,c2,c3]
    ·by_cases c4:1099511627776 < l.yi
     ·simp [c1,c2,c3,c4]
     ·by_cases c5:l.yn=0 <;> by_cases c6:l.yi=0 <;> simp [c1,c2,c3,c4,c5,c6]
theorem ybfs{B:Int}{r:ye}(h:OkR B r)(hB:B≤1000000):znd r.Id r.N r.Term r.yac r.yj r.yy=zfd r.Id r.N r.Term r.yac r.yj r.yy:=by
  have hid:=h.id; have hn:=h.n; have hs:=h.snap
  have k1:∀ v,zbj r.Term r.yac r.yj r.yy (ygi r.Id r.N,0) v=zaj r.Term r.yac r.yj r.yy (ygi r.Id r.N,0) v:=by
    intro v
    unfold zbj zaj
    cases v with
    | true=>rfl
    | false=>rw [if_neg (by simp),if_neg (by simp),yio h.log hB,yk,if_pos (ybg (by omega))]
  have hnew:ztb r.Id r.N=some (ygi r.Id r.N,0):=yafb hid.1 hid.2 hn
  unfold znd zfd
  rw [hnew,yafb hid.1 hid.2 hn,yk,yk,ykk h.log hB,yk,yim h.log hB,yk,yjc h.log hB,yk,(yaso (h.log.len hB)).1]
  simp only [k1]
  rfl
theorem yse{a:List yc}(hl:a.length≤1000000):zju a a=some true:=by
  have loop:∀ (m k n:Nat),a.length - k=m→k≤a.length→m < n→zcz a a n (k:Int) = some true:=by
    intro m
    induction m with
    | zero=>
      intro k n hm hk hn
      obtain ⟨n,rfl⟩:∃ n',n=n' + 1:=⟨n - 1,by omega⟩
      rw [zcz,zhp,decide_eq_false (by omega),if_neg (by simp)]
    | succ m ih=>
      intro k n hm hk hn
      obtain ⟨n,rfl⟩:∃ n',n=n' + 1:=⟨n - 1,by omega⟩
      have hs:(!(eqS (yoz a[k].ybq) (yoz a[k].ybq))) = false:=by simp [eqS]
      rw [zcz,zhp,decide_eq_true (by omega),if_pos rfl,ydq (by omega),yk,yk,decide_eq_false (by simp),if_neg (by simp),hs]
      unfold zjf
      rw [if_neg (by simp),ycb (by omega)]
      exact ih (k + 1) n (by omega) (by omega) (by omega)
  unfold zju
  rw [decide_eq_false (by simp),if_neg (by simp)]
  exact loop _ 0 _ rfl (Nat.zero_le _) (by omega)
theorem yajj{a:List Bool}(hl:a.length≤1000000):zpa a a=some true:=by
  have loop:∀ (m k n:Nat),a.length - k=m→k≤a.length→m < n→zew a a n (k:Int) = some true:=by
    intro m
    induction m with
    | zero=>
      intro k n hm hk hn
      obtain ⟨n,rfl⟩:∃ n',n=n' + 1:=⟨n - 1,by omega⟩
      rw [zew,zjk,decide_eq_false (by omega),if_neg (by simp)]
    | succ m ih=>
      intro k n hm hk hn
      obtain ⟨n,rfl⟩:∃ n',n=n' + 1:=⟨n - 1,by omega⟩
      rw [zew,zjk,decide_eq_true (by omega),if_pos rfl,ydq (by omega),yk,yk,if_pos (by simp),ycb (by omega)]
      exact ih (k + 1) n (by omega) (by omega) (by omega)
  unfold zpa
  rw [decide_eq_false (by simp),if_neg (by simp)]
  exact loop _ 0 _ rfl (Nat.zero_le _) (by omega)
theorem yxs{a:List Int}(hl:a.length≤1000000):zod a a=some true:=by
  have loop:∀ (m k n:Nat),a.length - k=m→k≤a.length→m < n→zfv a a n (k:Int) = some true:=by
    intro m
    induction m with
    | zero=>
      intro k n hm hk hn
      obtain ⟨n,rfl⟩:∃ n',n=n' + 1:=⟨n - 1,by omega⟩
      rw [zfv,zkj,decide_eq_false (by omega),if_neg (by simp)]
    | succ m ih=>
      intro k n hm hk hn
      obtain ⟨n,rfl⟩:∃ n',n=n' + 1:=⟨n - 1,by omega⟩
      rw [zfv,zkj,decide_eq_true (by omega),if_pos rfl,ydq (by omega),yk,yk,decide_eq_false (by simp),if_neg (by simp),ycb (by omega)]
      exact ih (k + 1) n (by omega) (by omega) (by omega)
  unfold zod
  rw [decide_eq_false (by simp),if_neg (by simp)]
  exact loop _ 0 _ rfl (Nat.zero_le _) (by omega)
theorem yxr{a:ye}(h1:a.yj.Entries.length≤1000000)(h2:a.ym.length≤7)(h3:a.Next.length≤7)(h4:a.yr.length≤7):zdp a a=some true:=by
  have hs:(!(eqS (yoz a.yy) (yoz a.yy))) = false:=by simp [eqS]
  unfold zdp zdz zht zry
  simp [hs,yse h1,yajj (a:=a.ym) (by omega),yxs (a:=a.Next) (by omega),yxs (a:=a.yr) (by omega),yk]
theorem yaft{x:yg}(h:x.Entries.length≤1000000):zne x x=some true:=by
  unfold zne zal
  simp [yse h,yk,eqS]
theorem yaby{a:List yg}(hl:a.length≤1000000)(h:∀ x∈a,x.Entries.length≤1000000):zdj a a=some true:=by
  have loop:∀ (m k n:Nat),a.length - k=m→k≤a.length→m < n→zcq a a n (k:Int) = some true:=by
    intro m
    induction m with
    | zero=>
      intro k n hm hk hn
      obtain ⟨n,rfl⟩:∃ n',n=n' + 1:=⟨n - 1,by omega⟩
      rw [zcq,zgx,decide_eq_false (by omega),if_neg (by simp)]
    | succ m ih=>
      intro k n hm hk hn
      obtain ⟨n,rfl⟩:∃ n',n=n' + 1:=⟨n - 1,by omega⟩
      have hlt:k < a.length:=by omega
      rw [zcq,zgx,decide_eq_true (by omega),if_pos rfl,ydq hlt,yk,yk,yaft (h _ (List.getElem_mem hlt)),yk,if_pos rfl,ycb (by omega)]
      exact ih (k + 1) n (by omega) (by omega) (by omega)
  unfold zdj
  rw [decide_eq_false (by simp),if_neg (by simp)]
  exact loop _ 0 _ rfl (Nat.zero_le _) (by omega)
theorem OkR.same{B:Int}{a:ye}(h:OkR B a)(hB:B≤1000000):zdp a a=some true:=yxr (h.log.len hB) h.gl h.nl h.ml
theorem ygu.same{B:Int}{r:ye}{p:ye × List yg}(h:ygu B r p)(hB:B≤1000000):zdp p.1 p.1=some true∧zdj p.2 p.2=some true:=
  ⟨h.ok.same hB,yaby (by have:=h.len; omega) fun x hx=>by have:=(h.msg x hx).1.el; omega⟩
def ToN(n:Int)(l:List yg):Prop:=∀ y∈l,1≤y.To∧y.To≤n
section
variable {r:ye} {x:yg} {n:Int}
theorem ToN.nil:ToN n []:=fun y hy=>by cases hy
theorem ToN.one(h:1≤x.To∧x.To≤n):ToN n [x]:=fun y hy=>by rw [List.mem_singleton.1 hy]; exact h
theorem ToN.map{g:Int→yg}(hg:∀ to,(g to).To=to):ToN r.N ((ydr r).map g):=by
  intro y hy
  obtain ⟨to,ht,rfl⟩:=List.mem_map.1 hy
  obtain ⟨h1,h2,_⟩:=yof ht
  rw [hg]
  omega
theorem yvx(to:Int):(ydm r to).To=to:=by unfold ydm; split <;> rfl
theorem yaia(data:List Int):ToN r.N (ydc r data).2:=ToN.map (yvx (r:=ycc (yeo r data)))
theorem yawo:ToN r.N (yki r).2:=yaia (r:=yus r) []
theorem yarr:ToN r.N (yht r).2:=by
  unfold yht
  split
  ·exact yawo (r:=yin r)
  ·exact ToN.map fun _=>rfl
theorem ycqf(draw:Int):ToN r.N (yow r draw).2:=by
  unfold yow
  split
  ·exact yarr (r:=ymx r draw)
  ·exact ToN.map fun _=>rfl
theorem ycpg(draw:Int):ToN r.N (ypp r draw).2:=by
  unfold ypp
  simp only
  split
  ·split
   ·exact ToN.map (yvx (r:={ r with yu:=0 }))
   ·exact ToN.nil
  ·split
   ·exact ycqf (r:={ r with yu:=r.yu + 1 }) draw
   ·exact ToN.nil
theorem ypq(kind term at0:Int)(ok:Bool)(h:1≤x.From∧x.From≤n):ToN n [yfl r x kind term at0 ok]:=ToN.one h
theorem yaxn(h:1≤x.From∧x.From≤r.N):ToN r.N (yif r x).2:=by
  unfold yif
  split
  ·exact ypq _ _ _ _ h
  split
  ·unfold yoo
   split
   ·split
    ·exact yarr (r:=ybc r x)
    ·exact ToN.nil
   ·exact ToN.nil
  split
  ·unfold yjm
   split <;> exact ypq _ _ _ _ h
  split
  ·unfold ykp
   split
   ·split
    ·exact yawo (r:=ybc r x)
    ·exact ToN.nil
   ·exact ToN.nil
  split
  ·unfold ygg
   simp only
   split
   ·exact ypq _ _ _ _ h
   ·split <;> exact ypq _ _ _ _ h
  split
  ·unfold yhw
   split
   ·exact ToN.nil
   split
   ·split
    ·exact ToN.nil
    ·exact ToN.one (by rw [yvx]; exact h)
   ·exact ToN.one (by rw [yvx]; exact h)
  split
  ·unfold ykm
   simp only
   split
   ·exact ypq _ _ _ _ h
   ·split <;> exact ypq _ _ _ _ h
  ·exact ToN.nil
theorem ybfk:ToN r.N (ygj r x).2:=by
  unfold ygj
  cases hr:ycv r x with
  | true=>exact ToN.nil
  | false=>
    have h1:1≤x.From∧x.From≤r.N:=by
      unfold ycv at hr
      simp only [Bool.or_eq_false_iff,decide_eq_false_iff_not] at hr
      omega
    rw [if_neg (by simp)]
    split
    ·exact yaxn (r:=yaj r x.Term 0) h1
    ·exact yaxn h1
theorem ycpz{c:Bool}{net:List yg}{p:ye × List yg}(ha:Act c r net p):ToN r.N p.2:=by
  cases ha with
  | tick draw=>exact ycpg draw
  | recv x hx=>exact ybfk
  | prop data hd h3=>exact yaia data
  | comp upto snap hs hc=>exact ToN.nil
  | fall hc=>exact ToN.nil
theorem ycpe{c:Bool}{n:Nat}{w w':ybb}{B:Int}(hw:OkW B n w)(h:ToN (n:Int) w.Net)(hs:ypb c w w'):ToN (n:Int) w'.Net:=by
  cases hs with
  | less net hn=>exact fun y hy=>h y (hn y hy)
  | act i r p net hi ha hn=>
    intro y hy
    rcases hn y hy with hy | hy
    ·exact h y hy
    ·have:=ycpz ha y hy
     rw [(hw.mem i r hi).2.2] at this
     exact this
end
theorem ycnw{B:Int}{n:Nat}{w:ybb}(h:OkW B n w)(hB0:20≤B)(hB:B≤100000)(hto:ToN (n:Int) w.Net)(o:TOp)(ho:o.ybq.length≤20):znu w o=some true:=by
  have hwl:=h.len; have hn1:=h.n1; have hnl:=h.nl
  obtain ⟨p1,p2,p3⟩:=yqi (k:=o.Who) (n:=w.R.length) (by omega) (by omega)
  have hlt:(yey o.Who w.R.length).toNat < w.R.length:=by omega
  obtain ⟨r,hr⟩:∃ r,w.R[(yey o.Who w.R.length).toNat]? = some r:=⟨_,List.getElem?_eq_getElem hlt⟩
  obtain ⟨m1,m2,m3⟩:=h.mem _ r hr
  have fin:∀ (p:ye × List yg),ygu (B + 3) r p→(bnd (zdp p.1 p.1) fun a=>if a=true then bnd (zdj p.2 p.2) fun b=>some b else some false) = some true:=by
    intro p hp
    obtain ⟨a1,a2⟩:=hp.same (by omega)
    rw [a1,yk,if_pos rfl,a2,yk]
  unfold znu
  rw [p1,yk,yfb p2,hr,yk]
  have k1:zhg w o r true=some true:=by
    unfold zhg
    rw [if_pos rfl]
    by_cases hz:w.Net.length=0
    ·rw [decide_eq_true (by omega),if_pos rfl]
    ·obtain ⟨q1,q2,q3⟩:=yqi (k:=o.N) (n:=w.Net.length) (by omega) (by omega)
     have hkl:(yey o.N w.Net.length).toNat < w.Net.length:=by omega
     have hx:=List.getElem_mem hkl
     obtain ⟨t1,t2⟩:=hto _ hx
     have hxo:=h.net _ hx
     rw [decide_eq_false (by omega),if_neg (by simp),q1,yk,yfb q2,List.getElem?_eq_getElem hkl,yk,decide_eq_false (by omega),if_neg (by simp),decide_eq_false (by omega)]
     unfold zmt
     have hlt2:(w.Net[(yey o.N w.Net.length).toNat].To - 1).toNat < w.R.length:=by omega
     obtain ⟨r2,hr2⟩:∃ r2,w.R[(w.Net[(yey o.N w.Net.length).toNat].To - 1).toNat]? = some r2:=⟨_,List.getElem?_eq_getElem hlt2⟩
     obtain ⟨c1,c2,c3⟩:=h.mem _ r2 hr2
     rw [if_neg (by simp),yas (by omega),yfb (by omega),hr2,yk,yafr c1 (by omega) (by omega) hxo,yk,ybfr c1 (by omega) (by omega) hxo,yk]
     obtain ⟨a1,a2⟩:=(yaau c1 (by omega) hxo).same (by omega)
     rw [a1,yk,if_pos rfl,a2,yk]
  by_cases k0:o.yar=0
  ·rw [decide_eq_true k0,if_pos rfl,yaxp m1 (by omega) (by omega),yk,ycnk m1 (by omega) (by omega),yk]
   exact fin _ (yaru m1 (by omega) o.N)
  rw [decide_eq_false k0,if_neg (show ¬ (false=true) by simp)]
  by_cases k11:o.yar=1
  ·rw [decide_eq_true k11,if_pos rfl]; exact k1
  rw [decide_eq_false k11,if_neg (show ¬ (false=true) by simp)]
  by_cases k13:o.yar=3
  ·rw [decide_eq_true k13]; exact k1
  rw [decide_eq_false k13]
  unfold zhg
  rw [if_neg (show ¬ (false=true) by simp)]
  by_cases k4:o.yar=4
  ·rw [decide_eq_true k4,if_pos rfl,ybfp m1 (by omega) (by omega),yvd m1 (by omega) (by omega),yk,yk,decide_eq_true rfl,if_pos rfl,decide_eq_true rfl,if_pos rfl]
   by_cases h3:r.yv=3
   ·rw [if_pos h3]
    exact fin _ ((yuf m1 (by omega) h3 (by omega)).mono (by omega))
   ·rw [if_neg h3]
    exact fin (r,[]) ((yacb m1).mono (by omega))
  rw [decide_eq_false k4,if_neg (show ¬ (false=true) by simp)]
  by_cases k5:o.yar=5
  ·obtain ⟨q1,q2,q3⟩:=yqi (k:=o.N) (n:=3) (by omega) (by omega)
   have q1':zdm o.N 3=some (yey o.N 3):=q1
   have hc:=m1.commit
   rw [decide_eq_true k5,if_pos rfl,q1',yk,yas (by omega),yarc m1 (by omega) (by omega) (by omega),yuh m1 (by omega) (by omega) (by omega),yk,yk,decide_eq_true rfl,if_pos rfl]
   cases hcb:yfn r (r.yl - yey o.N 3) with
   | true=>
     rw [if_pos rfl,(yaah m1 (by omega) (by omega) hcb).ok.same (by omega),yk]
   | false=>
     rw [if_neg (by simp),m1.same (by omega),yk]
  rw [decide_eq_false k5,if_neg (show ¬ (false=true) by simp)]
  by_cases k6:o.yar=6
  ·rw [decide_eq_true k6,if_pos rfl,ybfs m1 (by omega)]
   rcases yafs m1 (by omega) with e | e
   ·rw [e,yk,yk,decide_eq_true rfl,if_pos rfl,(yaav m1 hB0).ok.same (by omega),yk]
   ·rw [e,yk,yk,decide_eq_true rfl,if_pos rfl,yxr (by simp [yzz]) (by simp [yzz]) (by simp [yzz]) (by simp [yzz]),yk]
  ·rw [decide_eq_false k6,if_neg (show ¬ (false=true) by simp)]
theorem ycev{l:List TOp}{n:Nat}(hl:l.length≤250)(hd:∀ o∈l,o.ybq.length≤20):∀ (m i f:Nat) (w:ybb),l.length - i=m→i≤l.length→m < f→OkW (20 + 3 * (i:Int)) n w→ToN (n:Int) w.Net →
    zcp l f (i:Int) w.R w.Net=some true:=by
  intro m
  induction m with
  | zero=>
    intro i f w hm hi hf hw ht
    obtain ⟨f,rfl⟩:∃ f',f=f' + 1:=⟨f - 1,by omega⟩
    rw [zcp,zgl,decide_eq_false (by omega),if_neg (by simp)]
    rfl
  | succ m ih=>
    intro i f w hm hi hf hw ht
    obtain ⟨f,rfl⟩:∃ f',f=f' + 1:=⟨f - 1,by omega⟩
    have hlt:i < l.length:=by omega
    have ho:=hd _ (List.getElem_mem hlt)
    obtain ⟨w',h1,h2,h3⟩:=ydop hw (by omega) (by omega) l[i] ho
    have h1':zqo ⟨w.R,w.Net⟩ l[i] = some w':=h1
    have hs:znu ⟨w.R,w.Net⟩ l[i] = some true:=ycnw hw (by omega) (by omega) ht l[i] ho
    rw [zcp,zgl,decide_eq_true (by omega),if_pos rfl,ydq hlt,yk,hs,yk,if_pos rfl,h1',yk,ycb (by omega)]
    exact ih (i + 1) f w' (by omega) (by omega) (by omega) (h3.mono (by omega)) (ycpe hw ht h2)
theorem ybem{l:List TOp}(hl:l.length≤250):∀ (m k n:Nat),l.length - k=m→k≤l.length→m < n→zel l n (k:Int) = some ((l.drop k).all fun o=>decide (o.ybq.length≤20)):=by
  intro m
  induction m with
  | zero=>
    intro k n hm hk hn
    obtain ⟨n,rfl⟩:∃ n',n=n' + 1:=⟨n - 1,by omega⟩
    have hk':¬ ((k:Int) < (l.length:Int)):=by omega
    rw [zel,zjb,decide_eq_false hk',if_neg (by simp),List.drop_eq_nil_of_le (by omega)]
    rfl
  | succ m ih=>
    intro k n hm hk hn
    obtain ⟨n,rfl⟩:∃ n',n=n' + 1:=⟨n - 1,by omega⟩
    have hlt:k < l.length:=by omega
    have hk':((k:Int) < (l.length:Int)):=by omega
    rw [zel,zjb,decide_eq_true hk',if_pos rfl,ydq hlt,yk,ycb (by omega),ih (k + 1) n (by omega) (by omega) (by omega),List.drop_eq_getElem_cons hlt,List.all_cons]
    by_cases h:20 < l[k].ybq.length
    ·have h1:((20:Int) < (l[k].ybq.length:Int)):=by omega
     have h2:¬ l[k].ybq.length≤20:=by omega
     simp [h1,h2]
    ·have h1:¬ ((20:Int) < (l[k].ybq.length:Int)):=by omega
     have h2:l[k].ybq.length≤20:=by omega
     simp [h1,h2]
theorem ybyu(l:List TOp):∃ b,zox l=some b∧(b=true→l.length≤250∧∀ o∈l,o.ybq.length≤20):=by
  unfold zox
  by_cases h:(250:Int) < (l.length:Int)
  ·exact ⟨false,by simp [h],by simp⟩
  ·refine ⟨(l.drop 0).all fun o=>decide (o.ybq.length≤20),?_,fun hb=>⟨by omega,fun o ho=>?_⟩⟩
   ·rw [decide_eq_false h,if_neg (by simp)]
    exact ybem (by omega) _ 0 _ rfl (Nat.zero_le _) (by omega)
   ·have:=List.all_eq_true.1 hb o (by simpa using ho)
    simpa using this
theorem ycny{n:Int}(h:0≤n∧n≤255):zqb n=some (((n % 5).toNat + 1:Nat):Int):=by
  unfold zqb
  rw [yas (n:=n) (by omega),Int.tmod_eq_emod_of_nonneg h.1,yas (by omega)]
  congr 1
  omega
def yop(n:Nat):ybb:=⟨(List.range n).map fun (k:Nat)=>ygi ((k:Int) + 1) (n:Int),[]⟩
theorem yayb{n:Nat}(hn:n≤5):∀ (m k f:Nat),n - k=m→k≤n→m < f→zek (n:Int) f ((k:Int) + 1) ((List.range k).map fun (k:Nat)=>ygi ((k:Int) + 1) (n:Int)) = some (yop n):=by
  intro m
  induction m with
  | zero=>
    intro k f hm hk hf
    obtain ⟨f,rfl⟩:∃ f',f=f' + 1:=⟨f - 1,by omega⟩
    have hk':¬ ((k:Int) + 1≤(n:Int)):=by omega
    have e:k=n:=by omega
    rw [zek,zja,decide_eq_false hk',if_neg (by simp),e]
    rfl
  | succ m ih=>
    intro k f hm hk hf
    obtain ⟨f,rfl⟩:∃ f',f=f' + 1:=⟨f - 1,by omega⟩
    have hk':((k:Int) + 1≤(n:Int)):=by omega
    have hi:=ih (k + 1) f (by omega) (by omega) (by omega)
    have e:(List.range (k + 1)).map (fun (k:Nat)=>ygi ((k:Int) + 1) (n:Int)) = (List.range k).map (fun (k:Nat)=>ygi ((k:Int) + 1) (n:Int))++[ygi ((k:Int) + 1) (n:Int)]:=by rw [List.range_succ,List.map_append]; rfl
    rw [e] at hi
    rw [zek,zja,decide_eq_true hk',if_pos rfl,yafb (by omega) hk' (by omega),yk,if_pos (ybg (by simp; omega)),yas (by omega)]
    have e2:((k + 1:Nat):Int) + 1=(k:Int) + 1 + 1:=by omega
    rw [e2] at hi
    exact hi
theorem ybtx{n:Nat}(hn:n≤5):zow (n:Int) = some (yop n):=by
  have:=yayb hn n 0 (((n:Int) - 1 + 1).toNat + 1) (by omega) (Nat.zero_le _) (by omega)
  unfold zow
  simpa using this
theorem ybgq{n k:Nat}{r:ye}(h:(yop n).R[k]? = some r):k < n∧r=ygi ((k:Int) + 1) (n:Int):=by
  have h:((List.range n).map fun (k:Nat)=>ygi ((k:Int) + 1) (n:Int))[k]? = some r:=h
  rw [List.getElem?_map] at h
  cases hk:(List.range n)[k]? with
  | none=>rw [hk] at h; cases h
  | some j=>
    rw [hk] at h
    have hlt:k < n:=by
      rcases Nat.lt_or_ge k n with h | h
      ·exact h
      ·rw [List.getElem?_eq_none (by simpa using h)] at hk; cases hk
    rw [List.getElem?_range hlt] at hk
    obtain rfl:=Option.some.inj hk
    exact ⟨hlt,by simpa using h.symm⟩
theorem ybty{n:Nat}(h1:1≤n)(h5:n≤5):OkW 20 n (yop n):=by
  refine ⟨⟨h1,h5⟩,by simp [yop],fun k r hr=>?_,by simp [yop],by simp [yop]⟩
  obtain ⟨hk,rfl⟩:=ybgq hr
  exact ⟨ydlq (r:=ygi 1 1) (by simp [ygi]) (by omega) (by omega) (by omega) (by omega),rfl,rfl⟩
theorem ans_RaftDoes{n:Int}(hn:0≤n∧n≤255)(l:List TOp):zol n l=some true:=by
  obtain ⟨b,h1,h2⟩:=ybyu l
  unfold zol
  rw [h1,yk]
  cases b with
  | false=>rfl
  | true=>
    obtain ⟨l1,l2⟩:=h2 rfl
    rw [if_pos rfl,ycny hn,yk,ybtx (by omega),yk]
    exact ycev (n:=(n % 5).toNat + 1) l1 l2 _ 0 ((((l.length:Int)) - 0).toNat + 1) (yop ((n % 5).toNat + 1)) rfl (Nat.zero_le _) (by omega) (ybty (by omega) (by omega)) ToN.nil
end Go.Proofs.YtgoachcogmlhcaaGreat.R
