/- What the members' functions compute, plainly: logs. -/
import Derived.Test.YtgoachcogmlhcaaMF
import Derived.IntWalk
set_option maxRecDepth 100000
set_option linter.unusedVariables false
set_option linter.unusedSimpArgs false
noncomputable section
namespace Go.Proofs.Ytgoachcogmlhcaa.R
open Go
def inR(n:Int):Prop:=-9223372036854775808≤n∧n≤9223372036854775807
theorem wrap_in{n:Int}(h:inR n):IntKind.i64.wrap n=n:=IntWalk.i64_in n h
theorem wrap_sm{n:Int}(h : -9000000000000≤n∧n≤9000000000000):IntKind.i64.wrap n=n:=wrap_in (by unfold inR; omega)
theorem wrap_nat{k:Nat}(h:k < 1000000000):IntKind.i64.wrap ((k:Int) + 1) = ((k + 1:Nat):Int):=by
  rw [wrap_sm (by omega)]; rfl
theorem nthI_nat{α:Type}(l:List α)(k:Nat):nthI l (k:Int) = l[k]?:=by simp [nthI]
theorem nthI_lt{α:Type}{l:List α}{k:Nat}(h:k < l.length):nthI l (k:Int) = some l[k]:=by rw [nthI_nat,List.getElem?_eq_getElem h]
theorem nthI_int{α:Type}{l:List α}{i:Int}(h0:0≤i):nthI l i=l[i.toNat]?:=by simp [nthI,h0]
theorem capB_small{n:Nat}(h:n≤549755813888):capB n=true:=by
  unfold capB limN
  simpa using h
theorem u64_in{n:Int}(h0:0≤n)(h1:n < 18446744073709551616):IntKind.u64.wrap n=n:=by
  simp only [IntKind.wrap,IntKind.signed,IntKind.bits]
  simp
  omega
theorem sliceL_to{α:Type}{l:List α}{i:Int}(h0:0≤i)(h1:i≤(l.length:Int)):sliceL l i l.length=some (l.drop i.toNat):=by
  unfold sliceL
  rw [if_pos ⟨h0,h1,Int.le_refl _⟩]
  simp
theorem sliceL_upto{α:Type}{l:List α}{i:Int}(h0:0≤i)(h1:i≤(l.length:Int)):sliceL l 0 i=some (l.take i.toNat):=by
  unfold sliceL
  rw [if_pos ⟨Int.le_refl _,h0,h1⟩]
  simp
structure OkE (B:Int) (e:TEntry):Prop where
  t:0≤e.Term∧e.Term≤B
  d:e.Data.length≤1000
structure OkG (B:Int) (l:TLog):Prop where
  b:0≤l.Base
  bt:0≤l.BaseTerm∧l.BaseTerm≤B
  last:l.Base + (l.Entries.length:Int)≤B
  e:∀ x∈l.Entries,OkE B x
def lastL(l:TLog):Int:=l.Base + (l.Entries.length:Int)
def termL(l:TLog)(i:Int):Option Int:=
  if i=l.Base then some l.BaseTerm else if i < l.Base∨lastL l < i then none else (l.Entries[(i - l.Base - 1).toNat]?).map TEntry.Term
def lastTermL(l:TLog):Int:=(termL l (lastL l)).getD 0
def newerL(l:TLog)(term at0:Int):Bool:=decide (lastTermL l < term) || (decide (term=lastTermL l) && decide (lastL l≤at0))
def fromL(l:TLog)(at0:Int):List TEntry:=if at0≤l.Base∨lastL l < at0 then [] else (l.Entries.drop (at0 - l.Base - 1).toNat).take 8
theorem copied_loop{l:List TEntry}(hl:l.length≤100000000)(hd:∀ x∈l,x.Data.length≤1000):∀ (m k n:Nat) (out:List TEntry),l.length - k=m→k≤l.length→m < n→out.length≤k→zdi l n (k:Int) out=some (out++l.drop k):=by
  intro m
  induction m with
  | zero=>
    intro k n out hm hk hn ho
    obtain ⟨n,rfl⟩:∃ n',n=n' + 1:=⟨n - 1,by omega⟩
    have hk':¬ ((k:Int) < (l.length:Int)):=by omega
    rw [zdi,zgd,decide_eq_false hk',if_neg (by simp),List.drop_eq_nil_of_le (by omega),List.append_nil]
  | succ m ih=>
    intro k n out hm hk hn ho
    obtain ⟨n,rfl⟩:∃ n',n=n' + 1:=⟨n - 1,by omega⟩
    have hlt:k < l.length:=by omega
    have hk':((k:Int) < (l.length:Int)):=by omega
    have:=hd _ (List.getElem_mem hlt)
    rw [zdi,zgd,decide_eq_true hk',if_pos rfl,nthI_lt hlt,bnd_some,if_pos (capB_small (by omega)),if_pos (capB_small (by omega)),wrap_nat (by omega),ih (k + 1) n _ (by omega) (by omega) (by omega) (by simp; omega),List.drop_eq_getElem_cons hlt]
    simp
theorem copied_eq{l:List TEntry}(hl:l.length≤100000000)(hd:∀ x∈l,x.Data.length≤1000):zfp l=some l:=by
  have:=copied_loop hl hd _ 0 ((((l.length:Int)) - ((0:Int))).toNat + 1) [] rfl (Nat.zero_le _) (by omega) (by simp)
  unfold zfp
  simpa using this
section
variable {B:Int} {l:TLog}
theorem OkG.len(h:OkG B l)(hB:B≤1000000):l.Entries.length≤1000000:=by have:=h.last; have:=h.b; omega
theorem logs_Copy(h:OkG B l)(hB:B≤1000000):zen l=some l:=by
  have:=h.len hB
  unfold zen
  rw [copied_eq (by omega) fun x hx=>(h.e x hx).d,bnd_some]
theorem logs_Last(h:OkG B l)(hB:B≤1000000):zag l=some (lastL l):=by
  have:=h.last; have:=h.b
  unfold zag lastL
  rw [wrap_sm (by omega)]
theorem termL_out{i:Int}(h0:i≠l.Base)(h:i < l.Base∨lastL l < i):termL l i=none:=by
  unfold termL
  rw [if_neg h0,if_pos h]
theorem logs_Term(h:OkG B l)(hB:B≤1000000){i:Int}(hi : -9000000≤i∧i≤9000000):zbk l i=some ((termL l i).getD 0,(termL l i).isSome):=by
  have h1:=h.last; have h2:=h.b
  unfold zbk termL
  by_cases hb:i=l.Base
  ·rw [decide_eq_true hb,if_pos rfl,if_pos hb]; rfl
  ·rw [decide_eq_false hb,if_neg (by simp),if_neg hb]
   by_cases hlt:i < l.Base
   ·rw [decide_eq_true hlt,if_pos rfl,if_pos (.inl hlt)]; rfl
   ·rw [decide_eq_false hlt,if_neg (by simp),logs_Last h hB,bnd_some]
    by_cases hgt:lastL l < i
    ·rw [decide_eq_true hgt,if_pos (.inr hgt)]; rfl
    ·rw [decide_eq_false hgt,if_neg (by omega)]
     unfold lastL at hgt
     unfold ziv
     have hlt2:(i - l.Base - 1).toNat < l.Entries.length:=by omega
     rw [if_neg (by simp),wrap_sm (n:=i - l.Base) (by omega),wrap_sm (by omega),nthI_int (by omega),List.getElem?_eq_getElem hlt2,bnd_some]
     rfl
theorem lastL_r(h:OkG B l)(hB:B≤1000000):0≤lastL l∧lastL l≤B:=by
  have:=h.last; have:=h.b
  unfold lastL
  omega
theorem logs_LastTerm(h:OkG B l)(hB:B≤1000000):zee l=some (lastTermL l):=by
  have:=lastL_r h hB
  unfold zee
  rw [logs_Last h hB,bnd_some,logs_Term h hB (by omega),bnd_some]
  rfl
theorem logs_Newer(h:OkG B l)(hB:B≤1000000)(term at0:Int):zhr l term at0=some (newerL l term at0):=by
  unfold zhr newerL
  rw [logs_LastTerm h hB,bnd_some]
  by_cases h1:lastTermL l < term
  ·simp [h1]
  ·by_cases h2:term=lastTermL l
   ·rw [decide_eq_false h1,if_neg (by simp),decide_eq_true h2,if_pos rfl,logs_Last h hB,bnd_some]
    simp
   ·simp [h1,h2]
theorem termL_r(h:OkG B l)(hB:0≤B)(i:Int):0≤(termL l i).getD 0∧(termL l i).getD 0≤B:=by
  unfold termL
  split
  ·exact h.bt
  ·split
   ·simp; omega
   ·cases hx:l.Entries[(i - l.Base - 1).toNat]? with
    | none=>simp; omega
    | some e=>exact (h.e e (List.mem_of_getElem? hx)).t
theorem logs_From(h:OkG B l)(hB:B≤1000000){i:Int}(hi : -9000000≤i∧i≤9000000):zio l i 8=some (fromL l i):=by
  have h1:=h.last; have h2:=h.b; have h3:=h.len hB
  unfold zio fromL
  by_cases hb:i≤l.Base
  ·rw [decide_eq_true hb,if_pos rfl,if_pos (.inl hb)]; rfl
  ·rw [decide_eq_false hb,if_neg (by simp),logs_Last h hB,bnd_some]
   by_cases hgt:lastL l < i
   ·rw [decide_eq_true hgt,if_pos rfl,if_pos (.inr hgt)]; rfl
   ·rw [decide_eq_false hgt,if_neg (by simp),if_neg (by omega)]
    unfold lastL at hgt
    unfold zhl
    have hd:∀ x∈(l.Entries.drop (i - l.Base - 1).toNat).take 8,x.Data.length≤1000:=fun x hx=>(h.e x (List.mem_of_mem_drop (List.mem_of_mem_take hx))).d
    rw [if_neg (by simp),wrap_sm (n:=i - l.Base) (by omega),wrap_sm (by omega),sliceL_to (by omega) (by omega),bnd_some]
    have hcut:sliceL (l.Entries.drop (i - l.Base - 1).toNat) 0 (if ((l.Entries.drop (i - l.Base - 1).toNat).length:Int) < 8 then ((l.Entries.drop (i - l.Base - 1).toNat).length:Int) else 8) = some ((l.Entries.drop (i - l.Base - 1).toNat).take 8):=by
      split
      ·rename_i hs
       rw [sliceL_upto (by omega) (by omega)]
       congr 1
       rw [List.take_of_length_le (by omega),List.take_of_length_le (by omega)]
      ·rw [sliceL_upto (by omega) (by omega)]; rfl
    rw [hcut,bnd_some,copied_eq (by simp; omega) hd,bnd_some]
theorem logs_Behind(h:OkG B l)(hB:B≤1000000){e:TEntry}(he:e.Data.length≤1000):zgo l e=some ⟨l.Base,l.BaseTerm,l.Entries++[e]⟩:=by
  have h3:=h.len hB
  unfold zgo
  rw [logs_Copy h hB,bnd_some,if_pos (capB_small (by omega)),if_pos (capB_small (by omega))]
def compactL(l:TLog)(i:Int):TLog:=⟨i,(termL l i).getD 0,l.Entries.drop (i - l.Base).toNat⟩
theorem logs_Compact(h:OkG B l)(hB:B≤1000000){i:Int}(hi : -9000000≤i∧i≤9000000):zhm l i=some (if (termL l i).isSome then (compactL l i,0) else (⟨0,0,[]⟩,2)):=by
  have h1:=h.last; have h2:=h.b; have h3:=h.len hB
  unfold zhm
  rw [logs_Term h hB hi,bnd_some]
  cases ht:termL l i with
  | none=>simp
  | some t=>
    have hin:l.Base≤i∧i≤lastL l:=by
      unfold termL at ht
      split at ht
      ·unfold lastL; omega
      ·split at ht
       ·cases ht
       ·omega
    unfold lastL at hin
    have hd:∀ x∈l.Entries.drop (i - l.Base).toNat,x.Data.length≤1000:=fun x hx=>(h.e x (List.mem_of_mem_drop hx)).d
    simp only [Option.isSome_some,if_true]
    rw [wrap_sm (by omega),sliceL_to (by omega) (by omega),bnd_some,copied_eq (by simp; omega) hd,bnd_some]
    simp [compactL,ht]
def resetL(l:TLog)(i term:Int):TLog:=if termL l i=some term then compactL l i else ⟨i,term,[]⟩
theorem logs_Reset(h:OkG B l)(hB:B≤1000000){i term:Int}(hi : -9000000≤i∧i≤9000000):zkg l i term=some (resetL l i term):=by
  unfold zkg resetL zin
  rw [logs_Term h hB hi,bnd_some]
  cases ht:termL l i with
  | none=>simp
  | some t=>
    by_cases he:t=term
    ·simp [he,logs_Compact h hB hi,ht,bnd_some]
    ·simp [he]
end
end Go.Proofs.Ytgoachcogmlhcaa.R
set_option maxRecDepth 100000
set_option linter.unusedVariables false
set_option linter.unusedSimpArgs false
noncomputable section
namespace Go.Proofs.Ytgoachcogmlhcaa.R
open Go
def mergeL(ents:List TEntry):Nat→List TEntry→List TEntry
  | _,[]=>ents
  | k,e :: r=>match ents[k]? with
    | some x=>if x.Term=e.Term then mergeL ents (k + 1) r else ents.take k++(e :: r)
    | none=>ents++(e :: r)
def hintN(l:TLog)(mine:Int):Nat→Int
  | 0=>l.Base
  | k + 1=>if termL l (l.Base + (k + 1:Nat)) = some mine then hintN l mine k else l.Base + (k + 1:Nat)
def hintL(l:TLog)(at0 mine:Int):Int:=hintN l mine (at0 - 1 - l.Base).toNat
def putC(l:TLog)(at0 term:Int)(es:List TEntry):TLog × Int × Bool:=
  match termL l at0 with
  | none=>(l,lastL l,false)
  | some mine=>if mine≠term then (l,hintL l at0 mine,false) else (⟨l.Base,l.BaseTerm,mergeL l.Entries (at0 - l.Base).toNat es⟩,at0 + (es.length:Int),true)
def putL(l:TLog)(at0 term:Int)(es:List TEntry):TLog × Int × Bool:=
  if at0 < l.Base then (if (es.length:Int) < l.Base - at0 then (l,l.Base,true) else putC l l.Base l.BaseTerm (es.drop (l.Base - at0).toNat)) else putC l at0 term es
theorem hintN_r(l:TLog)(mine:Int):∀ k,l.Base≤hintN l mine k∧hintN l mine k≤l.Base + (k:Nat)
  | 0=>by simp [hintN]
  | k + 1=>by
    have:=hintN_r l mine k
    unfold hintN
    split
    ·omega
    ·omega
section
variable {B:Int} {l:TLog}
theorem termL_some{i t:Int}(h:termL l i=some t):l.Base≤i∧i≤lastL l:=by
  unfold termL at h
  split at h
  ·unfold lastL; omega
  ·split at h
   ·cases h
   ·omega
theorem put_k3(h:OkG B l)(hB:B≤1000000)(x:Int):zjm l x=some (l,(if x < l.Base then l.Base else x),false):=by
  unfold zjm
  rw [logs_Copy h hB,bnd_some]
theorem hint_loop(h:OkG B l)(hB:B≤1000000)(mine:Int):∀ (k n:Nat),(k:Int)≤2000000→k < n→zak l (mine,true) n (l.Base + (k:Nat)) ((termL l (l.Base + (k:Nat))).getD 0) (termL l (l.Base + (k:Nat))).isSome=some (l,hintN l mine k,false):=by
  have hb1:=h.last; have hb2:=h.b
  intro k
  induction k with
  | zero=>
    intro n hk hn
    obtain ⟨n,rfl⟩:∃ n',n=n' + 1:=⟨n - 1,by omega⟩
    have e0:l.Base + ((0:Nat):Int) = l.Base:=by omega
    rw [zak,zgl,e0]
    have h1:∀ v,zbg (zak l (mine,true) n) l l.Base v=some (l,l.Base,false)∨v=true:=by
      intro v
      cases v with
      | true=>exact .inr rfl
      | false=>
        left
        unfold zbg
        rw [if_neg (by simp),put_k3 h hB,if_neg (by omega)]
    have h2:zbg (zak l (mine,true) n) l l.Base false=some (l,l.Base,false):=by
      rcases h1 false with h | h
      ·exact h
      ·cases h
    have hd:decide (l.Base < l.Base) = false:=decide_eq_false (by omega)
    rw [hd,h2]
    simp [hintN]
  | succ k ih=>
    intro n hk hn
    obtain ⟨n,rfl⟩:∃ n',n=n' + 1:=⟨n - 1,by omega⟩
    have hbase:l.Base < l.Base + ((k + 1:Nat):Int):=by omega
    have hprev:IntKind.i64.wrap (l.Base + ((k + 1:Nat):Int) - 1) = l.Base + (k:Nat):=by rw [wrap_sm (by omega)]; omega
    rw [zak,zgl]
    have hno:zbg (zak l (mine,true) n) l (l.Base + ((k + 1:Nat):Int)) false=some (l,l.Base + ((k + 1:Nat):Int),false):=by
      unfold zbg
      rw [if_neg (by simp),put_k3 h hB,if_neg (by omega)]
    cases ht:termL l (l.Base + ((k + 1:Nat):Int)) with
    | none=>
      simp only [Option.isSome_none,Bool.false_eq_true,if_false]
      rw [hno]
      unfold hintN
      rw [ht,if_neg (by simp)]
    | some t=>
      simp only [Option.isSome_some,if_true]
      change (if decide (t=mine) = true then zbg (zak l (mine,true) n) l (l.Base + ((k + 1:Nat):Int)) (decide (l.Base < l.Base + ((k + 1:Nat):Int))) else zbg (zak l (mine,true) n) l (l.Base + ((k + 1:Nat):Int)) false) = _
      by_cases hm:t=mine
      ·rw [decide_eq_true hm,if_pos rfl,decide_eq_true hbase]
       unfold zbg
       rw [if_pos rfl,hprev,logs_Term h hB (by omega),bnd_some]
       simp only
       rw [ih n (by omega) (by omega)]
       conv=>rhs; unfold hintN
       rw [ht,hm,if_pos rfl]
      ·rw [decide_eq_false hm,if_neg (by simp),hno]
       unfold hintN
       rw [ht,if_neg (by simp [hm])]
theorem merge_loop(h:OkG B l)(hB:B≤1000000){k0:Nat}{es:List TEntry}(hk0:(k0:Int)≤1000000)(hes:es.length≤1000)(hd:∀ x∈es,x.Data.length≤1000) :
    ∀ (m j n:Nat),es.length - j=m→j≤es.length→m < n→zfq l (l.Base + (k0:Nat)) es l n (j:Int) = some (⟨l.Base,l.BaseTerm,mergeL l.Entries (k0 + j) (es.drop j)⟩,l.Base + (k0:Nat) + (es.length:Int),true):=by
  have hb1:=h.last; have hb2:=h.b; have hlen:=h.len hB
  have hk5:∀ out,zih (l.Base + (k0:Nat)) es l out=some (⟨l.Base,l.BaseTerm,out⟩,l.Base + (k0:Nat) + (es.length:Int),true):=by
    intro out
    unfold zih
    rw [wrap_sm (by omega)]
  have hk4:∀ (j:Nat) out,j≤es.length→out.length≤1000000→zii (l.Base + (k0:Nat)) es l (j:Int) out=some (⟨l.Base,l.BaseTerm,out++es.drop j⟩,l.Base + (k0:Nat) + (es.length:Int),true):=by
    intro j out hj ho
    unfold zii
    have e1:((j:Int)).toNat=j:=by omega
    rw [sliceL_to (by omega) (by omega),bnd_some,e1,copied_eq (by simp; omega) fun x hx=>hd x (List.mem_of_mem_drop hx),bnd_some,if_pos (capB_small (by simp; omega)),hk5]
  intro m
  induction m with
  | zero=>
    intro j n hm hj hn
    obtain ⟨n,rfl⟩:∃ n',n=n' + 1:=⟨n - 1,by omega⟩
    have hj':¬ ((j:Int) < (es.length:Int)):=by omega
    rw [zfq,zim,decide_eq_false hj',if_neg (by simp),List.drop_eq_nil_of_le (by omega),hk5]
    simp [mergeL]
  | succ m ih=>
    intro j n hm hj hn
    obtain ⟨n,rfl⟩:∃ n',n=n' + 1:=⟨n - 1,by omega⟩
    have hlt:j < es.length:=by omega
    have hj':((j:Int) < (es.length:Int)):=by omega
    have hpos:IntKind.i64.wrap (IntKind.i64.wrap (l.Base + (k0:Nat) + (j:Int)) - l.Base) = ((k0 + j:Nat):Int):=by
      rw [wrap_sm (n:=l.Base + (k0:Nat) + (j:Int)) (by omega),wrap_sm (by omega)]
      omega
    rw [zfq,zim,decide_eq_true hj',if_pos rfl,nthI_lt hlt,bnd_some,hpos,List.drop_eq_getElem_cons hlt]
    by_cases hin:k0 + j < l.Entries.length
    ·have h1:(((k0 + j:Nat):Int) < ((l.Entries.length:Nat):Int)):=by omega
     have h2:l.Entries[k0 + j]? = some l.Entries[k0 + j]:=List.getElem?_eq_getElem hin
     rw [decide_eq_true h1,if_pos rfl,nthI_lt hin,bnd_some]
     simp only [mergeL,h2]
     by_cases ht:l.Entries[k0 + j].Term=es[j].Term
     ·rw [decide_eq_true ht,if_pos rfl,if_pos ht,wrap_nat (by omega),ih (j + 1) n (by omega) (by omega) (by omega)]
      rfl
     ·have e1:(((k0 + j:Nat):Int)).toNat=k0 + j:=by omega
      rw [decide_eq_false ht,if_neg (by simp),if_neg ht,sliceL_upto (by omega) (by omega),bnd_some,e1,hk4 j _ (by omega) (by simp; omega),List.drop_eq_getElem_cons hlt]
    ·have h1:¬ (((k0 + j:Nat):Int) < ((l.Entries.length:Nat):Int)):=by omega
     have h2:l.Entries[k0 + j]? = none:=List.getElem?_eq_none (by omega)
     rw [decide_eq_false h1,if_neg (by simp),hk4 j _ (by omega) (by omega),List.drop_eq_getElem_cons hlt]
     simp only [mergeL,h2]
theorem put_k1(h:OkG B l)(hB:B≤1000000){at0 term:Int}(ha:l.Base≤at0∧at0≤1000000){es:List TEntry}(hes:es.length≤1000)(hd:∀ x∈es,x.Data.length≤1000):zij l at0 term es=some (putC l at0 term es):=by
  have hb1:=h.last; have hb2:=h.b
  unfold zij putC
  rw [logs_Term h hB (by omega),bnd_some]
  cases ht:termL l at0 with
  | none=>
    simp only [Option.isSome_none,Bool.false_eq_true,if_false]
    rw [logs_Copy h hB,bnd_some,logs_Last h hB,bnd_some]
  | some mine=>
    simp only [Option.isSome_some,if_true,Option.getD_some]
    by_cases hm:mine=term
    ·have e0:at0=l.Base + ((at0 - l.Base).toNat:Nat):=by omega
     have hz:=merge_loop h hB (k0:=(at0 - l.Base).toNat) (es:=es) (by omega) hes hd _ 0 ((((es.length:Int)) - ((0:Int))).toNat + 1) rfl (Nat.zero_le _) (by omega)
     simp only [hm,ne_eq,not_true_eq_false,decide_false,Bool.false_eq_true,if_false]
     rw [logs_Copy h hB,bnd_some]
     rw [← e0] at hz
     simpa using hz
    ·simp only [ne_eq,hm,not_false_eq_true,decide_true,if_true]
     by_cases hlow:at0 - 1 < l.Base
     ·have e1:at0=l.Base:=by omega
      have ht1:termL l (at0 - 1) = none:=termL_out (by omega) (.inl (by omega))
      rw [wrap_sm (by omega),logs_Term h hB (by omega),bnd_some,ht1]
      simp only [Option.isSome_none,Option.getD_none]
      have:zak l (mine,true) 1000000 (at0 - 1) 0 false=some (l,l.Base,false):=by
        show zak l (mine,true) (999999 + 1) (at0 - 1) 0 false=_
        rw [zak,zgl,if_neg (by simp)]
        unfold zbg
        rw [if_neg (by simp),put_k3 h hB,if_pos (by omega)]
      rw [this]
      have e2:(at0 - 1 - l.Base).toNat=0:=by omega
      unfold hintL
      rw [e2]
      rfl
     ·have e2:at0 - 1=l.Base + ((at0 - 1 - l.Base).toNat:Nat):=by omega
      have htm:=termL_some ht
      have hz:=hint_loop h hB mine (at0 - 1 - l.Base).toNat 1000000 (by omega) (by unfold lastL at htm; omega)
      rw [wrap_sm (by omega),logs_Term h hB (by omega),bnd_some]
      rw [← e2] at hz
      exact hz
theorem logs_Put(h:OkG B l)(hB:B≤1000000){at0 term:Int}(ha:0≤at0∧at0≤1000000){es:List TEntry}(hes:es.length≤1000)(hd:∀ x∈es,x.Data.length≤1000):zlt l at0 term es=some (putL l at0 term es):=by
  have hb1:=h.last; have hb2:=h.b
  unfold zlt putL
  by_cases hlt:at0 < l.Base
  ·rw [decide_eq_true hlt,if_pos rfl,if_pos hlt,wrap_sm (by omega)]
   by_cases hs:(es.length:Int) < l.Base - at0
   ·rw [decide_eq_true hs,if_pos rfl,if_pos hs,logs_Copy h hB,bnd_some]
   ·rw [decide_eq_false hs,if_neg (by simp),if_neg hs,sliceL_to (by omega) (by omega),bnd_some,put_k1 h hB (by omega) (by simp; omega) fun x hx=>hd x (List.mem_of_mem_drop hx)]
  ·rw [decide_eq_false hlt,if_neg (by simp),if_neg hlt,put_k1 h hB (by omega) hes hd]
end
end Go.Proofs.Ytgoachcogmlhcaa.R
set_option maxRecDepth 100000
set_option linter.unusedVariables false
set_option linter.unusedSimpArgs false
noncomputable section
namespace Go.Proofs.Ytgoachcogmlhcaa.R
open Go
def cntB(l:List Bool):Nat:=l.countP (fun b=>b)
def wonL(l:List Bool):Bool:=decide (l.length < 2 * cntB l)
theorem cntB_le(l:List Bool):cntB l≤l.length:=List.countP_le_length
theorem quorum_Enough{n:Nat}(h:n≤1000):zgk (n:Int) = some (if n=0 then 0 else ((n / 2 + 1:Nat):Int)):=by
  unfold zgk
  by_cases h0:n=0
  ·subst h0; simp
  ·have h1:¬ ((n:Int) < 1):=by omega
   have h2:(n:Int).tdiv 2=((n / 2:Nat):Int):=rfl
   rw [decide_eq_false h1,if_neg (by simp),if_neg h0,h2,wrap_sm (n:=((n / 2:Nat):Int)) (by omega),wrap_sm (by omega)]
   rfl
theorem won_loop{l:List Bool}(hl:l.length≤1000):∀ (m k n:Nat),l.length - k=m→k≤l.length→m < n→zef l n ((cntB (l.take k):Nat):Int) (k:Int) = some (wonL l):=by
  intro m
  induction m with
  | zero=>
    intro k n hm hk hn
    obtain ⟨n,rfl⟩:∃ n',n=n' + 1:=⟨n - 1,by omega⟩
    have hk':¬ ((k:Int) < (l.length:Int)):=by omega
    rw [zef,zgt,decide_eq_false hk',if_neg (by simp),List.take_of_length_le (by omega)]
    unfold zjw wonL
    have hc:=cntB_le l
    by_cases h0:l.length=0
    ·have h1:¬ (0:Int) < (l.length:Int):=by omega
     rw [decide_eq_false h1,if_neg (by simp)]
     have:¬ l.length < 2 * cntB l:=by omega
     rw [decide_eq_false this]
    ·have h1:(0:Int) < (l.length:Int):=by omega
     rw [decide_eq_true h1,if_pos rfl,quorum_Enough hl,bnd_some,if_neg h0]
     congr 1
     rw [decide_eq_decide]
     omega
  | succ m ih=>
    intro k n hm hk hn
    obtain ⟨n,rfl⟩:∃ n',n=n' + 1:=⟨n - 1,by omega⟩
    have hlt:k < l.length:=by omega
    have hk':((k:Int) < (l.length:Int)):=by omega
    have htake:l.take (k + 1) = l.take k++[l[k]]:=by rw [List.take_succ_eq_append_getElem hlt]
    have hcl:cntB (l.take k)≤k:=by have:=cntB_le (l.take k); simp at this; omega
    rw [zef,zgt,decide_eq_true hk',if_pos rfl,nthI_lt hlt,bnd_some]
    have hi:=ih (k + 1) n (by omega) (by omega) (by omega)
    rw [htake] at hi
    cases hb:l[k] with
    | true=>
      rw [if_pos rfl,wrap_nat (by omega),wrap_nat (by omega)]
      rw [hb] at hi
      have:cntB (l.take k++[true]) = cntB (l.take k) + 1:=by simp [cntB]
      rw [this] at hi
      exact hi
    | false=>
      rw [if_neg (by simp),wrap_nat (by omega)]
      rw [hb] at hi
      have:cntB (l.take k++[false]) = cntB (l.take k):=by simp [cntB]
      rw [this] at hi
      exact hi
theorem quorum_Won{l:List Bool}(hl:l.length≤1000):ziw l=some (wonL l):=by
  have:=won_loop hl _ 0 ((((l.length:Int)) - ((0:Int))).toNat + 1) rfl (Nat.zero_le _) (by omega)
  unfold ziw
  simpa [cntB] using this
theorem less_eq(x y:Int):zix x y=some (decide (x < y)):=by
  unfold zix zik
  simp [bnd_some]
theorem get_mid{α:Type}(A:List α)(x:α)(C:List α):(A++x :: C)[A.length]? = some x:=by simp
theorem set_mid{α:Type}(A:List α)(x y:α)(C:List α):(A++x :: C).set A.length y=A++y :: C:=by simp
theorem sort_inner{rec1:Int→List Int→Option (List Int)}{i:Int}:∀ (k:Nat) (A:List Int) (x:Int) (C D:List Int) (n:Nat),A.length=k→k < n→(A++x :: C++D).length≤1000→(A++C).Pairwise (·≤ ·)→(∀ y∈C,x≤y) →
    ∃ S,S.Pairwise (·≤ ·)∧S.Perm (A++x :: C)∧zo rec1 0 i n (k:Int) (A++x :: C++D) = rec1 (IntKind.i64.wrap (i + 1)) (S++D):=by
  intro k
  induction k with
  | zero=>
    intro A x C D n hA hn hlen hs hx
    obtain ⟨n,rfl⟩:∃ n',n=n' + 1:=⟨n - 1,by omega⟩
    obtain rfl:=List.eq_nil_of_length_eq_zero hA
    refine ⟨x :: C,List.pairwise_cons.2 ⟨hx,by simpa using hs⟩,List.Perm.refl _,?_⟩
    rw [zo,zai]
    have:¬ ((0:Int) < ((0:Nat):Int)):=by omega
    rw [decide_eq_false this,if_neg (by simp)]
    unfold zad zau
    rw [if_neg (by simp)]
    simp
  | succ k ih=>
    intro A x C D n hA hn hlen hs hx
    obtain ⟨n,rfl⟩:∃ n',n=n' + 1:=⟨n - 1,by omega⟩
    obtain ⟨A',y,rfl⟩:∃ A' y,A=A'++[y]:=by
      have hne:A≠[]:=by intro h; subst h; simp at hA
      exact ⟨A.dropLast,A.getLast hne,(List.dropLast_concat_getLast hne).symm⟩
    have hA':A'.length=k:=by simpa using hA
    have hk:((0:Int) < ((k + 1:Nat):Int)):=by omega
    have hkl:k < 1000:=by simp at hlen; omega
    have hw:IntKind.i64.wrap (((k + 1:Nat):Int) - 1) = (k:Int):=by rw [wrap_sm (by omega)]; omega
    have e1:A'++[y]++x :: C++D=A'++y :: (x :: (C++D)):=by simp
    have e2:A'++[y]++x :: C++D=(A'++[y])++x :: (C++D):=by simp
    have g1:nthI (A'++[y]++x :: C++D) ((k + 1:Nat):Int) = some x:=by
      rw [nthI_nat,e2,← hA]; exact get_mid _ _ _
    have g2:nthI (A'++[y]++x :: C++D) (k:Int) = some y:=by
      rw [nthI_nat,e1,← hA']; exact get_mid _ _ _
    have hs1:setI (A'++[y]++x :: C++D) ((k + 1:Nat):Int) y=A'++y :: (y :: (C++D)):=by
      unfold setI
      have:(((k + 1:Nat):Int)).toNat=(A'++[y]).length:=by rw [hA]; omega
      rw [e2,this,set_mid]
      simp
    have g3:nthI (A'++y :: (y :: (C++D))) (k:Int) = some y:=by rw [nthI_nat,← hA']; exact get_mid _ _ _
    have hs2:setI (A'++y :: (y :: (C++D))) (k:Int) x=A'++x :: (y :: C)++D:=by
      unfold setI
      have:((k:Int)).toNat=A'.length:=by omega
      rw [this,set_mid]
      simp
    have hsA:(A'++y :: C).Pairwise (·≤ ·):=by simpa using hs
    rw [zo,zai,decide_eq_true hk,if_pos rfl,g1,bnd_some,hw,g2,bnd_some,less_eq,bnd_some]
    unfold zad zau
    by_cases hlt:x < y
    ·rw [decide_eq_true hlt,if_pos rfl,hw,g2,bnd_some,g1,bnd_some,hs1,g3,bnd_some,hs2]
     obtain ⟨S,h1,h2,h3⟩:=ih A' x (y :: C) D n hA' (by omega) (by simp at hlen ⊢; omega) hsA (by
       intro z hz
       rcases List.mem_cons.1 hz with rfl | hz
       ·omega
       ·exact hx z hz)
     refine ⟨S,h1,h2.trans ?_,h3⟩
     have:(A'++x :: y :: C).Perm (A'++y :: x :: C):=List.Perm.append_left _ (List.Perm.swap _ _ _)
     simpa using this
    ·rw [decide_eq_false hlt,if_neg (by simp)]
     refine ⟨A'++[y]++x :: C,?_,List.Perm.refl _,by simp⟩
     have hp:=List.pairwise_append.1 hs
     have hA2:=List.pairwise_append.1 hsA
     refine List.pairwise_append.2 ⟨hp.1,List.pairwise_cons.2 ⟨hx,hp.2.1⟩,?_⟩
     intro a ha b hb
     rcases List.mem_cons.1 hb with rfl | hb
     ·rcases List.mem_append.1 ha with ha | ha
      ·have:=hA2.2.2 a ha y List.mem_cons_self
       omega
      ·simp at ha; omega
     ·exact hp.2.2 a ha b hb
theorem sort_outer{len:Nat}(hlen:len≤1000):∀ (m i n:Nat) (S D:List Int),len - i=m→S.length=i→S.length + D.length=len→m < n→S.Pairwise (·≤ ·) →
    ∃ R,R.Pairwise (·≤ ·)∧R.Perm (S++D)∧zn 0 (len:Int) n (i:Int) (S++D) = some R:=by
  intro m
  induction m with
  | zero=>
    intro i n S D hm hS hSD hn hs
    obtain ⟨n,rfl⟩:∃ n',n=n' + 1:=⟨n - 1,by omega⟩
    have hD:D = []:=List.eq_nil_of_length_eq_zero (by omega)
    subst hD
    have:¬ ((i:Int) < (len:Int)):=by omega
    refine ⟨S,hs,by simp,?_⟩
    rw [zn,zaj,decide_eq_false this,if_neg (by simp)]
    simp
  | succ m ih=>
    intro i n S D hm hS hSD hn hs
    obtain ⟨n,rfl⟩:∃ n',n=n' + 1:=⟨n - 1,by omega⟩
    match D,hSD with
    | [],hSD=>simp at hSD; omega
    | x :: D,hSD=>
      have hlt:((i:Int) < (len:Int)):=by omega
      obtain ⟨S2,h1,h2,h3⟩:=sort_inner (rec1:=zn 0 (len:Int) n) (i:=(i:Int)) i S x [] D 1000000 hS (by omega) (by simp at hSD ⊢; omega) (by simpa using hs) (by simp)
      have hl2:S2.length=i + 1:=by have:=h2.length_eq; simp at this; omega
      obtain ⟨R,q1,q2,q3⟩:=ih (i + 1) n S2 D (by omega) hl2 (by simp at hSD; omega) (by omega) h1
      refine ⟨R,q1,q2.trans ?_,?_⟩
      ·have:=h2.append_right D
       simpa using this
      ·have e1:S++x :: D=S++x :: []++D:=by simp
       rw [zn,zaj,decide_eq_true hlt,if_pos rfl,e1,h3,wrap_nat (by omega)]
       exact q3
theorem sort_ok{l:List Int}(hl:l.length≤12)(h0:0 < l.length):∃ R,R.Pairwise (·≤ ·)∧R.Perm l∧zev l=some R:=by
  obtain ⟨x,D,rfl⟩:∃ x D,l=x :: D:=by
    cases l with
    | nil=>simp at h0
    | cons x D=>exact ⟨x,D,rfl⟩
  obtain ⟨R,h1,h2,h3⟩:=sort_outer (len:=(x :: D).length) (by omega) _ 1 ((((x :: D).length:Int) - 1).toNat + 1) [x] D rfl rfl (by simp; omega) (by omega) (by simp)
  refine ⟨R,h1,h2,?_⟩
  have hins:zbe (x :: D) 0 ((x :: D).length:Int) = some R:=by
    unfold zbe
    have:IntKind.i64.wrap ((0:Int) + 1) = ((1:Nat):Int):=by rw [wrap_sm (by omega)]; rfl
    rw [this]
    exact h3
  have hlen:R.length=(x :: D).length:=h2.length_eq
  have hbits:∃ r,zil (IntKind.u64.wrap (((x :: D).length:Nat):Int)) = some r:=by
    rw [u64_in (by omega) (by omega)]
    unfold zil zis
    have a1:¬ (4294967296:Int)≤(((x :: D).length:Nat):Int):=by omega
    have a2:¬ (65536:Int)≤(((x :: D).length:Nat):Int):=by omega
    have a3:¬ (256:Int)≤(((x :: D).length:Nat):Int):=by omega
    have a4:IntKind.u8.wrap (((x :: D).length:Nat):Int) = (((x :: D).length:Nat):Int):=by
      simp only [IntKind.wrap,IntKind.signed,IntKind.bits]
      simp
      simp at hl
      omega
    rw [decide_eq_false a1,if_neg (by simp)]
    unfold zfl
    rw [decide_eq_false a2,if_neg (by simp)]
    unfold zfk
    rw [decide_eq_false a3,if_neg (by simp)]
    unfold zfj
    rw [a4]
    unfold nthS
    rw [if_pos (by omega)]
    have e1:(((x :: D).length:Nat):Int).toNat=(x :: D).length:=by omega
    rw [e1,List.getElem?_eq_getElem (by show (x :: D).length < 256; omega)]
    exact ⟨_,rfl⟩
  obtain ⟨b,hb⟩:=hbits
  unfold zev
  rw [hb,bnd_some]
  have hp:zeg (x :: D) 0 (((x :: D).length:Nat):Int) b=some R:=by
    show zaf (x :: D) 0 (((x :: D).length:Nat):Int) b (999999 + 1) = some R
    rw [zaf,zcm]
    have:IntKind.i64.wrap ((((x :: D).length:Nat):Int) - 0)≤12:=by rw [wrap_sm (by omega)]; omega
    rw [decide_eq_true this,if_pos rfl,hins,bnd_some,decide_eq_true hlen,if_pos rfl]
  rw [hp,bnd_some,decide_eq_true hlen,if_pos rfl]
def cntGE(l:List Int)(c:Int):Nat:=l.countP (fun x=>decide (c≤x))
structure Reach (l:List Int) (c:Int):Prop where
  mem:c∈l
  maj:l.length < 2 * cntGE l c
  top:∀ y∈l,l.length < 2 * cntGE l y→y≤c
theorem Reach.uniq{l:List Int}{c d:Int}(h:Reach l c)(h':Reach l d):c=d:=by
  have:=h.top d h'.mem h'.maj
  have:=h'.top c h.mem h.maj
  omega
open Classical in
def reachedL(l:List Int):Int:=if h:∃ c,Reach l c then Classical.choose h else 0
theorem reachedL_eq{l:List Int}{c:Int}(h:Reach l c):reachedL l=c:=by
  unfold reachedL
  have hx:∃ c,Reach l c:=⟨c,h⟩
  rw [dif_pos hx]
  exact (Classical.choose_spec hx).uniq h
theorem countP_all{p:Int→Bool}:∀ {l:List Int},(∀ x∈l,p x=true)→l.countP p=l.length
  | [],_=>rfl
  | x :: l,h=>by
    have h1:=h x List.mem_cons_self
    have h2:=countP_all (l:=l) fun y hy=>h y (List.mem_cons_of_mem _ hy)
    simp [List.countP_cons,h1,h2]
theorem countP_none{p:Int→Bool}:∀ {l:List Int},(∀ x∈l,p x=false)→l.countP p=0
  | [],_=>rfl
  | x :: l,h=>by
    have h1:=h x List.mem_cons_self
    have h2:=countP_none (l:=l) fun y hy=>h y (List.mem_cons_of_mem _ hy)
    simp [List.countP_cons,h1,h2]
theorem reach_sorted{l R:List Int}(hs:R.Pairwise (·≤ ·))(hp:R.Perm l)(h0:0 < l.length):∃ c,R[l.length - (l.length / 2 + 1)]? = some c∧Reach l c:=by
  have hlen:=hp.length_eq
  have hk:l.length - (l.length / 2 + 1) < R.length:=by omega
  refine ⟨R[l.length - (l.length / 2 + 1)],List.getElem?_eq_getElem hk,?_⟩
  generalize hkk:l.length - (l.length / 2 + 1) = k at hk
  have hcnt:∀ c,cntGE l c=cntGE R c:=fun c=>(hp.countP_eq _).symm
  have hsplit:R=R.take k++R[k] :: R.drop (k + 1):=by rw [← List.drop_eq_getElem_cons hk,List.take_append_drop]
  have hmem:R[k]∈R:=List.getElem_mem hk
  generalize R[k] = a at hsplit hmem ⊢
  have hpw:=hs
  rw [hsplit] at hpw
  have hpa:=List.pairwise_append.1 hpw
  have hpc:=List.pairwise_cons.1 hpa.2.1
  refine ⟨hp.mem_iff.1 hmem,?_,?_⟩
  ·rw [hcnt]
   have:cntGE R a≥l.length / 2 + 1:=by
     unfold cntGE
     conv=>lhs; rw [hsplit]
     rw [List.countP_append]
     have h1:(a :: R.drop (k + 1)).countP (fun x=>decide (a≤x)) = (a :: R.drop (k + 1)).length:=countP_all fun x hx=>by
       rcases List.mem_cons.1 hx with rfl | hx
       ·simp
       ·simpa using hpc.1 x hx
     have h2:(a :: R.drop (k + 1)).length=l.length / 2 + 1:=by simp; omega
     omega
   omega
  ·intro y hy hmaj
   rw [hcnt] at hmaj
   rcases Int.lt_or_le a y with hlt | hle
   ·exfalso
    have:cntGE R y≤l.length / 2:=by
      unfold cntGE
      conv=>lhs; rw [hsplit]
      rw [List.countP_append,List.countP_cons]
      have h1:(R.take k).countP (fun x=>decide (y≤x)) = 0:=countP_none fun x hx=>by
        have:=hpa.2.2 x hx a List.mem_cons_self
        simp; omega
      have h2:¬ y≤a:=by omega
      have h3:(R.drop (k + 1)).countP (fun x=>decide (y≤x))≤(R.drop (k + 1)).length:=List.countP_le_length
      have h4:(R.drop (k + 1)).length=l.length / 2:=by simp; omega
      simp [h1,h2]
      omega
    omega
   ·exact hle
theorem quorum_Reached{l:List Int}(hl:l.length≤12)(h0:0 < l.length):zdj l=some (reachedL l)∧Reach l (reachedL l):=by
  obtain ⟨R,h1,h2,h3⟩:=sort_ok hl h0
  obtain ⟨c,h4,h5⟩:=reach_sorted h1 h2 h0
  have hc:=reachedL_eq h5
  refine ⟨?_,by rw [hc]; exact h5⟩
  have hlen:=h2.length_eq
  unfold zdj
  rw [quorum_Enough (by omega),bnd_some,if_neg (by omega)]
  unfold zjh
  have a1:¬ (((l.length / 2 + 1:Nat):Int) < 1):=by omega
  have a2:¬ ((l.length:Int) < ((l.length / 2 + 1:Nat):Int)):=by omega
  rw [decide_eq_false a1,if_neg (by simp),decide_eq_false a2]
  unfold zfz
  have e1:IntKind.i64.wrap (((l.length:Nat):Int) - ((l.length / 2 + 1:Nat):Int)) = ((l.length - (l.length / 2 + 1):Nat):Int):=by rw [wrap_sm (by omega)]; omega
  rw [if_neg (by simp),if_pos (capB_small (by omega)),h3,bnd_some,decide_eq_true hlen,if_pos rfl,e1,nthI_nat,h4,bnd_some,bnd_some,hc]
end Go.Proofs.Ytgoachcogmlhcaa.R
set_option maxRecDepth 100000
set_option linter.unusedVariables false
set_option linter.unusedSimpArgs false
noncomputable section
namespace Go.Proofs.Ytgoachcogmlhcaa.R
open Go
structure OkR (B:Int) (r:TRaft):Prop where
  id:1≤r.Id∧r.Id≤r.N
  n:r.N≤7
  term:0≤r.Term∧r.Term≤B
  vote:0≤r.Vote∧r.Vote≤7
  commit:0≤r.Commit∧r.Commit≤B
  clock:0≤r.Clock∧r.Clock≤B
  wait:0≤r.Wait∧r.Wait≤20
  log:OkG B r.Log
  snap:r.Snap.length≤1000
  gl:r.Granted.length≤7
  nl:r.Next.length≤7
  ml:r.Match.length≤7
  ga:r.Role=1∨r.Role=2→(r.Granted.length:Int) = r.N
  na:r.Role=3→(r.Next.length:Int) = r.N
  ma:r.Role=3→(r.Match.length:Int) = r.N
  nb:∀ x∈r.Next,1≤x∧x≤B + 1
  mb:∀ x∈r.Match,0≤x∧x≤B
def othersF(id:Int):Nat→Int→List Int
  | 0,_=>[]
  | k + 1,to=>if to≠id then to :: othersF id k (to + 1) else othersF id k (to + 1)
def othersR(r:TRaft):List Int:=othersF r.Id r.N.toNat 1
def nextR(r:TRaft)(to:Int):Int:=(r.Next[(to - 1).toNat]?).getD 0
def tellR(r:TRaft)(to:Int):TMsg:=
  if nextR r to≤r.Log.Base then ⟨7,0,r.Id,to,r.Term,r.Log.Base,r.Log.BaseTerm,r.Commit,false,[],r.Snap⟩
  else ⟨5,0,r.Id,to,r.Term,nextR r to - 1,(termL r.Log (nextR r to - 1)).getD 0,r.Commit,false,fromL r.Log (nextR r to),[]⟩
def followR(r:TRaft)(term lead:Int):TRaft:=
  ⟨r.Id,r.N,if r.Term < term then term else r.Term,if r.Term < term then 0 else r.Vote,0,lead,r.Log,r.Commit,r.Snap,[],[],[],r.Clock,r.Wait⟩
def commitR(r:TRaft):TRaft:=
  if termL r.Log (reachedL r.Match) = some r.Term∧r.Commit < reachedL r.Match then { r with Commit:=reachedL r.Match } else r
def behindR(r:TRaft)(data:List Int):TRaft:=
  { r with Log:=⟨r.Log.Base,r.Log.BaseTerm,r.Log.Entries++[⟨r.Term,data⟩]⟩,Match:=setI r.Match (r.Id - 1) (lastL r.Log + 1) }
def appendR(r:TRaft)(data:List Int):TRaft × List TMsg:=(commitR (behindR r data),(othersR r).map (tellR (commitR (behindR r data))))
def leadQ(r:TRaft):TRaft:=
  { followR r r.Term r.Id with Role:=3,Clock:=0,Next:=List.replicate r.N.toNat (lastL r.Log + 1),Match:=List.replicate r.N.toNat 0 }
def leadR(r:TRaft):TRaft × List TMsg:=appendR (leadQ r) []
def oneG(r:TRaft):List Bool:=setI (List.replicate r.N.toNat false) (r.Id - 1) true
def standQ(r:TRaft):TRaft:={ followR r (r.Term + 1) 0 with Vote:=r.Id,Role:=2,Clock:=0,Granted:=oneG r }
def voteM(r:TRaft)(to:Int):TMsg:=⟨3,0,r.Id,to,r.Term,lastL r.Log,lastTermL r.Log,0,false,[],[]⟩
def standR(r:TRaft):TRaft × List TMsg:=if wonL (oneG r) = true then leadR (standQ r) else (standQ r,(othersR r).map (voteM (standQ r)))
def waitR(draw:Int):Int:=10 + (IntKind.u64.wrap draw) % 10
def askQ(r:TRaft)(draw:Int):TRaft:={ followR r r.Term 0 with Role:=1,Clock:=0,Wait:=waitR draw,Granted:=oneG r }
def askM(r:TRaft)(to:Int):TMsg:=⟨1,0,r.Id,to,r.Term + 1,lastL r.Log,lastTermL r.Log,0,false,[],[]⟩
def askR(r:TRaft)(draw:Int):TRaft × List TMsg:=if wonL (oneG r) = true then standR (askQ r draw) else (askQ r draw,(othersR r).map (askM (askQ r draw)))
theorem all_loop{F:Nat→Int→Tmember→Option Tmember}{step:Int→Tmember→Option Tmember}{g:Int→TMsg}{r:TRaft}
    (hF:∀ n to m,F (n + 1) to m=if decide (to≤m.Raft.N) = true then (if decide (to≠m.Raft.Id) = true then bnd (step to m) (fun q=>F n (IntKind.i64.wrap (to + 1)) q) else F n (IntKind.i64.wrap (to + 1)) m) else some m)
    (hN:r.N≤7) (hs:∀ to out,1≤to→to≤r.N→to≠r.Id→out.length≤100→step to ⟨r,out⟩ = some ⟨r,out++[g to]⟩) :
    ∀ (k n:Nat) (to:Int) (out:List TMsg),1≤to→to≤9→(r.N - to + 1).toNat=k→k < n→out.length≤50 - k→F n to ⟨r,out⟩ = some ⟨r,out++(othersF r.Id k to).map g⟩:=by
  intro k
  induction k with
  | zero=>
    intro n to out h1 h9 hk hn ho
    obtain ⟨n,rfl⟩:∃ n',n=n' + 1:=⟨n - 1,by omega⟩
    have:¬ to≤r.N:=by omega
    rw [hF,decide_eq_false this,if_neg (by simp)]
    simp [othersF]
  | succ k ih=>
    intro n to out h1 h9 hk hn ho
    obtain ⟨n,rfl⟩:∃ n',n=n' + 1:=⟨n - 1,by omega⟩
    have hle:to≤r.N:=by omega
    rw [hF,decide_eq_true hle,if_pos rfl,wrap_sm (by omega)]
    by_cases hid:to=r.Id
    ·have:¬ (to≠r.Id):=fun h=>h hid
     simp only [this,decide_false,Bool.false_eq_true,if_false]
     rw [ih n (to + 1) out (by omega) (by omega) (by omega) (by omega) (by omega)]
     simp [othersF,hid]
    ·simp only [ne_eq,hid,not_false_eq_true,decide_true,if_true]
     rw [hs to out h1 hle hid (by omega),bnd_some,ih n (to + 1) _ (by omega) (by omega) (by omega) (by omega) (by simp; omega)]
     simp [othersF,hid]
theorem all_loop0{F:Nat→Int→Tmember→Option Tmember}{step:Int→Tmember→Option Tmember}{g:Int→TMsg}{r:TRaft}
    (hF:∀ n to m,F (n + 1) to m=if decide (to≤m.Raft.N) = true then (if decide (to≠m.Raft.Id) = true then bnd (step to m) (fun q=>F n (IntKind.i64.wrap (to + 1)) q) else F n (IntKind.i64.wrap (to + 1)) m) else some m)
    (hN0:0≤r.N) (hN:r.N≤7) (hs:∀ to out,1≤to→to≤r.N→to≠r.Id→out.length≤100→step to ⟨r,out⟩ = some ⟨r,out++[g to]⟩) (out:List TMsg) (ho:out.length≤40) :
    F 1000000 1 ⟨r,out⟩ = some ⟨r,out++(othersR r).map g⟩:=by
  have:=all_loop hF hN hs (r.N - 1 + 1).toNat 1000000 1 out (by omega) (by omega) rfl (by omega) (by omega)
  rw [this]
  have e:(r.N - 1 + 1).toNat=r.N.toNat:=by omega
  rw [e]
  rfl
theorem send_eq{to:Int}{x:TMsg}{m:Tmember}(h:m.f_out.length≤100000):zcc to x m=some ⟨m.Raft,m.f_out++[⟨x.Kind,x.Group,m.Raft.Id,to,x.Term,x.At,x.AtTerm,x.Commit,x.Ok,x.Entries,x.Data⟩]⟩:=by
  unfold zcc
  rw [if_pos (capB_small (by omega))]
theorem send2_eq{to:Int}{x:TMsg}{m:Tmember}(h:m.f_out.length≤100000):zcz to x m=some ⟨m.Raft,m.f_out++[⟨x.Kind,x.Group,m.Raft.Id,to,x.Term,x.At,x.AtTerm,x.Commit,x.Ok,[],[]⟩]⟩:=by
  unfold zcz
  rw [if_pos (capB_small (by omega))]
theorem send3_eq{to:Int}{x:TMsg}{m:Tmember}(h:m.f_out.length≤100000):zca to x m=some ⟨m.Raft,m.f_out++[⟨x.Kind,x.Group,m.Raft.Id,to,x.Term,x.At,x.AtTerm,x.Commit,x.Ok,[],[]⟩]⟩:=by
  unfold zca
  rw [if_pos (capB_small (by omega))]
theorem send4_eq{to:Int}{x:TMsg}{m:Tmember}(h:m.f_out.length≤100000):zdd to x m=some ⟨m.Raft,m.f_out++[⟨x.Kind,x.Group,m.Raft.Id,to,x.Term,x.At,x.AtTerm,x.Commit,x.Ok,[],[]⟩]⟩:=by
  unfold zdd
  rw [if_pos (capB_small (by omega))]
structure OkT (B:Int) (r:TRaft):Prop where
  n:r.N≤7
  n0:0≤r.N
  log:OkG B r.Log
  snap:r.Snap.length≤1000
  na:(r.Next.length:Int) = r.N
  nb:∀ x∈r.Next,1≤x∧x≤B + 1
section
variable {B:Int} {r:TRaft}
theorem next_ok(h:OkT B r){to:Int}(h1:1≤to)(h2:to≤r.N):nthI r.Next (to - 1) = some (nextR r to)∧1≤nextR r to∧nextR r to≤B + 1:=by
  have hlt:(to - 1).toNat < r.Next.length:=by have:=h.na; omega
  unfold nextR
  rw [nthI_int (by omega),List.getElem?_eq_getElem hlt]
  exact ⟨rfl,h.nb _ (List.getElem_mem hlt)⟩
theorem tell_gen{S:Int→TMsg→Tmember→Option Tmember}{T:Int→Tmember→Option Tmember}
    (hT:∀ to m,T to m=bnd (nthI m.Raft.Next (IntKind.i64.wrap (to - (1:Int)))) fun e=>
      if (decide (e≤m.Raft.Log.Base)) = true then
       if (capB (m.Raft.Snap).length) = true then bnd (S to (TMsg.mk (7:Int) (0:Int) (0:Int) (0:Int) m.Raft.Term m.Raft.Log.Base m.Raft.Log.BaseTerm m.Raft.Commit false [] m.Raft.Snap) m) fun r0_2=>some r0_2 else none
      else
        bnd (zbk m.Raft.Log (IntKind.i64.wrap (e - (1:Int)))) fun r0=>bnd (zio m.Raft.Log e (8:Int)) fun r0_1=>
        bnd (S to (TMsg.mk (5:Int) (0:Int) (0:Int) (0:Int) m.Raft.Term (IntKind.i64.wrap (e - (1:Int))) r0.1 m.Raft.Commit false r0_1 []) m) fun r0_2=>some r0_2)
    (hS:∀ to x (m:Tmember),m.f_out.length≤100000→S to x m=some ⟨m.Raft,m.f_out++[⟨x.Kind,x.Group,m.Raft.Id,to,x.Term,x.At,x.AtTerm,x.Commit,x.Ok,x.Entries,x.Data⟩]⟩)
    (h:OkT B r) (hB:B≤1000000) {to:Int} (h1:1≤to) (h2:to≤r.N) {out:List TMsg} (ho:out.length≤100):T to ⟨r,out⟩ = some ⟨r,out++[tellR r to]⟩:=by
  obtain ⟨e1,e2,e3⟩:=next_ok h h1 h2
  have hn:=h.n
  rw [hT]
  simp only
  rw [wrap_sm (by omega),e1,bnd_some]
  unfold tellR
  by_cases hb:nextR r to≤r.Log.Base
  ·rw [decide_eq_true hb,if_pos rfl,if_pos hb,if_pos (capB_small (by have:=h.snap; omega)),hS _ _ _ (by simp only; omega),bnd_some]
  ·rw [decide_eq_false hb,if_neg (by simp),if_neg hb,wrap_sm (by omega),logs_Term h.log hB (by omega),bnd_some,logs_From h.log hB (by omega),bnd_some,hS _ _ _ (by simp only; omega),bnd_some]
theorem tell1_eq(h:OkT B r)(hB:B≤1000000){to:Int}(h1:1≤to)(h2:to≤r.N){out:List TMsg}(ho:out.length≤100):zax to ⟨r,out⟩ = some ⟨r,out++[tellR r to]⟩:=
  tell_gen (S:=zcc) (fun _ _=>rfl) (fun _ _ _ h=>send_eq h) h hB h1 h2 ho
theorem tell_eq(h:OkT B r)(hB:B≤1000000){to:Int}(h1:1≤to)(h2:to≤r.N){out:List TMsg}(ho:out.length≤100):zeu to ⟨r,out⟩ = some ⟨r,out++[tellR r to]⟩:=
  tell_gen (S:=zcc) (fun _ _=>rfl) (fun _ _ _ h=>send_eq h) h hB h1 h2 ho
theorem all_eq(h:OkT B r)(hB:B≤1000000){out:List TMsg}(ho:out.length≤40):zgs ⟨r,out⟩ = some ⟨r,out++(othersR r).map (tellR r)⟩:=
  all_loop0 (F:=fun n to m=>zdq n to m.Raft.Id m.Raft.N m.Raft.Term m.Raft.Vote m.Raft.Role m.Raft.Lead m.Raft.Log.Base m.Raft.Log.BaseTerm m.Raft.Log.Entries m.Raft.Commit m.Raft.Clock m.Raft.Wait m.Raft.Snap m.Raft.Granted m.Raft.Next m.Raft.Match m.f_out) (step:=zax) (fun _ _ _=>rfl) h.n0 h.n (fun _ _ h1 h2 _ ho=>tell1_eq h hB h1 h2 ho) out ho
theorem all1_eq(h:OkT B r)(hB:B≤1000000){out:List TMsg}(ho:out.length≤40):zfg ⟨r,out⟩ = some ⟨r,out++(othersR r).map (tellR r)⟩:=
  all_loop0 (F:=fun n to m=>zcf n to m.Raft.Id m.Raft.N m.Raft.Term m.Raft.Vote m.Raft.Role m.Raft.Lead m.Raft.Log.Base m.Raft.Log.BaseTerm m.Raft.Log.Entries m.Raft.Commit m.Raft.Clock m.Raft.Wait m.Raft.Snap m.Raft.Granted m.Raft.Next m.Raft.Match m.f_out) (step:=zax) (fun _ _ _=>rfl) h.n0 h.n (fun _ _ h1 h2 _ ho=>tell1_eq h hB h1 h2 ho) out ho
theorem all4_eq(h:OkT B r)(hB:B≤1000000){out:List TMsg}(ho:out.length≤40):zfi ⟨r,out⟩ = some ⟨r,out++(othersR r).map (tellR r)⟩:=
  all_loop0 (F:=fun n to m=>zci n to m.Raft.Id m.Raft.N m.Raft.Term m.Raft.Vote m.Raft.Role m.Raft.Lead m.Raft.Log.Base m.Raft.Log.BaseTerm m.Raft.Log.Entries m.Raft.Commit m.Raft.Clock m.Raft.Wait m.Raft.Snap m.Raft.Granted m.Raft.Next m.Raft.Match m.f_out) (step:=zax) (fun _ _ _=>rfl) h.n0 h.n (fun _ _ h1 h2 _ ho=>tell1_eq h hB h1 h2 ho) out ho
theorem stand1_eq(hl:OkG B r.Log)(hB:B≤1000000){to:Int}{out:List TMsg}(ho:out.length≤100):zda to ⟨r,out⟩ = some ⟨r,out++[voteM r to]⟩:=by
  unfold zda
  simp only
  rw [logs_Last hl hB,bnd_some,logs_LastTerm hl hB,bnd_some,send2_eq (by simp only; omega),bnd_some]
  rfl
theorem ask1_eq(hl:OkG B r.Log)(hB:B≤1000000)(ht:0≤r.Term∧r.Term≤1000000){to:Int}{out:List TMsg}(ho:out.length≤100):zej to ⟨r,out⟩ = some ⟨r,out++[askM r to]⟩:=by
  unfold zej
  simp only
  rw [logs_Last hl hB,bnd_some,logs_LastTerm hl hB,bnd_some,wrap_sm (by omega),send2_eq (by simp only; omega),bnd_some]
  rfl
theorem all2_eq(hn0:0≤r.N)(hn:r.N≤7)(hl:OkG B r.Log)(hB:B≤1000000){out:List TMsg}(ho:out.length≤40):zfh ⟨r,out⟩ = some ⟨r,out++(othersR r).map (voteM r)⟩:=
  all_loop0 (F:=fun n to m=>zcg n to m.Raft.Id m.Raft.N m.Raft.Term m.Raft.Vote m.Raft.Role m.Raft.Lead m.Raft.Log.Base m.Raft.Log.BaseTerm m.Raft.Commit m.Raft.Clock m.Raft.Wait m.Raft.Log.Entries m.Raft.Snap m.Raft.Granted m.Raft.Next m.Raft.Match m.f_out) (step:=zda) (fun _ _ _=>rfl) hn0 hn (fun _ _ _ _ _ ho=>stand1_eq hl hB ho) out ho
theorem all3_eq(hn0:0≤r.N)(hn:r.N≤7)(hl:OkG B r.Log)(hB:B≤1000000)(ht:0≤r.Term∧r.Term≤1000000){out:List TMsg}(ho:out.length≤40):zhb ⟨r,out⟩ = some ⟨r,out++(othersR r).map (askM r)⟩:=
  all_loop0 (F:=fun n to m=>zch n to m.Raft.Id m.Raft.N m.Raft.Term m.Raft.Vote m.Raft.Role m.Raft.Lead m.Raft.Log.Base m.Raft.Log.BaseTerm m.Raft.Commit m.Raft.Clock m.Raft.Wait m.Raft.Log.Entries m.Raft.Snap m.Raft.Granted m.Raft.Next m.Raft.Match m.f_out) (step:=zej) (fun _ _ _=>rfl) hn0 hn (fun _ _ _ _ _ ho=>ask1_eq hl hB ht ho) out ho
end
end Go.Proofs.Ytgoachcogmlhcaa.R
set_option maxRecDepth 100000
set_option linter.unusedVariables false
set_option linter.unusedSimpArgs false
noncomputable section
namespace Go.Proofs.Ytgoachcogmlhcaa.R
open Go
section
variable {B:Int} {r:TRaft} {out:List TMsg}
theorem OkE.mono{e:TEntry}{B':Int}(h:OkE B e)(hb:B≤B'):OkE B' e:=⟨⟨h.t.1,by have:=h.t.2; omega⟩,h.d⟩
theorem OkG.mono{l:TLog}{B':Int}(h:OkG B l)(hb:B≤B'):OkG B' l:=
  ⟨h.b,⟨h.bt.1,by have:=h.bt.2; omega⟩,by have:=h.last; omega,fun x hx=>(h.e x hx).mono hb⟩
theorem OkR.mono{B':Int}(h:OkR B r)(hb:B≤B'):OkR B' r:=
  ⟨h.id,h.n,⟨h.term.1,by have:=h.term.2; omega⟩,h.vote,⟨h.commit.1,by have:=h.commit.2; omega⟩,⟨h.clock.1,by have:=h.clock.2; omega⟩,h.wait,h.log.mono hb,h.snap,h.gl,h.nl,h.ml,h.ga,h.na,h.ma,
    fun x hx=>by have:=h.nb x hx; omega,fun x hx=>by have:=h.mb x hx; omega⟩
theorem OkR.tell(h:OkR B r)(h3:r.Role=3):OkT B r:=⟨h.n,by have:=h.id; omega,h.log,h.snap,h.na h3,h.nb⟩
theorem follow_eq(t l:Int):zam t l ⟨r,out⟩ = some ⟨followR r t l,out⟩:=by
  unfold zam zdy followR
  by_cases h:r.Term < t
  ·simp [h]
  ·simp [h]
theorem follow1_eq(t l:Int):zcj t l ⟨r,out⟩ = some ⟨followR r t l,out⟩:=follow_eq t l
theorem setI_length{α:Type}(l:List α)(i:Int)(x:α):(setI l i x).length=l.length:=by simp [setI]
theorem grant_eq{who:Int}(h1:1≤who)(h2:who≤(r.Granted.length:Int))(h3:r.Granted.length≤7):zbi who ⟨r,out⟩ = some (wonL (setI r.Granted (who - 1) true),⟨{ r with Granted:=setI r.Granted (who - 1) true },out⟩):=by
  unfold zbi
  have hlt:(who - 1).toNat < r.Granted.length:=by omega
  simp only
  rw [wrap_sm (by omega),nthI_int (by omega),List.getElem?_eq_getElem hlt,bnd_some,quorum_Won (by rw [setI_length]; omega),bnd_some]
theorem grant1_eq{who:Int}(h1:1≤who)(h2:who≤(r.Granted.length:Int))(h3:r.Granted.length≤7):zbx who ⟨r,out⟩ = some (wonL (setI r.Granted (who - 1) true),⟨{ r with Granted:=setI r.Granted (who - 1) true },out⟩):=grant_eq h1 h2 h3
theorem reached_in(h:OkR B r)(h3:r.Role=3):zdj r.Match=some (reachedL r.Match)∧Reach r.Match (reachedL r.Match)∧0≤reachedL r.Match∧reachedL r.Match≤B:=by
  have hm:=h.ma h3; have hid:=h.id; have hml:=h.ml
  obtain ⟨h1,h2⟩:=quorum_Reached (l:=r.Match) (by omega) (by omega)
  exact ⟨h1,h2,h.mb _ h2.mem⟩
theorem commit_eq(h:OkR B r)(hB:B≤1000000)(h3:r.Role=3):zdr ⟨r,out⟩ = some ⟨commitR r,out⟩:=by
  obtain ⟨h1,h2,h4⟩:=reached_in h h3
  unfold zdr commitR zck
  simp only
  rw [h1,bnd_some,logs_Term h.log hB (by omega),bnd_some]
  cases ht:termL r.Log (reachedL r.Match) with
  | none=>simp
  | some t=>
    by_cases hc:r.Commit < reachedL r.Match
    ·by_cases he:t=r.Term
     ·simp [hc,he]
     ·simp [hc,he]
    ·simp [hc]
theorem commit1_eq(h:OkR B r)(hB:B≤1000000)(h3:r.Role=3):zdz ⟨r,out⟩ = some ⟨commitR r,out⟩:=commit_eq h hB h3
theorem commit2_eq(h:OkR B r)(hB:B≤1000000)(h3:r.Role=3):zea ⟨r,out⟩ = some ⟨commitR r,out⟩:=commit_eq h hB h3
theorem setI_mem{α:Type}{l:List α}{i:Int}{x y:α}(h:y∈setI l i x):y=x∨y∈l:=by
  unfold setI at h
  rcases List.mem_or_eq_of_mem_set h with h | h
  ·exact .inr h
  ·exact .inl h
theorem behind_ok(h:OkR B r)(h3:r.Role=3){data:List Int}(hd:data.length≤1000):OkR (B + 1) (behindR r data):=by
  have hl:=h.log.last; have hb:=h.log.b; have ht:=h.term
  have hm:=h.mono (B':=B + 1) (by omega)
  refine { hm with log:=⟨h.log.b,⟨h.log.bt.1,by have:=h.log.bt.2; show r.Log.BaseTerm≤_; omega⟩,?_,?_⟩,ml:=?_,ma:=?_,mb:=?_ }
  ·show r.Log.Base + ((r.Log.Entries++[_]).length:Int)≤_
   simp
   omega
  ·intro x hx
   have hx:x∈r.Log.Entries++[⟨r.Term,data⟩]:=hx
   rcases List.mem_append.1 hx with hx | hx
   ·exact (h.log.e x hx).mono (by omega)
   ·simp at hx
    subst hx
    exact ⟨⟨ht.1,by show r.Term≤_; omega⟩,hd⟩
  ·show (setI r.Match _ _).length≤7
   rw [setI_length]; exact h.ml
  ·intro h4
   show ((setI r.Match _ _).length:Int) = r.N
   rw [setI_length]; exact h.ma h3
  ·intro x hx
   rcases setI_mem hx with rfl | hx
   ·unfold lastL; omega
   ·have:=h.mb x hx; omega
theorem commit_ok(h:OkR B r)(h3:r.Role=3):OkR B (commitR r):=by
  obtain ⟨_,_,h1,h2⟩:=reached_in h h3
  unfold commitR
  split
  ·exact { h with commit:=⟨h1,h2⟩ }
  ·exact h
theorem commitR_role:(commitR r).Role=r.Role:=by unfold commitR; split <;> rfl
theorem commitR_id:(commitR r).Id=r.Id:=by unfold commitR; split <;> rfl
theorem commitR_n:(commitR r).N=r.N:=by unfold commitR; split <;> rfl
theorem commitR_others(data:List Int):othersR (commitR (behindR r data)) = othersR r:=by
  unfold othersR
  rw [commitR_id,commitR_n]
  rfl
theorem append_gen{A:Tmember→Option Tmember}{C L:Tmember→Option Tmember}{data:List Int}
    (hA:∀ m,A m=bnd (zgo m.Raft.Log (TEntry.mk m.Raft.Term data)) fun r0=>bnd (zag r0) fun r0_1=>bnd (nthI m.Raft.Match (IntKind.i64.wrap (m.Raft.Id - (1:Int)))) fun e=>
      bnd (C (Tmember.mk (TRaft.mk m.Raft.Id m.Raft.N m.Raft.Term m.Raft.Vote m.Raft.Role m.Raft.Lead r0 m.Raft.Commit m.Raft.Snap m.Raft.Granted m.Raft.Next (setI m.Raft.Match (IntKind.i64.wrap (m.Raft.Id - (1:Int))) r0_1) m.Raft.Clock m.Raft.Wait) m.f_out)) fun r0_2=>bnd (L r0_2) fun r0_3=>some r0_3)
    (hC:∀ {r:TRaft} {out:List TMsg},OkR (B + 1) r→r.Role=3→C ⟨r,out⟩ = some ⟨commitR r,out⟩)
    (hL:∀ {r:TRaft} {out:List TMsg},OkT (B + 1) r→out.length≤40→L ⟨r,out⟩ = some ⟨r,out++(othersR r).map (tellR r)⟩)
    (h:OkR B r) (hB:B + 1≤1000000) (h3:r.Role=3) (hd:data.length≤1000) (ho:out.length≤40):A ⟨r,out⟩ = some ⟨(appendR r data).1,out++(appendR r data).2⟩:=by
  have hb:=behind_ok h h3 hd
  have hid:=h.id; have hm:=h.ma h3; have hn:=h.n
  have hlt:(r.Id - 1).toNat < r.Match.length:=by omega
  have hlast:lastL ⟨r.Log.Base,r.Log.BaseTerm,r.Log.Entries++[⟨r.Term,data⟩]⟩ = lastL r.Log + 1:=by
    unfold lastL
    simp
    omega
  rw [hA]
  simp only
  have hlog:OkG (B + 1) ⟨r.Log.Base,r.Log.BaseTerm,r.Log.Entries++[⟨r.Term,data⟩]⟩:=hb.log
  rw [logs_Behind h.log (by omega) hd,bnd_some,logs_Last hlog hB,bnd_some,wrap_sm (by omega),nthI_int (by omega),List.getElem?_eq_getElem hlt,bnd_some,hlast]
  have hc:=hC (r:=behindR r data) (out:=out) hb h3
  have hc':C ⟨⟨r.Id,r.N,r.Term,r.Vote,r.Role,r.Lead,⟨r.Log.Base,r.Log.BaseTerm,r.Log.Entries++[⟨r.Term,data⟩]⟩,r.Commit,r.Snap,r.Granted,r.Next,setI r.Match (r.Id - 1) (lastL r.Log + 1),r.Clock,r.Wait⟩,out⟩ = some ⟨commitR (behindR r data),out⟩:=hc
  rw [hc',bnd_some,hL ((commit_ok hb h3).tell (by rw [commitR_role]; exact h3)) ho,bnd_some,commitR_others]
  rfl
theorem append_eq(h:OkR B r)(hB:B + 1≤1000000)(h3:r.Role=3)(ho:out.length≤40):zds ⟨r,out⟩ = some ⟨(appendR r []).1,out++(appendR r []).2⟩:=
  append_gen (C:=zdr) (L:=zfg) (fun _=>rfl) (fun h=>commit_eq h hB) (fun h ho=>all1_eq h hB ho) h hB h3 (by simp) ho
theorem append1_eq(h:OkR B r)(hB:B + 1≤1000000)(h3:r.Role=3){data:List Int}(hd:data.length≤1000)(ho:out.length≤40):zfv data ⟨r,out⟩ = some ⟨(appendR r data).1,out++(appendR r data).2⟩:=
  append_gen (C:=zdz) (L:=zfi) (fun _=>rfl) (fun h=>commit1_eq h hB) (fun h ho=>all4_eq h hB ho) h hB h3 hd ho
theorem follow_ok(h:OkR B r){t l:Int}(ht:t≤B):OkR B (followR r t l):=by
  have h1:=h.term
  refine { h with term:=?_,vote:=?_,gl:=by simp [followR],nl:=by simp [followR],ml:=by simp [followR],ga:=?_,na:=?_,ma:=?_,nb:=by simp [followR],mb:=by simp [followR] }
  ·show 0≤(if r.Term < t then t else r.Term)∧(if r.Term < t then t else r.Term)≤B
   split <;> omega
  ·show 0≤(if r.Term < t then 0 else r.Vote)∧(if r.Term < t then 0 else r.Vote)≤7
   have:=h.vote
   split <;> omega
  ·intro h; simp [followR] at h
  ·intro h; simp [followR] at h
  ·intro h; simp [followR] at h
theorem leadQ_ok(h:OkR B r)(hB0:0≤B):OkR B (leadQ r):=by
  have hid:=h.id; have hn:=h.n
  have hl:=h.log.last; have hb:=h.log.b
  have hf:=follow_ok h (t:=r.Term) (l:=r.Id) h.term.2
  refine { hf with clock:=⟨Int.le_refl _,hB0⟩,nl:=?_,ml:=?_,ga:=?_,na:=?_,ma:=?_,nb:=?_,mb:=?_ }
  ·show (List.replicate _ _).length≤7; simp; omega
  ·show (List.replicate _ _).length≤7; simp; omega
  ·intro h; simp [leadQ] at h
  ·intro _; show ((List.replicate _ _).length:Int) = r.N; simp; omega
  ·intro _; show ((List.replicate _ _).length:Int) = r.N; simp; omega
  ·intro x hx
   have hx:x∈List.replicate r.N.toNat (lastL r.Log + 1):=hx
   have:=(List.mem_replicate.1 hx).2
   subst this
   unfold lastL
   omega
  ·intro x hx
   have hx:x∈List.replicate r.N.toNat (0:Int):=hx
   have:=(List.mem_replicate.1 hx).2
   subst this
   omega
theorem rep_set{α:Type}(a b:α)(k m:Nat):(List.replicate k a++List.replicate (m + 1) b).set k a=List.replicate (k + 1) a++List.replicate m b:=by
  have h1:List.replicate k a++List.replicate (m + 1) b=List.replicate k a++b :: List.replicate m b:=rfl
  have h2:(List.replicate k a++b :: List.replicate m b).set (List.replicate k a).length a=List.replicate k a++a :: List.replicate m b:=by simp
  rw [h1]
  rw [List.length_replicate] at h2
  rw [h2,List.replicate_succ']
  simp
theorem lead_loop{q:TRaft}(hq:OkG B q.Log)(hB:B + 1≤1000000)(hn:0≤q.N∧q.N≤7):∀ (m k n:Nat),q.N.toNat - k=m→k≤q.N.toNat→m < n →
    zw ⟨q,out⟩ n (k:Int) (List.replicate k (lastL q.Log + 1)++List.replicate (q.N.toNat - k) 0) = zdb ⟨q,out⟩ (List.replicate q.N.toNat (lastL q.Log + 1)):=by
  intro m
  induction m with
  | zero=>
    intro k n hm hk hn2
    obtain ⟨n,rfl⟩:∃ n',n=n' + 1:=⟨n - 1,by omega⟩
    have hk':¬ ((k:Int) < ((q.N.toNat:Nat):Int)):=by omega
    have e:k=q.N.toNat:=by omega
    rw [zw,zcl]
    simp only
    rw [decide_eq_false hk',if_neg (by simp),e]
    simp
  | succ m ih=>
    intro k n hm hk hn2
    obtain ⟨n,rfl⟩:∃ n',n=n' + 1:=⟨n - 1,by omega⟩
    have hk':((k:Int) < ((q.N.toNat:Nat):Int)):=by omega
    have hr:=lastL_r hq (by omega)
    obtain ⟨d,hd⟩:∃ d,q.N.toNat - k=d + 1:=⟨q.N.toNat - k - 1,by omega⟩
    have hlt:k < (List.replicate k (lastL q.Log + 1)++List.replicate (d + 1) (0:Int)).length:=by simp
    rw [zw,zcl]
    simp only
    rw [decide_eq_true hk',if_pos rfl,logs_Last hq (by omega),bnd_some,hd,nthI_lt hlt,bnd_some,wrap_nat (by omega),wrap_sm (n:=lastL q.Log + 1) (by omega)]
    have hs:setI (List.replicate k (lastL q.Log + 1)++List.replicate (d + 1) (0:Int)) (k:Int) (lastL q.Log + 1) = List.replicate (k + 1) (lastL q.Log + 1)++List.replicate (q.N.toNat - (k + 1)) 0:=by
      unfold setI
      have e1:((k:Int)).toNat=k:=by omega
      have e2:q.N.toNat - (k + 1) = d:=by omega
      rw [e1,e2,rep_set]
    rw [hs]
    exact ih (k + 1) n (by omega) (by omega) (by omega)
theorem mkB_ok{n:Int}(h:0≤n∧n≤7):mkB n=true:=by
  unfold mkB
  have h1:n≤((limN:Nat):Int):=by unfold limN; omega
  rw [decide_eq_true h.1,decide_eq_true h1]
  rfl
theorem lead_core(h:OkR B r)(hB0:0≤B)(hB:B + 1≤1000000)(ho:out.length≤40):(if (mkB (followR r r.Term r.Id).N) = true then zw ⟨followR r r.Term r.Id,out⟩ ((((((followR r r.Term r.Id).N.toNat:Nat):Int)) - ((0:Int))).toNat + 1) (0:Int) (List.replicate (followR r r.Term r.Id).N.toNat (0:Int)) else none) = some ⟨(leadR r).1,out++(leadR r).2⟩:=by
  have hid:=h.id; have hn:=h.n
  have hN:(followR r r.Term r.Id).N=r.N:=rfl
  rw [hN,if_pos (mkB_ok (by omega))]
  have hlp:=lead_loop (q:=followR r r.Term r.Id) (out:=out) h.log hB (by rw [hN]; omega) _ 0 ((((r.N.toNat:Nat):Int) - 0).toNat + 1) rfl (Nat.zero_le _) (by rw [hN]; omega)
  simp only [List.replicate_zero,List.nil_append,Nat.sub_zero,hN] at hlp
  have hlp':zw ⟨followR r r.Term r.Id,out⟩ ((((r.N.toNat:Nat):Int) - 0).toNat + 1) 0 (List.replicate r.N.toNat 0) = zdb ⟨followR r r.Term r.Id,out⟩ (List.replicate r.N.toNat (lastL (followR r r.Term r.Id).Log + 1)):=hlp
  rw [hlp']
  unfold zdb
  have ha:=append_eq (out:=out) (leadQ_ok h hB0) hB rfl ho
  have ha':zds ⟨⟨(followR r r.Term r.Id).Id,(followR r r.Term r.Id).N,(followR r r.Term r.Id).Term,(followR r r.Term r.Id).Vote,3,(followR r r.Term r.Id).Lead,(followR r r.Term r.Id).Log,(followR r r.Term r.Id).Commit,(followR r r.Term r.Id).Snap,(followR r r.Term r.Id).Granted,List.replicate r.N.toNat (lastL (followR r r.Term r.Id).Log + 1),List.replicate (followR r r.Term r.Id).N.toNat 0,0,(followR r r.Term r.Id).Wait⟩,out⟩ = some ⟨(appendR (leadQ r) []).1,out++(appendR (leadQ r) []).2⟩:=ha
  simp only
  rw [ha',bnd_some]
  rfl
theorem lead_eq(h:OkR B r)(hB0:0≤B)(hB:B + 1≤1000000)(ho:out.length≤40):zcd ⟨r,out⟩ = some ⟨(leadR r).1,out++(leadR r).2⟩:=by
  unfold zcd
  rw [follow1_eq,bnd_some]
  exact lead_core h hB0 hB ho
theorem lead1_fun:zdc=zcd:=by
  have hl:∀ (q:Tmember) n v m,zav q n v m=zw q n v m:=by
    intro q n
    induction n with
    | zero=>intro v m; rfl
    | succ n ih=>
      intro v m
      rw [zav,zw,zes,zcl]
      have:zav q n=zw q n:=by funext v m; exact ih v m
      rw [this]
      rfl
  funext m
  unfold zdc zcd
  have:zam=zcj:=rfl
  rw [this]
  congr 1
  funext q
  rw [hl]
theorem standQ_ok(h:OkR B r)(hB0:0≤B):OkR (B + 1) (standQ r):=by
  have hid:=h.id; have hn:=h.n; have ht:=h.term
  have hf:=follow_ok (h.mono (B':=B + 1) (by omega)) (t:=r.Term + 1) (l:=0) (by omega)
  refine { hf with clock:=⟨Int.le_refl _,by show (0:Int)≤_; omega⟩,vote:=?_,gl:=?_,ga:=?_,na:=?_,ma:=?_ }
  ·show 0≤r.Id∧r.Id≤7; omega
  ·show (oneG r).length≤7; unfold oneG; rw [setI_length]; simp; omega
  ·intro _; show ((oneG r).length:Int) = r.N; unfold oneG; rw [setI_length]; simp; omega
  ·intro h; simp [standQ] at h
  ·intro h; simp [standQ] at h
theorem stand_eq(h:OkR B r)(hB0:0≤B)(hB:B + 2≤1000000)(ho:out.length≤40):zek ⟨r,out⟩ = some ⟨(standR r).1,out++(standR r).2⟩:=by
  have hid:=h.id; have hn:=h.n; have ht:=h.term
  have hq:=standQ_ok h hB0
  unfold zek
  have hw:IntKind.i64.wrap (r.Term + 1) = r.Term + 1:=wrap_sm (by omega)
  simp only
  rw [hw,follow1_eq,bnd_some]
  have hN:(followR r (r.Term + 1) 0).N=r.N:=rfl
  simp only
  rw [hN,if_pos (mkB_ok (by omega))]
  have hg:=grant_eq (r:={ followR r (r.Term + 1) 0 with Vote:=r.Id,Role:=2,Clock:=0,Granted:=List.replicate r.N.toNat false }) (who:=r.Id) (out:=out) (by omega) (by simp; omega) (by simp; omega)
  have hg':zbi (followR r (r.Term + 1) 0).Id ⟨⟨(followR r (r.Term + 1) 0).Id,(followR r (r.Term + 1) 0).N,(followR r (r.Term + 1) 0).Term,(followR r (r.Term + 1) 0).Id,2,(followR r (r.Term + 1) 0).Lead,(followR r (r.Term + 1) 0).Log,(followR r (r.Term + 1) 0).Commit,(followR r (r.Term + 1) 0).Snap,List.replicate r.N.toNat false,(followR r (r.Term + 1) 0).Next,(followR r (r.Term + 1) 0).Match,0,(followR r (r.Term + 1) 0).Wait⟩,out⟩ = some (wonL (oneG r),⟨standQ r,out⟩):=hg
  rw [← hN] at hg' ⊢
  rw [hg',bnd_some]
  unfold standR
  cases hw:wonL (oneG r) with
  | true=>
    simp only [if_true]
    rw [lead_eq hq (by omega) (by omega) ho,bnd_some]
  | false=>
    simp only [Bool.false_eq_true,if_false]
    have hsl:OkG (B + 1) (standQ r).Log:=hq.log
    rw [all2_eq (r:=standQ r) (by show 0≤r.N; omega) (by show r.N≤7; omega) hsl (by omega) ho,bnd_some]
    rfl
theorem stand1_fun:zeo=zek:=rfl
theorem wait_eq(draw:Int):zle draw=some (waitR draw):=by
  unfold zle waitR
  have h0:0≤IntKind.u64.wrap draw:=by
    simp only [IntKind.wrap,IntKind.signed,IntKind.bits]
    simp
    omega
  rw [Int.tmod_eq_emod_of_nonneg h0,wrap_sm (n:=IntKind.u64.wrap draw % 10) (by omega),wrap_sm (by omega)]
theorem waitR_r(draw:Int):0≤waitR draw∧waitR draw≤20:=by unfold waitR; omega
theorem askQ_ok(h:OkR B r)(hB0:0≤B)(draw:Int):OkR B (askQ r draw):=by
  have hid:=h.id; have hn:=h.n; have ht:=h.term
  have hf:=follow_ok h (t:=r.Term) (l:=0) (by omega)
  refine { hf with clock:=⟨Int.le_refl _,hB0⟩,wait:=waitR_r draw,gl:=?_,ga:=?_,na:=?_,ma:=?_ }
  ·show (oneG r).length≤7; unfold oneG; rw [setI_length]; simp; omega
  ·intro _; show ((oneG r).length:Int) = r.N; unfold oneG; rw [setI_length]; simp; omega
  ·intro h; simp [askQ] at h
  ·intro h; simp [askQ] at h
theorem ask_eq(h:OkR B r)(hB0:0≤B)(hB:B + 2≤1000000)(draw:Int)(ho:out.length≤40):zfm draw ⟨r,out⟩ = some ⟨(askR r draw).1,out++(askR r draw).2⟩:=by
  have hid:=h.id; have hn:=h.n; have ht:=h.term
  have hq:=askQ_ok h hB0 draw
  unfold zfm
  simp only
  rw [follow_eq,bnd_some,wait_eq,bnd_some]
  have hN:(followR r r.Term 0).N=r.N:=rfl
  simp only
  rw [hN,if_pos (mkB_ok (by omega))]
  have hg:=grant_eq (r:={ followR r r.Term 0 with Role:=1,Clock:=0,Wait:=waitR draw,Granted:=List.replicate r.N.toNat false }) (who:=r.Id) (out:=out) (by omega) (by simp; omega) (by simp; omega)
  have hg':zbi (followR r r.Term 0).Id ⟨⟨(followR r r.Term 0).Id,(followR r r.Term 0).N,(followR r r.Term 0).Term,(followR r r.Term 0).Vote,1,(followR r r.Term 0).Lead,(followR r r.Term 0).Log,(followR r r.Term 0).Commit,(followR r r.Term 0).Snap,List.replicate r.N.toNat false,(followR r r.Term 0).Next,(followR r r.Term 0).Match,0,waitR draw⟩,out⟩ = some (wonL (oneG r),⟨askQ r draw,out⟩):=hg
  rw [← hN] at hg' ⊢
  rw [hg',bnd_some]
  unfold askR
  cases hw:wonL (oneG r) with
  | true=>
    simp only [if_true]
    rw [stand_eq hq hB0 hB ho,bnd_some]
  | false=>
    simp only [Bool.false_eq_true,if_false]
    have hsl:OkG B (askQ r draw).Log:=hq.log
    rw [all3_eq (r:=askQ r draw) (by show 0≤r.N; omega) (by show r.N≤7; omega) hsl (by omega) (by have:=hq.term; omega) ho,bnd_some]
    rfl
end
end Go.Proofs.Ytgoachcogmlhcaa.R
set_option maxRecDepth 100000
set_option linter.unusedVariables false
set_option linter.unusedSimpArgs false
noncomputable section
namespace Go.Proofs.Ytgoachcogmlhcaa.R
open Go
structure OkM (B:Int) (x:TMsg):Prop where
  term:0≤x.Term∧x.Term≤B
  at0:0≤x.At∧x.At≤B
  att:0≤x.AtTerm∧x.AtTerm≤B
  commit:0≤x.Commit∧x.Commit≤B
  el:x.Entries.length≤8
  e:∀ y∈x.Entries,OkE B y
  d:x.Data.length≤1000
  ate:x.At + (x.Entries.length:Int)≤B
def backM(r:TRaft)(x:TMsg)(kind term at0:Int)(ok:Bool):TMsg:=⟨kind,0,r.Id,x.From,term,at0,0,0,ok,[],[]⟩
def freeR(r:TRaft):Bool:=decide (r.Role≠3) && (decide (r.Lead=0) || decide (10≤r.Clock))
def askedB(r:TRaft)(x:TMsg):Bool:=decide (r.Term < x.Term) && (freeR r && newerL r.Log x.AtTerm x.At)
def askedR(r:TRaft)(x:TMsg):TRaft × List TMsg:=(r,[backM r x 2 (if askedB r x=true then x.Term else r.Term) 0 (askedB r x)])
def voteB(r:TRaft)(x:TMsg):Bool:=decide (x.Term=r.Term) && (decide (r.Role=0) && ((decide (r.Vote=0) || decide (r.Vote=x.From)) && newerL r.Log x.AtTerm x.At))
def voteR(r:TRaft)(x:TMsg):TRaft × List TMsg:=if voteB r x=true then ({ r with Vote:=x.From,Clock:=0 },[backM r x 4 r.Term 0 true]) else (r,[backM r x 4 r.Term 0 false])
def deafB(r:TRaft)(x:TMsg):Bool:=decide (x.Term < r.Term) || decide (r.Role=3)
def hearQ(r:TRaft)(x:TMsg):TRaft:={ followR r x.Term x.From with Clock:=0 }
def maxI(a b:Int):Int:=if a < b then b else a
def minI(a b:Int):Int:=if b < a then b else a
def entriesR(r:TRaft)(x:TMsg):TRaft × List TMsg:=
  if deafB r x=true then (r,[backM r x 6 r.Term 0 false]) else
  let q:=hearQ r x
  let p:=putL r.Log x.At x.AtTerm x.Entries
  if p.2.2=true then ({ q with Log:=p.1,Commit:=maxI r.Commit (minI x.Commit p.2.1) },[backM q x 6 q.Term p.2.1 true]) else (q,[backM q x 6 q.Term p.2.1 false])
def snapR(r:TRaft)(x:TMsg):TRaft × List TMsg:=
  if deafB r x=true then (r,[backM r x 6 r.Term 0 false]) else
  let q:=hearQ r x
  if r.Commit < x.At then ({ q with Log:=resetL r.Log x.At x.AtTerm,Commit:=x.At,Snap:=x.Data },[backM q x 6 q.Term x.At true]) else (q,[backM q x 6 q.Term r.Commit true])
def matchR(r:TRaft)(to:Int):Int:=(r.Match[(to - 1).toNat]?).getD 0
def toldM(r:TRaft)(x:TMsg):Int:=maxI (matchR r x.From) (minI x.At (lastL r.Log))
def toldN(r:TRaft)(x:TMsg):Int:=maxI (nextR r x.From) (toldM r x + 1)
def toldB(r:TRaft)(x:TMsg):Int:=maxI (matchR r x.From + 1) (minI (nextR r x.From - 2) x.At + 1)
def toldQ(r:TRaft)(x:TMsg):TRaft:=commitR { r with Next:=setI r.Next (x.From - 1) (toldN r x),Match:=setI r.Match (x.From - 1) (toldM r x) }
def toldP(r:TRaft)(x:TMsg):TRaft:={ r with Next:=setI r.Next (x.From - 1) (toldB r x) }
def toldR(r:TRaft)(x:TMsg):TRaft × List TMsg:=
  if x.Term < r.Term∨r.Role≠3 then (r,[]) else
  if x.Ok=true then (if lastL r.Log < toldN r x then (toldQ r x,[]) else (toldQ r x,[tellR (toldQ r x) x.From])) else (toldP r x,[tellR (toldP r x) x.From])
def grantedR(r:TRaft)(x:TMsg):TRaft:={ r with Granted:=setI r.Granted (x.From - 1) true }
def askOkR(r:TRaft)(x:TMsg):TRaft × List TMsg:=
  if x.Ok=true∧r.Role=1∧x.Term=r.Term + 1 then (if wonL (grantedR r x).Granted=true then standR (grantedR r x) else (grantedR r x,[])) else (r,[])
def voteOkR(r:TRaft)(x:TMsg):TRaft × List TMsg:=
  if x.Ok=true∧r.Role=2∧x.Term=r.Term then (if wonL (grantedR r x).Granted=true then leadR (grantedR r x) else (grantedR r x,[])) else (r,[])
def refuseB(r:TRaft)(x:TMsg):Bool:=decide (x.To≠r.Id) || (decide (x.From < 1) || (decide (r.N < x.From) || (decide (x.From=r.Id) || (decide (x.Term < 0) || (decide (1099511627776 < x.Term) || decide (x.At < 0))))))
def riseB(r:TRaft)(x:TMsg):Bool:=decide (r.Term < x.Term) && (decide (x.Kind≠1) && (decide (x.Kind≠2) || !x.Ok))
def takeR(r:TRaft)(x:TMsg):TRaft × List TMsg:=
  if x.Kind=1 then askedR r x else if x.Kind=2 then askOkR r x else if x.Kind=3 then voteR r x else if x.Kind=4 then voteOkR r x
  else if x.Kind=5 then entriesR r x else if x.Kind=6 then toldR r x else if x.Kind=7 then snapR r x else (r,[])
def receiveR(r:TRaft)(x:TMsg):TRaft × List TMsg:=
  if refuseB r x=true then (r,[]) else if riseB r x=true then takeR (followR r x.Term 0) x else takeR r x
def tickR(r:TRaft)(draw:Int):TRaft × List TMsg:=
  let q:={ r with Clock:=r.Clock + 1 }
  if r.Role=3 then (if 2≤r.Clock + 1 then ({ r with Clock:=0 },(othersR r).map (tellR { r with Clock:=0 })) else (q,[])) else if r.Wait≤r.Clock + 1 then askR q draw else (q,[])
section
variable {B:Int} {r:TRaft} {x:TMsg} {out:List TMsg}
theorem at_eq(h:OkR B r)(hB:B≤1000000):zjg r=some ⟨r,[]⟩:=by
  have h1:=h.snap; have h2:=h.gl; have h3:=h.nl; have h4:=h.ml
  unfold zjg zmj
  rw [logs_Copy h.log hB,bnd_some,if_pos (capB_small (by omega)),if_pos (capB_small (by omega)),if_pos (capB_small (by omega)),if_pos (capB_small (by omega)),bnd_some]
theorem asked_eq(h:OkR B r)(hB:B≤1000000)(ho:out.length≤40):zel x ⟨r,out⟩ = some ⟨(askedR r x).1,out++(askedR r x).2⟩:=by
  have k3:∀ ok t,zcq x ⟨r,out⟩ ok t=some ⟨r,out++[backM r x 2 t 0 ok]⟩:=by
    intro ok t
    unfold zcq
    rw [send3_eq (by simp only; omega),bnd_some]
    rfl
  have k2:∀ ok,zbv x ⟨r,out⟩ ok=some ⟨r,out++[backM r x 2 (if ok=true then x.Term else r.Term) 0 ok]⟩:=by
    intro ok
    unfold zbv
    cases ok with
    | true=>simp only [if_true]; exact k3 _ _
    | false=>simp only [Bool.false_eq_true,if_false]; exact k3 _ _
  have k1:∀ f,zbw x ⟨r,out⟩ f=some ⟨r,out++[backM r x 2 (if (decide (r.Term < x.Term) && (f && newerL r.Log x.AtTerm x.At)) = true then x.Term else r.Term) 0 (decide (r.Term < x.Term) && (f && newerL r.Log x.AtTerm x.At))]⟩:=by
    intro f
    unfold zbw
    simp only
    by_cases ht:r.Term < x.Term
    ·rw [decide_eq_true ht,if_pos rfl]
     cases f with
     | true=>
       rw [if_pos rfl,logs_Newer h.log hB,bnd_some,k2]
       simp
     | false=>rw [if_neg (by simp),k2]; simp
    ·rw [decide_eq_false ht,if_neg (by simp),k2]; simp
  unfold zel askedR askedB freeR
  simp only
  by_cases h3:r.Role=3
  ·simp only [h3,ne_eq,not_true_eq_false,decide_false,Bool.false_eq_true,if_false]
   rw [k1]
   simp
  ·simp only [h3,ne_eq,not_false_eq_true,decide_true,if_true]
   by_cases hl:r.Lead=0
   ·rw [decide_eq_true hl,if_pos rfl,k1]; simp
   ·rw [decide_eq_false hl,if_neg (by simp),k1]; simp
theorem vote_eq(h:OkR B r)(hB:B≤1000000)(ho:out.length≤40):zex x ⟨r,out⟩ = some ⟨(voteR r x).1,out++(voteR r x).2⟩:=by
  have k1:∀ ok,zah x ⟨r,out⟩ ok=some (if ok=true then ⟨{ r with Vote:=x.From,Clock:=0 },out++[backM r x 4 r.Term 0 true]⟩ else ⟨r,out++[backM r x 4 r.Term 0 false]⟩):=by
    intro ok
    unfold zah zew
    cases ok with
    | true=>simp only [if_true]; rw [send3_eq (by simp only; omega),bnd_some]; rfl
    | false=>simp only [Bool.false_eq_true,if_false]; rw [send3_eq (by simp only; omega),bnd_some]; rfl
  have fin:∀ ok,ok=voteB r x→zah x ⟨r,out⟩ ok=some ⟨(voteR r x).1,out++(voteR r x).2⟩:=by
    intro ok he
    rw [k1,he]
    unfold voteR
    cases voteB r x <;> simp
  unfold zex
  simp only
  by_cases h1:x.Term=r.Term
  ·rw [decide_eq_true h1,if_pos rfl]
   by_cases h2:r.Role=0
   ·rw [decide_eq_true h2,if_pos rfl]
    by_cases h3:r.Vote=0
    ·rw [decide_eq_true h3,if_pos rfl,logs_Newer h.log hB,bnd_some]
     exact fin _ (by simp [voteB,h1,h2,h3])
    ·rw [decide_eq_false h3,if_neg (by simp)]
     by_cases h4:r.Vote=x.From
     ·rw [decide_eq_true h4,if_pos rfl,logs_Newer h.log hB,bnd_some]
      exact fin _ (by simp [voteB,h1,h2,h4])
     ·rw [decide_eq_false h4,if_neg (by simp)]
      exact fin _ (by simp [voteB,h3,h4])
   ·rw [decide_eq_false h2,if_neg (by simp)]
    exact fin _ (by simp [voteB,h2])
  ·rw [decide_eq_false h1,if_neg (by simp)]
   exact fin _ (by simp [voteB,h1])
theorem hear_eq(ho:out.length≤40):zey x ⟨r,out⟩ = some (if deafB r x=true then (false,⟨r,out++[backM r x 6 r.Term 0 false]⟩) else (true,⟨hearQ r x,out⟩)):=by
  have k1:∀ v,zde x ⟨r,out⟩ v=some (if v=true then (false,⟨r,out++[backM r x 6 r.Term 0 false]⟩) else (true,⟨hearQ r x,out⟩)):=by
    intro v
    unfold zde
    cases v with
    | true=>simp only [if_true]; rw [send3_eq (by simp only; omega),bnd_some]; rfl
    | false=>simp only [Bool.false_eq_true,if_false]; rw [follow_eq,bnd_some]; rfl
  unfold zey deafB
  simp only
  by_cases h1:x.Term < r.Term
  ·rw [decide_eq_true h1,if_pos rfl,k1]; simp
  ·rw [decide_eq_false h1,if_neg (by simp),k1]; simp
theorem entries_eq(h:OkR B r)(hB:B≤1000000)(hx:OkM B x)(ho:out.length≤40):zdf x ⟨r,out⟩ = some ⟨(entriesR r x).1,out++(entriesR r x).2⟩:=by
  have hx1:=hx.at0; have hx2:=hx.el
  unfold zdf entriesR
  rw [hear_eq ho,bnd_some]
  cases hd:deafB r x with
  | true=>simp
  | false=>
    simp only [Bool.false_eq_true,if_false,if_true]
    have hlog:(hearQ r x).Log=r.Log:=rfl
    have hcm:(hearQ r x).Commit=r.Commit:=rfl
    rw [hlog,logs_Put h.log hB (by omega) (by omega) fun y hy=>(hx.e y hy).d,bnd_some]
    cases hp:(putL r.Log x.At x.AtTerm x.Entries).2.2 with
    | true=>
      simp only [if_true]
      unfold zcb
      rw [send4_eq (by simp only; omega),bnd_some]
      simp only [hcm,maxI,minI,backM]
      rfl
    | false=>
      simp only [Bool.false_eq_true,if_false]
      unfold zcb
      rw [send4_eq (by simp only; omega),bnd_some]
      rfl
theorem snap_eq(h:OkR B r)(hB:B≤1000000)(hx:OkM B x)(ho:out.length≤40):zfa x ⟨r,out⟩ = some ⟨(snapR r x).1,out++(snapR r x).2⟩:=by
  have hx1:=hx.at0; have hx2:=hx.d
  unfold zfa snapR
  rw [hear_eq ho,bnd_some]
  cases hd:deafB r x with
  | true=>simp
  | false=>
    simp only [Bool.false_eq_true,if_false,if_true]
    have hlog:(hearQ r x).Log=r.Log:=rfl
    have hcm:(hearQ r x).Commit=r.Commit:=rfl
    rw [hcm]
    by_cases hc:r.Commit < x.At
    ·rw [decide_eq_true hc,if_pos rfl,if_pos hc,hlog,logs_Reset h.log hB (by omega),bnd_some,if_pos (capB_small (by omega))]
     unfold zdh
     rw [send4_eq (by simp only; omega),bnd_some]
     rfl
    ·rw [decide_eq_false hc,if_neg (by simp),if_neg hc]
     unfold zdh
     rw [send4_eq (by simp only; omega),bnd_some]
     rfl
theorem match_ok(h:OkR B r)(h3:r.Role=3){to:Int}(h1:1≤to)(h2:to≤r.N):nthI r.Match (to - 1) = some (matchR r to)∧0≤matchR r to∧matchR r to≤B:=by
  have hlt:(to - 1).toNat < r.Match.length:=by have:=h.ma h3; omega
  unfold matchR
  rw [nthI_int (by omega),List.getElem?_eq_getElem hlt]
  exact ⟨rfl,h.mb _ (List.getElem_mem hlt)⟩
theorem get_setI{l:List Int}{i:Int}{v:Int}(h0:0≤i)(h1:i.toNat < l.length):nthI (setI l i v) i=some v:=by
  rw [nthI_int h0,setI]
  simp [h1]
theorem toldM_r(h:OkR B r)(h3:r.Role=3)(hx:OkM B x)(h1:1≤x.From)(h2:x.From≤r.N):0≤toldM r x∧toldM r x≤B:=by
  obtain ⟨_,m1,m2⟩:=match_ok h h3 h1 h2
  have hx1:=hx.at0
  have hl:=h.log.last; have hb:=h.log.b
  unfold toldM maxI minI lastL
  split <;> split at * <;> omega
theorem toldN_r(h:OkR B r)(h3:r.Role=3)(hx:OkM B x)(h1:1≤x.From)(h2:x.From≤r.N):1≤toldN r x∧toldN r x≤B + 1:=by
  obtain ⟨_,n1,n2⟩:=next_ok (h.tell h3) h1 h2
  have:=toldM_r h h3 hx h1 h2
  unfold toldN maxI
  split <;> omega
theorem toldB_r(h:OkR B r)(h3:r.Role=3)(hx:OkM B x)(h1:1≤x.From)(h2:x.From≤r.N):1≤toldB r x∧toldB r x≤B + 1:=by
  obtain ⟨_,n1,n2⟩:=next_ok (h.tell h3) h1 h2
  obtain ⟨_,m1,m2⟩:=match_ok h h3 h1 h2
  have hx1:=hx.at0
  unfold toldB maxI minI
  split <;> split at * <;> omega
theorem told0_ok(h:OkR B r)(h3:r.Role=3)(hx:OkM B x)(h1:1≤x.From)(h2:x.From≤r.N):OkR B { r with Next:=setI r.Next (x.From - 1) (toldN r x),Match:=setI r.Match (x.From - 1) (toldM r x) }:=by
  have a1:=toldM_r h h3 hx h1 h2; have a2:=toldN_r h h3 hx h1 h2
  refine { h with nl:=?_,ml:=?_,na:=?_,ma:=?_,nb:=?_,mb:=?_ }
  ·show (setI r.Next _ _).length≤7; rw [setI_length]; exact h.nl
  ·show (setI r.Match _ _).length≤7; rw [setI_length]; exact h.ml
  ·intro h; show ((setI r.Next _ _).length:Int) = r.N; rw [setI_length]; exact OkR.na (B:=B) (by assumption) h3
  ·intro h; show ((setI r.Match _ _).length:Int) = r.N; rw [setI_length]; exact OkR.ma (B:=B) (by assumption) h3
  ·intro y hy; rcases setI_mem hy with rfl | hy
   ·exact a2
   ·exact h.nb y hy
  ·intro y hy; rcases setI_mem hy with rfl | hy
   ·exact a1
   ·exact h.mb y hy
theorem toldQ_ok(h:OkR B r)(h3:r.Role=3)(hx:OkM B x)(h1:1≤x.From)(h2:x.From≤r.N):OkR B (toldQ r x):=commit_ok (told0_ok h h3 hx h1 h2) h3
theorem toldP_ok(h:OkR B r)(h3:r.Role=3)(hx:OkM B x)(h1:1≤x.From)(h2:x.From≤r.N):OkR B (toldP r x):=by
  have a2:=toldB_r h h3 hx h1 h2
  refine { h with nl:=?_,na:=?_,nb:=?_ }
  ·show (setI r.Next _ _).length≤7; rw [setI_length]; exact h.nl
  ·intro h; show ((setI r.Next _ _).length:Int) = r.N; rw [setI_length]; exact OkR.na (B:=B) (by assumption) h3
  ·intro y hy; rcases setI_mem hy with rfl | hy
   ·exact a2
   ·exact h.nb y hy
theorem commitR_log:(commitR r).Log=r.Log:=by unfold commitR; split <;> rfl
theorem commitR_next:(commitR r).Next=r.Next:=by unfold commitR; split <;> rfl
theorem told_eq(h:OkR B r)(hB:B≤1000000)(hx:OkM B x)(h1:1≤x.From)(h2:x.From≤r.N)(ho:out.length≤40):zez x ⟨r,out⟩ = some ⟨(toldR r x).1,out++(toldR r x).2⟩:=by
  have hx1:=hx.at0
  have hn:=h.n
  have kf:∀ v,v=false→r.Role=3→¬ x.Term < r.Term→zbj x ⟨r,out⟩ v=some ⟨(toldR r x).1,out++(toldR r x).2⟩:=by
    intro v hv h3 ht
    subst hv
    obtain ⟨a1,a2,a3⟩:=next_ok (h.tell h3) h1 h2
    obtain ⟨b1,b2,b3⟩:=match_ok h h3 h1 h2
    have c1:=toldM_r h h3 hx h1 h2
    have hltn:(x.From - 1).toNat < r.Next.length:=by have:=h.na h3; omega
    have hltm:(x.From - 1).toNat < r.Match.length:=by have:=h.ma h3; omega
    unfold zbj toldR
    simp only
    have hnot:¬ (x.Term < r.Term∨r.Role≠3):=by
      rintro (h | h)
      ·exact ht h
      ·exact h h3
    rw [if_neg hnot,if_neg (show ¬ (false=true) by simp),wrap_sm (n:=x.From - 1) (by omega)]
    cases hok:x.Ok with
    | true=>
      simp only [if_true]
      rw [b1,bnd_some,logs_Last h.log hB,bnd_some,a1,bnd_some]
      have em:(if matchR r x.From < (if lastL r.Log < x.At then lastL r.Log else x.At) then (if lastL r.Log < x.At then lastL r.Log else x.At) else matchR r x.From) = toldM r x:=rfl
      rw [em,get_setI (by omega) hltm,bnd_some,wrap_sm (n:=toldM r x + 1) (by omega)]
      have en:(if nextR r x.From < toldM r x + 1 then toldM r x + 1 else nextR r x.From) = toldN r x:=rfl
      rw [en]
      have hc:=commit2_eq (out:=out) (told0_ok h h3 hx h1 h2) hB h3
      have hc':zea ⟨⟨r.Id,r.N,r.Term,r.Vote,r.Role,r.Lead,r.Log,r.Commit,r.Snap,r.Granted,setI r.Next (x.From - 1) (toldN r x),setI r.Match (x.From - 1) (toldM r x),r.Clock,r.Wait⟩,out⟩ = some ⟨toldQ r x,out⟩:=hc
      have hnx:(toldQ r x).Next=setI r.Next (x.From - 1) (toldN r x):=commitR_next
      have hlg:(toldQ r x).Log=r.Log:=commitR_log
      rw [hc',bnd_some]
      simp only
      rw [hnx,get_setI (by omega) hltn,bnd_some,hlg,logs_Last h.log hB,bnd_some]
      by_cases hl:lastL r.Log < toldN r x
      ·rw [decide_eq_true hl,if_pos rfl,if_pos hl]
       simp
      ·rw [decide_eq_false hl,if_neg (by simp),if_neg hl]
       unfold zdg
       have hq:=toldQ_ok h h3 hx h1 h2
       have hr3:(toldQ r x).Role=3:=by unfold toldQ; rw [commitR_role]; exact h3
       have hN:(toldQ r x).N=r.N:=commitR_n
       have ht2:=tell_eq (out:=out) (hq.tell hr3) hB h1 (by rw [hN]; exact h2) (by omega)
       have ht3:zeu x.From ⟨⟨(toldQ r x).Id,(toldQ r x).N,(toldQ r x).Term,(toldQ r x).Vote,(toldQ r x).Role,(toldQ r x).Lead,⟨(toldQ r x).Log.Base,(toldQ r x).Log.BaseTerm,(toldQ r x).Log.Entries⟩,(toldQ r x).Commit,(toldQ r x).Snap,(toldQ r x).Granted,(toldQ r x).Next,(toldQ r x).Match,(toldQ r x).Clock,(toldQ r x).Wait⟩,out⟩ = some ⟨toldQ r x,out++[tellR (toldQ r x) x.From]⟩:=ht2
       rw [hnx,hlg] at ht3
       rw [ht3,bnd_some]
    | false=>
      simp only [Bool.false_eq_true,if_false]
      rw [b1,bnd_some,a1,bnd_some,wrap_sm (n:=nextR r x.From - 2) (by omega),wrap_sm (n:=matchR r x.From + 1) (by omega)]
      have ew:IntKind.i64.wrap ((if x.At < nextR r x.From - 2 then x.At else nextR r x.From - 2) + 1) = minI (nextR r x.From - 2) x.At + 1:=by
        unfold minI
        rw [wrap_sm (by split <;> omega)]
      rw [ew]
      have en:(if matchR r x.From + 1 < minI (nextR r x.From - 2) x.At + 1 then minI (nextR r x.From - 2) x.At + 1 else matchR r x.From + 1) = toldB r x:=rfl
      rw [en]
      unfold zdg
      have hq:=toldP_ok h h3 hx h1 h2
      have ht2:=tell_eq (out:=out) (hq.tell h3) hB h1 h2 (by omega)
      have ht3:zeu x.From ⟨⟨r.Id,r.N,r.Term,r.Vote,r.Role,r.Lead,⟨r.Log.Base,r.Log.BaseTerm,r.Log.Entries⟩,r.Commit,r.Snap,r.Granted,setI r.Next (x.From - 1) (toldB r x),r.Match,r.Clock,r.Wait⟩,out⟩ = some ⟨toldP r x,out++[tellR (toldP r x) x.From]⟩:=ht2
      rw [ht3,bnd_some]
  have kt:(x.Term < r.Term∨r.Role≠3)→zbj x ⟨r,out⟩ true=some ⟨(toldR r x).1,out++(toldR r x).2⟩:=by
    intro hh
    unfold zbj toldR
    rw [if_pos rfl,if_pos hh]
    simp
  unfold zez
  simp only
  by_cases ht:x.Term < r.Term
  ·rw [decide_eq_true ht,if_pos rfl]; exact kt (.inl ht)
  ·rw [decide_eq_false ht,if_neg (by simp)]
   by_cases h3:r.Role=3
   ·exact kf _ (by simp [h3]) h3 ht
   ·have:decide (r.Role≠3) = true:=by simp [h3]
    rw [this]; exact kt (.inr h3)
end
end Go.Proofs.Ytgoachcogmlhcaa.R
set_option maxRecDepth 100000
set_option linter.unusedVariables false
set_option linter.unusedSimpArgs false
noncomputable section
namespace Go.Proofs.Ytgoachcogmlhcaa.R
open Go
section
variable {B:Int} {r:TRaft} {x:TMsg}
theorem granted_ok(h:OkR B r)(v:Bool):OkR B (grantedR r x):=by
  refine { h with gl:=?_,ga:=?_ }
  ·show (setI r.Granted _ _).length≤7; rw [setI_length]; exact h.gl
  ·intro hr; show ((setI r.Granted _ _).length:Int) = r.N; rw [setI_length]; exact h.ga hr
theorem take_eq(h:OkR B r)(hB0:0≤B)(hB:B + 2≤1000000)(hx:OkM B x)(h1:1≤x.From)(h2:x.From≤r.N) :
    zfo x r.Id r.N r.Term r.Vote r.Role r.Lead r.Log.Base r.Log.BaseTerm r.Commit r.Clock r.Wait r.Log.Entries r.Snap r.Granted r.Next r.Match [] = some (takeR r x):=by
  have ht:=h.term
  unfold zfo takeR
  by_cases k1:x.Kind=1
  ·have ha:zel x ⟨⟨r.Id,r.N,r.Term,r.Vote,r.Role,r.Lead,⟨r.Log.Base,r.Log.BaseTerm,r.Log.Entries⟩,r.Commit,r.Snap,r.Granted,r.Next,r.Match,r.Clock,r.Wait⟩,[]⟩ = some ⟨(askedR r x).1,[]++(askedR r x).2⟩:=asked_eq h (by omega) (by simp)
   rw [decide_eq_true k1,if_pos rfl,if_pos k1,ha,bnd_some]; rfl
  rw [decide_eq_false k1,if_neg (show ¬ (false=true) by simp),if_neg k1]
  by_cases k2:x.Kind=2
  ·rw [decide_eq_true k2,if_pos (show true=true from rfl),if_pos k2]
   unfold askOkR
   have kf:zct false r.Id r.N r.Term r.Vote r.Role r.Lead r.Log.Base r.Log.BaseTerm r.Commit r.Clock r.Wait r.Log.Entries r.Snap r.Granted r.Next r.Match [] = some (r,[]):=rfl
   by_cases a1:x.Ok=true
   ·rw [if_pos a1]
    by_cases a2:r.Role=1
    ·rw [decide_eq_true a2,if_pos (show true=true from rfl),wrap_sm (by omega)]
     by_cases a3:x.Term=r.Term + 1
     ·have hgl:(r.Granted.length:Int) = r.N:=h.ga (.inl a2)
      have hg:zbx x.From ⟨⟨r.Id,r.N,r.Term,r.Vote,r.Role,r.Lead,⟨r.Log.Base,r.Log.BaseTerm,r.Log.Entries⟩,r.Commit,r.Snap,r.Granted,r.Next,r.Match,r.Clock,r.Wait⟩,[]⟩ = some (wonL (grantedR r x).Granted,⟨grantedR r x,[]⟩):=grant1_eq (r:=r) h1 (by omega) h.gl
      rw [decide_eq_true a3,if_pos (show true=true from rfl),if_pos ⟨a1,a2,a3⟩,hg,bnd_some]
      unfold zct
      simp only
      cases hw:wonL (grantedR r x).Granted with
      | true=>
        have hs:zeo ⟨⟨(grantedR r x).Id,(grantedR r x).N,(grantedR r x).Term,(grantedR r x).Vote,(grantedR r x).Role,(grantedR r x).Lead,⟨(grantedR r x).Log.Base,(grantedR r x).Log.BaseTerm,(grantedR r x).Log.Entries⟩,(grantedR r x).Commit,(grantedR r x).Snap,(grantedR r x).Granted,(grantedR r x).Next,(grantedR r x).Match,(grantedR r x).Clock,(grantedR r x).Wait⟩,[]⟩ = some ⟨(standR (grantedR r x)).1,[]++(standR (grantedR r x)).2⟩:=by
          rw [stand1_fun]; exact stand_eq (granted_ok h true) hB0 hB (by simp)
        rw [if_pos rfl,if_pos rfl,hs,bnd_some]; rfl
      | false=>rfl
     ·have:¬ (x.Ok=true∧r.Role=1∧x.Term=r.Term + 1):=fun hh=>a3 hh.2.2
      rw [decide_eq_false a3,if_neg (show ¬ (false=true) by simp),if_neg this]; rfl
    ·have:¬ (x.Ok=true∧r.Role=1∧x.Term=r.Term + 1):=fun hh=>a2 hh.2.1
     rw [decide_eq_false a2,if_neg (show ¬ (false=true) by simp),if_neg this]; rfl
   ·have:¬ (x.Ok=true∧r.Role=1∧x.Term=r.Term + 1):=fun hh=>a1 hh.1
    rw [if_neg a1,if_neg this]; rfl
  rw [decide_eq_false k2,if_neg (show ¬ (false=true) by simp),if_neg k2]
  by_cases k3:x.Kind=3
  ·have ha:zex x ⟨⟨r.Id,r.N,r.Term,r.Vote,r.Role,r.Lead,⟨r.Log.Base,r.Log.BaseTerm,r.Log.Entries⟩,r.Commit,r.Snap,r.Granted,r.Next,r.Match,r.Clock,r.Wait⟩,[]⟩ = some ⟨(voteR r x).1,[]++(voteR r x).2⟩:=vote_eq h (by omega) (by simp)
   rw [decide_eq_true k3,if_pos (show true=true from rfl),if_pos k3,ha,bnd_some]; rfl
  rw [decide_eq_false k3,if_neg (show ¬ (false=true) by simp),if_neg k3]
  by_cases k4:x.Kind=4
  ·rw [decide_eq_true k4,if_pos (show true=true from rfl),if_pos k4]
   unfold voteOkR
   by_cases a1:x.Ok=true
   ·rw [if_pos a1]
    by_cases a2:r.Role=2
    ·rw [decide_eq_true a2,if_pos (show true=true from rfl)]
     by_cases a3:x.Term=r.Term
     ·have hgl:(r.Granted.length:Int) = r.N:=h.ga (.inr a2)
      have hg:zbx x.From ⟨⟨r.Id,r.N,r.Term,r.Vote,r.Role,r.Lead,⟨r.Log.Base,r.Log.BaseTerm,r.Log.Entries⟩,r.Commit,r.Snap,r.Granted,r.Next,r.Match,r.Clock,r.Wait⟩,[]⟩ = some (wonL (grantedR r x).Granted,⟨grantedR r x,[]⟩):=grant1_eq (r:=r) h1 (by omega) h.gl
      rw [decide_eq_true a3,if_pos (show true=true from rfl),if_pos ⟨a1,a2,a3⟩,hg,bnd_some]
      unfold zed
      simp only
      cases hw:wonL (grantedR r x).Granted with
      | true=>
        have hs:zdc ⟨⟨(grantedR r x).Id,(grantedR r x).N,(grantedR r x).Term,(grantedR r x).Vote,(grantedR r x).Role,(grantedR r x).Lead,⟨(grantedR r x).Log.Base,(grantedR r x).Log.BaseTerm,(grantedR r x).Log.Entries⟩,(grantedR r x).Commit,(grantedR r x).Snap,(grantedR r x).Granted,(grantedR r x).Next,(grantedR r x).Match,(grantedR r x).Clock,(grantedR r x).Wait⟩,[]⟩ = some ⟨(leadR (grantedR r x)).1,[]++(leadR (grantedR r x)).2⟩:=by
          rw [lead1_fun]; exact lead_eq (granted_ok h true) hB0 (by omega) (by simp)
        rw [if_pos rfl,if_pos rfl,hs,bnd_some]; rfl
      | false=>rfl
     ·have:¬ (x.Ok=true∧r.Role=2∧x.Term=r.Term):=fun hh=>a3 hh.2.2
      rw [decide_eq_false a3,if_neg (show ¬ (false=true) by simp),if_neg this]; rfl
    ·have:¬ (x.Ok=true∧r.Role=2∧x.Term=r.Term):=fun hh=>a2 hh.2.1
     rw [decide_eq_false a2,if_neg (show ¬ (false=true) by simp),if_neg this]; rfl
   ·have:¬ (x.Ok=true∧r.Role=2∧x.Term=r.Term):=fun hh=>a1 hh.1
    rw [if_neg a1,if_neg this]; rfl
  rw [decide_eq_false k4,if_neg (show ¬ (false=true) by simp),if_neg k4]
  by_cases k5:x.Kind=5
  ·have ha:zdf x ⟨⟨r.Id,r.N,r.Term,r.Vote,r.Role,r.Lead,⟨r.Log.Base,r.Log.BaseTerm,r.Log.Entries⟩,r.Commit,r.Snap,r.Granted,r.Next,r.Match,r.Clock,r.Wait⟩,[]⟩ = some ⟨(entriesR r x).1,[]++(entriesR r x).2⟩:=entries_eq h (by omega) hx (by simp)
   rw [decide_eq_true k5,if_pos (show true=true from rfl),if_pos k5,ha,bnd_some]; rfl
  rw [decide_eq_false k5,if_neg (show ¬ (false=true) by simp),if_neg k5]
  by_cases k6:x.Kind=6
  ·have ha:zez x ⟨⟨r.Id,r.N,r.Term,r.Vote,r.Role,r.Lead,⟨r.Log.Base,r.Log.BaseTerm,r.Log.Entries⟩,r.Commit,r.Snap,r.Granted,r.Next,r.Match,r.Clock,r.Wait⟩,[]⟩ = some ⟨(toldR r x).1,[]++(toldR r x).2⟩:=told_eq h (by omega) hx h1 h2 (by simp)
   rw [decide_eq_true k6,if_pos (show true=true from rfl),if_pos k6,ha,bnd_some]; rfl
  rw [decide_eq_false k6,if_neg (show ¬ (false=true) by simp),if_neg k6]
  by_cases k7:x.Kind=7
  ·have ha:zfa x ⟨⟨r.Id,r.N,r.Term,r.Vote,r.Role,r.Lead,⟨r.Log.Base,r.Log.BaseTerm,r.Log.Entries⟩,r.Commit,r.Snap,r.Granted,r.Next,r.Match,r.Clock,r.Wait⟩,[]⟩ = some ⟨(snapR r x).1,[]++(snapR r x).2⟩:=snap_eq h (by omega) hx (by simp)
   rw [decide_eq_true k7,if_pos (show true=true from rfl),if_pos k7,ha,bnd_some]; rfl
  rw [decide_eq_false k7,if_neg (show ¬ (false=true) by simp),if_neg k7]
  rfl
theorem receive_eq(h:OkR B r)(hB0:0≤B)(hB:B + 2≤1000000)(hx:OkM B x):zjd r x=some (receiveR r x):=by
  have kt:∀ v,v=refuseB r x→zbd x ⟨r,[]⟩ v=some (receiveR r x):=by
    intro v hv
    unfold zbd receiveR
    rw [← hv]
    cases v with
    | true=>rfl
    | false=>
      have hv:=hv.symm
      unfold refuseB at hv
      simp only [Bool.or_eq_false_iff,decide_eq_false_iff_not] at hv
      have h1:1≤x.From:=by omega
      have h2:x.From≤r.N:=by omega
      simp only [Bool.false_eq_true,if_false]
      have kk:∀ w,w=riseB r x→zcu x ⟨r,[]⟩ w=some (if riseB r x=true then takeR (followR r x.Term 0) x else takeR r x):=by
        intro w hw
        unfold zcu
        rw [← hw]
        cases w with
        | true=>
          simp only [if_true]
          rw [follow_eq,bnd_some]
          exact take_eq (follow_ok h hx.term.2) hB0 hB hx h1 h2
        | false=>
          simp only [Bool.false_eq_true,if_false]
          exact take_eq h hB0 hB hx h1 h2
      by_cases t1:r.Term < x.Term
      ·rw [decide_eq_true t1,if_pos rfl]
       by_cases t2:x.Kind=1
       ·have e:decide (x.Kind≠1) = false:=by simp [t2]
        rw [e,if_neg (by simp)]
        exact kk _ (by simp [riseB,t2])
       ·have e:decide (x.Kind≠1) = true:=by simp [t2]
        rw [e,if_pos rfl]
        by_cases t3:x.Kind=2
        ·have e:decide (x.Kind≠2) = false:=by simp [t3]
         rw [e,if_neg (by simp)]
         exact kk _ (by simp [riseB,t1,t3])
        ·have e:decide (x.Kind≠2) = true:=by simp [t3]
         rw [e,if_pos rfl]
         exact kk _ (by simp [riseB,t1,t2,t3])
      ·rw [decide_eq_false t1,if_neg (by simp)]
       exact kk _ (by simp [riseB,t1])
  unfold zjd
  rw [at_eq h (by omega),bnd_some]
  simp only
  by_cases a1:x.To=r.Id
  ·have e:decide (x.To≠r.Id) = false:=by simp [a1]
   rw [e,if_neg (by simp)]
   by_cases a2:x.From < 1
   ·rw [decide_eq_true a2,if_pos rfl]; exact kt _ (by simp [refuseB,a2])
   rw [decide_eq_false a2,if_neg (by simp)]
   by_cases a3:r.N < x.From
   ·rw [decide_eq_true a3,if_pos rfl]; exact kt _ (by simp [refuseB,a3])
   rw [decide_eq_false a3,if_neg (by simp)]
   by_cases a4:x.From=r.Id
   ·rw [decide_eq_true a4,if_pos rfl]; exact kt _ (by simp [refuseB,a4])
   rw [decide_eq_false a4,if_neg (by simp)]
   by_cases a5:x.Term < 0
   ·rw [decide_eq_true a5,if_pos rfl]; exact kt _ (by simp [refuseB,a5])
   rw [decide_eq_false a5,if_neg (by simp)]
   by_cases a6:1099511627776 < x.Term
   ·rw [decide_eq_true a6,if_pos rfl]; exact kt _ (by simp [refuseB,a6])
   rw [decide_eq_false a6,if_neg (by simp)]
   exact kt _ (by simp [refuseB,a1,a2,a3,a4,a5,a6])
  ·have e:decide (x.To≠r.Id) = true:=by simp [a1]
   rw [e,if_pos rfl]; exact kt _ (by simp [refuseB,a1])
theorem tick0_ok(h:OkR B r):OkR (B + 1) { r with Clock:=r.Clock + 1 }:=by
  have hc:=h.clock
  have hm:=h.mono (B':=B + 1) (by omega)
  exact { hm with clock:=⟨by show 0≤r.Clock + 1; omega,by show r.Clock + 1≤B + 1; omega⟩ }
theorem tick1_ok(h:OkR B r)(hB0:0≤B):OkR B { r with Clock:=0 }:={ h with clock:=⟨Int.le_refl _,hB0⟩ }
theorem tick_eq(h:OkR B r)(hB0:0≤B)(hB:B + 3≤1000000)(draw:Int):zlf r draw=some (tickR r draw):=by
  have hc:=h.clock
  have hw:IntKind.i64.wrap (r.Clock + 1) = r.Clock + 1:=wrap_sm (by omega)
  unfold zlf tickR
  rw [at_eq h (by omega),bnd_some]
  simp only
  unfold zja
  by_cases h3:r.Role=3
  ·rw [decide_eq_true h3,if_pos rfl,if_pos h3]
   simp only [hw]
   by_cases h2:2≤r.Clock + 1
   ·have ha:zgs ⟨⟨r.Id,r.N,r.Term,r.Vote,r.Role,r.Lead,r.Log,r.Commit,r.Snap,r.Granted,r.Next,r.Match,0,r.Wait⟩,[]⟩ = some ⟨{ r with Clock:=0 },[]++(othersR { r with Clock:=0 }).map (tellR { r with Clock:=0 })⟩:=all_eq ((tick1_ok h hB0).tell h3) (by omega) (by simp)
    rw [decide_eq_true h2,if_pos rfl,if_pos h2,ha,bnd_some]; rfl
   ·rw [decide_eq_false h2,if_neg (show ¬ (false=true) by simp),if_neg h2]
    have e:decide (r.Role≠3) = false:=by simp [h3]
    rw [e,if_neg (show ¬ (false=true) by simp)]
    unfold zho
    simp only [hw]
    rfl
  ·rw [decide_eq_false h3,if_neg (show ¬ (false=true) by simp),if_neg h3,if_neg (show ¬ (false=true) by simp)]
   have e:decide (r.Role≠3) = true:=by simp [h3]
   simp only [hw]
   rw [e,if_pos (show true=true from rfl)]
   unfold zho
   simp only [hw]
   by_cases hwt:r.Wait≤r.Clock + 1
   ·have ha:zfm draw ⟨⟨r.Id,r.N,r.Term,r.Vote,r.Role,r.Lead,r.Log,r.Commit,r.Snap,r.Granted,r.Next,r.Match,r.Clock + 1,r.Wait⟩,[]⟩ = some ⟨(askR { r with Clock:=r.Clock + 1 } draw).1,[]++(askR { r with Clock:=r.Clock + 1 } draw).2⟩:=ask_eq (tick0_ok h) (by omega) (by omega) draw (by simp)
    rw [decide_eq_true hwt,if_pos rfl,if_pos hwt,ha,bnd_some]; rfl
   ·rw [decide_eq_false hwt,if_neg (show ¬ (false=true) by simp),if_neg hwt]; rfl
theorem propose_eq(h:OkR B r)(hB:B + 1≤1000000){data:List Int}(hd:data.length≤1000):zjb r data=some (if r.Role=3 then ((appendR r data).1,lastL (appendR r data).1.Log,(appendR r data).2,0) else (r,0,[],15)):=by
  unfold zjb
  rw [at_eq h (by omega),bnd_some]
  simp only
  by_cases h3:r.Role=3
  ·have e:decide (r.Role≠3) = false:=by simp [h3]
   have hl:(appendR r data).1.Log=(behindR r data).Log:=commitR_log
   have hq:=(commit_ok (behind_ok h h3 hd) h3).log
   rw [e,if_neg (by simp),if_pos h3,append1_eq h hB h3 hd (by simp),bnd_some]
   show bnd (some ((appendR r data).1,[]++(appendR r data).2)) _=_
   rw [bnd_some]
   simp only
   have hlast:zag (appendR r data).1.Log=some (lastL (appendR r data).1.Log):=logs_Last hq hB
   rw [hlast,bnd_some]
   simp
  ·have e:decide (r.Role≠3) = true:=by simp [h3]
   rw [e,if_pos rfl,if_neg h3]
def compactB(r:TRaft)(upto:Int):Bool:=decide (r.Log.Base < upto) && (decide (upto≤r.Commit) && (termL r.Log upto).isSome)
def compactR(r:TRaft)(upto:Int)(snap:List Int):TRaft:={ r with Log:=compactL r.Log upto,Snap:=snap }
theorem compact_eq(h:OkR B r)(hB:B≤1000000){upto:Int}(hu : -1000000≤upto∧upto≤1000000){snap:List Int}(hs:snap.length≤1000):zjc r upto snap=some (if compactB r upto=true then (compactR r upto snap,0) else (r,2)):=by
  have kk:∀ v,zfn upto snap ⟨r,[]⟩ v=some (if v=false∧(termL r.Log upto).isSome=true then (compactR r upto snap,0) else (r,2)):=by
    intro v
    unfold zfn
    cases v with
    | true=>simp
    | false=>
      simp only [Bool.false_eq_true,if_false]
      rw [logs_Compact h.log hB (by omega),bnd_some]
      cases ht:termL r.Log upto with
      | none=>simp
      | some t=>
        simp only [Option.isSome_some,if_true]
        rw [if_neg (by simp),if_pos (capB_small (by omega))]
        simp [compactR]
  unfold zjc
  rw [at_eq h hB,bnd_some]
  simp only
  by_cases h1:upto≤r.Log.Base
  ·have:¬ r.Log.Base < upto:=by omega
   rw [decide_eq_true h1,if_pos rfl,kk]
   simp [compactB,this]
  ·have h1':r.Log.Base < upto:=by omega
   rw [decide_eq_false h1,if_neg (by simp),kk]
   by_cases h2:r.Commit < upto
   ·have:¬ upto≤r.Commit:=by omega
    simp [compactB,h2,this]
   ·have:upto≤r.Commit:=by omega
    simp [compactB,h2,this,h1']
end
end Go.Proofs.Ytgoachcogmlhcaa.R
set_option maxRecDepth 100000
set_option linter.unusedVariables false
set_option linter.unusedSimpArgs false
noncomputable section
namespace Go.Proofs.Ytgoachcogmlhcaa.R
open Go
theorem othersF_mem{id:Int}:∀ {k:Nat} {a to:Int},to∈othersF id k a→a≤to∧to < a + k∧to≠id
  | 0,a,to,h=>by simp [othersF] at h
  | k + 1,a,to,h=>by
    unfold othersF at h
    split at h
    ·rename_i hn
     rcases List.mem_cons.1 h with rfl | h
     ·exact ⟨Int.le_refl _,by omega,hn⟩
     ·have:=othersF_mem h; omega
    ·have:=othersF_mem h; omega
theorem othersF_len{id:Int}:∀ (k:Nat) (a:Int),(othersF id k a).length≤k
  | 0,a=>by simp [othersF]
  | k + 1,a=>by
    unfold othersF
    split
    ·have:=othersF_len (id:=id) k (a + 1); simp; omega
    ·have:=othersF_len (id:=id) k (a + 1); omega
structure OutOk (B:Int) (r:TRaft) (p:TRaft × List TMsg):Prop where
  ok:OkR B p.1
  id:p.1.Id=r.Id
  n:p.1.N=r.N
  len:p.2.length≤7
  msg:∀ y∈p.2,OkM B y∧y.From=r.Id
section
variable {B:Int} {r:TRaft} {x:TMsg}
theorem OkM.mono{B':Int}(h:OkM B x)(hb:B≤B'):OkM B' x:=
  ⟨⟨h.term.1,by have:=h.term.2; omega⟩,⟨h.at0.1,by have:=h.at0.2; omega⟩,⟨h.att.1,by have:=h.att.2; omega⟩,⟨h.commit.1,by have:=h.commit.2; omega⟩,h.el,fun y hy=>(h.e y hy).mono hb,h.d,by have:=h.ate; omega⟩
theorem OutOk.mono{B':Int}{p:TRaft × List TMsg}(h:OutOk B r p)(hb:B≤B'):OutOk B' r p:=⟨h.ok.mono hb,h.id,h.n,h.len,fun y hy=>⟨(h.msg y hy).1.mono hb,(h.msg y hy).2⟩⟩
theorem others_mem(h:OkR B r){to:Int}(ht:to∈othersR r):1≤to∧to≤r.N∧to≠r.Id:=by
  have:=othersF_mem ht
  have:=h.id
  omega
theorem others_len(h:OkR B r):(othersR r).length≤7:=by
  have:=othersF_len (id:=r.Id) r.N.toNat 1
  have:=h.n
  unfold othersR
  omega
theorem fromL_ok(h:OkG B r.Log)(i:Int):(fromL r.Log i).length≤8∧(∀ y∈fromL r.Log i,OkE B y)∧(0≤B→1≤i→i - 1≤B→i - 1 + ((fromL r.Log i).length:Int)≤B):=by
  have hl:=h.last; have hb:=h.b
  unfold fromL
  split
  ·simp
  ·rename_i hc
   unfold lastL at hc
   refine ⟨by simp; omega,fun y hy=>h.e y (List.mem_of_mem_drop (List.mem_of_mem_take hy)),fun _ _ _=>?_⟩
   simp
   omega
theorem tellR_ok(h:OkR B r)(hB0:0≤B)(h3:r.Role=3){to:Int}(h1:1≤to)(h2:to≤r.N):OkM B (tellR r to):=by
  obtain ⟨_,n1,n2⟩:=next_ok (h.tell h3) h1 h2
  have hl:=h.log.last; have hb:=h.log.b
  unfold tellR
  split
  ·exact ⟨h.term,⟨h.log.b,by show r.Log.Base≤B; omega⟩,h.log.bt,h.commit,by simp,by simp,h.snap,by show r.Log.Base + (([]:List TEntry).length:Int)≤B; simp; omega⟩
  ·obtain ⟨f1,f2,f3⟩:=fromL_ok h.log (nextR r to)
   exact ⟨h.term,⟨by show 0≤nextR r to - 1; omega,by show nextR r to - 1≤B; omega⟩,termL_r h.log hB0 _,h.commit,f1,f2,by simp,f3 hB0 n1 (by omega)⟩
theorem lastTermL_r(h:OkG B r.Log)(hB0:0≤B):0≤lastTermL r.Log∧lastTermL r.Log≤B:=termL_r h hB0 _
theorem lastL_r0(h:OkG B r.Log):0≤lastL r.Log∧lastL r.Log≤B:=by
  have hl:=h.last; have hb:=h.b
  unfold lastL
  omega
theorem voteM_ok(h:OkR B r)(hB0:0≤B)(to:Int):OkM B (voteM r to):=by
  have hl:=lastL_r0 h.log
  exact ⟨h.term,hl,lastTermL_r h.log hB0,⟨Int.le_refl _,hB0⟩,by simp [voteM],by simp [voteM],by simp [voteM],by show lastL r.Log + (([]:List TEntry).length:Int)≤B; simp; omega⟩
theorem askM_ok(h:OkR B r)(hB0:0≤B)(to:Int):OkM (B + 1) (askM r to):=by
  have hl:=lastL_r0 h.log
  have ht:=h.term
  have hlt:=lastTermL_r h.log hB0
  exact ⟨⟨by show 0≤r.Term + 1; omega,by show r.Term + 1≤B + 1; omega⟩,⟨hl.1,by show lastL r.Log≤B + 1; omega⟩,⟨hlt.1,by show lastTermL r.Log≤B + 1; omega⟩,⟨Int.le_refl _,by show (0:Int)≤B + 1; omega⟩,by simp [askM],by simp [askM],by simp [askM],by show lastL r.Log + (([]:List TEntry).length:Int)≤B + 1; simp; omega⟩
theorem backM_ok{kind term at0:Int}{ok:Bool}(hB0:0≤B)(ht:0≤term∧term≤B)(ha:0≤at0∧at0≤B):OkM B (backM r x kind term at0 ok):=
  ⟨ht,ha,⟨Int.le_refl _,hB0⟩,⟨Int.le_refl _,hB0⟩,by simp [backM],by simp [backM],by simp [backM],by show at0 + (([]:List TEntry).length:Int)≤B; simp; omega⟩
theorem same_out(h:OkR B r):OutOk B r (r,[]):=⟨h,rfl,rfl,by simp,by simp⟩
theorem append_out(h:OkR B r)(hB0:0≤B)(h3:r.Role=3){data:List Int}(hd:data.length≤1000):OutOk (B + 1) r (appendR r data):=by
  have hb:=behind_ok h h3 hd
  have hc:=commit_ok hb h3
  refine ⟨hc,commitR_id,commitR_n,by show ((othersR r).map _).length≤7; rw [List.length_map]; exact others_len h,fun y hy=>?_⟩
  have hy:y∈(othersR r).map (tellR (commitR (behindR r data))):=hy
  obtain ⟨to,ht,rfl⟩:=List.mem_map.1 hy
  obtain ⟨t1,t2,_⟩:=others_mem h ht
  have hn:(commitR (behindR r data)).N=r.N:=commitR_n
  refine ⟨tellR_ok hc (by omega) (by rw [commitR_role]; exact h3) t1 (by rw [hn]; exact t2),?_⟩
  have hi:(commitR (behindR r data)).Id=r.Id:=commitR_id
  unfold tellR
  split <;> exact hi
theorem lead_out(h:OkR B r)(hB0:0≤B):OutOk (B + 1) r (leadR r):=by
  have:=append_out (leadQ_ok h hB0) hB0 rfl (data:=[]) (by simp)
  exact ⟨this.ok,this.id,this.n,this.len,this.msg⟩
theorem stand_out(h:OkR B r)(hB0:0≤B):OutOk (B + 2) r (standR r):=by
  have hq:=standQ_ok h hB0
  unfold standR
  split
  ·have:=lead_out hq (by omega)
   exact ⟨this.ok.mono (by omega),this.id,this.n,this.len,fun y hy=>⟨(this.msg y hy).1.mono (by omega),(this.msg y hy).2⟩⟩
  ·refine ⟨hq.mono (by omega),rfl,rfl,by rw [List.length_map]; exact others_len h,fun y hy=>?_⟩
   obtain ⟨to,ht,rfl⟩:=List.mem_map.1 hy
   exact ⟨(voteM_ok hq (by omega) to).mono (by omega),rfl⟩
theorem ask_out(h:OkR B r)(hB0:0≤B)(draw:Int):OutOk (B + 2) r (askR r draw):=by
  have hq:=askQ_ok h hB0 draw
  unfold askR
  split
  ·have:=stand_out hq hB0
   exact ⟨this.ok,this.id,this.n,this.len,this.msg⟩
  ·refine ⟨hq.mono (by omega),rfl,rfl,by rw [List.length_map]; exact others_len h,fun y hy=>?_⟩
   obtain ⟨to,ht,rfl⟩:=List.mem_map.1 hy
   exact ⟨(askM_ok hq hB0 to).mono (by omega),rfl⟩
theorem tick_out(h:OkR B r)(hB0:0≤B)(draw:Int):OutOk (B + 3) r (tickR r draw):=by
  have h0:=tick0_ok h
  have h1:=tick1_ok h hB0
  unfold tickR
  simp only
  split
  ·rename_i h3
   split
   ·refine ⟨h1.mono (by omega),rfl,rfl,by rw [List.length_map]; exact others_len h,fun y hy=>?_⟩
    obtain ⟨to,ht,rfl⟩:=List.mem_map.1 hy
    obtain ⟨t1,t2,_⟩:=others_mem h ht
    exact ⟨(tellR_ok h1 hB0 h3 t1 t2).mono (by omega),by unfold tellR; split <;> rfl⟩
   ·exact ⟨h0.mono (by omega),rfl,rfl,by simp,by simp⟩
  ·split
   ·have:=ask_out h0 (by omega) draw
    exact ⟨this.ok.mono (by omega),this.id,this.n,this.len,fun y hy=>⟨(this.msg y hy).1.mono (by omega),(this.msg y hy).2⟩⟩
   ·exact ⟨h0.mono (by omega),rfl,rfl,by simp,by simp⟩
theorem mergeL_ok{ents:List TEntry}(he:∀ y∈ents,OkE B y):∀ (k:Nat) (new:List TEntry),(∀ y∈new,OkE B y)→(∀ y∈mergeL ents k new,OkE B y)∧((mergeL ents k new).length≤ents.length∨(mergeL ents k new).length≤k + new.length):=by
  intro k new
  induction new generalizing k with
  | nil=>intro _; exact ⟨he,.inl (Nat.le_refl _)⟩
  | cons e r ih=>
    intro hn
    unfold mergeL
    split
    ·split
     ·obtain ⟨h1,h2⟩:=ih (k + 1) fun y hy=>hn y (List.mem_cons_of_mem _ hy)
      exact ⟨h1,by simp only [List.length_cons]; omega⟩
     ·refine ⟨fun y hy=>?_,.inr (by simp; omega)⟩
      rcases List.mem_append.1 hy with hy | hy
      ·exact he y (List.mem_of_mem_take hy)
      ·exact hn y hy
    ·rename_i hg
     have:=List.getElem?_eq_none_iff.1 hg
     refine ⟨fun y hy=>?_,.inr (by simp; omega)⟩
     rcases List.mem_append.1 hy with hy | hy
     ·exact he y hy
     ·exact hn y hy
theorem putC_ok{l:TLog}(h:OkG B l)(hB0:0≤B){at0 term:Int}{es:List TEntry}(h1:l.Base≤at0)(h2:at0≤B)(h3:at0 + (es.length:Int)≤B)(he:∀ y∈es,OkE B y):OkG B (putC l at0 term es).1∧0≤(putC l at0 term es).2.1∧(putC l at0 term es).2.1≤B:=by
  have hl:=h.last; have hb:=h.b
  unfold putC
  split
  ·exact ⟨h,by unfold lastL; show 0≤l.Base + _; omega,by unfold lastL; show l.Base + _≤B; omega⟩
  ·rename_i mine hm
   split
   ·have:=hintN_r l mine (at0 - 1 - l.Base).toNat
    refine ⟨h,?_,?_⟩
    ·show 0≤hintL l at0 mine; unfold hintL; omega
    ·show hintL l at0 mine≤B
     unfold hintL
     rcases Int.lt_or_le at0 (l.Base + 1) with hlt | hge
     ·have e:(at0 - 1 - l.Base).toNat=0:=by omega
      rw [e]; unfold hintN; omega
     ·omega
   ·obtain ⟨m1,m2⟩:=mergeL_ok h.e (at0 - l.Base).toNat es he
    refine ⟨⟨h.b,h.bt,?_,m1⟩,by show 0≤at0 + _; omega,h3⟩
    show l.Base + ((mergeL _ _ _).length:Int)≤B
    omega
theorem putL_ok{l:TLog}(h:OkG B l)(hB0:0≤B)(hx:OkM B x):OkG B (putL l x.At x.AtTerm x.Entries).1∧0≤(putL l x.At x.AtTerm x.Entries).2.1∧(putL l x.At x.AtTerm x.Entries).2.1≤B:=by
  have hl:=h.last; have hb:=h.b; have ha:=hx.at0; have hate:=hx.ate
  unfold putL
  split
  ·split
   ·exact ⟨h,h.b,by show l.Base≤B; omega⟩
   ·exact putC_ok h hB0 (Int.le_refl _) (by omega) (by simp; omega) fun y hy=>hx.e y (List.mem_of_mem_drop hy)
  ·exact putC_ok h hB0 (by omega) ha.2 hate hx.e
theorem compactL_ok{l:TLog}(h:OkG B l)(hB0:0≤B){i:Int}(h1:l.Base≤i)(h2:i≤lastL l):OkG B (compactL l i):=by
  have hl:=h.last; have hb:=h.b
  unfold lastL at h2
  refine ⟨by show 0≤i; omega,termL_r h hB0 i,?_,fun y hy=>h.e y (List.mem_of_mem_drop hy)⟩
  show i + ((l.Entries.drop _).length:Int)≤B
  simp
  omega
theorem resetL_ok{l:TLog}(h:OkG B l)(hB0:0≤B){i term:Int}(h1:0≤i)(h2:i≤B)(ht:0≤term∧term≤B):OkG B (resetL l i term):=by
  unfold resetL
  split
  ·rename_i hh
   have:=termL_some hh
   exact compactL_ok h hB0 this.1 this.2
  ·exact ⟨h1,ht,by simp; exact h2,by simp⟩
theorem hearQ_ok(h:OkR B r)(hB0:0≤B)(hx:OkM B x):OkR B (hearQ r x):=by
  have:=follow_ok h (t:=x.Term) (l:=x.From) hx.term.2
  exact { this with clock:=⟨Int.le_refl _,hB0⟩ }
theorem take_out(h:OkR B r)(hB0:0≤B)(hx:OkM B x)(h1:1≤x.From)(h2:x.From≤r.N):OutOk (B + 2) r (takeR r x):=by
  have ht:=h.term; have hid:=h.id; have hn:=h.n
  have one:∀ {q:TRaft} {m:TMsg},OkR B q→q.Id=r.Id→q.N=r.N→OkM B m→m.From=r.Id→OutOk (B + 2) r (q,[m]):=fun hq e1 e2 hm e3=>
    ⟨hq.mono (by omega),e1,e2,by simp,fun y hy=>by simp at hy; subst hy; exact ⟨hm.mono (by omega),e3⟩⟩
  have none:OutOk (B + 2) r (r,[]):=(same_out h).mono (by omega)
  unfold takeR
  split
  ·exact one h rfl rfl (backM_ok hB0 (by split; exact hx.term; exact h.term) ⟨Int.le_refl _,hB0⟩) rfl
  split
  ·unfold askOkR
   split
   ·have hg:=granted_ok (x:=x) h true
    split
    ·have:=stand_out hg hB0
     exact ⟨this.ok,this.id,this.n,this.len,this.msg⟩
    ·exact ⟨hg.mono (by omega),rfl,rfl,by simp,by simp⟩
   ·exact none
  split
  ·unfold voteR
   split
   ·have hq:OkR B { r with Vote:=x.From,Clock:=0 }:={ h with vote:=⟨by show 0≤x.From; omega,by show x.From≤7; omega⟩,clock:=⟨Int.le_refl _,hB0⟩ }
    exact one hq rfl rfl (backM_ok hB0 h.term ⟨Int.le_refl _,hB0⟩) rfl
   ·exact one h rfl rfl (backM_ok hB0 h.term ⟨Int.le_refl _,hB0⟩) rfl
  split
  ·unfold voteOkR
   split
   ·have hg:=granted_ok (x:=x) h true
    split
    ·have:=lead_out hg hB0
     exact ⟨this.ok.mono (by omega),this.id,this.n,this.len,fun y hy=>⟨(this.msg y hy).1.mono (by omega),(this.msg y hy).2⟩⟩
    ·exact ⟨hg.mono (by omega),rfl,rfl,by simp,by simp⟩
   ·exact none
  split
  ·unfold entriesR
   split
   ·exact one h rfl rfl (backM_ok hB0 h.term ⟨Int.le_refl _,hB0⟩) rfl
   ·obtain ⟨p1,p2,p3⟩:=putL_ok h.log hB0 hx
    have hq:=hearQ_ok h hB0 hx
    simp only
    split
    ·have hc:=h.commit; have hxc:=hx.commit
     have hmm:0≤maxI r.Commit (minI x.Commit (putL r.Log x.At x.AtTerm x.Entries).2.1)∧maxI r.Commit (minI x.Commit (putL r.Log x.At x.AtTerm x.Entries).2.1)≤B:=by
       unfold maxI minI
       split <;> split at * <;> omega
     exact one (q:={ hearQ r x with Log:=(putL r.Log x.At x.AtTerm x.Entries).1,Commit:=maxI r.Commit (minI x.Commit (putL r.Log x.At x.AtTerm x.Entries).2.1) }) { hq with log:=p1,commit:=hmm } rfl rfl (backM_ok hB0 hq.term ⟨p2,p3⟩) rfl
    ·exact one hq rfl rfl (backM_ok hB0 hq.term ⟨p2,p3⟩) rfl
  split
  ·unfold toldR
   split
   ·exact none
   ·rename_i hr
    have h3:r.Role=3:=by
      rcases Classical.em (r.Role=3) with h | h
      ·exact h
      ·exact absurd (.inr h) hr
    have hq:=toldQ_ok h h3 hx h1 h2
    have hp:=toldP_ok h h3 hx h1 h2
    have e1:(toldQ r x).Id=r.Id:=commitR_id
    have e2:(toldQ r x).N=r.N:=commitR_n
    have e3:(toldQ r x).Role=3:=by unfold toldQ; rw [commitR_role]; exact h3
    split
    ·split
     ·exact ⟨hq.mono (by omega),e1,e2,by simp,by simp⟩
     ·exact one hq e1 e2 (tellR_ok hq hB0 e3 h1 (by rw [e2]; exact h2)) (by unfold tellR; split <;> exact e1)
    ·exact one hp rfl rfl (tellR_ok hp hB0 h3 h1 h2) (by unfold tellR; split <;> rfl)
  split
  ·unfold snapR
   split
   ·exact one h rfl rfl (backM_ok hB0 h.term ⟨Int.le_refl _,hB0⟩) rfl
   ·have hq:=hearQ_ok h hB0 hx
    simp only
    split
    ·exact one (q:={ hearQ r x with Log:=resetL r.Log x.At x.AtTerm,Commit:=x.At,Snap:=x.Data }) { hq with log:=resetL_ok h.log hB0 hx.at0.1 hx.at0.2 hx.att,commit:=hx.at0,snap:=hx.d } rfl rfl (backM_ok hB0 hq.term hx.at0) rfl
    ·exact one hq rfl rfl (backM_ok hB0 hq.term h.commit) rfl
  ·exact none
theorem receive_out(h:OkR B r)(hB0:0≤B)(hx:OkM B x):OutOk (B + 2) r (receiveR r x):=by
  unfold receiveR
  split
  ·exact (same_out h).mono (by omega)
  ·rename_i hr
   have hv:refuseB r x=false:=by simpa using hr
   unfold refuseB at hv
   simp only [Bool.or_eq_false_iff,decide_eq_false_iff_not] at hv
   split
   ·have:=take_out (follow_ok h (t:=x.Term) (l:=0) hx.term.2) hB0 hx (by omega) (by show x.From≤r.N; omega)
    exact ⟨this.ok,this.id,this.n,this.len,this.msg⟩
   ·exact take_out h hB0 hx (by omega) (by omega)
theorem compact_out(h:OkR B r)(hB0:0≤B){upto:Int}{snap:List Int}(hs:snap.length≤1000)(hc:compactB r upto=true):OutOk B r (compactR r upto snap,[]):=by
  unfold compactB at hc
  simp only [Bool.and_eq_true,decide_eq_true_eq] at hc
  obtain ⟨c1,c2,c3⟩:=hc
  obtain ⟨t,ht⟩:=Option.isSome_iff_exists.1 c3
  have:=termL_some ht
  exact ⟨{ h with log:=compactL_ok h.log hB0 this.1 this.2,snap:=hs },rfl,rfl,by simp,by simp⟩
end
end Go.Proofs.Ytgoachcogmlhcaa.R
set_option maxRecDepth 100000
set_option linter.unusedVariables false
set_option linter.unusedSimpArgs false
noncomputable section
namespace Go.Proofs.Ytgoachcogmlhcaa.R
open Go
def zeroR:TRaft:=⟨0,0,0,0,0,0,⟨0,0,[]⟩,0,[],[],[],[],0,0⟩
def newR(id n:Int):TRaft:=⟨id,n,0,0,0,0,⟨0,0,[]⟩,0,[],[],[],[],0,10 + id⟩
def restartR(r:TRaft):TRaft:=⟨r.Id,r.N,r.Term,r.Vote,0,0,r.Log,r.Log.Base,r.Snap,[],[],[],0,10 + r.Id⟩
theorem new_eq{id n:Int}(h1:1≤id)(h2:id≤n)(h3:n≤7):zkp id n=some (newR id n,0):=by
  unfold zkp zgp
  have a1:¬ n < 1:=by omega
  have a2:¬ (7:Int) < n:=by omega
  have a3:¬ id < 1:=by omega
  have a4:¬ n < id:=by omega
  simp only [a1,a2,a3,a4,decide_false,Bool.false_eq_true,if_false]
  rw [wrap_sm (by omega)]
  rfl
theorem check_loop{l:TLog}(hl:l.Entries.length≤1000000):∀ (m k n:Nat) (t:Int),l.Entries.length - k=m→k≤l.Entries.length→m < n→∃ c,zcx l n t (k:Int) = some c:=by
  intro m
  induction m with
  | zero=>
    intro k n t hm hk hn
    obtain ⟨n,rfl⟩:∃ n',n=n' + 1:=⟨n - 1,by omega⟩
    have hk':¬ ((k:Int) < (l.Entries.length:Int)):=by omega
    rw [zcx,zgu,decide_eq_false hk',if_neg (by simp)]
    exact ⟨_,rfl⟩
  | succ m ih=>
    intro k n t hm hk hn
    obtain ⟨n,rfl⟩:∃ n',n=n' + 1:=⟨n - 1,by omega⟩
    have hlt:k < l.Entries.length:=by omega
    have hk':((k:Int) < (l.Entries.length:Int)):=by omega
    have k2:∀ v,∃ c,zgm (zcx l n) (k:Int) l.Entries[k] v=some c:=by
      intro v
      unfold zgm
      cases v with
      | true=>exact ⟨_,rfl⟩
      | false=>
        rw [if_neg (by simp),wrap_nat (by omega)]
        exact ih (k + 1) n _ (by omega) (by omega) (by omega)
    rw [zcx,zgu,decide_eq_true hk',if_pos rfl,nthI_lt hlt,bnd_some]
    split
    ·exact k2 _
    ·exact k2 _
theorem check_some{l:TLog}(hl:l.Entries.length≤1000000):∃ c,zkh l=some c:=by
  have k1:∀ v,∃ c,zcy l v=some c:=by
    intro v
    unfold zcy
    cases v with
    | true=>exact ⟨_,rfl⟩
    | false=>
      rw [if_neg (by simp)]
      exact check_loop hl _ 0 _ _ rfl (Nat.zero_le _) (by omega)
  unfold zkh
  repeat' split
  all_goals exact k1 _
section
variable {B:Int} {r:TRaft} {x:TMsg}
theorem restart_eq(h:OkR B r)(hB:B≤1000000):zhn r.Id r.N r.Term r.Vote r.Log r.Snap=some (restartR r,0)∨zhn r.Id r.N r.Term r.Vote r.Log r.Snap=some (zeroR,1):=by
  have hid:=h.id; have hn:=h.n; have hs:=h.snap
  have k1:∀ v,zbc r.Term r.Vote r.Log r.Snap (newR r.Id r.N,0) v=some (restartR r,0)∨zbc r.Term r.Vote r.Log r.Snap (newR r.Id r.N,0) v=some (zeroR,1):=by
    intro v
    unfold zbc
    cases v with
    | true=>exact .inr rfl
    | false=>
      left
      rw [if_neg (by simp),logs_Copy h.log hB,bnd_some,if_pos (capB_small (by omega))]
      rfl
  obtain ⟨c,hc⟩:=check_some (l:=r.Log) (h.log.len hB)
  unfold zhn
  rw [new_eq hid.1 hid.2 hn,bnd_some,logs_LastTerm h.log hB,bnd_some,hc,bnd_some]
  simp only [ne_eq,not_true_eq_false,decide_false,Bool.false_eq_true,if_false]
  repeat' split
  all_goals exact k1 _
theorem restart_out(h:OkR B r)(hB0:20≤B):OutOk B r (restartR r,[]):=by
  have hid:=h.id; have hn:=h.n
  have hl:=h.log.last; have hb:=h.log.b
  refine ⟨{ h with commit:=⟨hb,by show r.Log.Base≤B; omega⟩,clock:=⟨Int.le_refl _,by show (0:Int)≤B; omega⟩,wait:=⟨by show 0≤10 + r.Id; omega,by show 10 + r.Id≤20; omega⟩,gl:=by simp [restartR],nl:=by simp [restartR],ml:=by simp [restartR],ga:=?_,na:=?_,ma:=?_,nb:=by simp [restartR],mb:=by simp [restartR] },rfl,rfl,by simp,by simp⟩
  ·intro h; simp [restartR] at h
  ·intro h; simp [restartR] at h
  ·intro h; simp [restartR] at h
theorem new_ok{n:Int}(h1:1≤r.Id)(h:0≤B){id:Int}(h2:1≤id)(h3:id≤n)(h4:n≤7):OkR B (newR id n):=by
  refine { id:=⟨h2,h3⟩,n:=h4,term:=⟨Int.le_refl _,h⟩,vote:=⟨Int.le_refl _,by simp [newR]⟩,commit:=⟨Int.le_refl _,h⟩,clock:=⟨Int.le_refl _,h⟩,wait:=⟨by show 0≤10 + id; omega,by show 10 + id≤20; omega⟩,log:=⟨Int.le_refl _,⟨Int.le_refl _,h⟩,by show (0:Int) + (([]:List TEntry).length:Int)≤B; simp; exact h,by simp [newR]⟩,snap:=by simp [newR],gl:=by simp [newR],nl:=by simp [newR],ml:=by simp [newR],ga:=?_,na:=?_,ma:=?_,nb:=by simp [newR],mb:=by simp [newR] }
  ·intro h; simp [newR] at h
  ·intro h; simp [newR] at h
  ·intro h; simp [newR] at h
end
def pickI(k:Int)(n:Nat):Int:=(IntKind.u64.wrap k) % (n:Int)
theorem u64_nn(k:Int):0≤IntKind.u64.wrap k:=by
  simp only [IntKind.wrap,IntKind.signed,IntKind.bits]
  simp
  omega
theorem pick_eq{k:Int}{n:Nat}(h0:0 < n)(h1:n≤100000):zgh k (n:Int) = some (pickI k n)∧0≤pickI k n∧pickI k n < (n:Int):=by
  have hk:=u64_nn k
  have r1:0≤pickI k n:=Int.emod_nonneg _ (by omega)
  have r2:pickI k n < (n:Int):=Int.emod_lt_of_pos _ (by omega)
  refine ⟨?_,r1,r2⟩
  unfold zgh
  have hn:¬ ((n:Int) = 0):=by omega
  rw [u64_in (n:=(n:Int)) (by omega) (by omega),decide_eq_false hn,if_neg (by simp),Int.tmod_eq_emod_of_nonneg hk]
  have:IntKind.u64.wrap k % (n:Int) = pickI k n:=rfl
  rw [this,wrap_sm (by omega)]
def last60(l:List TMsg):List TMsg:=if 60 < l.length then l.drop (l.length - 60) else l
theorem last60_mem{l:List TMsg}{x:TMsg}(h:x∈last60 l):x∈l:=by
  unfold last60 at h
  split at h
  ·exact List.mem_of_mem_drop h
  ·exact h
theorem last60_len(l:List TMsg):(last60 l).length≤60:=by
  unfold last60
  split
  ·simp; omega
  ·omega
def setW(w:TWorld)(i:Int)(p:TRaft × List TMsg):TWorld:=⟨setI w.R i p.1,last60 (w.Net++p.2)⟩
theorem set_eq{w:TWorld}{i:Int}{p:TRaft × List TMsg}(h0:0≤i)(h1:i.toNat < w.R.length)(h2:w.R.length≤100)(h3:w.Net.length≤1000)(h4:p.2.length≤1000):zfe w i p.1 p.2=some (setW w i p):=by
  unfold zfe setW last60
  rw [if_pos (capB_small (by omega)),nthI_int h0,List.getElem?_eq_getElem h1,bnd_some,if_pos (capB_small (by omega)),if_pos (capB_small (by omega))]
  by_cases hl:60 < w.Net.length + p.2.length
  ·have h5:(60:Int) < ((w.Net.length + p.2.length:Nat):Int):=by omega
   have h6:IntKind.i64.wrap (((w.Net.length + p.2.length:Nat):Int) - 60) = ((w.Net.length + p.2.length - 60:Nat):Int):=by rw [wrap_sm (by omega)]; omega
   have h7:60 < (w.Net++p.2).length:=by simp; omega
   rw [decide_eq_true h5,if_pos rfl,h6,sliceL_to (by omega) (by simp; omega),bnd_some,if_pos h7]
   have e1:(((w.Net.length + p.2.length - 60:Nat):Int)).toNat=(w.Net++p.2).length - 60:=by simp
   rw [e1]
  ·have h5:¬ (60:Int) < ((w.Net.length + p.2.length:Nat):Int):=by omega
   have h7:¬ 60 < (w.Net++p.2).length:=by simp; omega
   rw [decide_eq_false h5,if_neg (by simp),if_neg h7]
def lessW(w:TWorld)(k:Nat)(keep:Bool)(x:TMsg):TWorld:=⟨w.R,w.Net.take k++(if keep=true then [x] else [])++w.Net.drop (k + 1)⟩
theorem take_eqW{w:TWorld}{k:Nat}{keep:Bool}(h:k < w.Net.length)(h2:w.Net.length≤1000):zkj w (k:Int) keep=some (lessW w k keep w.Net[k],w.Net[k]):=by
  have k1:∀ out:List TMsg,out.length≤2000→zgn w (k:Int) w.Net[k] out=some (⟨w.R,out++w.Net.drop (k + 1)⟩,w.Net[k]):=by
    intro out ho
    have e1:(((k + 1:Nat):Int)).toNat=k + 1:=by omega
    unfold zgn
    rw [wrap_nat (by omega),sliceL_to (by omega) (by omega),bnd_some,e1,if_pos (capB_small (by simp; omega))]
  have e0:((k:Int)).toNat=k:=by omega
  unfold zkj
  rw [nthI_lt h,bnd_some,sliceL_upto (by omega) (by omega),bnd_some,e0,if_pos (capB_small (by simp; omega))]
  unfold lessW
  cases keep with
  | true=>rw [if_pos rfl,if_pos (capB_small (by simp; omega)),k1 _ (by simp; omega)]; simp
  | false=>rw [if_neg (by simp),k1 _ (by simp; omega)]; simp
theorem lessW_mem{w:TWorld}{k:Nat}{keep:Bool}(h:k < w.Net.length){y:TMsg}(hy:y∈(lessW w k keep w.Net[k]).Net):y∈w.Net:=by
  unfold lessW at hy
  rcases List.mem_append.1 hy with hy | hy
  ·rcases List.mem_append.1 hy with hy | hy
   ·exact List.mem_of_mem_take hy
   ·cases keep with
    | true=>simp at hy; subst hy; exact List.getElem_mem h
    | false=>simp at hy
  ·exact List.mem_of_mem_drop hy
theorem lessW_len{w:TWorld}{k:Nat}{keep:Bool}{x:TMsg}(h:k < w.Net.length):(lessW w k keep x).Net.length≤w.Net.length:=by
  unfold lessW
  cases keep <;> simp <;> omega
inductive Act (crash:Bool) (r:TRaft) (net:List TMsg):TRaft × List TMsg→Prop
  | tick (draw:Int):Act crash r net (tickR r draw)
  | recv (x:TMsg) (hx:x∈net):Act crash r net (receiveR r x)
  | prop (data:List Int) (hd:data.length≤1000) (h3:r.Role=3):Act crash r net (appendR r data)
  | comp (upto:Int) (snap:List Int) (hs:snap.length≤1000) (hc:compactB r upto=true):Act crash r net (compactR r upto snap,[])
  | fall (hc:crash=true):Act crash r net (restartR r,[])
inductive StepW (crash:Bool) (w:TWorld):TWorld→Prop
  | less (net:List TMsg) (h:∀ x∈net,x∈w.Net):StepW crash w ⟨w.R,net⟩
  | act (i:Nat) (r:TRaft) (p:TRaft × List TMsg) (net:List TMsg) (hi:w.R[i]? = some r) (ha:Act crash r w.Net p) (hn:∀ x∈net,x∈w.Net∨x∈p.2):StepW crash w ⟨w.R.set i p.1,net⟩
structure OkW (B:Int) (n:Nat) (w:TWorld):Prop where
  n1:1≤n∧n≤5
  len:w.R.length=n
  mem:∀ (k:Nat) (r:TRaft),w.R[k]? = some r→OkR B r∧r.Id=(k:Int) + 1∧r.N=(n:Int)
  nl:w.Net.length≤60
  net:∀ x∈w.Net,OkM B x
section
variable {B:Int} {n:Nat} {w:TWorld}
theorem OkW.mono{B':Int}(h:OkW B n w)(hb:B≤B'):OkW B' n w:=
  ⟨h.n1,h.len,fun k r hr=>⟨(h.mem k r hr).1.mono hb,(h.mem k r hr).2⟩,h.nl,fun x hx=>(h.net x hx).mono hb⟩
theorem act_out{r:TRaft}{net:List TMsg}{p:TRaft × List TMsg}{c:Bool}(h:OkR B r)(hB0:20≤B)(hnet:∀ x∈net,OkM B x)(ha:Act c r net p):OutOk (B + 3) r p:=by
  cases ha with
  | tick draw=>exact tick_out h (by omega) draw
  | recv x hx=>exact (receive_out h (by omega) (hnet x hx)).mono (by omega)
  | prop data hd h3=>exact (append_out h (by omega) h3 hd).mono (by omega)
  | comp upto snap hs hc=>exact (compact_out h (by omega) hs hc).mono (by omega)
  | fall hc=>exact (restart_out h hB0).mono (by omega)
theorem set_ok{i:Nat}{r:TRaft}{p:TRaft × List TMsg}{net:List TMsg}(h:OkW B n w)(hi:w.R[i]? = some r)(hp:OutOk (B + 3) r p)(hl:net.length≤60)(hn:∀ x∈net,OkM (B + 3) x):OkW (B + 3) n ⟨w.R.set i p.1,net⟩:=by
  have hlt:i < w.R.length:=by
    rcases Nat.lt_or_ge i w.R.length with h | h
    ·exact h
    ·rw [List.getElem?_eq_none h] at hi; cases hi
  refine ⟨h.n1,by show (w.R.set i p.1).length=n; rw [List.length_set]; exact h.len,fun k q hq=>?_,hl,hn⟩
  have hq2:(w.R.set i p.1)[k]? = some q:=hq
  by_cases hk:i=k
  ·subst hk
   rw [List.getElem?_set_self hlt] at hq2
   obtain rfl:=Option.some.inj hq2
   obtain ⟨_,m2,m3⟩:=h.mem i r hi
   exact ⟨hp.ok,by rw [hp.id]; exact m2,by rw [hp.n]; exact m3⟩
  ·rw [List.getElem?_set_ne hk] at hq2
   obtain ⟨m1,m2⟩:=h.mem k q hq2
   exact ⟨m1.mono (by omega),m2⟩
theorem act_step{c:Bool}{i:Int}{r:TRaft}{p:TRaft × List TMsg}{v:TWorld}(h:OkW B n w)(hB0:20≤B)(hvR:v.R=w.R)(hvN:∀ x∈v.Net,x∈w.Net)(hvl:v.Net.length≤60)(h0:0≤i)(hi:w.R[i.toNat]? = some r)(ha:Act c r w.Net p) :
    zfe v i p.1 p.2=some (setW v i p)∧StepW c w (setW v i p)∧OkW (B + 3) n (setW v i p):=by
  obtain ⟨m1,m2,m3⟩:=h.mem _ r hi
  have hp:=act_out m1 hB0 h.net ha
  have hlt:i.toNat < w.R.length:=by
    rcases Nat.lt_or_ge i.toNat w.R.length with h | h
    ·exact h
    ·rw [List.getElem?_eq_none h] at hi; cases hi
  have hwl:=h.len; have hn1:=h.n1; have hpl:=hp.len
  have hmem:∀ x∈last60 (v.Net++p.2),x∈w.Net∨x∈p.2:=by
    intro x hx
    rcases List.mem_append.1 (last60_mem hx) with hx | hx
    ·exact .inl (hvN x hx)
    ·exact .inr hx
  refine ⟨set_eq h0 (by rw [hvR]; exact hlt) (by rw [hvR]; omega) (by omega) (by omega),?_,?_⟩
  ·unfold setW setI
   rw [hvR]
   exact .act i.toNat r p _ hi ha hmem
  ·unfold setW setI
   rw [hvR]
   refine set_ok h hi hp (last60_len _) fun x hx=>?_
   rcases hmem x hx with hx | hx
   ·exact (h.net x hx).mono (by omega)
   ·exact (hp.msg x hx).1
theorem same_step(c:Bool)(h:OkW B n w):StepW c w w∧OkW (B + 3) n w:=⟨.less w.Net fun _ hx=>hx,h.mono (by omega)⟩
theorem do_ok(h:OkW B n w)(hB0:20≤B)(hB:B≤100000)(o:TOp)(ho:o.Data.length≤20):∃ w',zkq w o=some w'∧StepW (decide (o.Kind=6)) w w'∧OkW (B + 3) n w':=by
  have hwl:=h.len; have hn1:=h.n1; have hnl:=h.nl
  obtain ⟨p1,p2,p3⟩:=pick_eq (k:=o.Who) (n:=w.R.length) (by omega) (by omega)
  have hlt:(pickI o.Who w.R.length).toNat < w.R.length:=by omega
  obtain ⟨r,hr⟩:∃ r,w.R[(pickI o.Who w.R.length).toNat]? = some r:=⟨_,List.getElem?_eq_getElem hlt⟩
  obtain ⟨m1,m2,m3⟩:=h.mem _ r hr
  unfold zkq
  rw [p1,bnd_some,nthI_int p2,hr,bnd_some]
  have k1:zdp w o (pickI o.Who w.R.length) r true=zdp w o (pickI o.Who w.R.length) r true→∃ w',zdp w o (pickI o.Who w.R.length) r true=some w'∧StepW (decide (o.Kind=6)) w w'∧OkW (B + 3) n w':=by
    intro _
    unfold zdp
    rw [if_pos rfl]
    by_cases hz:w.Net.length=0
    ·have:(w.Net.length:Int) = 0:=by omega
     rw [decide_eq_true this,if_pos rfl]
     obtain ⟨s1,s2⟩:=same_step (decide (o.Kind=6)) h
     exact ⟨w,rfl,s1,s2⟩
    ·have:¬ (w.Net.length:Int) = 0:=by omega
     obtain ⟨q1,q2,q3⟩:=pick_eq (k:=o.N) (n:=w.Net.length) (by omega) (by omega)
     obtain ⟨k,hk⟩:∃ k:Nat,pickI o.N w.Net.length=(k:Int):=⟨(pickI o.N w.Net.length).toNat,by omega⟩
     have hkl:k < w.Net.length:=by omega
     rw [decide_eq_false this,if_neg (by simp),q1,bnd_some,hk,take_eqW hkl (by omega),bnd_some]
     have hv:=@lessW_mem w k (decide (o.Kind=3)) hkl
     have hvl:=lessW_len (keep:=decide (o.Kind=3)) (x:=w.Net[k]) hkl
     have hless:StepW (decide (o.Kind=6)) w (lessW w k (decide (o.Kind=3)) w.Net[k])∧OkW (B + 3) n (lessW w k (decide (o.Kind=3)) w.Net[k]):=by
       refine ⟨.less _ fun x hx=>hv hx,?_⟩
       exact ⟨h.n1,h.len,(h.mono (B':=B + 3) (by omega)).mem,by omega,fun x hx=>(h.net x (hv hx)).mono (by omega)⟩
     have k2t:∃ w',zgq (lessW w k (decide (o.Kind=3)) w.Net[k],w.Net[k]) true=some w'∧StepW (decide (o.Kind=6)) w w'∧OkW (B + 3) n w':=⟨_,rfl,hless.1,hless.2⟩
     simp only
     split
     ·exact k2t
     ·split
      ·exact k2t
      ·rename_i ht1
       have ht1':¬ w.Net[k].To < 1:=by simpa using ht1
       by_cases ht2:(w.R.length:Int) < w.Net[k].To
       ·rw [decide_eq_true ht2]; exact k2t
       ·rw [decide_eq_false ht2]
        unfold zgq
        rw [if_neg (by simp)]
        have hxo:=h.net _ (List.getElem_mem hkl)
        have hlt2:(w.Net[k].To - 1).toNat < w.R.length:=by omega
        obtain ⟨r2,hr2⟩:∃ r2,w.R[(w.Net[k].To - 1).toNat]? = some r2:=⟨_,List.getElem?_eq_getElem hlt2⟩
        obtain ⟨c1,c2,c3⟩:=h.mem _ r2 hr2
        have hlR:(lessW w k (decide (o.Kind=3)) w.Net[k]).R=w.R:=rfl
        simp only
        rw [wrap_sm (by omega),hlR,nthI_int (by omega),hr2,bnd_some,receive_eq c1 (by omega) (by omega) hxo,bnd_some]
        obtain ⟨s1,s2,s3⟩:=act_step (c:=decide (o.Kind=6)) (v:=lessW w k (decide (o.Kind=3)) w.Net[k]) (i:=w.Net[k].To - 1) h hB0 rfl (fun x hx=>hv hx) (by omega) (by omega) hr2 (.recv _ (List.getElem_mem hkl))
        rw [s1,bnd_some]
        exact ⟨_,rfl,s2,s3⟩
  have k1:=k1 rfl
  by_cases k0:o.Kind=0
  ·rw [decide_eq_true k0,if_pos rfl,tick_eq m1 (by omega) (by omega),bnd_some]
   obtain ⟨s1,s2,s3⟩:=act_step (c:=decide (o.Kind=6)) (v:=w) h hB0 rfl (fun _ hx=>hx) hnl p2 hr (.tick o.N)
   rw [s1,bnd_some]
   exact ⟨_,rfl,s2,s3⟩
  rw [decide_eq_false k0,if_neg (show ¬ (false=true) by simp)]
  by_cases k11:o.Kind=1
  ·rw [decide_eq_true k11,if_pos rfl]; exact k1
  rw [decide_eq_false k11,if_neg (show ¬ (false=true) by simp)]
  by_cases k12:o.Kind=2
  ·rw [decide_eq_true k12,if_pos rfl]; exact k1
  rw [decide_eq_false k12,if_neg (show ¬ (false=true) by simp)]
  by_cases k13:o.Kind=3
  ·rw [decide_eq_true k13]; exact k1
  rw [decide_eq_false k13]
  unfold zdp
  rw [if_neg (show ¬ (false=true) by simp)]
  obtain ⟨z1,z2⟩:=same_step (decide (o.Kind=6)) h
  by_cases k4:o.Kind=4
  ·rw [decide_eq_true k4,if_pos rfl,propose_eq m1 (by omega) (by omega),bnd_some]
   by_cases h3:r.Role=3
   ·rw [if_pos h3]
    obtain ⟨s1,s2,s3⟩:=act_step (c:=decide (o.Kind=6)) (v:=w) h hB0 rfl (fun _ hx=>hx) hnl p2 hr (.prop o.Data (by omega) h3)
    simp only [ne_eq,not_true_eq_false,decide_false,Bool.false_eq_true,if_false]
    rw [s1,bnd_some]
    exact ⟨_,rfl,by rw [← k4] at *; exact s2,s3⟩
   ·rw [if_neg h3]
    exact ⟨w,by simp,z1,z2⟩
  rw [decide_eq_false k4,if_neg (show ¬ (false=true) by simp)]
  by_cases k5:o.Kind=5
  ·obtain ⟨q1,q2,q3⟩:=pick_eq (k:=o.N) (n:=3) (by omega) (by omega)
   have hc:=m1.commit
   have q1':zgh o.N 3=some (pickI o.N 3):=q1
   rw [decide_eq_true k5,if_pos rfl,q1',bnd_some,wrap_sm (n:=r.Commit - pickI o.N 3) (by omega),compact_eq m1 (by omega) (by omega) (by simp),bnd_some]
   by_cases hcb:compactB r (r.Commit - pickI o.N 3) = true
   ·rw [if_pos hcb]
    obtain ⟨s1,s2,s3⟩:=act_step (c:=decide (o.Kind=6)) (v:=w) h hB0 rfl (fun _ hx=>hx) hnl p2 hr (.comp (r.Commit - pickI o.N 3) [IntKind.u8.wrap (r.Commit - pickI o.N 3)] (by simp) hcb)
    simp only [ne_eq,not_true_eq_false,decide_false,Bool.false_eq_true,if_false]
    rw [s1,bnd_some]
    exact ⟨_,rfl,s2,s3⟩
   ·rw [if_neg hcb]
    exact ⟨w,by simp,z1,z2⟩
  rw [decide_eq_false k5,if_neg (show ¬ (false=true) by simp)]
  by_cases k6:o.Kind=6
  ·rw [decide_eq_true k6,if_pos rfl]
   rcases restart_eq m1 (by omega) with he | he
   ·rw [he,bnd_some]
    obtain ⟨s1,s2,s3⟩:=act_step (c:=decide (o.Kind=6)) (v:=w) h hB0 rfl (fun _ hx=>hx) hnl p2 hr (.fall (by simp [k6]))
    simp only [ne_eq,not_true_eq_false,decide_false,Bool.false_eq_true,if_false]
    rw [s1,bnd_some]
    exact ⟨_,rfl,by rw [decide_eq_true k6] at s2; exact s2,s3⟩
   ·rw [he,bnd_some]
    rw [decide_eq_true k6] at z1
    exact ⟨w,by simp,z1,z2⟩
  ·rw [decide_eq_false k6,if_neg (show ¬ (false=true) by simp)]
   rw [decide_eq_false k6] at z1
   exact ⟨w,rfl,z1,z2⟩
end
end Go.Proofs.Ytgoachcogmlhcaa.R
set_option maxRecDepth 100000
set_option linter.unusedVariables false
set_option linter.unusedSimpArgs false
noncomputable section
namespace Go.Proofs.Ytgoachcogmlhcaa.R
open Go
theorem cntB_cons(b:Bool)(l:List Bool):cntB (b :: l) = cntB l + (if b=true then 1 else 0):=by
  unfold cntB
  rw [List.countP_cons]
theorem meet2:∀ (a b:List Bool),a.length=b.length→(∀ j:Nat,¬ (a[j]? = some true∧b[j]? = some true))→cntB a + cntB b≤a.length
  | [],[],_,_=>by simp [cntB]
  | x :: a,y :: b,hl,h=>by
    have h0:=h 0
    have ih:=meet2 a b (by simpa using hl) fun j hj=>h (j + 1) (by simpa using hj)
    rw [cntB_cons,cntB_cons,List.length_cons]
    cases x <;> cases y <;> simp at h0 ⊢ <;> omega
theorem won_meet{a b:List Bool}(hl:a.length=b.length)(ha:wonL a=true)(hb:wonL b=true):∃ j:Nat,a[j]? = some true∧b[j]? = some true:=by
  unfold wonL at ha hb
  simp only [decide_eq_true_eq] at ha hb
  rcases Classical.em (∃ j:Nat,a[j]? = some true∧b[j]? = some true) with h | h
  ·exact h
  ·have:=meet2 a b hl fun j hj=>h ⟨j,hj⟩
   omega
abbrev Votes:=Int→Int→Int
abbrev Leads:=Int→Int
structure MemV (V:Votes) (L:Leads) (r:TRaft):Prop where
  cur:V r.Term r.Id=r.Vote
  fut:∀ t,r.Term < t→V t r.Id=0
  cand:r.Role=2→∀ j:Nat,r.Granted[j]? = some true→V r.Term ((j:Int) + 1) = r.Id
  lead:r.Role=3→L r.Term=r.Id
def MsgV(V:Votes)(x:TMsg):Prop:=x.Kind=4→x.Ok=true→x.To≠0∧V x.Term x.From=x.To
def GloV(n:Nat)(V:Votes)(L:Leads):Prop:=∀ t,L t≠0→∃ g:List Bool,g.length=n∧wonL g=true∧∀ j:Nat,g[j]? = some true→V t ((j:Int) + 1) = L t
structure ExtV (id:Int) (V V':Votes) (L L':Leads):Prop where
  v:∀ t k,V t k≠0→V' t k=V t k
  o:∀ t k,k≠id→V' t k=V t k
  l:∀ t,L t≠0→L' t=L t
theorem ExtV.refl(id:Int)(V:Votes)(L:Leads):ExtV id V V L L:=⟨fun _ _ _=>rfl,fun _ _ _=>rfl,fun _ _=>rfl⟩
theorem ExtV.trans{id:Int}{V V' V'':Votes}{L L' L'':Leads}(h:ExtV id V V' L L')(h':ExtV id V' V'' L' L''):ExtV id V V'' L L'':=
  ⟨fun t k hk=>by rw [h'.v t k (by rw [h.v t k hk]; exact hk),h.v t k hk],fun t k hk=>by rw [h'.o t k hk,h.o t k hk],fun t ht=>by rw [h'.l t (by rw [h.l t ht]; exact ht),h.l t ht]⟩
section
variable {n:Nat} {V V':Votes} {L L':Leads} {r:TRaft} {x:TMsg}
theorem MsgV.ext{id:Int}(he:ExtV id V V' L L')(h:MsgV V x):MsgV V' x:=fun h1 h2=>by
  obtain ⟨a,b⟩:=h h1 h2
  exact ⟨a,by rw [he.v _ _ (by rw [b]; exact a),b]⟩
theorem MemV.ext{id:Int}(he:ExtV id V V' L L')(hne:r.Id≠id)(h0:r.Id≠0)(h:MemV V L r):MemV V' L' r:=
  ⟨by rw [he.o _ _ hne]; exact h.cur,fun t ht=>by rw [he.o _ _ hne]; exact h.fut t ht,fun h2 j hj=>by
    have:=h.cand h2 j hj
    rw [he.v _ _ (by rw [this]; exact h0),this],fun h3=>by
    have:=h.lead h3
    rw [he.l _ (by rw [this]; exact h0),this]⟩
def GoodV(n:Nat)(V:Votes)(L:Leads)(r:TRaft)(p:TRaft × List TMsg):Prop:=
  ∃ V' L',ExtV r.Id V V' L L'∧MemV V' L' p.1∧GloV n V' L'∧∀ y∈p.2,MsgV V' y
theorem GoodV.keep{p:TRaft × List TMsg}(hg:GloV n V L)(hm:MemV V L p.1)(hy:∀ y∈p.2,y.Kind≠4∨y.Ok=false):GoodV n V L r p:=
  ⟨V,L,ExtV.refl _ _ _,hm,hg,fun y hy2 h1 h2=>by
    rcases hy y hy2 with h | h
    ·exact absurd h1 h
    ·rw [h] at h2; cases h2⟩
theorem GoodV.comp{q:TRaft}{p:TRaft × List TMsg}{L2:Leads}{V2:Votes}(he:ExtV r.Id V V2 L L2)(hi:q.Id=r.Id)(h:GoodV n V2 L2 q p):GoodV n V L r p:=by
  obtain ⟨V',L',h1,h2,h3,h4⟩:=h
  rw [hi] at h1
  exact ⟨V',L',he.trans h1,h2,h3,h4⟩
theorem MemV.of{q:TRaft}(h:MemV V L r)(h1:q.Id=r.Id)(h2:q.Term=r.Term)(h3:q.Vote=r.Vote)(h4:q.Role=0∨q.Role=1∨(q.Role=r.Role∧q.Granted=r.Granted)∨(q.Role=3∧r.Role=3)):MemV V L q:=
  ⟨by rw [h1,h2,h3]; exact h.cur,fun t ht=>by rw [h1]; exact h.fut t (by rw [← h2]; exact ht),fun hr j hj=>by
    rcases h4 with h4 | h4 | ⟨h4,h5⟩ | ⟨h4,h5⟩
    ·omega
    ·omega
    ·rw [h1,h2]; exact h.cand (by omega) j (by rw [← h5]; exact hj)
    ·omega,fun hr=>by
    rcases h4 with h4 | h4 | ⟨h4,h5⟩ | ⟨h4,h5⟩
    ·omega
    ·omega
    ·rw [h1,h2]; exact h.lead (by omega)
    ·rw [h1,h2]; exact h.lead h5⟩
theorem MemV.follow(h:MemV V L r)(t l:Int):MemV V L (followR r t l):=by
  by_cases hlt:r.Term < t
  ·have e1:(followR r t l).Term=t:=by simp [followR,hlt]
   have e2:(followR r t l).Vote=0:=by simp [followR,hlt]
   have e3:(followR r t l).Id=r.Id:=rfl
   refine ⟨by rw [e1,e2,e3]; exact h.fut t hlt,fun u hu=>by rw [e3]; exact h.fut u (by rw [e1] at hu; omega),fun hr=>?_,fun hr=>?_⟩
   ·simp [followR] at hr
   ·simp [followR] at hr
  ·exact h.of rfl (by simp [followR,hlt]) (by simp [followR,hlt]) (.inl rfl)
open Classical in
open Classical in
theorem GloV.ext{id:Int}(hg:GloV n V L)(he:ExtV id V V' L L):GloV n V' L:=fun t ht=>by
  obtain ⟨g,h1,h2,h3⟩:=hg t ht
  exact ⟨g,h1,h2,fun j hj=>by
    have:=h3 j hj
    rw [he.v _ _ (by rw [this]; exact ht),this]⟩
theorem oneG_true(hid:1≤r.Id){j:Nat}(hj:(oneG r)[j]? = some true):(j:Int) + 1=r.Id:=by
  unfold oneG setI at hj
  by_cases he:(r.Id - 1).toNat=j
  ·omega
  ·rw [List.getElem?_set_ne he] at hj
   rw [List.getElem?_replicate] at hj
   split at hj
   ·simp at hj
   ·cases hj
theorem setI_true{l:List Bool}{i:Int}(h0:0≤i){j:Nat}(hj:(setI l i true)[j]? = some true):(j:Int) = i∨l[j]? = some true:=by
  unfold setI at hj
  by_cases he:i.toNat=j
  ·left; omega
  ·rw [List.getElem?_set_ne he] at hj
   exact .inr hj
end
structure InvV (n:Nat) (w:TWorld) (V:Votes) (L:Leads):Prop where
  mem:∀ (k:Nat) (r:TRaft),w.R[k]? = some r→MemV V L r
  net:∀ x∈w.Net,MsgV V x
  glo:GloV n V L
end Go.Proofs.Ytgoachcogmlhcaa.R
set_option maxRecDepth 100000
set_option linter.unusedVariables false
set_option linter.unusedSimpArgs false
noncomputable section
namespace Go.Proofs.Ytgoachcogmlhcaa.R
open Go
theorem light_loop{l:List TOp}(hl:l.length≤250):∀ (m k n:Nat),l.length - k=m→k≤l.length→m < n→zdk l n (k:Int) = some ((l.drop k).all fun o=>decide (o.Data.length≤20)):=by
  intro m
  induction m with
  | zero=>
    intro k n hm hk hn
    obtain ⟨n,rfl⟩:∃ n',n=n' + 1:=⟨n - 1,by omega⟩
    have hk':¬ ((k:Int) < (l.length:Int)):=by omega
    rw [zdk,zgf,decide_eq_false hk',if_neg (by simp),List.drop_eq_nil_of_le (by omega)]
    rfl
  | succ m ih=>
    intro k n hm hk hn
    obtain ⟨n,rfl⟩:∃ n',n=n' + 1:=⟨n - 1,by omega⟩
    have hlt:k < l.length:=by omega
    have hk':((k:Int) < (l.length:Int)):=by omega
    rw [zdk,zgf,decide_eq_true hk',if_pos rfl,nthI_lt hlt,bnd_some,wrap_nat (by omega),ih (k + 1) n (by omega) (by omega) (by omega),List.drop_eq_getElem_cons hlt,List.all_cons]
    by_cases h:20 < l[k].Data.length
    ·have h1:((20:Int) < (l[k].Data.length:Int)):=by omega
     have h2:¬ l[k].Data.length≤20:=by omega
     simp [h1,h2]
    ·have h1:¬ ((20:Int) < (l[k].Data.length:Int)):=by omega
     have h2:l[k].Data.length≤20:=by omega
     simp [h1,h2]
theorem light_ok(l:List TOp):∃ b,zjn l=some b∧(b=true→l.length≤250∧∀ o∈l,o.Data.length≤20):=by
  unfold zjn
  by_cases h:(250:Int) < (l.length:Int)
  ·exact ⟨false,by simp [h],by simp⟩
  ·refine ⟨(l.drop 0).all fun o=>decide (o.Data.length≤20),?_,fun hb=>⟨by omega,fun o ho=>?_⟩⟩
   ·rw [decide_eq_false h,if_neg (by simp)]
    exact light_loop (by omega) _ 0 _ rfl (Nat.zero_le _) (by omega)
   ·have:=List.all_eq_true.1 hb o (by simpa using ho)
    simpa using this
theorem size_eq{n:Int}(h:0≤n∧n≤255):zki n=some (((n % 5).toNat + 1:Nat):Int):=by
  unfold zki
  rw [wrap_sm (n:=n) (by omega),Int.tmod_eq_emod_of_nonneg h.1,wrap_sm (by omega)]
  congr 1
  omega
def beginW(n:Nat):TWorld:=⟨(List.range n).map fun (k:Nat)=>newR ((k:Int) + 1) (n:Int),[]⟩
theorem begin_loop{n:Nat}(hn:n≤5):∀ (m k f:Nat),n - k=m→k≤n→m < f→zdl (n:Int) f ((k:Int) + 1) ((List.range k).map fun (k:Nat)=>newR ((k:Int) + 1) (n:Int)) = some (beginW n):=by
  intro m
  induction m with
  | zero=>
    intro k f hm hk hf
    obtain ⟨f,rfl⟩:∃ f',f=f' + 1:=⟨f - 1,by omega⟩
    have hk':¬ ((k:Int) + 1≤(n:Int)):=by omega
    have e:k=n:=by omega
    rw [zdl,zgg,decide_eq_false hk',if_neg (by simp),e]
    rfl
  | succ m ih=>
    intro k f hm hk hf
    obtain ⟨f,rfl⟩:∃ f',f=f' + 1:=⟨f - 1,by omega⟩
    have hk':((k:Int) + 1≤(n:Int)):=by omega
    have hi:=ih (k + 1) f (by omega) (by omega) (by omega)
    have e:(List.range (k + 1)).map (fun (k:Nat)=>newR ((k:Int) + 1) (n:Int)) = (List.range k).map (fun (k:Nat)=>newR ((k:Int) + 1) (n:Int))++[newR ((k:Int) + 1) (n:Int)]:=by rw [List.range_succ,List.map_append]; rfl
    rw [e] at hi
    rw [zdl,zgg,decide_eq_true hk',if_pos rfl,new_eq (by omega) hk' (by omega),bnd_some,if_pos (capB_small (by simp; omega)),wrap_sm (by omega)]
    have e2:((k + 1:Nat):Int) + 1=(k:Int) + 1 + 1:=by omega
    rw [e2] at hi
    exact hi
theorem begin_eq{n:Nat}(hn:n≤5):zjo (n:Int) = some (beginW n):=by
  have:=begin_loop hn n 0 (((n:Int) - 1 + 1).toNat + 1) (by omega) (Nat.zero_le _) (by omega)
  unfold zjo
  simpa using this
theorem begin_get{n k:Nat}{r:TRaft}(h:(beginW n).R[k]? = some r):k < n∧r=newR ((k:Int) + 1) (n:Int):=by
  have h:((List.range n).map fun (k:Nat)=>newR ((k:Int) + 1) (n:Int))[k]? = some r:=h
  rw [List.getElem?_map] at h
  cases hk:(List.range n)[k]? with
  | none=>rw [hk] at h; cases h
  | some j=>
    rw [hk] at h
    have hlt:k < n:=by
      rcases Nat.lt_or_ge k n with h | h
      ·exact h
      ·rw [List.getElem?_eq_none (by simpa using h)] at hk; cases hk
    rw [List.getElem?_range hlt] at hk
    obtain rfl:=Option.some.inj hk
    exact ⟨hlt,by simpa using h.symm⟩
theorem begin_ok{n:Nat}(h1:1≤n)(h5:n≤5):OkW 20 n (beginW n):=by
  refine ⟨⟨h1,h5⟩,by simp [beginW],fun k r hr=>?_,by simp [beginW],by simp [beginW]⟩
  obtain ⟨hk,rfl⟩:=begin_get hr
  exact ⟨new_ok (r:=newR 1 1) (by simp [newR]) (by omega) (by omega) (by omega) (by omega),rfl,rfl⟩
end Go.Proofs.Ytgoachcogmlhcaa.R
set_option maxRecDepth 100000
set_option linter.unusedVariables false
set_option linter.unusedSimpArgs false
noncomputable section
namespace Go.Proofs.Ytgoachcogmlhcaa.R
open Go
abbrev FLog:=List TEntry
def tAt(f:FLog)(i:Nat):Int:=if i=0 then 0 else match f[i - 1]? with | some e=>e.Term | none=>0
abbrev Logs:=Int→FLog
def Pre(G:Logs)(f:FLog):Prop:=∀ i:Nat,1≤i→i≤f.length→i≤(G (tAt f i)).length∧f.take i=(G (tAt f i)).take i
theorem tAt_zero(f:FLog):tAt f 0=0:=by simp [tAt]
theorem tAt_take{f:FLog}{i m:Nat}(h:i≤m):tAt (f.take m) i=tAt f i:=by
  unfold tAt
  split
  ·rfl
  ·rename_i h0
   rw [List.getElem?_take,if_pos (by omega)]
theorem tAt_eq{f g:FLog}{i m:Nat}(h:i≤m)(he:f.take m=g.take m):tAt f i=tAt g i:=by
  rw [← tAt_take (f:=f) h,he,tAt_take h]
theorem take_le{f g:FLog}{i m:Nat}(h:i≤m)(he:f.take m=g.take m):f.take i=g.take i:=by
  have:(f.take m).take i=(g.take m).take i:=by rw [he]
  rwa [List.take_take,List.take_take,Nat.min_eq_left h] at this
theorem tAt_get{f:FLog}{i:Nat}(h1:1≤i)(h2:i≤f.length):tAt f i=(f[i - 1]'(by omega)).Term:=by
  unfold tAt
  rw [if_neg (by omega),List.getElem?_eq_getElem (by omega)]
theorem Pre.take{G:Logs}{f:FLog}(h:Pre G f)(m:Nat):Pre G (f.take m):=by
  intro i h1 h2
  have h3:i≤m∧i≤f.length:=by simp at h2; omega
  rw [tAt_take h3.1,List.take_take,Nat.min_eq_left h3.1]
  exact h i h1 h3.2
theorem Pre.meet{G:Logs}{f g:FLog}(hf:Pre G f)(hg:Pre G g){i:Nat}(h1:1≤i)(h2:i≤f.length)(h3:i≤g.length)(he:tAt f i=tAt g i):f.take i=g.take i:=by
  rw [(hf i h1 h2).2,(hg i h1 h3).2,he]
structure Gh where
  V:Votes
  L:Leads
  G:Logs
  A:Int→Int→Nat
  C:Int→Int→FLog
  T:Int→Int
  F:Logs
def May(n:Nat)(g:Gh)(t:Int)(i:Nat):Prop:=∃ q:List Bool,q.length=n∧wonL q=true∧∀ j:Nat,q[j]? = some true→i≤g.A ((j:Int) + 1) t∨g.T ((j:Int) + 1)≤t
def Done(n:Nat)(g:Gh)(t:Int)(i:Nat):Prop:=tAt (g.G t) i=t∧i≤(g.G t).length∧∃ q:List Bool,q.length=n∧wonL q=true∧∀ j:Nat,q[j]? = some true→i≤g.A ((j:Int) + 1) t
theorem Done.may{n:Nat}{g:Gh}{t:Int}{i:Nat}(h:Done n g t i):May n g t i:=by
  obtain ⟨_,_,q,q1,q2,q3⟩:=h
  exact ⟨q,q1,q2,fun j hj=>.inl (q3 j hj)⟩
structure GInv (n:Nat) (g:Gh):Prop where
  a0:∀ k t,g.T k < t→g.A k t=0
  aG:∀ k t,g.A k t≤(g.G t).length
  aF:∀ k,(g.F k).take (g.A k (g.T k)) = (g.G (g.T k)).take (g.A k (g.T k))∧g.A k (g.T k)≤(g.F k).length
  pF:∀ k,Pre g.G (g.F k)
  pG:∀ t,Pre g.G (g.G t)
  tG:∀ t,∀ e∈g.G t,1≤e.Term∧e.Term≤t
  sG:∀ t,(g.G t).Pairwise (fun a b=>a.Term≤b.Term)
  pC:∀ t c,Pre g.G (g.C t c)∧∀ e∈g.C t c,e.Term < t
  lG:∀ t,g.L t=0→g.G t = []
  S:∀ t t' i,t < t'→g.L t'≠0→1≤i→i≤(g.G t).length→tAt (g.G t) i=t→May n g t i→i≤(g.G t').length∧(g.G t').take i=(g.G t).take i
  K:∀ k t i,t≤g.T k→1≤i→i≤g.A k t→tAt (g.G t) i=t→May n g t i→i≤(g.F k).length∧(g.F k).take i=(g.G t).take i
  VL:∀ t' k,g.V t' k≠0→∀ t i,t < t'→1≤i→i≤g.A k t→tAt (g.G t) i=t→May n g t i→i≤(g.C t' (g.V t' k)).length∧(g.C t' (g.V t' k)).take i=(g.G t).take i
  q:∀ t,g.L t≠0→∃ q:List Bool,q.length=n∧wonL q=true∧∀ j:Nat,q[j]? = some true→g.V t ((j:Int) + 1) = g.L t
  vt:∀ t k,g.V t k≠0→t≤g.T k
  vc:∀ t k,g.V t k≠0→t≤g.T (g.V t k)
  tF:∀ k,∀ e∈g.F k,e.Term≤g.T k
section
variable {n:Nat} {g:Gh}
def Gh.rise(g:Gh)(k t:Int):Gh:={ g with T:=fun x=>if x=k then t else g.T x }
theorem rise_may{k t' t:Int}{i:Nat}(ht:g.T k≤t')(h:May n (g.rise k t') t i):May n g t i:=by
  obtain ⟨q,q1,q2,q3⟩:=h
  refine ⟨q,q1,q2,fun j hj=>?_⟩
  rcases q3 j hj with h | h
  ·exact .inl h
  ·right
   unfold Gh.rise at h
   simp only at h
   split at h
   ·rename_i hk; rw [hk]; omega
   ·exact h
theorem rise_inv(h:GInv n g){k t':Int}(ht:g.T k≤t'):GInv n (g.rise k t'):=by
  have hT:∀ x,g.T x≤(g.rise k t').T x:=by
    intro x
    unfold Gh.rise
    simp only
    split
    ·rename_i hk; rw [hk]; exact ht
    ·exact Int.le_refl _
  refine { h with a0:=fun x t hx=>h.a0 x t (by have:=hT x; omega),aF:=fun x=>?_,S:=fun t t2 i h1 h2 h3 h4 h5 h6=>h.S t t2 i h1 h2 h3 h4 h5 (rise_may ht h6),K:=fun x t i h1 h2 h3 h4 h5=>?_,VL:=fun t2 x h1 t i h2 h3 h4 h5 h6=>h.VL t2 x h1 t i h2 h3 h4 h5 (rise_may ht h6),vt:=fun t x hx=>by have:=h.vt t x hx; have:=hT x; omega,vc:=fun t x hx=>Int.le_trans (h.vc t x hx) (hT (g.V t x)),tF:=fun x e he=>by have:=h.tF x e he; have:=hT x; omega }
  ·show (g.F x).take (g.A x ((g.rise k t').T x)) = (g.G ((g.rise k t').T x)).take (g.A x ((g.rise k t').T x))∧g.A x ((g.rise k t').T x)≤(g.F x).length
   rcases Int.lt_or_le (g.T x) ((g.rise k t').T x) with hlt | hle
   ·rw [h.a0 x _ hlt]; simp
   ·have:(g.rise k t').T x=g.T x:=by have:=hT x; omega
    rw [this]; exact h.aF x
  ·rcases Int.lt_or_le (g.T x) t with hlt | hle
   ·have h3:i≤g.A x t:=h3
    rw [h.a0 x _ hlt] at h3
    omega
   ·exact h.K x t i hle h2 h3 h4 (rise_may ht h5)
theorem Pre.sorted(h:GInv n g){f:FLog}(hf:Pre g.G f):f.Pairwise (fun a b=>a.Term≤b.Term):=by
  rcases Nat.eq_zero_or_pos f.length with h0 | h0
  ·rw [List.eq_nil_of_length_eq_zero h0]; exact List.Pairwise.nil
  ·obtain ⟨p1,p2⟩:=hf f.length h0 (Nat.le_refl _)
   rw [List.take_length] at p2
   rw [p2]
   exact (h.sG _).sublist (List.take_sublist _ _)
theorem tAt_mono{f:FLog}(hs:f.Pairwise (fun a b=>a.Term≤b.Term)){i j:Nat}(h1:1≤i)(h2:i≤j)(h3:j≤f.length):tAt f i≤tAt f j:=by
  rw [tAt_get h1 (by omega),tAt_get (by omega) h3]
  rcases Nat.lt_or_ge i j with hij | hij
  ·exact List.pairwise_iff_getElem.1 hs (i - 1) (j - 1) (by omega) (by omega) (by omega)
  ·have:i=j:=by omega
   subst this
   exact Int.le_refl _
theorem tAt_mem{f:FLog}{i:Nat}(h1:1≤i)(h2:i≤f.length):∃ e∈f,e.Term=tAt f i:=by
  rw [tAt_get h1 h2]
  exact ⟨_,List.getElem_mem _,rfl⟩
theorem Pre.pos(h:GInv n g){f:FLog}(hf:Pre g.G f){e:TEntry}(he:e∈f):1≤e.Term:=by
  obtain ⟨i,hi,rfl⟩:=List.getElem_of_mem he
  obtain ⟨p1,p2⟩:=hf (i + 1) (by omega) (by omega)
  have e1:tAt f (i + 1) = tAt (g.G (tAt f (i + 1))) (i + 1):=tAt_eq (Nat.le_refl _) p2
  obtain ⟨e,q1,q2⟩:=tAt_mem (f:=g.G (tAt f (i + 1))) (i:=i + 1) (by omega) p1
  have:=(h.tG _ e q1).1
  rw [q2,← e1,tAt_get (by omega) (by omega)] at this
  exact this
theorem take_len{f g:FLog}{i m:Nat}(h:f=g.take m)(hi:i≤m)(hm:m≤g.length):i≤f.length∧f.take i=g.take i:=by
  subst h
  refine ⟨by simp; omega,by rw [List.take_take,Nat.min_eq_left hi]⟩
theorem newer_take(h:GInv n g){f c:FLog}(hf:Pre g.G f)(hc:Pre g.G c){t:Int}{i:Nat}(h1:1≤i)(hi:i≤f.length)(he:f.take i=(g.G t).take i)(hiG:i≤(g.G t).length)(ht:tAt (g.G t) i=t)(hm:May n g t i)
    (hn:tAt f f.length < tAt c c.length∨(tAt f f.length=tAt c c.length∧f.length≤c.length)):i≤c.length∧c.take i=(g.G t).take i:=by
  have et:tAt f i=t:=by rw [tAt_eq (Nat.le_refl _) he,ht]
  have htl:t≤tAt f f.length:=by rw [← et]; exact tAt_mono (Pre.sorted h hf) h1 hi (Nat.le_refl _)
  rcases hn with hn | ⟨hn,hl⟩
  ·have hc1:1≤c.length:=by
     rcases Nat.eq_zero_or_pos c.length with h0 | h0
     ·rw [h0,tAt_zero] at hn
      obtain ⟨e,q1,q2⟩:=tAt_mem h1 hiG
      have:=(h.tG _ e q1).1
      omega
     ·exact h0
   obtain ⟨p1,p2⟩:=hc c.length hc1 (Nat.le_refl _)
   rw [List.take_length] at p2
   have hlt0:t < tAt c c.length:=by omega
   generalize hT0:tAt c c.length=T0 at *
   have hL:g.L T0≠0:=fun h0=>by rw [h.lG T0 h0] at p1; simp only [List.length_nil] at p1; omega
   obtain ⟨s1,s2⟩:=h.S t T0 i (by omega) hL h1 hiG ht hm
   have hic:i≤c.length:=by
     rcases Nat.lt_or_ge c.length i with hlt | hge
     ·exfalso
      have e1:tAt (g.G T0) c.length=T0:=by
        have:tAt c c.length=tAt (g.G T0) c.length:=tAt_eq (m:=c.length) (Nat.le_refl _) (by rw [List.take_length]; exact p2)
        rw [← this]; exact hT0
      have e2:=tAt_mono (h.sG T0) hc1 (Nat.le_of_lt hlt) s1
      have e3:tAt (g.G T0) i=t:=by rw [tAt_eq (Nat.le_refl _) s2,ht]
      have e4:=tAt_mono (h.sG T0) hc1 (Nat.le_of_lt hlt) s1
      rw [e1,e3] at e4
      have:t < T0:=hlt0
      omega
     ·exact hge
   obtain ⟨_,q2⟩:=take_len p2 hic p1
   exact ⟨hic,by rw [q2,s2]⟩
  ·have hic:i≤c.length:=by omega
   obtain ⟨p1,p2⟩:=hc c.length (by omega) (Nat.le_refl _)
   obtain ⟨r1,r2⟩:=hf f.length (by omega) (Nat.le_refl _)
   rw [List.take_length] at p2 r2
   rw [← hn] at p1 p2
   obtain ⟨_,q2⟩:=take_len p2 hic p1
   obtain ⟨_,q3⟩:=take_len r2 hi r1
   exact ⟨hic,by rw [q2,← q3,he]⟩
open Classical in
def Gh.vote(g:Gh)(k c:Int):Gh:={ g with V:=fun t x=>if t=g.T k∧x=k then c else g.V t x }
theorem vote_inv(h:GInv n g){k c:Int}(hv:g.V (g.T k) k=0∨g.V (g.T k) k=c)(hct:g.T k≤g.T c)
    (hn:tAt (g.F k) (g.F k).length < tAt (g.C (g.T k) c) (g.C (g.T k) c).length∨(tAt (g.F k) (g.F k).length=tAt (g.C (g.T k) c) (g.C (g.T k) c).length∧(g.F k).length≤(g.C (g.T k) c).length)):GInv n (g.vote k c):=by
  have hV:∀ t x,(t=g.T k∧x=k∧(g.vote k c).V t x=c)∨(g.vote k c).V t x=g.V t x:=by
    intro t x
    unfold Gh.vote
    simp only
    split
    ·rename_i hh; exact .inl ⟨hh.1,hh.2,rfl⟩
    ·exact .inr rfl
  refine { h with VL:=fun t' x h1 t i h2 h3 h4 h5 h6=>?_,q:=fun t ht=>?_,vt:=fun t x hx=>?_,vc:=fun t x hx=>?_ }
  ·rcases hV t' x with ⟨e1,e2,e3⟩ | e
   ·rw [e3]
    subst e1 e2
    have hk:=h.K x t i (by omega) h3 h4 h5 h6
    exact newer_take h (h.pF x) (h.pC _ c).1 h3 hk.1 hk.2 (Nat.le_trans h4 (h.aG x t)) h5 h6 hn
   ·rw [e] at h1 ⊢
    exact h.VL t' x h1 t i h2 h3 h4 h5 h6
  ·obtain ⟨q,q1,q2,q3⟩:=h.q t ht
   refine ⟨q,q1,q2,fun j hj=>?_⟩
   have:=q3 j hj
   rcases hV t ((j:Int) + 1) with ⟨e1,e2,e3⟩ | e
   ·rw [e3]
    subst e1
    rw [e2] at this
    rcases hv with h0 | h0
    ·rw [h0] at this; exact absurd this.symm ht
    ·rw [← h0]; exact this
   ·rw [e]; exact this
  ·rcases hV t x with ⟨e1,e2,e3⟩ | e
   ·show t≤g.T x; rw [e1,e2]; exact Int.le_refl _
   ·rw [e] at hx; exact h.vt t x hx
  ·rcases hV t x with ⟨e1,e2,e3⟩ | e
   ·rw [e3]; show t≤g.T c; rw [e1]; exact hct
   ·rw [e] at hx ⊢; exact h.vc t x hx
end
section
variable {n:Nat} {g:Gh}
theorem may_of{g g':Gh}{t:Int}{i:Nat}(h:∀ j,(i≤g'.A j t∨g'.T j≤t)→(i≤g.A j t∨g.T j≤t))(hm:May n g' t i):May n g t i:=by
  obtain ⟨q,q1,q2,q3⟩:=hm
  exact ⟨q,q1,q2,fun j hj=>h _ (q3 j hj)⟩
theorem Pre.nil(G:Logs):Pre G []:=by intro i h1 h2; simp only [List.length_nil] at h2; omega
def Gh.stand(g:Gh)(k:Int):Gh:={ g with T:=fun x=>if x=k then g.T k + 1 else g.T x,V:=fun t x=>if t=g.T k + 1∧x=k then k else g.V t x,C:=fun t c=>if t=g.T k + 1∧c=k then g.F k else g.C t c }
theorem stand_inv(h:GInv n g){k:Int}(hk:k≠0):GInv n (g.stand k):=by
  have hT:∀ x,g.T x≤(g.stand k).T x:=by
    intro x
    unfold Gh.stand
    simp only
    split
    ·rename_i hk; rw [hk]; omega
    ·exact Int.le_refl _
  have hTk:(g.stand k).T k=g.T k + 1:=by unfold Gh.stand; simp
  have hTo:∀ x,x≠k→(g.stand k).T x=g.T x:=by intro x hx; unfold Gh.stand; simp [hx]
  have hV:∀ t x,(t=g.T k + 1∧x=k∧(g.stand k).V t x=k)∨(¬ (t=g.T k + 1∧x=k)∧(g.stand k).V t x=g.V t x):=by
    intro t x
    unfold Gh.stand
    simp only
    split
    ·rename_i hh; exact .inl ⟨hh.1,hh.2,rfl⟩
    ·rename_i hh; exact .inr ⟨hh,rfl⟩
  have hC:∀ t c,(t=g.T k + 1∧c=k∧(g.stand k).C t c=g.F k)∨(¬ (t=g.T k + 1∧c=k)∧(g.stand k).C t c=g.C t c):=by
    intro t x
    unfold Gh.stand
    simp only
    split
    ·rename_i hh; exact .inl ⟨hh.1,hh.2,rfl⟩
    ·rename_i hh; exact .inr ⟨hh,rfl⟩
  have hM:∀ t i,May n (g.stand k) t i→May n g t i:=fun t i=>may_of fun j hj=>by
    rcases hj with h | h
    ·exact .inl h
    ·have:=hT j; right; omega
  refine { h with a0:=fun x t hx=>h.a0 x t (by have:=hT x; omega),aF:=fun x=>?_,S:=fun t t2 i h1 h2 h3 h4 h5 h6=>h.S t t2 i h1 h2 h3 h4 h5 (hM _ _ h6),K:=fun x t i h1 h2 h3 h4 h5=>?_,VL:=fun t2 x h1 t i h2 h3 h4 h5 h6=>?_,vt:=fun t x hx=>?_,vc:=fun t x hx=>?_,tF:=fun x e he=>by have:=h.tF x e he; have:=hT x; omega,pC:=fun t c=>?_,q:=fun t ht=>?_ }
  ·show (g.F x).take (g.A x ((g.stand k).T x)) = (g.G ((g.stand k).T x)).take (g.A x ((g.stand k).T x))∧g.A x ((g.stand k).T x)≤(g.F x).length
   rcases Int.lt_or_le (g.T x) ((g.stand k).T x) with hlt | hle
   ·rw [h.a0 x _ hlt]; simp
   ·have:(g.stand k).T x=g.T x:=by have:=hT x; omega
    rw [this]; exact h.aF x
  ·rcases hC t c with ⟨e1,e2,e3⟩ | ⟨_,e⟩
   ·rw [e3]
    exact ⟨h.pF k,fun e he=>by have:=h.tF k e he; omega⟩
   ·rw [e]; exact h.pC t c
  ·rcases Int.lt_or_le (g.T x) t with hlt | hle
   ·have h3:i≤g.A x t:=h3
    rw [h.a0 x _ hlt] at h3
    omega
   ·exact h.K x t i hle h2 h3 h4 (hM _ _ h5)
  ·rcases hV t2 x with ⟨e1,e2,e3⟩ | ⟨hn,e⟩
   ·rw [e3]
    rcases hC t2 k with ⟨_,_,e4⟩ | ⟨e4,_⟩
    ·rw [e4,← e2]
     exact h.K x t i (by rw [e2]; omega) h3 h4 h5 (hM _ _ h6)
    ·exact absurd ⟨e1,rfl⟩ e4
   ·rw [e] at h1 ⊢
    rcases hC t2 (g.V t2 x) with ⟨e5,e6,_⟩ | ⟨_,e4⟩
    ·have:=h.vc t2 x h1
     rw [e6] at this
     omega
    ·rw [e4]
     exact h.VL t2 x h1 t i h2 h3 h4 h5 (hM _ _ h6)
  ·obtain ⟨q,q1,q2,q3⟩:=h.q t ht
   refine ⟨q,q1,q2,fun j hj=>?_⟩
   have:=q3 j hj
   rcases hV t ((j:Int) + 1) with ⟨e1,e2,e3⟩ | ⟨_,e⟩
   ·have:=h.vt t ((j:Int) + 1) (by rw [this]; exact ht)
    rw [e2] at this
    omega
   ·rw [e]; exact this
  ·rcases hV t x with ⟨e1,e2,e3⟩ | ⟨_,e⟩
   ·rw [e2,hTk,e1]; exact Int.le_refl _
   ·rw [e] at hx; have:=h.vt t x hx; have:=hT x; omega
  ·rcases hV t x with ⟨e1,e2,e3⟩ | ⟨_,e⟩
   ·rw [e3,hTk,e1]; exact Int.le_refl _
   ·rw [e] at hx ⊢; exact Int.le_trans (h.vc t x hx) (hT _)
theorem Pre.grow{G G':Logs}(hG:∀ t i,i≤(G t).length→i≤(G' t).length∧(G' t).take i=(G t).take i){f:FLog}(h:Pre G f):Pre G' f:=by
  intro i h1 h2
  obtain ⟨p1,p2⟩:=h i h1 h2
  obtain ⟨g1,g2⟩:=hG _ i p1
  exact ⟨g1,by rw [g2]; exact p2⟩
def Gh.elect(g:Gh)(k:Int):Gh:={ g with L:=fun t=>if t=g.T k then k else g.L t,G:=fun t=>if t=g.T k then g.F k else g.G t,A:=fun x t=>if x=k∧t=g.T k then (g.F k).length else g.A x t }
theorem elect_inv(h:GInv n g){k:Int}(hk:k≠0)(hL:g.L (g.T k) = 0)(hF:g.F k=g.C (g.T k) k)(hq:∃ q:List Bool,q.length=n∧wonL q=true∧∀ j:Nat,q[j]? = some true→g.V (g.T k) ((j:Int) + 1) = k):GInv n (g.elect k):=by
  have hG0:=h.lG _ hL
  have hlt:∀ e∈g.F k,e.Term < g.T k:=by rw [hF]; exact (h.pC _ _).2
  have hG:∀ t i,i≤(g.G t).length→i≤((g.elect k).G t).length∧((g.elect k).G t).take i=(g.G t).take i:=by
    intro t i hi
    unfold Gh.elect
    simp only
    split
    ·rename_i e
     rw [e,hG0] at hi ⊢
     have:i=0:=by simpa using hi
     subst this
     simp
    ·exact ⟨hi,rfl⟩
  have hGt:(g.elect k).G (g.T k) = g.F k:=by unfold Gh.elect; simp
  have hGo:∀ t,t≠g.T k→(g.elect k).G t=g.G t:=by intro t ht; unfold Gh.elect; simp [ht]
  have hLt:(g.elect k).L (g.T k) = k:=by unfold Gh.elect; simp
  have hLo:∀ t,t≠g.T k→(g.elect k).L t=g.L t:=by intro t ht; unfold Gh.elect; simp [ht]
  have hAk:(g.elect k).A k (g.T k) = (g.F k).length:=by unfold Gh.elect; simp
  have hAo:∀ x t,¬ (x=k∧t=g.T k)→(g.elect k).A x t=g.A x t:=by intro x t ht; unfold Gh.elect; simp only [ht,↓reduceIte]
  have hA0:∀ x,g.A x (g.T k) = 0:=by intro x; have:=h.aG x (g.T k); rw [hG0] at this; simpa using this
  have hno:∀ i,1≤i→i≤(g.F k).length→tAt (g.F k) i≠g.T k:=by
    intro i h1 h2 e
    obtain ⟨x,x1,x2⟩:=tAt_mem h1 h2
    have:=hlt x x1
    omega
  have hM:∀ t i,May n (g.elect k) t i→May n g t i:=fun t i=>may_of fun j hj=>by
    rcases hj with h | h
    ·by_cases hjk:j=k∧t=g.T k
     ·right; rw [hjk.1,hjk.2]; exact Int.le_refl _
     ·rw [hAo j t hjk] at h; exact .inl h
    ·exact .inr h
  have hAle:∀ x t i,1≤i→i≤(g.elect k).A x t→tAt ((g.elect k).G t) i=t→t≠g.T k∧i≤g.A x t:=by
    intro x t i h1 h2 h3
    have ht:t≠g.T k:=by
      intro e
      subst e
      rw [hGt] at h3
      by_cases hx:x=k
      ·subst hx
       rw [hAk] at h2
       exact hno i h1 h2 h3
      ·rw [hAo x _ (fun e=>hx e.1),hA0] at h2
       omega
    refine ⟨ht,?_⟩
    rwa [hAo x t (fun e=>ht e.2)] at h2
  refine { h with a0:=fun x t hx=>?_,aG:=fun x t=>?_,aF:=fun x=>?_,pF:=fun x=>(h.pF x).grow hG,pG:=fun t=>?_,tG:=fun t=>?_,sG:=fun t=>?_,pC:=fun t c=>⟨(h.pC t c).1.grow hG,(h.pC t c).2⟩,lG:=fun t ht=>?_,S:=fun t t2 i h1 h2 h3 h4 h5 h6=>?_,K:=fun x t i h1 h2 h3 h4 h5=>?_,VL:=fun t2 x h1 t i h2 h3 h4 h5 h6=>?_,q:=fun t ht=>?_ }
  ·have hx:g.T x < t:=hx
   rw [hAo x t (by rintro ⟨rfl,rfl⟩; omega)]
   exact h.a0 x t hx
  ·by_cases hh:x=k∧t=g.T k
   ·rw [hh.1,hh.2,hAk,hGt]; exact Nat.le_refl _
   ·rw [hAo x t hh]
    exact (hG t _ (h.aG x t)).1
  ·show (g.F x).take ((g.elect k).A x (g.T x)) = ((g.elect k).G (g.T x)).take ((g.elect k).A x (g.T x))∧(g.elect k).A x (g.T x)≤(g.F x).length
   by_cases hh:x=k
   ·subst hh
    rw [hAk,hGt]
    exact ⟨rfl,Nat.le_refl _⟩
   ·rw [hAo x _ (fun e=>hh e.1)]
    have:=h.aF x
    exact ⟨by rw [this.1,(hG _ _ (h.aG x (g.T x))).2],this.2⟩
  ·by_cases ht:t=g.T k
   ·subst ht; rw [hGt]; exact (h.pF k).grow hG
   ·rw [hGo t ht]; exact (h.pG t).grow hG
  ·by_cases ht:t=g.T k
   ·subst ht; rw [hGt]; exact fun e he=>⟨Pre.pos h (h.pF k) he,h.tF k e he⟩
   ·rw [hGo t ht]; exact h.tG t
  ·by_cases ht:t=g.T k
   ·subst ht; rw [hGt]; exact Pre.sorted h (h.pF k)
   ·rw [hGo t ht]; exact h.sG t
  ·by_cases e:t=g.T k
   ·subst e; rw [hLt] at ht; exact absurd ht hk
   ·rw [hLo t e] at ht; rw [hGo t e]; exact h.lG t ht
  ·have ht:t≠g.T k:=by
     intro e
     subst e
     rw [hGt] at h4 h5
     exact hno i h3 h4 h5
   rw [hGo t ht] at h4 h5 ⊢
   by_cases e:t2=g.T k
   ·subst e
    rw [hGt]
    obtain ⟨q,q1,q2,q3⟩:=hq
    obtain ⟨p,p1,p2,p3⟩:=hM t i h6
    obtain ⟨j,j1,j2⟩:=won_meet (p1.trans q1.symm) p2 q2
    have hv:=q3 j j2
    have hj:=h.vt (g.T k) ((j:Int) + 1) (by rw [hv]; exact hk)
    rcases p3 j j1 with hp | hp
    ·have:=h.VL (g.T k) ((j:Int) + 1) (by rw [hv]; exact hk) t i h1 h3 hp h5 (hM t i h6)
     rw [hv,← hF] at this
     exact this
    ·omega
   ·rw [hGo t2 e]
    rw [hLo t2 e] at h2
    exact h.S t t2 i h1 h2 h3 h4 h5 (hM t i h6)
  ·obtain ⟨ht,h3'⟩:=hAle x t i h2 h3 h4
   rw [hGo t ht] at h4 ⊢
   exact h.K x t i h1 h2 h3' h4 (hM t i h5)
  ·obtain ⟨ht,h4'⟩:=hAle x t i h3 h4 h5
   rw [hGo t ht] at h5 ⊢
   exact h.VL t2 x h1 t i h2 h3 h4' h5 (hM t i h6)
  ·by_cases e:t=g.T k
   ·subst e; rw [hLt]; exact hq
   ·rw [hLo t e] at ht ⊢; exact h.q t ht
def Gh.add(g:Gh)(k:Int)(e:TEntry):Gh:={ g with G:=fun t=>if t=g.T k then g.F k++[e] else g.G t,F:=fun x=>if x=k then g.F k++[e] else g.F x,A:=fun x t=>if x=k∧t=g.T k then (g.F k).length + 1 else g.A x t }
theorem take_app{f:FLog}{e:TEntry}{i:Nat}(hi:i≤f.length):(f++[e]).take i=f.take i:=List.take_append_of_le_length hi
theorem tAt_app{f:FLog}{e:TEntry}{i:Nat}(hi:i≤f.length):tAt (f++[e]) i=tAt f i:=tAt_eq (Nat.le_refl _) (take_app hi)
theorem tAt_last{f:FLog}{e:TEntry}:tAt (f++[e]) (f.length + 1) = e.Term:=by
  rw [tAt_get (by omega) (by simp)]
  simp
theorem add_inv(h:GInv n g){k:Int}{e:TEntry}(he:e.Term=g.T k)(h1t:1≤g.T k)(hL:g.L (g.T k)≠0)(hF:g.F k=g.G (g.T k)):GInv n (g.add k e):=by
  have hGt:(g.add k e).G (g.T k) = g.F k++[e]:=by unfold Gh.add; simp
  have hGo:∀ t,t≠g.T k→(g.add k e).G t=g.G t:=by intro t ht; unfold Gh.add; simp [ht]
  have hFk:(g.add k e).F k=g.F k++[e]:=by unfold Gh.add; simp
  have hFo:∀ x,x≠k→(g.add k e).F x=g.F x:=by intro t ht; unfold Gh.add; simp [ht]
  have hAk:(g.add k e).A k (g.T k) = (g.F k).length + 1:=by unfold Gh.add; simp
  have hAo:∀ x t,¬ (x=k∧t=g.T k)→(g.add k e).A x t=g.A x t:=by intro x t ht; unfold Gh.add; simp only [ht,↓reduceIte]
  have hG:∀ t i,i≤(g.G t).length→i≤((g.add k e).G t).length∧((g.add k e).G t).take i=(g.G t).take i:=by
    intro t i hi
    by_cases ht:t=g.T k
    ·subst ht
     rw [hGt,hF]
     exact ⟨by simp; omega,take_app hi⟩
    ·rw [hGo t ht]; exact ⟨hi,rfl⟩
  have hM:∀ t i,May n (g.add k e) t i→May n g t i:=fun t i=>may_of fun j hj=>by
    rcases hj with h | h
    ·by_cases hjk:j=k∧t=g.T k
     ·right; rw [hjk.1,hjk.2]; exact Int.le_refl _
     ·rw [hAo j t hjk] at h; exact .inl h
    ·exact .inr h
  have hbig:∀ x i,x≠k→i≤(g.add k e).A x (g.T k)→i≤(g.F k).length:=by
    intro x i hx hi
    rw [hAo x _ (fun q=>hx q.1)] at hi
    have:=h.aG x (g.T k)
    rw [← hF] at this
    omega
  refine { h with a0:=fun x t hx=>?_,aG:=fun x t=>?_,aF:=fun x=>?_,pF:=fun x=>?_,pG:=fun t=>?_,tG:=fun t=>?_,sG:=fun t=>?_,pC:=fun t c=>⟨(h.pC t c).1.grow hG,(h.pC t c).2⟩,lG:=fun t ht=>?_,S:=fun t t2 i h1 h2 h3 h4 h5 h6=>?_,K:=fun x t i h1 h2 h3 h4 h5=>?_,VL:=fun t2 x h1 t i h2 h3 h4 h5 h6=>?_,tF:=fun x=>?_ }
  ·have hx:g.T x < t:=hx
   rw [hAo x t (by rintro ⟨rfl,rfl⟩; omega)]
   exact h.a0 x t hx
  ·by_cases hh:x=k∧t=g.T k
   ·rw [hh.1,hh.2,hAk,hGt]; simp
   ·rw [hAo x t hh]
    exact (hG t _ (h.aG x t)).1
  ·show ((g.add k e).F x).take ((g.add k e).A x (g.T x)) = ((g.add k e).G (g.T x)).take ((g.add k e).A x (g.T x))∧(g.add k e).A x (g.T x)≤((g.add k e).F x).length
   by_cases hh:x=k
   ·subst hh
    rw [hAk,hGt,hFk]
    exact ⟨rfl,by simp⟩
   ·rw [hAo x _ (fun e=>hh e.1),hFo x hh]
    have:=h.aF x
    exact ⟨by rw [this.1,(hG _ _ (h.aG x (g.T x))).2],this.2⟩
  ·by_cases hx:x=k
   ·subst hx
    rw [hFk]
    intro i i1 i2
    rcases Nat.lt_or_ge (g.F x).length i with hi | hi
    ·have:i=(g.F x).length + 1:=by simp at i2; omega
     subst this
     rw [tAt_last,he,hGt]
     exact ⟨by simp,rfl⟩
    ·rw [tAt_app hi,take_app hi]
     exact (h.pF x).grow hG i i1 hi
   ·rw [hFo x hx]; exact (h.pF x).grow hG
  ·by_cases ht:t=g.T k
   ·subst ht
    rw [hGt]
    intro i i1 i2
    rcases Nat.lt_or_ge (g.F k).length i with hi | hi
    ·have:i=(g.F k).length + 1:=by simp at i2; omega
     subst this
     rw [tAt_last,he,hGt]
     exact ⟨by simp,rfl⟩
    ·rw [tAt_app hi,take_app hi]
     exact (h.pF k).grow hG i i1 hi
   ·rw [hGo t ht]; exact (h.pG t).grow hG
  ·by_cases ht:t=g.T k
   ·subst ht
    rw [hGt]
    intro x hx
    rcases List.mem_append.1 hx with hx | hx
    ·rw [hF] at hx; exact h.tG _ x hx
    ·rw [List.mem_singleton.1 hx,he]; exact ⟨h1t,Int.le_refl _⟩
   ·rw [hGo t ht]; exact h.tG t
  ·by_cases ht:t=g.T k
   ·subst ht
    rw [hGt]
    refine List.pairwise_append.2 ⟨by rw [hF]; exact h.sG _,List.pairwise_singleton _ _,fun a ha b hb=>?_⟩
    rw [List.mem_singleton.1 hb,he]
    exact h.tF k a ha
   ·rw [hGo t ht]; exact h.sG t
  ·have ht:g.L t=0:=ht
   rw [hGo t (by rintro rfl; exact hL ht)]
   exact h.lG t ht
  ·have h2:g.L t2≠0:=h2
   have hold:i≤(g.G t).length∨t=g.T k:=by
     by_cases ht:t=g.T k
     ·exact .inr ht
     ·rw [hGo t ht] at h4; exact .inl h4
   have hold:i≤(g.G t).length:=by
     rcases hold with h | ht
     ·exact h
     ·subst ht
      obtain ⟨q,q1,q2,q3⟩:=h.q t2 h2
      obtain ⟨p,p1,p2,p3⟩:=h6
      obtain ⟨j,j1,j2⟩:=won_meet (p1.trans q1.symm) p2 q2
      have hj:=h.vt t2 ((j:Int) + 1) (by rw [q3 j j2]; exact h2)
      have hjk:(j:Int) + 1≠k:=by intro e; rw [e] at hj; omega
      rcases p3 j j1 with hp | hp
      ·rw [← hF]; exact hbig _ i hjk hp
      ·have hp:g.T ((j:Int) + 1)≤g.T k:=hp
       omega
   obtain ⟨g1,g2⟩:=hG t i hold
   rw [tAt_eq (Nat.le_refl _) g2] at h5
   obtain ⟨s1,s2⟩:=h.S t t2 i h1 h2 h3 hold h5 (hM t i h6)
   obtain ⟨r1,r2⟩:=hG t2 i s1
   exact ⟨r1,by rw [r2,g2,s2]⟩
  ·have h1:t≤g.T x:=h1
   by_cases hxk:x=k∧t=g.T k
   ·obtain ⟨rfl,rfl⟩:=hxk
    rw [hAk] at h3
    rw [hFk,hGt]
    exact ⟨by simp; omega,rfl⟩
   ·have h3':=h3
    rw [hAo x t hxk] at h3'
    obtain ⟨g1,g2⟩:=hG t i (Nat.le_trans h3' (h.aG x t))
    rw [tAt_eq (Nat.le_refl _) g2] at h4
    obtain ⟨s1,s2⟩:=h.K x t i h1 h2 h3' h4 (hM t i h5)
    rw [g2,← s2]
    by_cases hx:x=k
    ·subst hx
     rw [hFk]
     exact ⟨by simp; omega,take_app s1⟩
    ·rw [hFo x hx]; exact ⟨s1,rfl⟩
  ·have h1:g.V t2 x≠0:=h1
   have hv:=h.vt t2 x h1
   have hxk:¬ (x=k∧t=g.T k):=by rintro ⟨rfl,rfl⟩; omega
   rw [hAo x t hxk] at h4
   obtain ⟨g1,g2⟩:=hG t i (Nat.le_trans h4 (h.aG x t))
   rw [tAt_eq (Nat.le_refl _) g2] at h5
   rw [g2]
   exact h.VL t2 x h1 t i h2 h3 h4 h5 (hM t i h6)
  ·show ∀ x'∈(g.add k e).F x,x'.Term≤g.T x
   by_cases hx:x=k
   ·subst hx
    rw [hFk]
    intro y hy
    rcases List.mem_append.1 hy with hy | hy
    ·exact h.tF x y hy
    ·rw [List.mem_singleton.1 hy,he]; exact Int.le_refl _
   ·rw [hFo x hx]; exact h.tF x
open Classical in
def merge(f gt:FLog)(m:Nat):FLog:=if m≤f.length∧f.take m=gt.take m then f else gt.take m
def Gh.accept(g:Gh)(k:Int)(m:Nat):Gh:={ g with F:=fun x=>if x=k then merge (g.F k) (g.G (g.T k)) m else g.F x,A:=fun x t=>if x=k∧t=g.T k then Nat.max (g.A k t) m else g.A x t }
theorem merge_take{f gt:FLog}{m:Nat}(hm:m≤gt.length):m≤(merge f gt m).length∧(merge f gt m).take m=gt.take m:=by
  unfold merge
  split
  ·rename_i h; exact h
  ·exact ⟨by simp; omega,by rw [List.take_take,Nat.min_self]⟩
theorem merge_keep{f gt:FLog}{m c:Nat}(hc:c≤f.length)(he:f.take c=gt.take c)(hg:c≤gt.length):c≤(merge f gt m).length∧(merge f gt m).take c=gt.take c:=by
  unfold merge
  split
  ·exact ⟨hc,he⟩
  ·rename_i h
   have hmc:c≤m:=by
     rcases Nat.lt_or_ge m c with hlt | hge
     ·exact absurd ⟨by omega,take_le (Nat.le_of_lt hlt) he⟩ h
     ·exact hge
   exact ⟨by simp; omega,by rw [List.take_take,Nat.min_eq_left hmc]⟩
theorem accept_inv(h:GInv n g){k:Int}{m:Nat}(hm:m≤(g.G (g.T k)).length)(hL:g.L (g.T k)≠0):GInv n (g.accept k m):=by
  have hFk:(g.accept k m).F k=merge (g.F k) (g.G (g.T k)) m:=by unfold Gh.accept; simp
  have hFo:∀ x,x≠k→(g.accept k m).F x=g.F x:=by intro t ht; unfold Gh.accept; simp [ht]
  have hAk:(g.accept k m).A k (g.T k) = Nat.max (g.A k (g.T k)) m:=by unfold Gh.accept; simp
  have hAo:∀ x t,¬ (x=k∧t=g.T k)→(g.accept k m).A x t=g.A x t:=by intro x t ht; unfold Gh.accept; simp only [ht,↓reduceIte]
  have hM:∀ t i,May n (g.accept k m) t i→May n g t i:=fun t i=>may_of fun j hj=>by
    rcases hj with h | h
    ·by_cases hjk:j=k∧t=g.T k
     ·right; rw [hjk.1,hjk.2]; exact Int.le_refl _
     ·rw [hAo j t hjk] at h; exact .inl h
    ·exact .inr h
  have haF:=h.aF k
  have hmt:=merge_take (f:=g.F k) hm
  have hka:=merge_keep (m:=m) haF.2 haF.1 (h.aG k _)
  have hmax:Nat.max (g.A k (g.T k)) m≤(merge (g.F k) (g.G (g.T k)) m).length∧(merge (g.F k) (g.G (g.T k)) m).take (Nat.max (g.A k (g.T k)) m) = (g.G (g.T k)).take (Nat.max (g.A k (g.T k)) m):=by
    rcases Nat.le_total (g.A k (g.T k)) m with hle | hle
    ·rw [show Nat.max (g.A k (g.T k)) m=m from Nat.max_eq_right hle]; exact hmt
    ·rw [show Nat.max (g.A k (g.T k)) m=g.A k (g.T k) from Nat.max_eq_left hle]; exact hka
  have hmF:∀ y∈merge (g.F k) (g.G (g.T k)) m,y∈g.F k∨y∈g.G (g.T k):=by
    intro y hy
    unfold merge at hy
    split at hy
    ·exact .inl hy
    ·exact .inr (List.mem_of_mem_take hy)
  refine { h with a0:=fun x t hx=>?_,aG:=fun x t=>?_,aF:=fun x=>?_,pF:=fun x=>?_,S:=fun t t2 i h1 h2 h3 h4 h5 h6=>h.S t t2 i h1 h2 h3 h4 h5 (hM t i h6),K:=fun x t i h1 h2 h3 h4 h5=>?_,VL:=fun t2 x h1 t i h2 h3 h4 h5 h6=>?_,tF:=fun x=>?_ }
  ·have hx:g.T x < t:=hx
   rw [hAo x t (by rintro ⟨rfl,rfl⟩; omega)]
   exact h.a0 x t hx
  ·by_cases hh:x=k∧t=g.T k
   ·rw [hh.1,hh.2,hAk]; exact Nat.max_le.2 ⟨h.aG _ _,hm⟩
   ·rw [hAo x t hh]
    exact h.aG x t
  ·show ((g.accept k m).F x).take ((g.accept k m).A x (g.T x)) = (g.G (g.T x)).take ((g.accept k m).A x (g.T x))∧(g.accept k m).A x (g.T x)≤((g.accept k m).F x).length
   by_cases hh:x=k
   ·subst hh
    rw [hAk,hFk]
    exact ⟨hmax.2,hmax.1⟩
   ·rw [hAo x _ (fun e=>hh e.1),hFo x hh]
    exact h.aF x
  ·by_cases hx:x=k
   ·subst hx
    rw [hFk]
    unfold merge
    split
    ·exact h.pF x
    ·exact (h.pG _).take m
   ·rw [hFo x hx]; exact h.pF x
  ·have h1:t≤g.T x:=h1
   by_cases hx:x=k
   ·subst hx
    by_cases ht:t=g.T x
    ·subst ht
     rw [hAk] at h3
     rw [hFk]
     exact ⟨by omega,take_le h3 hmax.2⟩
    ·rw [hAo x t (fun q=>ht q.2)] at h3
     obtain ⟨s1,s2⟩:=h.K x t i h1 h2 h3 h4 (hM t i h5)
     obtain ⟨r1,r2⟩:=h.S t (g.T x) i (by omega) hL h2 (Nat.le_trans h3 (h.aG x t)) h4 (hM t i h5)
     rw [hFk]
     have:=merge_keep (m:=m) s1 (s2.trans r2.symm) r1
     exact ⟨this.1,this.2.trans r2⟩
   ·rw [hAo x t (fun q=>hx q.1)] at h3
    rw [hFo x hx]
    exact h.K x t i h1 h2 h3 h4 (hM t i h5)
  ·have h1:g.V t2 x≠0:=h1
   have hv:=h.vt t2 x h1
   have hxk:¬ (x=k∧t=g.T k):=by rintro ⟨rfl,rfl⟩; omega
   rw [hAo x t hxk] at h4
   exact h.VL t2 x h1 t i h2 h3 h4 h5 (hM t i h6)
  ·show ∀ x'∈(g.accept k m).F x,x'.Term≤g.T x
   by_cases hx:x=k
   ·subst hx
    rw [hFk]
    intro y hy
    rcases hmF y hy with hy | hy
    ·exact h.tF x y hy
    ·exact (h.tG _ y hy).2
   ·rw [hFo x hx]; exact h.tF x
end
end Go.Proofs.Ytgoachcogmlhcaa.R
set_option maxRecDepth 100000
set_option linter.unusedVariables false
set_option linter.unusedSimpArgs false
noncomputable section
namespace Go.Proofs.Ytgoachcogmlhcaa.R
open Go
structure ExtG (k:Int) (g g':Gh):Prop where
  T:∀ x,x≠k→g'.T x=g.T x
  Tk:∀ x,g.T x≤g'.T x
  F:∀ x,x≠k→g'.F x=g.F x
  Ak:∀ x t,g.A x t≤g'.A x t
  V:∀ t x,x≠k→g'.V t x=g.V t x
  Vk:∀ t x,g.V t x≠0→g'.V t x=g.V t x
  C:∀ t x,x≠k→g'.C t x=g.C t x
  Ck:∀ t x,t≤g.T x→g'.C t x=g.C t x
  L:∀ t,g.L t≠0→g'.L t=g.L t
  Lk:∀ t x,x≠k→x≠0→g'.L t=x→g.L t=x
  G:∀ t i,i≤(g.G t).length→i≤(g'.G t).length∧(g'.G t).take i=(g.G t).take i
  Gk:∀ t,g.L t≠0→g.L t≠k→g'.G t=g.G t
theorem ExtG.refl(k:Int)(g:Gh):ExtG k g g:=
  ⟨fun _ _=>rfl,fun _=>Int.le_refl _,fun _ _=>rfl,fun _ _=>Nat.le_refl _,fun _ _ _=>rfl,fun _ _ _=>rfl,fun _ _ _=>rfl,fun _ _ _=>rfl,fun _ _=>rfl,fun _ _ _ _ h=>h,fun _ _ h=>⟨h,rfl⟩,fun _ _ _=>rfl⟩
theorem ExtG.trans{k:Int}{g g' g'':Gh}(h:ExtG k g g')(h':ExtG k g' g''):ExtG k g g'' where
  T x hx:=(h'.T x hx).trans (h.T x hx)
  Tk x:=Int.le_trans (h.Tk x) (h'.Tk x)
  F x hx:=(h'.F x hx).trans (h.F x hx)
  Ak x t:=Nat.le_trans (h.Ak x t) (h'.Ak x t)
  V t x hx:=(h'.V t x hx).trans (h.V t x hx)
  Vk t x hx:=by rw [h'.Vk t x (by rw [h.Vk t x hx]; exact hx),h.Vk t x hx]
  C t x hx:=(h'.C t x hx).trans (h.C t x hx)
  Ck t x hx:=by rw [h'.Ck t x (Int.le_trans hx (h.Tk x)),h.Ck t x hx]
  L t ht:=by rw [h'.L t (by rw [h.L t ht]; exact ht),h.L t ht]
  Lk t x h1 h2 h3:=h.Lk t x h1 h2 (h'.Lk t x h1 h2 h3)
  G t i hi:=by
    obtain ⟨a1,a2⟩:=h.G t i hi
    obtain ⟨b1,b2⟩:=h'.G t i a1
    exact ⟨b1,b2.trans a2⟩
  Gk t h1 h2:=by rw [h'.Gk t (by rw [h.L t h1]; exact h1) (by rw [h.L t h1]; exact h2),h.Gk t h1 h2]
section
variable {n:Nat} {g g':Gh} {k:Int}
theorem rise_ext{t:Int}(ht:g.T k≤t):ExtG k g (g.rise k t):=by
  refine { ExtG.refl k g with T:=fun x hx=>by simp [Gh.rise,hx],Tk:=fun x=>?_ }
  show g.T x≤if x=k then t else g.T x
  split
  ·rename_i h; rw [h]; exact ht
  ·exact Int.le_refl _
theorem vote_ext{c:Int}(hv:g.V (g.T k) k=0∨g.V (g.T k) k=c):ExtG k g (g.vote k c):=by
  refine { ExtG.refl k g with V:=fun t x hx=>by simp [Gh.vote,hx],Vk:=fun t x h0=>?_ }
  show (if t=g.T k∧x=k then c else g.V t x) = g.V t x
  split
  ·rename_i h
   rw [h.1,h.2] at h0 ⊢
   rcases hv with hv | hv
   ·exact absurd hv h0
   ·exact hv.symm
  ·rfl
theorem stand_ext(h:GInv n g):ExtG k g (g.stand k):=by
  refine { ExtG.refl k g with T:=fun x hx=>by simp [Gh.stand,hx],Tk:=fun x=>?_,V:=fun t x hx=>by simp [Gh.stand,hx],Vk:=fun t x h0=>?_,C:=fun t x hx=>by simp [Gh.stand,hx],Ck:=fun t x ht=>?_ }
  ·show g.T x≤if x=k then g.T k + 1 else g.T x
   split
   ·rename_i h; rw [h]; omega
   ·exact Int.le_refl _
  ·show (if t=g.T k + 1∧x=k then k else g.V t x) = g.V t x
   split
   ·rename_i hh
    have:=h.vt t x h0
    rw [hh.1,hh.2] at this
    omega
   ·rfl
  ·show (if t=g.T k + 1∧x=k then g.F k else g.C t x) = g.C t x
   split
   ·rename_i hh
    rw [hh.1,hh.2] at ht
    omega
   ·rfl
theorem elect_ext(h:GInv n g)(hL:g.L (g.T k) = 0):ExtG k g (g.elect k):=by
  have hG0:=h.lG _ hL
  refine { ExtG.refl k g with Ak:=fun x t=>?_,L:=fun t ht=>?_,Lk:=fun t x h1 h2 h3=>?_,G:=fun t i hi=>?_,Gk:=fun t h1 h2=>?_ }
  ·show g.A x t≤if x=k∧t=g.T k then (g.F k).length else g.A x t
   split
   ·rename_i hh
    have:=h.aG x t
    rw [hh.2,hG0] at this
    have:g.A x t=0:=by rw [hh.2]; simpa using this
    omega
   ·exact Nat.le_refl _
  ·show (if t=g.T k then k else g.L t) = g.L t
   split
   ·rename_i hh; rw [hh,hL] at ht; exact absurd rfl ht
   ·rfl
  ·have h3:(if t=g.T k then k else g.L t) = x:=h3
   split at h3
   ·exact absurd h3.symm h1
   ·exact h3
  ·show i≤(if t=g.T k then g.F k else g.G t).length∧(if t=g.T k then g.F k else g.G t).take i=_
   split
   ·rename_i hh
    rw [hh,hG0] at hi ⊢
    have:i=0:=by simpa using hi
    subst this
    simp
   ·exact ⟨hi,rfl⟩
  ·show (if t=g.T k then g.F k else g.G t) = g.G t
   split
   ·rename_i hh; rw [hh] at h1; exact absurd hL h1
   ·rfl
theorem add_ext(h:GInv n g){e:TEntry}(hL:g.L (g.T k) = k)(hF:g.F k=g.G (g.T k)):ExtG k g (g.add k e):=by
  refine { ExtG.refl k g with F:=fun x hx=>by simp [Gh.add,hx],Ak:=fun x t=>?_,G:=fun t i hi=>?_,Gk:=fun t h1 h2=>?_ }
  ·show g.A x t≤if x=k∧t=g.T k then (g.F k).length + 1 else g.A x t
   split
   ·rename_i hh
    have:=h.aG x t
    rw [hF,← hh.2]
    omega
   ·exact Nat.le_refl _
  ·show i≤(if t=g.T k then g.F k++[e] else g.G t).length∧(if t=g.T k then g.F k++[e] else g.G t).take i=_
   split
   ·rename_i hh
    rw [hh,← hF] at hi ⊢
    exact ⟨by simp; omega,take_app hi⟩
   ·exact ⟨hi,rfl⟩
  ·show (if t=g.T k then g.F k++[e] else g.G t) = g.G t
   split
   ·rename_i hh; rw [hh,hL] at h2; exact absurd rfl h2
   ·rfl
theorem accept_ext{m:Nat}:ExtG k g (g.accept k m):=by
  refine { ExtG.refl k g with F:=fun x hx=>by simp [Gh.accept,hx],Ak:=fun x t=>?_ }
  show g.A x t≤if x=k∧t=g.T k then Nat.max (g.A k t) m else g.A x t
  split
  ·rename_i hh; rw [hh.1]; exact Nat.le_max_left _ _
  ·exact Nat.le_refl _
theorem Done.ext(he:ExtG k g g'){t:Int}{i:Nat}(h:Done n g t i):Done n g' t i:=by
  obtain ⟨d1,d2,q,q1,q2,q3⟩:=h
  obtain ⟨a1,a2⟩:=he.G t i d2
  exact ⟨by rw [tAt_eq (Nat.le_refl _) a2]; exact d1,a1,q,q1,q2,fun j hj=>Nat.le_trans (q3 j hj) (he.Ak _ _)⟩
def Wit(n:Nat)(g:Gh)(c:Nat)(f:FLog)(T:Int):Prop:=c=0∨∃ t i,Done n g t i∧t≤T∧c≤i∧c≤f.length∧f.take c=(g.G t).take c
theorem Wit.ext(he:ExtG k g g'){c:Nat}{f:FLog}{T:Int}(h:Wit n g c f T):Wit n g' c f T:=by
  rcases h with h | ⟨t,i,h1,h2,h3,h4,h5⟩
  ·exact .inl h
  ·exact .inr ⟨t,i,h1.ext he,h2,h3,h4,by rw [(he.G t c (Nat.le_trans h3 h1.2.1)).2]; exact h5⟩
theorem Wit.mono{c d:Nat}{f f':FLog}{T T':Int}(h:Wit n g c f T)(hT:T≤T')(hd:d≤c)(hf:d≤f'.length)(he:f'.take d=f.take d):Wit n g d f' T':=by
  rcases h with h | ⟨t,i,h1,h2,h3,h4,h5⟩
  ·exact .inl (by omega)
  ·exact .inr ⟨t,i,h1,by omega,by omega,hf,by rw [he]; exact take_le hd h5⟩
theorem Wit.len{c:Nat}{f:FLog}{T:Int}(h:Wit n g c f T):c≤f.length:=by
  rcases h with h | ⟨t,i,h1,h2,h3,h4,h5⟩
  ·omega
  ·exact h4
theorem done_in(h:GInv n g){t T:Int}{i:Nat}(hd:Done n g t i)(ht:t≤T)(hL:g.L T≠0):i≤(g.G T).length∧(g.G T).take i=(g.G t).take i:=by
  rcases Nat.eq_zero_or_pos i with h0 | h0
  ·subst h0; simp
  ·rcases Int.lt_or_le t T with hlt | hle
   ·exact h.S t T i hlt hL h0 hd.2.1 hd.1 hd.may
   ·have:t=T:=by omega
    subst this
    exact ⟨hd.2.1,rfl⟩
theorem wit_in(h:GInv n g){c:Nat}{f:FLog}{T:Int}(hw:Wit n g c f T)(hL:g.L T≠0):c≤(g.G T).length∧f.take c=(g.G T).take c:=by
  rcases hw with h0 | ⟨t,i,h1,h2,h3,h4,h5⟩
  ·subst h0; simp
  ·obtain ⟨a1,a2⟩:=done_in h h1 h2 hL
   exact ⟨by omega,by rw [h5]; exact (take_le h3 a2).symm⟩
theorem wit_agree(h:GInv n g){c d:Nat}{f f':FLog}{T T':Int}(hw:Wit n g c f T)(hw':Wit n g d f' T')(hcd:c≤d):c≤f'.length∧f.take c=f'.take c:=by
  rcases hw with h0 | ⟨t,i,h1,h2,h3,h4,h5⟩
  ·subst h0; simp
  ·rcases hw' with h0 | ⟨t',i',h1',h2',h3',h4',h5'⟩
   ·subst h0
    have:c=0:=by omega
    subst this; simp
   ·refine ⟨by omega,?_⟩
    rw [h5,take_le hcd h5']
    rcases Nat.eq_zero_or_pos c with h0 | h0
    ·subst h0; simp
    have hLt:g.L t≠0:=fun h0'=>by have:=h1.2.1; rw [h.lG t h0'] at this; simp only [List.length_nil] at this; omega
    have hLt':g.L t'≠0:=fun h0'=>by have:=h1'.2.1; rw [h.lG t' h0'] at this; simp only [List.length_nil] at this; omega
    rcases Int.le_total t t' with ht | ht
    ·exact (take_le h3 (done_in h h1 ht hLt').2).symm
    ·exact take_le (Nat.le_trans hcd h3') (done_in h h1' ht hLt).2
end
structure LogF (l:TLog) (f:FLog):Prop where
  b0:0≤l.Base
  b:l.Base.toNat≤f.length
  e:l.Entries=f.drop l.Base.toNat
  t:l.BaseTerm=tAt f l.Base.toNat
section
variable {l:TLog} {f:FLog}
theorem LogF.last(h:LogF l f):lastL l=(f.length:Int):=by
  have:=h.b; have:=h.b0
  unfold lastL
  rw [h.e,List.length_drop]
  omega
theorem LogF.term(h:LogF l f){i t:Int}(ht:termL l i=some t):l.Base≤i∧i.toNat≤f.length∧t=tAt f i.toNat:=by
  obtain ⟨h1,h2⟩:=termL_some ht
  rw [h.last] at h2
  have hb:=h.b; have hb0:=h.b0
  refine ⟨h1,by omega,?_⟩
  unfold termL at ht
  split at ht
  ·rename_i hh
   rw [hh]
   rw [← Option.some.inj ht]
   exact h.t
  ·split at ht
   ·cases ht
   ·rename_i n1 n2
    have e1:l.Entries[(i - l.Base - 1).toNat]? = some (f[i.toNat - 1]'(by omega)):=by
      rw [h.e,List.getElem?_drop,show l.Base.toNat + (i - l.Base - 1).toNat=i.toNat - 1 by omega,List.getElem?_eq_getElem (by omega)]
    rw [e1] at ht
    rw [tAt_get (by omega) (by omega)]
    exact (Option.some.inj ht).symm
theorem LogF.term_at(h:LogF l f){i:Int}(h1:l.Base≤i)(h2:i.toNat≤f.length):termL l i=some (tAt f i.toNat):=by
  have hb:=h.b; have hb0:=h.b0
  have hl:=h.last
  unfold termL
  split
  ·rename_i hh
   rw [hh,h.t]
  ·split
   ·omega
   ·rename_i n1 n2
    have e1:l.Entries[(i - l.Base - 1).toNat]? = some (f[i.toNat - 1]'(by omega)):=by
      rw [h.e,List.getElem?_drop,show l.Base.toNat + (i - l.Base - 1).toNat=i.toNat - 1 by omega,List.getElem?_eq_getElem (by omega)]
    rw [e1,tAt_get (by omega) (by omega)]
    rfl
theorem LogF.lastTerm(h:LogF l f):lastTermL l=tAt f f.length:=by
  have hb:=h.b; have hb0:=h.b0
  unfold lastTermL
  rw [h.last,h.term_at (by omega) (by omega)]
  simp
theorem LogF.compact(h:LogF l f){i:Int}(h1:l.Base≤i)(h2:i.toNat≤f.length):LogF (compactL l i) f:=by
  have hb:=h.b; have hb0:=h.b0
  refine ⟨by show 0≤i; omega,h2,?_,?_⟩
  ·show l.Entries.drop (i - l.Base).toNat=f.drop i.toNat
   rw [h.e,List.drop_drop,show l.Base.toNat + (i - l.Base).toNat=i.toNat by omega]
  ·show (termL l i).getD 0=tAt f i.toNat
   rw [h.term_at h1 h2]
   rfl
theorem LogF.add(h:LogF l f)(e:TEntry):LogF ⟨l.Base,l.BaseTerm,l.Entries++[e]⟩ (f++[e]):=by
  have hb:=h.b
  refine ⟨h.b0,by simp; omega,?_,?_⟩
  ·show l.Entries++[e] = (f++[e]).drop l.Base.toNat
   rw [List.drop_append_of_le_length hb,h.e]
  ·show l.BaseTerm=tAt (f++[e]) l.Base.toNat
   rw [tAt_app hb,h.t]
theorem drop_get{f:FLog}{m a:Nat}{e:TEntry}{r:List TEntry}(h:e :: r=(f.take m).drop a):a < m∧f[a]? = some e∧r=(f.take m).drop (a + 1):=by
  have h0:((f.take m).drop a)[0]? = some e:=by rw [← h]; rfl
  rw [List.getElem?_drop,List.getElem?_take] at h0
  simp only [Nat.add_zero] at h0
  split at h0
  ·rename_i hh
   refine ⟨hh,h0,?_⟩
   have:r=(e :: r).drop 1:=rfl
   rw [this,h,List.drop_drop]
  ·cases h0
theorem tAt_of{f:FLog}{a:Nat}{e:TEntry}(h:f[a]? = some e):tAt f (a + 1) = e.Term:=by
  unfold tAt
  rw [if_neg (by omega),show a + 1 - 1=a by omega,h]
theorem get_lt{f:FLog}{a:Nat}{e:TEntry}(h:f[a]? = some e):a < f.length:=by
  rcases Nat.lt_or_ge a f.length with h1 | h1
  ·exact h1
  ·rw [List.getElem?_eq_none h1] at h; cases h
theorem merge_eq{G:Logs}{f gt:FLog}(hf:Pre G f)(hg:Pre G gt){b m:Nat}(hm:m≤gt.length):∀ (es:List TEntry) (k:Nat),b + k≤f.length→b + k≤m→f.take (b + k) = gt.take (b + k)→es=(gt.take m).drop (b + k)→mergeL (f.drop b) k es=(merge f gt m).drop b
  | [],k,h1,h2,h3,h4=>by
    have hl:=congrArg List.length h4
    simp only [List.length_nil,List.length_drop,List.length_take] at hl
    have e:b + k=m:=by omega
    unfold mergeL merge
    rw [if_pos (by rw [← e]; exact ⟨h1,h3⟩)]
  | e :: r,k,h1,h2,h3,h4=>by
    obtain ⟨d1,d2,d3⟩:=drop_get h4
    have t2:=tAt_of d2
    have l2:=get_lt d2
    unfold mergeL
    rw [List.getElem?_drop]
    have hcut:(f.drop b).take k=(gt.take (b + k)).drop b:=by
      rw [← h3,List.drop_take,show b + k - b=k by omega]
    have hrest:(gt.take (b + k)).drop b++(e :: r) = (gt.take m).drop b:=by
      rw [h4]
      have:gt.take (b + k) = (gt.take m).take (b + k):=by rw [List.take_take,Nat.min_eq_left h2]
      rw [this,List.drop_take,show b + k - b=k by omega,← List.drop_drop]
      exact List.take_append_drop k _
    cases hx:f[b + k]? with
    | none=>
      have hfl:f.length≤b + k:=List.getElem?_eq_none_iff.1 hx
      show f.drop b++(e :: r) = _
      unfold merge
      rw [if_neg (by omega),← hrest,← h3,List.take_of_length_le hfl]
    | some x=>
      have hxl:=get_lt hx
      show (if x.Term=e.Term then mergeL (f.drop b) (k + 1) r else (f.drop b).take k++(e :: r)) = _
      have tx:=tAt_of hx
      split
      ·rename_i he
       have h3':f.take (b + k + 1) = gt.take (b + k + 1):=Pre.meet hf hg (by omega) (by omega) (by omega) (by rw [tx,t2,he])
       exact merge_eq hf hg hm r (k + 1) (by omega) (by omega) h3' d3
      ·rename_i he
       unfold merge
       rw [if_neg,hcut,hrest]
       rintro ⟨_,q⟩
       have:=tAt_eq (i:=b + k + 1) (m:=m) (by omega) q
       rw [tx,t2] at this
       exact he this
theorem putC_eq{G:Logs}{gt:FLog}(h:LogF l f)(hf:Pre G f)(hg:Pre G gt){at0 term:Int}{es:List TEntry}(h1:l.Base≤at0)(hm:at0.toNat + es.length≤gt.length)(ht:term=tAt gt at0.toNat)(he:es=(gt.take (at0.toNat + es.length)).drop at0.toNat)(hok:(putC l at0 term es).2.2=true) :
    LogF (putC l at0 term es).1 (merge f gt (at0.toNat + es.length))∧(putC l at0 term es).2.1=((at0.toNat + es.length:Nat):Int):=by
  have hb:=h.b; have hb0:=h.b0
  unfold putC at hok ⊢
  cases hx:termL l at0 with
  | none=>rw [hx] at hok; cases hok
  | some mine=>
    rw [hx] at hok
    simp only at hok ⊢
    split at hok
    ·cases hok
    ·rename_i hmt
     have hmt:mine=term:=Classical.not_not.1 hmt
     rw [if_neg (Classical.not_not.2 hmt)]
     obtain ⟨t1,t2,t3⟩:=h.term hx
     have htk:f.take at0.toNat=gt.take at0.toNat:=by
       rcases Nat.eq_zero_or_pos at0.toNat with h0 | h0
       ·rw [h0]; simp
       ·exact Pre.meet hf hg h0 t2 (by omega) (by rw [← t3,hmt,ht])
     have htb:f.take l.Base.toNat=gt.take l.Base.toNat:=take_le (by omega) htk
     have hk:=merge_keep (m:=at0.toNat + es.length) hb htb (by omega)
     refine ⟨⟨hb0,hk.1,?_,?_⟩,?_⟩
     ·show mergeL l.Entries (at0 - l.Base).toNat es=(merge f gt (at0.toNat + es.length)).drop l.Base.toNat
      rw [h.e]
      have hbk:l.Base.toNat + (at0 - l.Base).toNat=at0.toNat:=by omega
      exact merge_eq hf hg hm es _ (by rw [hbk]; exact t2) (by omega) (by rw [hbk]; exact htk) (by rw [hbk]; exact he)
     ·show l.BaseTerm=tAt _ l.Base.toNat
      rw [h.t]
      exact tAt_eq (Nat.le_refl _) (htb.trans hk.2.symm)
     ·show at0 + (es.length:Int) = _
      omega
theorem LogF.reset{gt:FLog}{G:Logs}(h:LogF l f)(hf:Pre G f)(hg:Pre G gt){at0 term:Int}(h1:l.Base < at0)(hm:at0.toNat≤gt.length)(ht:term=tAt gt at0.toNat):LogF (resetL l at0 term) (merge f gt at0.toNat):=by
  have hb:=h.b; have hb0:=h.b0
  unfold resetL
  split
  ·rename_i hx
   obtain ⟨t1,t2,t3⟩:=h.term hx
   have htk:f.take at0.toNat=gt.take at0.toNat:=Pre.meet hf hg (by omega) t2 (by omega) (by rw [← t3,ht])
   unfold merge
   rw [if_pos ⟨t2,htk⟩]
   exact h.compact t1 t2
  ·rename_i hx
   have hne:¬ (at0.toNat≤f.length∧f.take at0.toNat=gt.take at0.toNat):=by
     rintro ⟨n1,n2⟩
     apply hx
     rw [h.term_at (by omega) n1,ht,tAt_eq (Nat.le_refl _) n2]
   unfold merge
   rw [if_neg hne]
   refine ⟨by show 0≤at0; omega,by show at0.toNat≤_; simp; omega,?_,?_⟩
   ·show [] = (gt.take at0.toNat).drop at0.toNat
    rw [List.drop_eq_nil_of_le (by simp; omega)]
   ·show term=tAt (gt.take at0.toNat) at0.toNat
    rw [tAt_take (Nat.le_refl _),ht]
end
end Go.Proofs.Ytgoachcogmlhcaa.R
set_option maxRecDepth 100000
set_option linter.unusedVariables false
set_option linter.unusedSimpArgs false
noncomputable section
namespace Go.Proofs.Ytgoachcogmlhcaa.R
open Go
structure CandG (g:Gh) (r:TRaft):Prop where
  t:1≤r.Term
  v:∀ j:Nat,r.Granted[j]? = some true→g.V r.Term ((j:Int) + 1) = r.Id
  f:g.F r.Id=g.C r.Term r.Id
  l:g.L r.Term≠r.Id
structure LeadG (g:Gh) (r:TRaft):Prop where
  t:1≤r.Term
  l:g.L r.Term=r.Id
  f:g.F r.Id=g.G r.Term
  m:∀ (j:Nat) (v:Int),r.Match[j]? = some v→v≤(g.A ((j:Int) + 1) r.Term:Int)
  x:∀ v∈r.Next,v≤lastL r.Log + 1
structure MemG (n:Nat) (g:Gh) (r:TRaft):Prop where
  T:g.T r.Id=r.Term
  V:g.V r.Term r.Id=r.Vote
  log:LogF r.Log (g.F r.Id)
  bc:r.Log.Base≤r.Commit
  wit:Wit n g r.Commit.toNat (g.F r.Id) r.Term
  cand:r.Role=2→CandG g r
  lead:r.Role=3→LeadG g r
  who:r.Role=3↔r.Lead=r.Id
structure MsgG (n:Nat) (g:Gh) (x:TMsg):Prop where
  ask:x.Kind=3→x.Term≤g.T x.From∧x.At=((g.C x.Term x.From).length:Int)∧x.AtTerm=tAt (g.C x.Term x.From) (g.C x.Term x.From).length
  vote:x.Kind=4→x.Ok=true→x.To≠0∧g.V x.Term x.From=x.To
  ents:x.Kind=5→g.L x.Term≠0∧x.At.toNat + x.Entries.length≤(g.G x.Term).length∧x.Entries=((g.G x.Term).take (x.At.toNat + x.Entries.length)).drop x.At.toNat∧x.AtTerm=tAt (g.G x.Term) x.At.toNat∧Wit n g x.Commit.toNat (g.G x.Term) x.Term
  told:x.Kind=6→x.Ok=true→x.At.toNat≤g.A x.From x.Term
  snap:x.Kind=7→g.L x.Term≠0∧x.At.toNat≤(g.G x.Term).length∧x.AtTerm=tAt (g.G x.Term) x.At.toNat∧Wit n g x.At.toNat (g.G x.Term) x.Term
section
variable {n:Nat} {g g':Gh} {k:Int} {r:TRaft} {x:TMsg}
theorem MsgG.ext(he:ExtG k g g')(h:MsgG n g x):MsgG n g' x where
  ask hk:=by
    obtain ⟨a1,a2,a3⟩:=h.ask hk
    rw [he.Ck _ _ a1]
    exact ⟨Int.le_trans a1 (he.Tk _),a2,a3⟩
  vote hk ho:=by
    obtain ⟨a1,a2⟩:=h.vote hk ho
    exact ⟨a1,by rw [he.Vk _ _ (by rw [a2]; exact a1),a2]⟩
  ents hk:=by
    obtain ⟨a1,a2,a3,a4,a5⟩:=h.ents hk
    obtain ⟨b1,b2⟩:=he.G _ _ a2
    obtain ⟨c1,c2⟩:=he.G _ _ (Nat.le_trans (Nat.le_add_right _ x.Entries.length) a2)
    obtain ⟨d1,d2⟩:=he.G _ _ a5.len
    refine ⟨by rw [he.L _ a1]; exact a1,b1,by rw [b2]; exact a3,by rw [tAt_eq (Nat.le_refl _) c2]; exact a4,(a5.ext he).mono (Int.le_refl _) (Nat.le_refl _) d1 d2⟩
  told hk ho:=Nat.le_trans (h.told hk ho) (he.Ak _ _)
  snap hk:=by
    obtain ⟨a1,a2,a4,a5⟩:=h.snap hk
    obtain ⟨c1,c2⟩:=he.G _ _ a2
    refine ⟨by rw [he.L _ a1]; exact a1,c1,by rw [tAt_eq (Nat.le_refl _) c2]; exact a4,(a5.ext he).mono (Int.le_refl _) (Nat.le_refl _) c1 c2⟩
theorem MemG.ext(he:ExtG k g g')(hne:r.Id≠k)(h0:r.Id≠0)(h:MemG n g r):MemG n g' r where
  T:=by rw [he.T _ hne]; exact h.T
  V:=by rw [he.V _ _ hne]; exact h.V
  log:=by rw [he.F _ hne]; exact h.log
  bc:=h.bc
  wit:=by rw [he.F _ hne]; exact h.wit.ext he
  cand hr:=by
    have hc:=h.cand hr
    refine ⟨hc.t,fun j hj=>?_,by rw [he.F _ hne,he.C _ _ hne]; exact hc.f,fun hl=>hc.l (he.Lk _ _ hne h0 hl)⟩
    have:=hc.v j hj
    rw [he.Vk _ _ (by rw [this]; exact h0),this]
  lead hr:=by
    have hl:=h.lead hr
    refine ⟨hl.t,by rw [he.L _ (by rw [hl.l]; exact h0)]; exact hl.l,?_,fun j v hj=>?_,hl.x⟩
    ·rw [he.F _ hne,he.Gk _ (by rw [hl.l]; exact h0) (by rw [hl.l]; exact hne)]; exact hl.f
    ·have:=hl.m j v hj
     have:=he.Ak ((j:Int) + 1) r.Term
     omega
  who:=h.who
theorem MsgG.mute(h:x.Kind=1∨x.Kind=2∨((x.Kind=4∨x.Kind=6)∧x.Ok=false)):MsgG n g x:=by
  refine ⟨fun hk=>?_,fun hk ho=>?_,fun hk=>?_,fun hk ho=>?_,fun hk=>?_⟩
  all_goals
    rcases h with h | h | ⟨h | h,h'⟩
  all_goals first
    | omega
    | (rw [h'] at ho; cases ho)
theorem MsgG.one(h:MsgG n g x):∀ y∈[x],MsgG n g y:=fun y hy=>by rw [List.mem_singleton.1 hy]; exact h
def GoodG(n:Nat)(g:Gh)(k:Int)(p:TRaft × List TMsg):Prop:=∃ g',ExtG k g g'∧GInv n g'∧MemG n g' p.1∧∀ y∈p.2,MsgG n g' y
theorem GoodG.keep{p:TRaft × List TMsg}(hi:GInv n g)(hm:MemG n g p.1)(hy:∀ y∈p.2,MsgG n g y):GoodG n g k p:=⟨g,ExtG.refl _ _,hi,hm,hy⟩
theorem GoodG.comp{p:TRaft × List TMsg}(he:ExtG k g g')(h:GoodG n g' k p):GoodG n g k p:=by
  obtain ⟨g2,a1,a2,a3,a4⟩:=h
  exact ⟨g2,he.trans a1,a2,a3,a4⟩
theorem MemG.of{q:TRaft}(h:MemG n g r)(h1:q.Id=r.Id)(h2:q.Term=r.Term)(h3:q.Vote=r.Vote)(h5:q.Log=r.Log)(h6:q.Commit=r.Commit)(h4:((q.Role=0∨q.Role=1)∧q.Lead≠q.Id)∨(q.Role=r.Role∧q.Granted=r.Granted∧q.Next=r.Next∧q.Match=r.Match∧q.Lead=r.Lead)):MemG n g q where
  T:=by rw [h1,h2]; exact h.T
  V:=by rw [h1,h2,h3]; exact h.V
  log:=by rw [h1,h5]; exact h.log
  bc:=by rw [h5,h6]; exact h.bc
  wit:=by rw [h1,h2,h6]; exact h.wit
  cand hr:=by
    rcases h4 with ⟨h4,_⟩ | ⟨a1,a2,a3,a4,a5⟩
    ·omega
    ·have hc:=h.cand (by omega)
     refine ⟨by rw [h2]; exact hc.t,fun j hj=>by rw [h1,h2]; exact hc.v j (by rw [← a2]; exact hj),by rw [h1,h2]; exact hc.f,by rw [h1,h2]; exact hc.l⟩
  lead hr:=by
    rcases h4 with ⟨h4,_⟩ | ⟨a1,a2,a3,a4,a5⟩
    ·omega
    ·have hc:=h.lead (by omega)
     refine ⟨by rw [h2]; exact hc.t,by rw [h1,h2]; exact hc.l,by rw [h1,h2]; exact hc.f,fun j v hj=>by rw [h2]; exact hc.m j v (by rw [← a4]; exact hj),by rw [a3,h5]; exact hc.x⟩
  who:=by
    rcases h4 with ⟨h4,h7⟩ | ⟨a1,a2,a3,a4,a5⟩
    ·constructor
     ·intro; omega
     ·intro e; exact absurd e h7
    ·rw [a1,a5,h1]; exact h.who
theorem MemG.follow(hi:GInv n g)(h:MemG n g r){t l:Int}(hl:l≠r.Id):∃ g',ExtG r.Id g g'∧GInv n g'∧MemG n g' (followR r t l)∧g'.L=g.L∧g'.G=g.G∧g'.F=g.F:=by
  by_cases hlt:r.Term < t
  ·have e1:(followR r t l).Term=t:=by simp [followR,hlt]
   have e2:(followR r t l).Vote=0:=by simp [followR,hlt]
   have e3:(followR r t l).Id=r.Id:=rfl
   have hT:=h.T
   have hle:g.T r.Id≤t:=by omega
   have hx:=rise_ext (g:=g) hle
   refine ⟨_,hx,rise_inv hi hle,?_,rfl,rfl,rfl⟩
   refine ⟨?_,?_,h.log,h.bc,?_,fun hr=>?_,fun hr=>?_,?_⟩
   ·rw [e1,e3]; simp [Gh.rise]
   ·rw [e1,e2,e3]
    show g.V t r.Id=0
    rcases Classical.em (g.V t r.Id=0) with h0 | h0
    ·exact h0
    ·have:=hi.vt t r.Id h0; omega
   ·rw [e1,e3]; exact (h.wit.ext hx).mono (by omega) (Nat.le_refl _) h.wit.len rfl
   ·have hr:(0:Int) = 2:=hr; omega
   ·have hr:(0:Int) = 3:=hr; omega
   ·constructor
    ·intro hr; have hr:(0:Int) = 3:=hr; omega
    ·intro hr; exact absurd hr hl
  ·exact ⟨g,ExtG.refl _ _,hi,h.of rfl (by simp [followR,hlt]) (by simp [followR,hlt]) rfl rfl (.inl ⟨.inl rfl,hl⟩),rfl,rfl,rfl⟩
theorem take_lenE(l:List TEntry)(a:Nat):(l.drop a).take 8=(l.take (a + ((l.drop a).take 8).length)).drop a:=by
  rw [List.drop_take,show a + ((l.drop a).take 8).length - a=((l.drop a).take 8).length by omega]
  rcases Nat.le_total (l.drop a).length 8 with hle | hle
  ·rw [List.take_of_length_le hle,List.take_of_length_le (Nat.le_refl _)]
  ·rw [List.length_take,Nat.min_eq_left hle]
theorem tell_msg{B:Int}(hi:GInv n g)(h:MemG n g r)(hok:OkR B r)(h3:r.Role=3){to:Int}(h1:1≤to)(h2:to≤r.N):MsgG n g (tellR r to):=by
  have hl:=h.lead h3
  have hid:r.Id≠0:=by have:=hok.id; omega
  have hL:g.L r.Term≠0:=by rw [hl.l]; exact hid
  have hb:=h.log.b; have hb0:=h.log.b0; have hbc:=h.bc
  have hlast:=h.log.last
  have hlt:(to - 1).toNat < r.Next.length:=by have:=hok.na h3; omega
  have hnx:nextR r to∈r.Next:=by
    unfold nextR
    rw [List.getElem?_eq_getElem hlt]
    exact List.getElem_mem hlt
  have hn1:=hok.nb _ hnx
  have hn2:=hl.x _ hnx
  have hf:=hl.f
  have hw:=h.wit
  rw [hf] at hb hlast hw
  have hlog:=h.log
  rw [hf] at hlog
  unfold tellR
  split
  ·rename_i hle
   refine ⟨fun hk=>by simp at hk,fun hk=>by simp at hk,fun hk=>by simp at hk,fun hk=>by simp at hk,fun _=>?_⟩
   exact ⟨hL,hb,hlog.t,hw.mono (Int.le_refl _) (by show r.Log.Base.toNat≤_; omega) hb rfl⟩
  ·rename_i hle
   refine ⟨fun hk=>by simp at hk,fun hk=>by simp at hk,fun _=>?_,fun hk=>by simp at hk,fun hk=>by simp at hk⟩
   have hent:(nextR r to - 1).toNat + (fromL r.Log (nextR r to)).length≤(g.G r.Term).length∧fromL r.Log (nextR r to) = ((g.G r.Term).take ((nextR r to - 1).toNat + (fromL r.Log (nextR r to)).length)).drop (nextR r to - 1).toNat:=by
     unfold fromL
     split
     ·rename_i hh
      refine ⟨by simp; omega,?_⟩
      rw [List.length_nil,Nat.add_zero,List.drop_eq_nil_of_le (by simp; omega)]
     ·rename_i hh
      have e1:(r.Log.Entries.drop (nextR r to - r.Log.Base - 1).toNat) = (g.G r.Term).drop (nextR r to - 1).toNat:=by
        rw [hlog.e,List.drop_drop,show r.Log.Base.toNat + (nextR r to - r.Log.Base - 1).toNat=(nextR r to - 1).toNat by omega]
      rw [e1]
      refine ⟨?_,take_lenE _ _⟩
      rw [List.length_take,List.length_drop]
      omega
   refine ⟨hL,hent.1,hent.2,?_,hw⟩
   show (termL r.Log (nextR r to - 1)).getD 0=_
   rw [hlog.term_at (by omega) (by omega)]
   rfl
theorem get_ltA{α:Type}{l:List α}{a:Nat}{e:α}(h:l[a]? = some e):a < l.length:=by
  rcases Nat.lt_or_ge a l.length with h1 | h1
  ·exact h1
  ·rw [List.getElem?_eq_none h1] at h; cases h
theorem countP_map(l:List Int)(c:Int):cntB (l.map fun x=>decide (c≤x)) = cntGE l c:=by
  unfold cntB cntGE
  rw [List.countP_map]
  rfl
theorem commit_mem{B:Int}(h:MemG n g r)(hok:OkR B r)(hN:r.N=(n:Int))(h3:r.Role=3):MemG n g (commitR r):=by
  unfold commitR
  split
  ·rename_i hc
   obtain ⟨c1,c2⟩:=hc
   have hl:=h.lead h3
   obtain ⟨_,hR,_,_⟩:=reached_in hok h3
   obtain ⟨t1,t2,t3⟩:=h.log.term c1
   have hcm:=hok.commit
   have hml:=hok.ma h3
   refine ⟨h.T,h.V,h.log,by show r.Log.Base≤reachedL r.Match; exact t1,?_,fun hr=>by have hr:r.Role=2:=hr; omega,fun _=>⟨hl.t,hl.l,hl.f,hl.m,hl.x⟩,h.who⟩
   have t2':=t2
   rw [hl.f] at t2 t3
   refine .inr ⟨r.Term,(reachedL r.Match).toNat,⟨t3.symm,t2,r.Match.map fun x=>decide (reachedL r.Match≤x),by rw [List.length_map]; omega,?_,fun j hj=>?_⟩,Int.le_refl _,Nat.le_refl _,t2',by rw [hl.f]⟩
   ·unfold wonL
    rw [countP_map,List.length_map]
    exact decide_eq_true hR.maj
   ·rw [List.getElem?_map] at hj
    cases hv:r.Match[j]? with
    | none=>rw [hv] at hj; cases hj
    | some v=>
      rw [hv] at hj
      have hj:decide (reachedL r.Match≤v) = true:=Option.some.inj hj
      have hj:=of_decide_eq_true hj
      have:=hl.m j v hv
      omega
  ·exact h
theorem behind_mem{B:Int}(hi:GInv n g)(h:MemG n g r)(hok:OkR B r)(h3:r.Role=3)(data:List Int):∃ g',ExtG r.Id g g'∧GInv n g'∧MemG n g' (behindR r data):=by
  have hl:=h.lead h3
  have hT:=h.T
  have hid:r.Id≠0:=by have:=hok.id; omega
  have hL:g.L (g.T r.Id) = r.Id:=by rw [hT]; exact hl.l
  have hF:g.F r.Id=g.G (g.T r.Id):=by rw [hT]; exact hl.f
  have hx:=add_ext hi (e:=⟨r.Term,data⟩) hL hF
  have hFk:(g.add r.Id ⟨r.Term,data⟩).F r.Id=g.F r.Id++[⟨r.Term,data⟩]:=by simp [Gh.add]
  have hlast:=h.log.last
  have hlast':lastL (behindR r data).Log=lastL r.Log + 1:=by
    have:=(h.log.add ⟨r.Term,data⟩).last
    rw [List.length_append] at this
    show lastL ⟨r.Log.Base,r.Log.BaseTerm,r.Log.Entries++[⟨r.Term,data⟩]⟩ = _
    rw [this,hlast]
    simp
  refine ⟨_,hx,add_inv hi hT.symm (by rw [hT]; exact hl.t) (by rw [hL]; exact hid) hF,?_⟩
  refine ⟨h.T,h.V,?_,h.bc,?_,fun hr=>by have hr:r.Role=2:=hr; omega,fun _=>⟨hl.t,hl.l,?_,fun j v hj=>?_,fun v hv=>?_⟩,h.who⟩
  ·show LogF _ ((g.add r.Id ⟨r.Term,data⟩).F r.Id)
   rw [hFk]
   exact h.log.add _
  ·show Wit n _ r.Commit.toNat ((g.add r.Id ⟨r.Term,data⟩).F r.Id) r.Term
   rw [hFk]
   have:=h.wit.len
   exact (h.wit.ext hx).mono (Int.le_refl _) (Nat.le_refl _) (by simp; omega) (take_app this)
  ·show (g.add r.Id ⟨r.Term,data⟩).F r.Id=(g.add r.Id ⟨r.Term,data⟩).G r.Term
   rw [hFk]
   simp [Gh.add,hT]
  ·have hj:(setI r.Match (r.Id - 1) (lastL r.Log + 1))[j]? = some v:=hj
   show v≤(((g.add r.Id ⟨r.Term,data⟩).A ((j:Int) + 1) r.Term:Nat):Int)
   unfold setI at hj
   have hidp:=hok.id
   by_cases hjk:(r.Id - 1).toNat=j
   ·have e:(j:Int) + 1=r.Id:=by omega
    have hjl:(r.Id - 1).toNat < r.Match.length:=by
      have:=get_ltA hj
      rw [List.length_set] at this
      omega
    rw [← hjk,List.getElem?_set_self hjl] at hj
    have hj:=Option.some.inj hj
    rw [e]
    simp only [Gh.add,hT,true_and,and_self,↓reduceIte]
    omega
   ·rw [List.getElem?_set_ne hjk] at hj
    have:=hl.m j v hj
    have:=hx.Ak ((j:Int) + 1) r.Term
    omega
  ·have hv:v∈r.Next:=hv
   have:=hl.x v hv
   rw [hlast']
   omega
theorem append_goodG{B:Int}(hi:GInv n g)(h:MemG n g r)(hok:OkR B r)(hB0:0≤B)(hN:r.N=(n:Int))(h3:r.Role=3){data:List Int}(hd:data.length≤1000):GoodG n g r.Id (appendR r data):=by
  obtain ⟨g',e1,e2,e3⟩:=behind_mem hi h hok h3 data
  have hok':=behind_ok hok h3 hd
  have hm:=commit_mem e3 hok' hN h3
  refine ⟨g',e1,e2,hm,fun y hy=>?_⟩
  obtain ⟨to,hto,rfl⟩:=List.mem_map.1 hy
  obtain ⟨o1,o2,_⟩:=others_mem hok hto
  exact tell_msg e2 hm (commit_ok hok' h3) (by rw [commitR_role]; exact h3) o1 (by rw [commitR_n]; exact o2)
theorem lead_goodG{B:Int}(hi:GInv n g)(h:MemG n g r)(hok:OkR B r)(hB0:0≤B)(hN:r.N=(n:Int))(h2:r.Role=2)(hgl:r.Granted.length=n)(hw:wonL r.Granted=true):GoodG n g r.Id (leadR r):=by
  have hc:=h.cand h2
  have hT:=h.T
  have hid:r.Id≠0:=by have:=hok.id; omega
  have hL:g.L (g.T r.Id) = 0:=by
    rw [hT]
    rcases Classical.em (g.L r.Term=0) with h0 | h0
    ·exact h0
    ·exfalso
     obtain ⟨q,q1,q2,q3⟩:=hi.q r.Term h0
     obtain ⟨j,j1,j2⟩:=won_meet (q1.trans hgl.symm) q2 hw
     apply hc.l
     rw [← q3 j j1,hc.v j j2]
  have hx:=elect_ext hi hL
  have hinv:=elect_inv hi hid hL (by rw [hT]; exact hc.f) ⟨r.Granted,hgl,hw,fun j hj=>by rw [hT]; exact hc.v j hj⟩
  have e1:(leadQ r).Term=r.Term:=by simp [leadQ,followR]
  have e2:(leadQ r).Vote=r.Vote:=by simp [leadQ,followR]
  refine .comp hx (append_goodG (r:=leadQ r) hinv ?_ (leadQ_ok hok hB0) hB0 hN rfl (by simp))
  refine ⟨by rw [e1]; exact h.T,by rw [e1,e2]; exact h.V,h.log,h.bc,by rw [e1]; exact h.wit.ext hx,fun hr=>by simp [leadQ] at hr,fun _=>⟨by rw [e1]; exact hc.t,?_,?_,fun j v hj=>?_,fun v hv=>?_⟩,?_⟩
  ·rw [e1]; show (if r.Term=g.T r.Id then r.Id else g.L r.Term) = r.Id; rw [if_pos hT.symm]
  ·rw [e1]; show g.F r.Id=(if r.Term=g.T r.Id then g.F r.Id else g.G r.Term); rw [if_pos hT.symm]
  ·have hj:(List.replicate r.N.toNat (0:Int))[j]? = some v:=hj
   rw [List.getElem?_replicate] at hj
   split at hj
   ·have:=Option.some.inj hj; omega
   ·cases hj
  ·have hv:v∈List.replicate r.N.toNat (lastL r.Log + 1):=hv
   rw [(List.mem_replicate.1 hv).2]
   exact Int.le_refl _
  ·constructor
   ·intro _; rfl
   ·intro _; rfl
theorem stand_goodG{B:Int}(hi:GInv n g)(h:MemG n g r)(hok:OkR B r)(hB0:0≤B)(hN:r.N=(n:Int)):GoodG n g r.Id (standR r):=by
  have hT:=h.T
  have hid:r.Id≠0:=by have:=hok.id; omega
  have e1:(standQ r).Term=r.Term + 1:=by simp [standQ,followR]; omega
  have hx:=stand_ext (k:=r.Id) hi
  have hinv:=stand_inv hi hid
  have hm:MemG n (g.stand r.Id) (standQ r):=by
    refine ⟨by rw [e1]; simp [Gh.stand,standQ,followR,hT],by rw [e1]; simp [Gh.stand,standQ,followR,hT],h.log,h.bc,by rw [e1]; exact (h.wit.ext hx).mono (by omega) (Nat.le_refl _) h.wit.len rfl,fun _=>⟨?_,fun j hj=>?_,?_,?_⟩,fun hr=>by simp [standQ] at hr,?_⟩
    ·rw [e1]; have:=hok.term; omega
    ·have hj:(oneG r)[j]? = some true:=hj
     have:=oneG_true hok.id.1 hj
     rw [e1,this]
     simp [Gh.stand,standQ,followR,hT]
    ·rw [e1]; simp [Gh.stand,standQ,followR,hT]
    ·rw [e1]
     show g.L (r.Term + 1)≠r.Id
     intro hl
     obtain ⟨q,q1,q2,q3⟩:=hi.q (r.Term + 1) (by rw [hl]; exact hid)
     obtain ⟨j,j1,_⟩:=won_meet rfl q2 q2
     have hv:=q3 j j1
     have:=hi.vc (r.Term + 1) ((j:Int) + 1) (by rw [hv,hl]; exact hid)
     rw [hv,hl,hT] at this
     omega
    ·constructor
     ·intro hr; simp [standQ] at hr
     ·intro hr; have hr:(0:Int) = r.Id:=hr; omega
  refine .comp hx ?_
  unfold standR
  split
  ·rename_i hw
   refine lead_goodG hinv hm (standQ_ok hok hB0) (by omega) hN rfl ?_ hw
   show (oneG r).length=n
   unfold oneG
   rw [setI_length]
   simp
   omega
  ·refine .keep hinv hm fun y hy=>?_
   obtain ⟨to,_,rfl⟩:=List.mem_map.1 hy
   refine ⟨fun _=>?_,fun hk=>by simp [voteM] at hk,fun hk=>by simp [voteM] at hk,fun hk=>by simp [voteM] at hk,fun hk=>by simp [voteM] at hk⟩
   have hc:=(hm.cand rfl).f
   show (standQ r).Term≤(g.stand r.Id).T (standQ r).Id∧lastL (standQ r).Log=(((g.stand r.Id).C (standQ r).Term (standQ r).Id).length:Int)∧lastTermL (standQ r).Log=tAt ((g.stand r.Id).C (standQ r).Term (standQ r).Id) ((g.stand r.Id).C (standQ r).Term (standQ r).Id).length
   rw [← hc]
   exact ⟨by rw [hm.T]; exact Int.le_refl _,hm.log.last,hm.log.lastTerm⟩
theorem askQ_memG{B:Int}(h:MemG n g r)(hok:OkR B r)(draw:Int):MemG n g (askQ r draw):=
  h.of rfl (by simp [askQ,followR]) (by simp [askQ,followR]) rfl rfl (.inl ⟨.inr rfl,by show (0:Int)≠r.Id; have:=hok.id; omega⟩)
theorem ask_goodG{B:Int}(hi:GInv n g)(h:MemG n g r)(hok:OkR B r)(hB0:0≤B)(hN:r.N=(n:Int))(draw:Int):GoodG n g r.Id (askR r draw):=by
  have hm:=askQ_memG h hok draw
  unfold askR
  split
  ·exact stand_goodG hi hm (askQ_ok hok hB0 draw) hB0 hN
  ·refine .keep hi hm fun y hy=>?_
   obtain ⟨to,_,rfl⟩:=List.mem_map.1 hy
   exact .mute (.inl rfl)
theorem tick_goodG{B:Int}(hi:GInv n g)(h:MemG n g r)(hok:OkR B r)(hB0:0≤B)(hN:r.N=(n:Int))(draw:Int):GoodG n g r.Id (tickR r draw):=by
  have hq:∀ c:Int,MemG n g { r with Clock:=c }:=fun c=>h.of rfl rfl rfl rfl rfl (.inr ⟨rfl,rfl,rfl,rfl,rfl⟩)
  unfold tickR
  simp only
  split
  ·rename_i h3
   split
   ·refine .keep hi (hq 0) fun y hy=>?_
    obtain ⟨to,hto,rfl⟩:=List.mem_map.1 hy
    obtain ⟨o1,o2,_⟩:=others_mem hok hto
    exact tell_msg hi (hq 0) (tick1_ok hok hB0) h3 o1 o2
   ·exact .keep hi (hq _) (by simp)
  ·split
   ·exact ask_goodG hi (hq _) (tick0_ok hok) (by omega) hN draw
   ·exact .keep hi (hq _) (by simp)
end
end Go.Proofs.Ytgoachcogmlhcaa.R
set_option maxRecDepth 100000
set_option linter.unusedVariables false
set_option linter.unusedSimpArgs false
noncomputable section
namespace Go.Proofs.Ytgoachcogmlhcaa.R
open Go
section
variable {n:Nat} {g g':Gh} {k:Int} {r:TRaft} {x:TMsg} {B:Int}
theorem back_told(h:x.At.toNat=x.At.toNat){q:TRaft}{t at0:Int}(ha:at0.toNat≤g.A q.Id t):MsgG n g (backM q x 6 t at0 true):=
  ⟨fun hk=>by simp [backM] at hk,fun hk=>by simp [backM] at hk,fun hk=>by simp [backM] at hk,fun _ _=>ha,fun hk=>by simp [backM] at hk⟩
theorem back_mute{q:TRaft}{kind t at0:Int}(hk:kind=2∨kind=4∨kind=6){ok:Bool}(ho:kind=2∨ok=false):MsgG n g (backM q x kind t at0 ok):=by
  refine .mute ?_
  show kind=1∨kind=2∨((kind=4∨kind=6)∧ok=false)
  rcases ho with ho | ho
  ·exact .inr (.inl ho)
  ·rcases hk with hk | hk | hk
   ·exact .inr (.inl hk)
   ·exact .inr (.inr ⟨.inl hk,ho⟩)
   ·exact .inr (.inr ⟨.inr hk,ho⟩)
theorem vote_goodG(hi:GInv n g)(h:MemG n g r)(hid:r.Id≠0)(hf:1≤x.From)(hx:MsgG n g x)(hk3:x.Kind=3):GoodG n g r.Id (voteR r x):=by
  have hT:=h.T
  unfold voteR
  by_cases hb:voteB r x=true
  ·rw [if_pos hb]
   unfold voteB newerL at hb
   simp only [Bool.and_eq_true,Bool.or_eq_true,decide_eq_true_eq] at hb
   obtain ⟨b1,b2,b3,b4⟩:=hb
   obtain ⟨a1,a2,a3⟩:=hx.ask hk3
   have hv:g.V (g.T r.Id) r.Id=0∨g.V (g.T r.Id) r.Id=x.From:=by rw [hT,h.V]; exact b3
   have hext:=vote_ext hv
   have hVt:(g.vote r.Id x.From).V r.Term r.Id=x.From:=by simp [Gh.vote,hT]
   rw [b1] at a1 a2 a3
   refine ⟨_,hext,vote_inv hi hv (by rw [hT]; exact a1) ?_,⟨h.T,hVt,h.log,h.bc,h.wit.ext hext,fun hr=>?_,fun hr=>?_,h.who⟩,MsgG.one ⟨fun hk=>by simp [backM] at hk,fun _ _=>⟨by show x.From≠0; omega,hVt⟩,fun hk=>by simp [backM] at hk,fun hk=>by simp [backM] at hk,fun hk=>by simp [backM] at hk⟩⟩
   ·rw [hT,← a3]
    rw [h.log.lastTerm,h.log.last] at b4
    rcases b4 with b4 | ⟨b4,b5⟩
    ·exact .inl b4
    ·exact .inr ⟨b4.symm,by omega⟩
   ·have hr:r.Role=2:=hr
    omega
   ·have hr:r.Role=3:=hr
    omega
  ·rw [if_neg hb]
   exact .keep hi h (MsgG.one (back_mute (.inr (.inl rfl)) (.inr rfl)))
theorem hear_mem(hi:GInv n g)(h:MemG n g r)(hd:deafB r x=false)(hf:x.From≠r.Id):∃ g',ExtG r.Id g g'∧GInv n g'∧MemG n g' (hearQ r x)∧(hearQ r x).Term=x.Term:=by
  obtain ⟨g',e1,e2,e3,_⟩:=h.follow hi (t:=x.Term) (l:=x.From) hf
  refine ⟨g',e1,e2,e3.of rfl rfl rfl rfl rfl (.inr ⟨rfl,rfl,rfl,rfl,rfl⟩),?_⟩
  unfold deafB at hd
  simp only [Bool.or_eq_false_iff,decide_eq_false_iff_not] at hd
  show (if r.Term < x.Term then x.Term else r.Term) = x.Term
  split <;> omega
theorem accept_mem{q:TRaft}(hi:GInv n g)(h:MemG n g q)(hL:g.L q.Term≠0){m:Nat}(hm:m≤(g.G q.Term).length)(hr:q.Role=0){p:TRaft}(p1:p.Id=q.Id)(p2:p.Term=q.Term)(p3:p.Vote=q.Vote)(p4:p.Role=q.Role)(p5:p.Lead=q.Lead)
    (hlog:LogF p.Log (merge (g.F q.Id) (g.G q.Term) m)) (hbc:p.Log.Base≤p.Commit) (hw:p.Commit=q.Commit∨(p.Commit.toNat≤m∧Wit n g p.Commit.toNat (g.G q.Term) q.Term)):ExtG q.Id g (g.accept q.Id m)∧GInv n (g.accept q.Id m)∧MemG n (g.accept q.Id m) p∧m≤(g.accept q.Id m).A q.Id q.Term:=by
  have hT:=h.T
  have hx:ExtG q.Id g (g.accept q.Id m):=accept_ext
  have hm':m≤(g.G (g.T q.Id)).length:=by rw [hT]; exact hm
  have hF:(g.accept q.Id m).F q.Id=merge (g.F q.Id) (g.G q.Term) m:=by simp [Gh.accept,hT]
  have hA:(g.accept q.Id m).A q.Id q.Term=Nat.max (g.A q.Id q.Term) m:=by simp [Gh.accept,hT]
  refine ⟨hx,accept_inv hi hm' (by rw [hT]; exact hL),⟨?_,?_,?_,hbc,?_,fun h2=>?_,fun h3=>?_,?_⟩,?_⟩
  ·rw [p1,p2]; exact h.T
  ·rw [p1,p2,p3]; exact h.V
  ·rw [p1,hF]; exact hlog
  ·rw [p1,p2,hF]
   rcases hw with hw | ⟨hw1,hw2⟩
   ·rw [hw]
    obtain ⟨w1,w2⟩:=wit_in hi h.wit hL
    have:=merge_keep (m:=m) h.wit.len w2 w1
    exact (h.wit.ext hx).mono (Int.le_refl _) (Nat.le_refl _) this.1 (this.2.trans w2.symm)
   ·obtain ⟨m1,m2⟩:=merge_take (f:=g.F q.Id) hm
    exact (hw2.ext hx).mono (Int.le_refl _) (Nat.le_refl _) (Nat.le_trans hw1 m1) (take_le hw1 m2)
  ·omega
  ·omega
  ·rw [p4,p5,p1]; exact h.who
  ·rw [hA]; exact Nat.le_max_right _ _
theorem maxI_le(a b:Int):a≤maxI a b∧b≤maxI a b∧(maxI a b=a∨maxI a b=b):=by
  unfold maxI
  split
  ·omega
  ·omega
theorem minI_le(a b:Int):minI a b≤a∧minI a b≤b∧(minI a b=a∨minI a b=b):=by
  unfold minI
  split <;> omega
theorem ents_put{q:TRaft}(hi:GInv n g)(h:MemG n g q)(hok:OkR B q)(hx:OkM B x)(hL:g.L q.Term≠0)(hxe:x.At.toNat + x.Entries.length≤(g.G q.Term).length)(hes:x.Entries=((g.G q.Term).take (x.At.toNat + x.Entries.length)).drop x.At.toNat)(hat:x.AtTerm=tAt (g.G q.Term) x.At.toNat)(hpo:(putL q.Log x.At x.AtTerm x.Entries).2.2=true) :
    ∃ m:Nat,m≤(g.G q.Term).length∧LogF (putL q.Log x.At x.AtTerm x.Entries).1 (merge (g.F q.Id) (g.G q.Term) m)∧(putL q.Log x.At x.AtTerm x.Entries).2.1=(m:Int)∧(putL q.Log x.At x.AtTerm x.Entries).1.Base=q.Log.Base:=by
  have hb:=h.log.b; have hb0:=h.log.b0; have hbc:=h.bc
  have hx0:=hx.at0.1
  obtain ⟨w1,w2⟩:=wit_in hi h.wit hL
  have hbt:(g.F q.Id).take q.Log.Base.toNat=(g.G q.Term).take q.Log.Base.toNat:=take_le (by omega) w2
  have hbase:∀ {a t:Int} {es:List TEntry},(putC q.Log a t es).1.Base=q.Log.Base:=by
    intro a t es
    unfold putC
    split
    ·rfl
    ·split <;> rfl
  unfold putL at hpo ⊢
  split
  ·rename_i hlt
   rw [if_pos hlt] at hpo
   split
   ·rename_i hsm
    refine ⟨q.Log.Base.toNat,by omega,?_,(show q.Log.Base=((q.Log.Base.toNat:Nat):Int) by omega),rfl⟩
    unfold merge
    rw [if_pos ⟨hb,hbt⟩]
    exact h.log
   ·rename_i hsm
    rw [if_neg hsm] at hpo
    have hlen:q.Log.Base.toNat + (x.Entries.drop (q.Log.Base - x.At).toNat).length=x.At.toNat + x.Entries.length:=by
      rw [List.length_drop]
      omega
    have hd:x.Entries.drop (q.Log.Base - x.At).toNat=((g.G q.Term).take (x.At.toNat + x.Entries.length)).drop q.Log.Base.toNat:=by
      have:=congrArg (List.drop (q.Log.Base - x.At).toNat) hes
      rw [List.drop_drop,show x.At.toNat + (q.Log.Base - x.At).toNat=q.Log.Base.toNat by omega] at this
      exact this
    have:=putC_eq (G:=g.G) (gt:=g.G q.Term) h.log (hi.pF _) (hi.pG _) (Int.le_refl _) (by rw [hlen]; exact hxe) (by rw [h.log.t]; exact tAt_eq (Nat.le_refl _) hbt) (by rw [hlen]; exact hd) hpo
    rw [hlen] at this
    exact ⟨_,hxe,this.1,this.2,hbase⟩
  ·rename_i hlt
   rw [if_neg hlt] at hpo
   have:=putC_eq (G:=g.G) (gt:=g.G q.Term) h.log (hi.pF _) (hi.pG _) (by omega) hxe hat hes hpo
   exact ⟨_,hxe,this.1,this.2,hbase⟩
theorem entries_goodG(hi:GInv n g)(h:MemG n g r)(hok:OkR B r)(hB0:0≤B)(hx:OkM B x)(hf:x.From≠r.Id)(hm:MsgG n g x)(hk:x.Kind=5):GoodG n g r.Id (entriesR r x):=by
  unfold entriesR
  split
  ·exact .keep hi h (MsgG.one (back_mute (.inr (.inr rfl)) (.inr rfl)))
  ·rename_i hd
   have hd:deafB r x=false:=by simpa using hd
   obtain ⟨g',e1,e2,e3,e4⟩:=hear_mem hi h hd hf
   obtain ⟨a1,a2,a3,a4,a5⟩:=(hm.ext e1).ents hk
   rw [← e4] at a1 a2 a3 a4 a5
   have hqo:=hearQ_ok hok hB0 hx
   have hlg:(hearQ r x).Log=r.Log:=rfl
   refine .comp e1 ?_
   simp only
   split
   ·rename_i hpo
    obtain ⟨m,m1,m2,m3,m4⟩:=ents_put e2 e3 hqo hx a1 a2 a3 a4 hpo
    rw [hlg] at m2 m3 m4
    have hcm:=hok.commit
    have hmx:=maxI_le r.Commit (minI x.Commit (putL r.Log x.At x.AtTerm x.Entries).2.1)
    have hmn:=minI_le x.Commit (putL r.Log x.At x.AtTerm x.Entries).2.1
    have hxc:=hx.commit
    obtain ⟨f1,f2,f3,f4⟩:=accept_mem e2 e3 a1 m1 rfl (p:={ hearQ r x with Log:=(putL r.Log x.At x.AtTerm x.Entries).1,Commit:=maxI r.Commit (minI x.Commit (putL r.Log x.At x.AtTerm x.Entries).2.1) }) rfl rfl rfl rfl rfl m2
      (by show (putL r.Log x.At x.AtTerm x.Entries).1.Base≤maxI r.Commit _; rw [m4]; have:=h.bc; omega)
      (by
        show maxI r.Commit _=r.Commit∨_
        rcases hmx.2.2 with hh | hh
        ·exact .inl hh
        ·right
         show (maxI r.Commit _).toNat≤m∧Wit n g' (maxI r.Commit _).toNat _ _
         rw [hh]
         refine ⟨by omega,a5.mono (Int.le_refl _) (by omega) ?_ rfl⟩
         have:=a5.len
         omega)
    refine ⟨_,f1,f2,f3,MsgG.one (back_told rfl ?_)⟩
    rw [m3]
    exact f4
   ·exact .keep e2 e3 (MsgG.one (back_mute (.inr (.inr rfl)) (.inr rfl)))
theorem snap_goodG(hi:GInv n g)(h:MemG n g r)(hok:OkR B r)(hx:OkM B x)(hf:x.From≠r.Id)(hm:MsgG n g x)(hk:x.Kind=7):GoodG n g r.Id (snapR r x):=by
  unfold snapR
  split
  ·exact .keep hi h (MsgG.one (back_mute (.inr (.inr rfl)) (.inr rfl)))
  ·rename_i hd
   have hd:deafB r x=false:=by simpa using hd
   obtain ⟨g',e1,e2,e3,e4⟩:=hear_mem hi h hd hf
   obtain ⟨a1,a2,a4,a5⟩:=(hm.ext e1).snap hk
   rw [← e4] at a1 a2 a4 a5
   have hlg:(hearQ r x).Log=r.Log:=rfl
   have hbc:=h.bc
   have hcm:=hok.commit
   refine .comp e1 ?_
   simp only
   split
   ·rename_i hlt
    have hl:LogF (resetL r.Log x.At x.AtTerm) (merge (g'.F (hearQ r x).Id) (g'.G (hearQ r x).Term) x.At.toNat):=LogF.reset (G:=g'.G) e3.log (e2.pF _) (e2.pG _) (by rw [hlg]; omega) a2 a4
    have hbase:(resetL r.Log x.At x.AtTerm).Base=x.At:=by unfold resetL; split <;> rfl
    obtain ⟨f1,f2,f3,f4⟩:=accept_mem e2 e3 a1 a2 rfl (p:={ hearQ r x with Log:=resetL r.Log x.At x.AtTerm,Commit:=x.At,Snap:=x.Data }) rfl rfl rfl rfl rfl hl
      (by show (resetL r.Log x.At x.AtTerm).Base≤x.At; rw [hbase]; exact Int.le_refl _) (.inr ⟨Nat.le_refl _,a5⟩)
    exact ⟨_,f1,f2,f3,MsgG.one (back_told rfl f4)⟩
   ·rename_i hlt
    obtain ⟨w1,w2⟩:=wit_in e2 e3.wit a1
    have hml:LogF (hearQ r x).Log (merge (g'.F (hearQ r x).Id) (g'.G (hearQ r x).Term) (hearQ r x).Commit.toNat):=by
      unfold merge
      rw [if_pos ⟨e3.wit.len,w2⟩]
      exact e3.log
    obtain ⟨f1,f2,f3,f4⟩:=accept_mem e2 e3 a1 w1 rfl (p:=hearQ r x) rfl rfl rfl rfl rfl hml e3.bc (.inl rfl)
    exact ⟨_,f1,f2,f3,MsgG.one (back_told rfl f4)⟩
theorem told_goodG(hi:GInv n g)(h:MemG n g r)(hok:OkR B r)(hB0:0≤B)(hN:r.N=(n:Int))(hx:OkM B x)(hf1:1≤x.From)(hf2:x.From≤r.N)(ht:x.Term≤r.Term)(hm:MsgG n g x)(hk:x.Kind=6):GoodG n g r.Id (toldR r x):=by
  unfold toldR
  split
  ·exact .keep hi h (by simp)
  ·rename_i hc
   have hte:x.Term=r.Term:=by omega
   have h3:r.Role=3:=by omega
   have hl:=h.lead h3
   have hlast:=h.log.last
   have hml:=hok.ma h3
   have hnl:=hok.na h3
   obtain ⟨_,mt0,mtB⟩:=match_ok hok h3 hf1 hf2
   have hmt:matchR r x.From≤(g.A x.From r.Term:Int):=by
     unfold matchR at *
     have hlt:(x.From - 1).toNat < r.Match.length:=by omega
     rw [List.getElem?_eq_getElem hlt] at *
     have:=hl.m _ _ (List.getElem?_eq_getElem hlt)
     rw [show (((x.From - 1).toNat:Nat):Int) + 1=x.From by omega] at this
     exact this
   have haG:∀ j,(g.A j r.Term:Int)≤lastL r.Log:=by
     intro j
     have:=hi.aG j r.Term
     rw [← hl.f] at this
     omega
   have hnx:nextR r x.From≤lastL r.Log + 1:=by
     unfold nextR
     have hlt:(x.From - 1).toNat < r.Next.length:=by omega
     rw [List.getElem?_eq_getElem hlt]
     exact hl.x _ (List.getElem_mem hlt)
   have hma:matchR r x.From≤lastL r.Log:=Int.le_trans hmt (haG _)
   have hmnA:=minI_le x.At (lastL r.Log)
   have hmn2:=minI_le (nextR r x.From - 2) x.At
   have htM:=maxI_le (matchR r x.From) (minI x.At (lastL r.Log))
   have htN:=maxI_le (nextR r x.From) (toldM r x + 1)
   have htB:=maxI_le (matchR r x.From + 1) (minI (nextR r x.From - 2) x.At + 1)
   have eM:toldM r x=maxI (matchR r x.From) (minI x.At (lastL r.Log)):=rfl
   have eN:toldN r x=maxI (nextR r x.From) (toldM r x + 1):=rfl
   have eB:toldB r x=maxI (matchR r x.From + 1) (minI (nextR r x.From - 2) x.At + 1):=rfl
   split
   ·rename_i hxo
    have hA:=hm.told hk hxo
    rw [hte] at hA
    have hx0:=hx.at0
    have hM:toldM r x≤(g.A x.From r.Term:Int):=by omega
    have hm0:MemG n g { r with Next:=setI r.Next (x.From - 1) (toldN r x),Match:=setI r.Match (x.From - 1) (toldM r x) }:=by
      refine ⟨h.T,h.V,h.log,h.bc,h.wit,fun hr=>by have hr:r.Role=2:=hr; omega,fun _=>⟨hl.t,hl.l,hl.f,fun j v hj=>?_,fun v hv=>?_⟩,h.who⟩
      ·have hj:(setI r.Match (x.From - 1) (toldM r x))[j]? = some v:=hj
       unfold setI at hj
       by_cases hjk:(x.From - 1).toNat=j
       ·have hjl:(x.From - 1).toNat < r.Match.length:=by omega
        rw [← hjk,List.getElem?_set_self hjl] at hj
        have hj:=Option.some.inj hj
        rw [show (j:Int) + 1=x.From by omega]
        show v≤(g.A x.From r.Term:Int)
        omega
       ·rw [List.getElem?_set_ne hjk] at hj
        exact hl.m j v hj
      ·have hv:v∈setI r.Next (x.From - 1) (toldN r x):=hv
       show v≤lastL r.Log + 1
       rcases setI_mem hv with hv | hv
       ·omega
       ·exact hl.x v hv
    have hq:=commit_mem hm0 (told0_ok hok h3 hx hf1 hf2) hN h3
    split
    ·exact .keep hi hq (by simp)
    ·exact .keep hi hq (MsgG.one (tell_msg hi hq (toldQ_ok hok h3 hx hf1 hf2) (commitR_role.trans h3) hf1 (by rw [commitR_n]; exact hf2)))
   ·have hp:MemG n g (toldP r x):=by
      refine ⟨h.T,h.V,h.log,h.bc,h.wit,fun hr=>by have hr:r.Role=2:=hr; omega,fun _=>⟨hl.t,hl.l,hl.f,hl.m,fun v hv=>?_⟩,h.who⟩
      have hv:v∈setI r.Next (x.From - 1) (toldB r x):=hv
      show v≤lastL r.Log + 1
      rcases setI_mem hv with hv | hv
      ·omega
      ·exact hl.x v hv
    exact .keep hi hp (MsgG.one (tell_msg hi hp (toldP_ok hok h3 hx hf1 hf2) h3 hf1 hf2))
theorem take_goodG(hi:GInv n g)(h:MemG n g r)(hok:OkR B r)(hB0:0≤B)(hN:r.N=(n:Int))(hx:OkM B x)(hto:x.To=r.Id)(hf1:1≤x.From)(hf2:x.From≤r.N)(hf:x.From≠r.Id)(ht:x.Kind≠1∧x.Kind≠2→x.Term≤r.Term)(hm:MsgG n g x):GoodG n g r.Id (takeR r x):=by
  have none:GoodG n g r.Id (r,[]):=.keep hi h (by simp)
  have hid:=hok.id
  unfold takeR
  split
  ·exact .keep hi h (MsgG.one (back_mute (.inl rfl) (.inl rfl)))
  split
  ·unfold askOkR
   split
   ·rename_i hc
    have hl1:r.Lead≠r.Id:=fun e=>by have:=h.who.2 e; omega
    have hgr:MemG n g (grantedR r x):=h.of rfl rfl rfl rfl rfl (.inl ⟨.inr hc.2.1,hl1⟩)
    split
    ·exact stand_goodG (r:=grantedR r x) hi hgr (granted_ok hok true) hB0 hN
    ·exact .keep hi hgr (by simp)
   ·exact none
  split
  ·rename_i hk3
   exact vote_goodG hi h (by omega) hf1 hm hk3
  split
  ·rename_i hk4
   unfold voteOkR
   split
   ·rename_i hc
    obtain ⟨c1,c2,c3⟩:=hc
    obtain ⟨v1,v2⟩:=hm.vote hk4 c1
    have hca:=h.cand c2
    have hgr:MemG n g (grantedR r x):=by
      refine ⟨h.T,h.V,h.log,h.bc,h.wit,fun _=>⟨hca.t,fun j hj=>?_,hca.f,hca.l⟩,fun hr=>by have hr:r.Role=3:=hr; omega,h.who⟩
      have hj:(setI r.Granted (x.From - 1) true)[j]? = some true:=hj
      rcases setI_true (by omega) hj with hj | hj
      ·show g.V r.Term ((j:Int) + 1) = r.Id
       rw [show (j:Int) + 1=x.From by omega,← c3,v2,hto]
      ·exact hca.v j hj
    split
    ·rename_i hw
     refine lead_goodG (r:=grantedR r x) hi hgr (granted_ok hok true) hB0 hN c2 ?_ hw
     show (setI r.Granted _ _).length=n
     rw [setI_length]
     have:=hok.ga (.inr c2)
     omega
    ·exact .keep hi hgr (by simp)
   ·exact none
  split
  ·rename_i hk
   exact entries_goodG hi h hok hB0 hx hf hm hk
  split
  ·rename_i hk
   exact told_goodG hi h hok hB0 hN hx hf1 hf2 (ht (by omega)) hm hk
  split
  ·rename_i hk
   exact snap_goodG hi h hok hx hf hm hk
  ·exact none
theorem receive_goodG(hi:GInv n g)(h:MemG n g r)(hok:OkR B r)(hB0:0≤B)(hN:r.N=(n:Int))(hx:OkM B x)(hm:MsgG n g x):GoodG n g r.Id (receiveR r x):=by
  unfold receiveR
  split
  ·exact .keep hi h (by simp)
  ·rename_i hr
   have hv:refuseB r x=false:=by simpa using hr
   unfold refuseB at hv
   simp only [Bool.or_eq_false_iff,decide_eq_false_iff_not] at hv
   obtain ⟨v1,v2,v3,v4,_⟩:=hv
   have v1:x.To=r.Id:=Classical.not_not.1 v1
   have hid:=hok.id
   split
   ·rename_i hb
    obtain ⟨g',e1,e2,e3,_⟩:=h.follow hi (t:=x.Term) (l:=0) (by omega)
    refine .comp e1 (take_goodG (r:=followR r x.Term 0) e2 e3 (follow_ok hok hx.term.2) hB0 hN hx v1 (by omega) (by show x.From≤r.N; omega) v4 (fun _=>?_) (hm.ext e1))
    show x.Term≤if r.Term < x.Term then x.Term else r.Term
    split <;> omega
   ·rename_i hb
    refine take_goodG hi h hok hB0 hN hx v1 (by omega) (by omega) v4 (fun hk=>?_) hm
    rcases Int.lt_or_le r.Term x.Term with hlt | hle
    ·exfalso
     apply hb
     unfold riseB
     simp [hlt,hk.1,hk.2]
    ·exact hle
theorem compact_goodG(hi:GInv n g)(h:MemG n g r)(upto:Int)(snap:List Int)(hc:compactB r upto=true):GoodG n g r.Id (compactR r upto snap,[]):=by
  unfold compactB at hc
  simp only [Bool.and_eq_true,decide_eq_true_eq] at hc
  obtain ⟨c1,c2,c3⟩:=hc
  have hcl:r.Commit.toNat≤(g.F r.Id).length:=h.wit.len
  have hlast:lastL (compactL r.Log upto) = lastL r.Log:=by
    rw [(h.log.compact (i:=upto) (by omega) (by omega)).last,h.log.last]
  refine .keep hi ⟨h.T,h.V,h.log.compact (by omega) (by omega),c2,h.wit,fun hr=>?_,fun hr=>?_,h.who⟩ (by simp)
  ·have:=h.cand hr
   exact ⟨this.t,this.v,this.f,this.l⟩
  ·have:=h.lead hr
   exact ⟨this.t,this.l,this.f,this.m,fun v hv=>by show v≤lastL (compactL r.Log upto) + 1; rw [hlast]; exact this.x v hv⟩
theorem restart_goodG(hi:GInv n g)(h:MemG n g r)(hid:1≤r.Id):GoodG n g r.Id (restartR r,[]):=by
  have hbc:=h.bc
  refine .keep hi ⟨h.T,h.V,h.log,Int.le_refl _,h.wit.mono (Int.le_refl _) (by show r.Log.Base.toNat≤_; omega) h.log.b rfl,fun hr=>?_,fun hr=>?_,?_⟩ (by simp)
  ·have hr:(0:Int) = 2:=hr
   omega
  ·have hr:(0:Int) = 3:=hr
   omega
  ·constructor
   ·intro hr; have hr:(0:Int) = 3:=hr; omega
   ·intro hr; have hr:(0:Int) = r.Id:=hr; omega
end
structure InvG (n:Nat) (w:TWorld) (g:Gh):Prop where
  mem:∀ (k:Nat) (r:TRaft),w.R[k]? = some r→MemG n g r
  net:∀ x∈w.Net,MsgG n g x
  inv:GInv n g
theorem step_invG{c:Bool}{n:Nat}{w w':TWorld}{B:Int}{g:Gh}(hw:OkW B n w)(hB0:0≤B)(h:InvG n w g)(hs:StepW c w w'):∃ k g',ExtG k g g'∧InvG n w' g':=by
  cases hs with
  | less net hn=>exact ⟨0,g,ExtG.refl _ _,⟨h.mem,fun x hx=>h.net x (hn x hx),h.inv⟩⟩
  | act i r p net hi ha hn=>
    obtain ⟨m1,m2,m3⟩:=hw.mem i r hi
    have hmv:=h.mem i r hi
    have hgood:GoodG n g r.Id p:=by
      cases ha with
      | tick draw=>exact tick_goodG h.inv hmv m1 hB0 m3 draw
      | recv x hx=>exact receive_goodG h.inv hmv m1 hB0 m3 (hw.net x hx) (h.net x hx)
      | prop data hd h3=>exact append_goodG h.inv hmv m1 hB0 m3 h3 hd
      | comp upto snap hs hc=>exact compact_goodG h.inv hmv upto snap hc
      | fall hc=>exact restart_goodG h.inv hmv m1.id.1
    obtain ⟨g',g1,g2,g3,g4⟩:=hgood
    refine ⟨r.Id,g',g1,⟨fun k q hq=>?_,fun x hx=>?_,g2⟩⟩
    ·have hq:(w.R.set i p.1)[k]? = some q:=hq
     by_cases hk:i=k
     ·subst hk
      rw [List.getElem?_set_self (get_ltA hi)] at hq
      obtain rfl:=Option.some.inj hq
      exact g3
     ·rw [List.getElem?_set_ne hk] at hq
      obtain ⟨q1,q2,q3⟩:=hw.mem k q hq
      exact (h.mem k q hq).ext g1 (by omega) (by omega)
    ·rcases hn x hx with hx | hx
     ·exact (h.net x hx).ext g1
     ·exact g4 x hx
end Go.Proofs.Ytgoachcogmlhcaa.R
set_option maxRecDepth 100000
set_option linter.unusedVariables false
set_option linter.unusedSimpArgs false
noncomputable section
namespace Go.Proofs.Ytgoachcogmlhcaa.R
open Go
structure ActK (c:Bool) (r:TRaft) (net:List TMsg) (p:TRaft × List TMsg):Prop where
  b:r.Log.Base≤p.1.Log.Base
  cm:r.Commit≤p.1.Commit∨(c=true∧p.1.Commit=p.1.Log.Base)
  s:p.1.Log.Base≤r.Commit∨∃ x∈net,x.Kind=7∧p.1.Log.Base=x.At
  m:∀ y∈p.2,y.Kind=7→y.At=p.1.Log.Base
section
variable {c:Bool} {r:TRaft} {net:List TMsg} {x:TMsg}
theorem ActK.of{p:TRaft × List TMsg}(hbc:r.Log.Base≤r.Commit)(h1:p.1.Log.Base=r.Log.Base)(h2:r.Commit≤p.1.Commit)(h3:∀ y∈p.2,y.Kind=7→y.At=p.1.Log.Base):ActK c r net p:=
  ⟨by omega,.inl h2,.inl (by omega),h3⟩
theorem tell_at(to:Int)(h:(tellR r to).Kind=7):(tellR r to).At=r.Log.Base:=by
  unfold tellR at h ⊢
  split at h
  ·rename_i hh; rw [if_pos hh]
  ·simp at h
theorem commitR_ge:r.Commit≤(commitR r).Commit:=by
  unfold commitR
  split
  ·rename_i h; show r.Commit≤reachedL r.Match; omega
  ·exact Int.le_refl _
theorem append_k(hbc:r.Log.Base≤r.Commit)(data:List Int):ActK c r net (appendR r data):=by
  have hl:(commitR (behindR r data)).Log.Base=r.Log.Base:=by rw [commitR_log]; rfl
  refine .of hbc hl (commitR_ge (r:=behindR r data)) fun y hy=>?_
  obtain ⟨to,_,rfl⟩:=List.mem_map.1 hy
  exact tell_at to
theorem lead_k(hbc:r.Log.Base≤r.Commit):ActK c r net (leadR r):=by
  have h:=append_k (c:=c) (net:=net) (r:=leadQ r) hbc []
  exact ⟨h.b,h.cm,h.s,h.m⟩
theorem stand_k(hbc:r.Log.Base≤r.Commit):ActK c r net (standR r):=by
  unfold standR
  split
  ·have h:=lead_k (c:=c) (net:=net) (r:=standQ r) hbc
   exact ⟨h.b,h.cm,h.s,h.m⟩
  ·refine .of hbc rfl (Int.le_refl _) fun y hy=>?_
   obtain ⟨to,_,rfl⟩:=List.mem_map.1 hy
   intro h; simp [voteM] at h
theorem ask_k(hbc:r.Log.Base≤r.Commit)(draw:Int):ActK c r net (askR r draw):=by
  unfold askR
  split
  ·have h:=stand_k (c:=c) (net:=net) (r:=askQ r draw) hbc
   exact ⟨h.b,h.cm,h.s,h.m⟩
  ·refine .of hbc rfl (Int.le_refl _) fun y hy=>?_
   obtain ⟨to,_,rfl⟩:=List.mem_map.1 hy
   intro h; simp [askM] at h
theorem tick_k(hbc:r.Log.Base≤r.Commit)(draw:Int):ActK c r net (tickR r draw):=by
  unfold tickR
  simp only
  split
  ·split
   ·refine .of hbc rfl (Int.le_refl _) fun y hy=>?_
    obtain ⟨to,_,rfl⟩:=List.mem_map.1 hy
    exact tell_at (r:={ r with Clock:=0 }) to
   ·exact .of hbc rfl (Int.le_refl _) (by simp)
  ·split
   ·have h:=ask_k (c:=c) (net:=net) (r:={ r with Clock:=r.Clock + 1 }) hbc draw
    exact ⟨h.b,h.cm,h.s,h.m⟩
   ·exact .of hbc rfl (Int.le_refl _) (by simp)
theorem putL_base(l:TLog)(a t:Int)(es:List TEntry):(putL l a t es).1.Base=l.Base:=by
  have hc:∀ (a t:Int) (es:List TEntry),(putC l a t es).1.Base=l.Base:=by
    intro a t es
    unfold putC
    split
    ·rfl
    ·split <;> rfl
  unfold putL
  split
  ·split
   ·rfl
   ·exact hc _ _ _
  ·exact hc _ _ _
theorem take_k(hbc:r.Log.Base≤r.Commit)(hx:x∈net):ActK c r net (takeR r x):=by
  have none:∀ {q:TRaft} {l:List TMsg},q.Log.Base=r.Log.Base→r.Commit≤q.Commit→(∀ y∈l,y.Kind≠7)→ActK c r net (q,l):=fun h1 h2 h3=>.of hbc h1 h2 fun y hy h=>absurd h (h3 y hy)
  have one:∀ {q:TRaft} {m:TMsg},q.Log.Base=r.Log.Base→r.Commit≤q.Commit→m.Kind≠7→ActK c r net (q,[m]):=fun h1 h2 h3=>none h1 h2 fun y hy=>by rw [List.mem_singleton.1 hy]; exact h3
  unfold takeR
  split
  ·exact one rfl (Int.le_refl _) (by simp [backM])
  split
  ·unfold askOkR
   split
   ·split
    ·have h:=stand_k (c:=c) (net:=net) (r:=grantedR r x) hbc
     exact ⟨h.b,h.cm,h.s,h.m⟩
    ·exact none rfl (Int.le_refl _) (by simp)
   ·exact none rfl (Int.le_refl _) (by simp)
  split
  ·unfold voteR
   split
   ·exact one rfl (Int.le_refl _) (by simp [backM])
   ·exact one rfl (Int.le_refl _) (by simp [backM])
  split
  ·unfold voteOkR
   split
   ·split
    ·have h:=lead_k (c:=c) (net:=net) (r:=grantedR r x) hbc
     exact ⟨h.b,h.cm,h.s,h.m⟩
    ·exact none rfl (Int.le_refl _) (by simp)
   ·exact none rfl (Int.le_refl _) (by simp)
  split
  ·unfold entriesR
   split
   ·exact one rfl (Int.le_refl _) (by simp [backM])
   ·simp only
    split
    ·exact one (putL_base _ _ _ _) (maxI_le _ _).1 (by simp [backM])
    ·exact one rfl (Int.le_refl _) (by simp [backM])
  split
  ·unfold toldR
   split
   ·exact none rfl (Int.le_refl _) (by simp)
   ·have hl:(toldQ r x).Log=r.Log:=commitR_log
    have hc:r.Commit≤(toldQ r x).Commit:=commitR_ge (r:={ r with Next:=setI r.Next (x.From - 1) (toldN r x),Match:=setI r.Match (x.From - 1) (toldM r x) })
    split
    ·split
     ·exact none (by rw [hl]) hc (by simp)
     ·exact .of hbc (by show (toldQ r x).Log.Base=_; rw [hl]) hc fun y hy=>by rw [List.mem_singleton.1 hy]; exact tell_at _
    ·exact .of hbc rfl (Int.le_refl _) fun y hy=>by rw [List.mem_singleton.1 hy]; exact tell_at (r:=toldP r x) _
  split
  ·rename_i hk
   unfold snapR
   split
   ·exact one rfl (Int.le_refl _) (by simp [backM])
   ·simp only
    split
    ·rename_i hlt
     have hb:(resetL r.Log x.At x.AtTerm).Base=x.At:=by unfold resetL; split <;> rfl
     refine ⟨?_,.inl (Int.le_of_lt hlt),.inr ⟨x,hx,hk,hb⟩,fun y hy=>by rw [List.mem_singleton.1 hy]; intro h; simp [backM] at h⟩
     show r.Log.Base≤(resetL r.Log x.At x.AtTerm).Base
     omega
    ·exact one rfl (Int.le_refl _) (by simp [backM])
  ·exact none rfl (Int.le_refl _) (by simp)
theorem receive_k(hbc:r.Log.Base≤r.Commit)(hx:x∈net):ActK c r net (receiveR r x):=by
  unfold receiveR
  split
  ·exact .of hbc rfl (Int.le_refl _) (by simp)
  ·split
   ·have h:=take_k (c:=c) (r:=followR r x.Term 0) hbc hx
    exact ⟨h.b,h.cm,h.s,h.m⟩
   ·exact take_k hbc hx
theorem act_k{p:TRaft × List TMsg}(hbc:r.Log.Base≤r.Commit)(ha:Act c r net p):ActK c r net p:=by
  cases ha with
  | tick draw=>exact tick_k hbc draw
  | recv x hx=>exact receive_k hbc hx
  | prop data hd h3=>exact append_k hbc data
  | comp upto snap hs hc=>
    unfold compactB at hc
    simp only [Bool.and_eq_true,decide_eq_true_eq] at hc
    exact ⟨by show r.Log.Base≤upto; omega,.inl (Int.le_refl _),.inl hc.2.1,by simp⟩
  | fall hc=>exact ⟨Int.le_refl _,.inr ⟨hc,rfl⟩,.inl hbc,by simp⟩
end
def beginG:Gh:=⟨fun _ _=>0,fun _=>0,fun _=>[],fun _ _=>0,fun _ _=>[],fun _=>0,fun _=>[]⟩
theorem begin_ginv(n:Nat):GInv n beginG where
  a0 _ _ _:=rfl
  aG _ _:=Nat.zero_le _
  aF _:=⟨rfl,Nat.zero_le _⟩
  pF _:=Pre.nil _
  pG _:=Pre.nil _
  tG _ _ h:=nomatch h
  sG _:=List.Pairwise.nil
  pC _ _:=⟨Pre.nil _,fun _ h=>nomatch h⟩
  lG _ _:=rfl
  S _ _ _ _ h:=absurd rfl h
  K _ _ _ _ h1 h2:=by have h2:_≤0:=h2; omega
  VL _ _ h:=absurd rfl h
  q _ h:=absurd rfl h
  vt _ _ h:=absurd rfl h
  vc _ _ h:=absurd rfl h
  tF _ _ h:=nomatch h
theorem begin_invG(n:Nat):InvG n (beginW n) beginG:=by
  refine ⟨fun k r hr=>?_,by simp [beginW],begin_ginv n⟩
  obtain ⟨hk,rfl⟩:=begin_get hr
  refine ⟨rfl,rfl,⟨Int.le_refl _,Nat.zero_le _,rfl,rfl⟩,Int.le_refl _,.inl rfl,fun h=>by simp [newR] at h,fun h=>by simp [newR] at h,?_⟩
  constructor
  ·intro h; simp [newR] at h
  ·intro h
   have h:(0:Int) = (k:Int) + 1:=h
   omega
structure KeepR (c:Bool) (r q:TRaft):Prop where
  t:r.Term≤q.Term
  v:q.Term=r.Term→r.Vote≠0→r.Vote=q.Vote
  cm:q.Commit < r.Commit→c=true∧q.Commit=q.Log.Base
  b:r.Log.Base≤q.Log.Base
  l:q.Commit≤lastL q.Log
  w:q.Role=3↔q.Lead=q.Id
end Go.Proofs.Ytgoachcogmlhcaa.R
set_option maxRecDepth 100000
set_option linter.unusedVariables false
set_option linter.unusedSimpArgs false
noncomputable section
namespace Go.Proofs.Ytgoachcogmlhcaa.R
open Go
section
variable {l:TLog} {f:FLog} {B:Int}
theorem LogF.get(h:LogF l f){d:Nat}(h1:l.Base.toNat≤d):l.Entries[d - l.Base.toNat]? = f[d]?:=by
  rw [h.e,List.getElem?_drop,show l.Base.toNat + (d - l.Base.toNat) = d by omega]
theorem ref_Last(h:OkG B l)(hB:B≤1000000):zkf l=some (lastL l):=by
  have:=h.b; have:=h.last
  unfold zkf lastL
  rw [wrap_sm (by omega)]
theorem entry_eq(ho:OkG B l)(hB:B≤1000000)(h:LogF l f){d:Nat}{e:TEntry}(h1:l.Base < (d:Int) + 1)(h2:f[d]? = some e):zig l ((d:Int) + 1) = some (e,true):=by
  have hd:=get_lt h2
  have hb:=h.b0
  have hl:=h.last
  have ho1:=ho.last
  have e1:lastL l=l.Base + (l.Entries.length:Int):=rfl
  unfold zig
  rw [decide_eq_false (by omega),if_neg (by simp),ref_Last ho hB,bnd_some,decide_eq_false (by omega)]
  unfold zhp
  rw [if_neg (by simp),wrap_sm (n:=(d:Int) + 1 - l.Base) (by omega),wrap_sm (by omega),show (d:Int) + 1 - l.Base - 1=((d - l.Base.toNat:Nat):Int) by omega,nthI_nat,h.get (by omega),h2,bnd_some]
theorem same_data(e:TEntry):(!(eqS (strI e.Data) (strI e.Data))) = false:=by rw [show eqS (strI e.Data) (strI e.Data) = true by simp [eqS]]; rfl
end
end Go.Proofs.Ytgoachcogmlhcaa.R
set_option maxRecDepth 100000
set_option linter.unusedVariables false
set_option linter.unusedSimpArgs false
noncomputable section
namespace Go.Proofs.Ytgoachcogmlhcaa.R
open Go
structure KnowI (n:Nat) (w:TWorld) (g:Gh) (kn:FLog) (T:Int):Prop where
  wit:Wit n g kn.length kn T
  top:∃ (k:Nat) (r:TRaft),w.R[k]? = some r∧T≤r.Term
  b:∀ (k:Nat) (r:TRaft),w.R[k]? = some r→r.Log.Base.toNat≤kn.length
  x:∀ x∈w.Net,x.Kind=7→x.At.toNat≤kn.length
section
variable {n:Nat} {g g':Gh} {w w':TWorld} {kn:FLog} {T B:Int}
theorem KnowI.begin(n:Nat)(h1:1≤n):KnowI n (beginW n) beginG [] 0 where
  wit:=.inl rfl
  top:=by
    have hl:0 < (beginW n).R.length:=by simp [beginW]; omega
    have hr:(beginW n).R[0]? = some (beginW n).R[0]:=List.getElem?_eq_getElem hl
    refine ⟨0,_,hr,?_⟩
    obtain ⟨_,e⟩:=begin_get hr
    rw [e]
    exact Int.le_refl _
  b k r hr:=by obtain ⟨_,rfl⟩:=begin_get hr; exact Nat.zero_le _
  x y hy:=absurd hy (by simp [beginW])
theorem KnowI.step{c:Bool}(hw:OkW B n w)(hw':OkW (B + 3) n w')(hB0:0≤B)(h:InvG n w g)(hk:KnowI n w g kn T)(hc:∀ (k:Nat) (r:TRaft),w.R[k]? = some r→r.Commit.toNat≤kn.length)(hs:StepW c w w'):∃ g',InvG n w' g'∧KnowI n w' g' kn T:=by
  obtain ⟨a,g',e,h'⟩:=step_invG hw hB0 h hs
  refine ⟨g',h',hk.wit.ext e,?_,?_,?_⟩
  ·obtain ⟨k,r,hr,hT⟩:=hk.top
   have hl:k < w'.R.length:=by rw [hw'.len,← hw.len]; exact get_ltA hr
   have hq:w'.R[k]? = some w'.R[k]:=List.getElem?_eq_getElem hl
   refine ⟨k,_,hq,?_⟩
   obtain ⟨_,m1,_⟩:=hw.mem k r hr
   obtain ⟨_,m2,_⟩:=hw'.mem k _ hq
   have t1:=(h.mem k r hr).T
   have t2:=(h'.mem k _ hq).T
   have t3:=e.Tk r.Id
   rw [show w'.R[k].Id=r.Id by omega] at t2
   omega
  ·cases hs with
   | less net hn=>exact hk.b
   | act i r p net hi ha hn=>
     intro k q hq
     have hq:(w.R.set i p.1)[k]? = some q:=hq
     by_cases hki:i=k
     ·subst hki
      rw [List.getElem?_set_self (get_ltA hi)] at hq
      obtain rfl:=Option.some.inj hq
      have hak:=act_k (h.mem i r hi).bc ha
      have:=hc i r hi
      rcases hak.s with h1 | ⟨x,hx,h7,h1⟩
      ·omega
      ·have:=hk.x x hx h7; omega
     ·rw [List.getElem?_set_ne hki] at hq
      exact hk.b k q hq
  ·cases hs with
   | less net hn=>exact fun y hy=>hk.x y (hn y hy)
   | act i r p net hi ha hn=>
     intro y hy h7
     have hak:=act_k (h.mem i r hi).bc ha
     have:=hc i r hi
     rcases hn y hy with hy | hy
     ·exact hk.x y hy h7
     ·rw [hak.m y hy h7]
      rcases hak.s with h1 | ⟨x,hx,h7',h1⟩
      ·omega
      ·have:=hk.x x hx h7'; omega
def learnL(kn f:FLog)(c:Nat):FLog:=if kn.length < c then f.take c else kn
theorem learn_len{f:FLog}{c:Nat}(hc:c≤f.length):kn.length≤(learnL kn f c).length∧c≤(learnL kn f c).length∧((learnL kn f c).length=c∨(learnL kn f c).length=kn.length):=by
  unfold learnL
  split
  ·simp; omega
  ·omega
theorem KnowI.learn(hk:KnowI n w g kn T){k:Nat}{r:TRaft}(hr:w.R[k]? = some r){f:FLog}{c:Nat}(hw:Wit n g c f r.Term):∃ T',KnowI n w g (learnL kn f c) T':=by
  have hl:=learn_len (kn:=kn) hw.len
  by_cases hlt:kn.length < c
  ·refine ⟨r.Term,?_,⟨k,r,hr,Int.le_refl _⟩,fun k r hr=>by have:=hk.b k r hr; omega,fun y hy h7=>by have:=hk.x y hy h7; omega⟩
   have e:learnL kn f c=f.take c:=by unfold learnL; rw [if_pos hlt]
   have hc:=hw.len
   rw [e,show (f.take c).length=c by simp; omega]
   exact hw.mono (Int.le_refl _) (Nat.le_refl _) (by simp; omega) (by rw [List.take_take,Nat.min_self])
  ·have e:learnL kn f c=kn:=by unfold learnL; rw [if_neg hlt]
   rw [e]
   exact ⟨T,hk⟩
theorem KnowI.same(hi:GInv n g)(hk:KnowI n w g kn T){f:FLog}{c:Nat}{T':Int}(hw:Wit n g c f T'){d:Nat}(h1:d < c)(h2:d < kn.length):kn[d]? = f[d]?:=by
  have hc:=hw.len
  have e:kn.take (d + 1) = f.take (d + 1):=by
    rcases Nat.le_total kn.length c with hle | hle
    ·exact take_le (by omega) (wit_agree hi hk.wit hw hle).2
    ·exact (take_le (by omega) (wit_agree hi hw hk.wit hle).2).symm
  have:(kn.take (d + 1))[d]? = (f.take (d + 1))[d]?:=by rw [e]
  rwa [List.getElem?_take,List.getElem?_take,if_pos (by omega),if_pos (by omega)] at this
theorem KnowI.lead(h:InvG n w g)(hk:KnowI n w g kn T){k:Nat}{r:TRaft}(hr:w.R[k]? = some r)(h3:r.Role=3)(h0:r.Id≠0)(ht:∀ (j:Nat) (q:TRaft),w.R[j]? = some q→q.Term≤r.Term):kn.length≤(g.F r.Id).length∧kn=(g.F r.Id).take kn.length:=by
  obtain ⟨j,q,hq,hT⟩:=hk.top
  have:=ht j q hq
  have hl:=(h.mem k r hr).lead h3
  have hw:=hk.wit.mono (T':=r.Term) (by omega) (Nat.le_refl _) (Nat.le_refl _) rfl
  obtain ⟨a1,a2⟩:=wit_in h.inv hw (by rw [hl.l]; exact h0)
  rw [List.take_length] at a2
  rw [hl.f]
  exact ⟨a1,a2⟩
theorem take_of_get{f:FLog}{d:Nat}(hd:kn.length=d)(hf:d≤f.length)(h:∀ j,j < d→kn[j]? = f[j]?):kn=f.take d:=by
  apply List.ext_getElem?
  intro j
  rw [List.getElem?_take]
  split
  ·rename_i hj; exact h j hj
  ·exact List.getElem?_eq_none (by omega)
theorem learn_loop{r:TRaft}{f:FLog}{c:Nat}(ho:OkG B r.Log)(hB:B≤100000)(h:LogF r.Log f)(hc:r.Commit=(c:Int))(hcf:c≤f.length)(hbc:r.Log.Base≤r.Commit)(hkn:kn.length≤100000)(hs:∀ d,d < c→d < kn.length→kn[d]? = f[d]?) :
    ∀ (m d fu:Nat),c - d=m→r.Log.Base.toNat≤d→d≤c→m < fu→zbz r fu ((d:Int) + 1) (learnL kn f d) = some (learnL kn f c,true):=by
  have hl:=h.last; have hol:=ho.last; have hob:=ho.b
  have e1:lastL r.Log=r.Log.Base + (r.Log.Entries.length:Int):=rfl
  intro m
  induction m with
  | zero=>
    intro d fu hm h1 h2 h3
    obtain ⟨fu,rfl⟩:∃ f',fu=f' + 1:=⟨fu - 1,by omega⟩
    have hd:d=c:=by omega
    subst hd
    have hle:=learn_len (kn:=kn) hcf
    rw [zbz,zet,decide_eq_false (by omega),if_neg (by simp)]
    unfold zhz
    rw [decide_eq_true (by omega),if_pos rfl,decide_eq_true hbc]
  | succ m ih=>
    intro d fu hm h1 h2 h3
    obtain ⟨fu,rfl⟩:∃ f',fu=f' + 1:=⟨fu - 1,by omega⟩
    have hdc:d < c:=by omega
    have hx:f[d]? = some (f[d]'(by omega)):=List.getElem?_eq_getElem (by omega)
    have hle:=learn_len (kn:=kn) (f:=f) (c:=d) (by omega)
    have go:=ih (d + 1) fu (by omega) (by omega) (by omega) (by omega)
    have w1:IntKind.i64.wrap ((d:Int) + 1 + 1) = ((d + 1:Nat):Int) + 1:=by rw [wrap_sm (by omega)]; omega
    rw [zbz,zet,decide_eq_true (by omega),if_pos rfl,entry_eq ho (by omega) h (by omega) hx,bnd_some,if_pos rfl,wrap_nat (by omega),decide_eq_false (by omega)]
    unfold zfx
    rw [if_neg (by simp),wrap_nat (by omega)]
    by_cases hlt:kn.length≤d
    ·have e2:learnL kn f d=f.take d:=by
       unfold learnL
       split
       ·rfl
       ·exact take_of_get (by omega) (by omega) fun j hj=>hs j (by omega) (by omega)
     have e3:learnL kn f (d + 1) = f.take d++[f[d]'(by omega)]:=by
       unfold learnL
       rw [if_pos (by omega),List.take_add_one,hx]
       rfl
     have e4:(f.take d).length=d:=by simp; omega
     rw [e3] at go
     rw [e2,e4,decide_eq_true (by omega),if_pos rfl,if_pos (capB_small (by omega))]
     unfold zei
     rw [w1]
     exact go
    ·have e2:learnL kn f d=kn:=by unfold learnL; rw [if_neg (by omega)]
     have e3:learnL kn f (d + 1) = kn:=by unfold learnL; rw [if_neg (by omega)]
     rw [e3] at go
     rw [e2,decide_eq_false (by omega),if_neg (by simp),wrap_sm (by omega),show (d:Int) + 1 - 1=(d:Int) by omega,nthI_nat,hs d hdc (by omega),hx,bnd_some,decide_eq_false (by simp),if_neg (by simp),same_data]
     unfold zfw zei
     rw [if_neg (by simp),w1]
     exact go
theorem learn_eq{r:TRaft}{f:FLog}(ho:OkG B r.Log)(hB:B≤100000)(h:LogF r.Log f)(hc0:0≤r.Commit)(hcf:r.Commit.toNat≤f.length)(hbc:r.Log.Base≤r.Commit)(hbk:r.Log.Base.toNat≤kn.length)(hkn:kn.length≤100000)(hs:∀ d,d < r.Commit.toNat→d < kn.length→kn[d]? = f[d]?) :
    zhq kn r=some (learnL kn f r.Commit.toNat,true):=by
  have hb:=ho.b; have hl:=ho.last
  have e:learnL kn f r.Log.Base.toNat=kn:=by unfold learnL; rw [if_neg (by omega)]
  have e2:IntKind.i64.wrap (r.Log.Base + 1) = (r.Log.Base.toNat:Int) + 1:=by rw [wrap_sm (by omega)]; omega
  have:=learn_loop ho hB h (c:=r.Commit.toNat) (by omega) hcf hbc hkn hs _ r.Log.Base.toNat ((r.Commit - ((r.Log.Base.toNat:Int) + 1) + 1).toNat + 1) rfl (Nat.le_refl _) (by omega) (by omega)
  rw [e] at this
  unfold zhq
  rw [e2]
  exact this
theorem top_l3{rec1:Int→List TRaft→List TMsg→List TEntry→Option Bool}{i:Int}{top:Nat}{r:TRaft}{f:FLog}(hr:w.R[top]? = some r)(ho:OkG B r.Log)(hB:B≤100000)(h:LogF r.Log f)(hkn:kn.length≤100000)(hl:kn.length≤f.length)(he:kn=f.take kn.length) :
    ∀ (m d fu:Nat),kn.length - d=m→r.Log.Base.toNat≤d→m < fu→zbf rec1 i w (top:Int) kn fu ((d:Int) + 1) = zby rec1 i w kn:=by
  have hob:=ho.b
  intro m
  induction m with
  | zero=>
    intro d fu hm h1 h3
    obtain ⟨fu,rfl⟩:∃ f',fu=f' + 1:=⟨fu - 1,by omega⟩
    rw [zbf,zdm,decide_eq_false (by omega),if_neg (by simp)]
  | succ m ih=>
    intro d fu hm h1 h3
    obtain ⟨fu,rfl⟩:∃ f',fu=f' + 1:=⟨fu - 1,by omega⟩
    have hx:f[d]? = some (f[d]'(by omega)):=List.getElem?_eq_getElem (by omega)
    have hk:kn[d]? = some (f[d]'(by omega)):=by
      have:kn[d]? = (f.take kn.length)[d]?:=by rw [← he]
      rw [this,List.getElem?_take,if_pos (by omega),hx]
    rw [zbf,zdm,decide_eq_true (by omega),if_pos rfl,nthI_nat,hr,bnd_some,entry_eq ho (by omega) h (by omega) hx,bnd_some,if_pos rfl,wrap_sm (by omega),show (d:Int) + 1 - 1=(d:Int) by omega,nthI_nat,hk,bnd_some,decide_eq_false (by simp),if_neg (by simp),same_data]
    unfold zcr
    rw [if_neg (by simp),wrap_sm (by omega),show (d:Int) + 1 + 1=((d + 1:Nat):Int) + 1 by omega]
    exact ih (d + 1) fu (by omega) (by omega) (by omega)
theorem commits_l2{rec1:Int→List TRaft→List TMsg→List TEntry→Option Bool}{i:Int}(hw:OkW B n w)(hB:B≤100000)(h:InvG n w g) :
    ∀ (m k fu top:Nat) (kn:FLog) (T:Int),w.R.length - k=m→k≤w.R.length→m < fu→top < w.R.length→(∀ (j:Nat) (q s:TRaft),j < k→w.R[j]? = some q→w.R[top]? = some s→q.Term≤s.Term)→KnowI n w g kn T→(∀ (j:Nat) (q:TRaft),j < k→w.R[j]? = some q→q.Commit.toNat≤kn.length)→(kn.length:Int)≤B →
      ∃ (top':Nat) (kn':FLog) (T':Int),top' < w.R.length∧(∀ (j:Nat) (q s:TRaft),w.R[j]? = some q→w.R[top']? = some s→q.Term≤s.Term)∧KnowI n w g kn' T'∧(∀ (j:Nat) (q:TRaft),w.R[j]? = some q→q.Commit.toNat≤kn'.length)∧(kn'.length:Int)≤B ∧
        zan rec1 i w fu (top:Int) (k:Int) kn=zcs rec1 i w (top':Int) kn':=by
  have h1:=hw.len; have h2:=hw.n1
  intro m
  induction m with
  | zero=>
    intro k fu top kn T hm hk hf ht htop hkn hc hb
    obtain ⟨fu,rfl⟩:∃ f',fu=f' + 1:=⟨fu - 1,by omega⟩
    refine ⟨top,kn,T,ht,fun j q s hq hs=>htop j q s (by have:=get_ltA hq; omega) hq hs,hkn,fun j q hq=>hc j q (by have:=get_ltA hq; omega) hq,hb,?_⟩
    rw [zan,zdn,decide_eq_false (by omega),if_neg (by simp)]
  | succ m ih=>
    intro k fu top kn T hm hk hf ht htop hkn hc hb
    obtain ⟨fu,rfl⟩:∃ f',fu=f' + 1:=⟨fu - 1,by omega⟩
    have hlt:k < w.R.length:=by omega
    have hr:w.R[k]? = some w.R[k]:=List.getElem?_eq_getElem hlt
    have hs:w.R[top]? = some w.R[top]:=List.getElem?_eq_getElem ht
    have hm2:=h.mem k _ hr
    obtain ⟨hok,_,_⟩:=hw.mem k _ hr
    have hcm:=hok.commit
    have hwl:=hm2.wit.len
    have hle:=learn_len (kn:=kn) hwl
    obtain ⟨T',hkn'⟩:=hkn.learn hr hm2.wit
    rw [zan,zdn,decide_eq_true (by omega),if_pos rfl,nthI_nat,hr,bnd_some,learn_eq hok.log hB hm2.log (by omega) hwl hm2.bc (hkn.b k _ hr) (by omega) (fun d d1 d2=>hkn.same h.inv hm2.wit d1 d2),bnd_some,if_pos rfl,nthI_nat,hs,bnd_some]
    have hc':∀ (j:Nat) (q:TRaft),j < k + 1→w.R[j]? = some q→q.Commit.toNat≤(learnL kn (g.F w.R[k].Id) w.R[k].Commit.toNat).length:=by
      intro j q hj hq
      rcases Nat.lt_or_ge j k with hjk | hjk
      ·have:=hc j q hjk hq; omega
      ·have:j=k:=by omega
       subst this
       rw [hr] at hq
       obtain rfl:=Option.some.inj hq
       omega
    have hb':((learnL kn (g.F w.R[k].Id) w.R[k].Commit.toNat).length:Int)≤B:=by omega
    unfold zep
    rw [wrap_nat (by omega)]
    by_cases hgt:w.R[top].Term < w.R[k].Term
    ·rw [decide_eq_true hgt,if_pos rfl]
     refine ih (k + 1) fu k _ T' (by omega) (by omega) (by omega) hlt (fun j q s hj hq hs'=>?_) hkn' hc' hb'
     rw [hr] at hs'
     obtain rfl:=Option.some.inj hs'
     rcases Nat.lt_or_ge j k with hjk | hjk
     ·have:=htop j q _ hjk hq hs; omega
     ·have:j=k:=by omega
      subst this
      rw [hr] at hq
      obtain rfl:=Option.some.inj hq
      omega
    ·rw [decide_eq_false hgt,if_neg (by simp)]
     refine ih (k + 1) fu top _ T' (by omega) (by omega) (by omega) ht (fun j q s hj hq hs'=>?_) hkn' hc' hb'
     rcases Nat.lt_or_ge j k with hjk | hjk
     ·exact htop j q s hjk hq hs'
     ·have:j=k:=by omega
      subst this
      rw [hr] at hq
      obtain rfl:=Option.some.inj hq
      rw [hs] at hs'
      obtain rfl:=Option.some.inj hs'
      omega
theorem commits_k2{rec1:Int→List TRaft→List TMsg→List TEntry→Option Bool}{i:Nat}(hi2:i < 1000)(hw:OkW B n w)(hB:B≤100000)(h:InvG n w g){top:Nat}(ht:top < w.R.length)(htop:∀ (j:Nat) (q s:TRaft),w.R[j]? = some q→w.R[top]? = some s→q.Term≤s.Term)(hkn:KnowI n w g kn T)(hb:(kn.length:Int)≤B) :
    zcs rec1 (i:Int) w (top:Int) kn=rec1 ((i + 1:Nat):Int) w.R w.Net kn:=by
  have hr:w.R[top]? = some w.R[top]:=List.getElem?_eq_getElem ht
  obtain ⟨hok,hid,_⟩:=hw.mem top _ hr
  have hob:=hok.log.b; have hol:=hok.log.last
  have k4:zby rec1 (i:Int) w kn=rec1 ((i + 1:Nat):Int) w.R w.Net kn:=by
    unfold zby
    rw [wrap_nat (by omega)]
  unfold zcs
  rw [nthI_nat,hr,bnd_some]
  by_cases h3:w.R[top].Role=3
  ·obtain ⟨a1,a2⟩:=hkn.lead h hr h3 (by omega) fun j q hq=>htop j q _ hq hr
   have e2:IntKind.i64.wrap (w.R[top].Log.Base + 1) = (w.R[top].Log.Base.toNat:Int) + 1:=by rw [wrap_sm (by omega)]; omega
   rw [decide_eq_false (Classical.not_not.2 h3),if_neg (by simp),e2,top_l3 hr hok.log hB (h.mem top _ hr).log (by omega) a1 a2 _ _ _ rfl (Nat.le_refl _) (by omega),k4]
  ·rw [decide_eq_true h3,if_pos rfl,k4]
end
theorem commits_l1{l:List TOp}{n:Nat}(hl:l.length≤250)(hd:∀ o∈l,o.Data.length≤20):∀ (m i f:Nat) (w:TWorld) (g:Gh) (kn:FLog) (T:Int),l.length - i=m→i≤l.length→m < f→OkW (20 + 3 * (i:Int)) n w→InvG n w g→KnowI n w g kn T→(∀ (k:Nat) (r:TRaft),w.R[k]? = some r→r.Commit.toNat≤kn.length)→(kn.length:Int)≤20 + 3 * (i:Int) →
    zae l f (i:Int) w.R w.Net kn=some true:=by
  intro m
  induction m with
  | zero=>
    intro i f w g kn T hm hi hf hw hg hk hc hb
    obtain ⟨f,rfl⟩:∃ f',f=f' + 1:=⟨f - 1,by omega⟩
    rw [zae,zdo,decide_eq_false (by omega),if_neg (by simp)]
    rfl
  | succ m ih=>
    intro i f w g kn T hm hi hf hw hg hk hc hb
    obtain ⟨f,rfl⟩:∃ f',f=f' + 1:=⟨f - 1,by omega⟩
    have hlt:i < l.length:=by omega
    obtain ⟨w',h1,h2,h3⟩:=do_ok hw (by omega) (by omega) l[i] (hd _ (List.getElem_mem hlt))
    obtain ⟨g',h4,h5⟩:=hk.step hw h3 (by omega) hg hc h2
    have h1':zkq ⟨w.R,w.Net⟩ l[i] = some w':=h1
    have h6:=h3.len; have h7:=h3.n1
    obtain ⟨top,kn',T',a1,a2,a3,a4,a5,a6⟩:=commits_l2 (rec1:=zae l f) (i:=(i:Int)) h3 (by omega) h4 _ 0 ((((w'.R.length:Int)) - 0).toNat + 1) 0 kn T rfl (Nat.zero_le _) (by omega) (by omega) (fun j q s hj=>absurd hj (by omega)) h5 (fun j q hj=>absurd hj (by omega)) (by omega)
    have a7:zan (zae l f) (i:Int) w' ((((w'.R.length:Int)) - 0).toNat + 1) 0 0 kn=_:=a6
    rw [zae,zdo,decide_eq_true (by omega),if_pos rfl,nthI_lt hlt,bnd_some,h1',bnd_some,a7,commits_k2 (by omega) h3 (by omega) h4 a1 a2 a3 a5]
    exact ih (i + 1) f w' g' kn' T' (by omega) (by omega) (by omega) (h3.mono (by omega)) h4 a3 a4 (by omega)
theorem ans_RaftCommits{n:Int}(hn:0≤n∧n≤255)(l:List TOp):zia n l=some true:=by
  obtain ⟨b,h1,h2⟩:=light_ok l
  unfold zia
  rw [h1,bnd_some]
  cases b with
  | false=>rfl
  | true=>
    obtain ⟨l1,l2⟩:=h2 rfl
    rw [if_pos rfl,size_eq hn,bnd_some,begin_eq (by omega),bnd_some]
    exact commits_l1 l1 l2 _ 0 ((((l.length:Int)) - 0).toNat + 1) (beginW ((n % 5).toNat + 1)) beginG [] 0 rfl (Nat.zero_le _) (by omega) (begin_ok (by omega) (by omega)) (begin_invG _) (KnowI.begin _ (by omega)) (fun k r hr=>by obtain ⟨_,rfl⟩:=begin_get hr; exact Nat.le_refl _) (by simp)
end Go.Proofs.Ytgoachcogmlhcaa.R
