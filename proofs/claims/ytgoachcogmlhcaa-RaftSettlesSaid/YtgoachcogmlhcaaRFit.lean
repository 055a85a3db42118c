import Derived.Test.YtgoachcogmlhcaaRDrwG
import Derived.ProofKit
import Derived.SizedLaws
set_option linter.unusedVariables false
set_option linter.unusedSectionVars false
set_option linter.unusedSimpArgs false
noncomputable section
namespace Go.Proofs.Ytgoachcogmlhcaa.R
open Go Go.ChangeShapes Go.WideShapes
def Fit(P:Program):Nat->TypeId->List AV->Prop
  | 0,_,_=>False
  | n + 1,t,as=>
    match P.underlying t with
    | some .bool=>∃ b,as = [.bool b]
    | some (.int k)=>∃ i,as = [.int k i]/\(Lit.int k i).wf=true
    | some .string=>∃ s,as = [.str s]/\s.size<=reachBytes
    | some (.slice e)=>∃ rows,as = [ycr rows]/\rows.length<=reachBytes/\∀ r∈rows,Fit P n e r
    | some (.struct fs)=>as.length=P.cellsOf t/\∀ f∈fs.toList,Fit P n f.type ((as.drop f.offset).take (P.cellsOf f.type))
    | _=>False
def yady(P:Program)(tys:List TypeId):Nat->List Field->Nat->Bool
  | o,[],n=>Nat.beq o n
  | o,f :: r,n=>Nat.beq f.offset o && (tys.contains f.type && yady P tys (o + P.cellsOf f.type) r n)
def tyB(P:Program)(tys:List TypeId)(t:TypeId):Bool:=
  match P.underlying t with
  | some .bool=>true
  | some (.int _)=>true
  | some .string=>true
  | some (.slice e)=>Nat.blt 0 (P.cellsOf e) && (Nat.blt 0 (P.bytesOf e) && tys.contains e)
  | some (.struct fs)=>yady P tys 0 fs.toList (P.cellsOf t)
  | _=>false
def tysB(P:Program)(tys:List TypeId):Bool:=tys.all (tyB P tys)
theorem yaef{α:Type}{Q:Nat->α->Prop}:∀ n:Nat,(∀ i,i < n->∃ r,Q i r)->∃ rows:List α,rows.length=n/\∀ i r,rows[i]? = some r->Q i r
  | 0,_=>⟨[],rfl,by simp⟩
  | n + 1,h=>by
    obtain ⟨rows,h1,h2⟩:=yaef n fun i hi=>h i (by omega)
    obtain ⟨r,hr⟩:=h n (by omega)
    refine ⟨rows++[r],by simp [h1],fun i x hx=>?_⟩
    rw [List.getElem?_append] at hx
    split at hx
    .exact h2 i x hx
    .rename_i hge
     have hi:i - rows.length=0:=by
       rcases jf (i - rows.length) with h0 | h0
       .exact h0
       .rw [qm (by simp; omega)] at hx; cases hx
     rw [hi] at hx
     simp at hx
     subst hx
     have:i=n:=by omega
     subst this
     exact hr
section
variable {H:Type} {enc:TypeId × Value->H} {P:Program} {w:World} {base:Nat} {spare:Nat->Bool} {held:Bool} {U:Nat->Nat->Prop} {tys:List TypeId}
theorem yaab:∀ {as bs:List AV},ydk as=true->ydk bs=true->ydk (as++bs) = true
  | [],bs,_,h=>h
  | a :: as,bs,h,h'=>by
    simp only [ydk,jn,qq] at h ⊢
    exact ⟨h.1,yaab h.2 h'⟩
theorem yaio{n:Nat}{cs:List Value}:∀ {fs:List Field} {o m:Nat},yady P tys o fs m=true->(∀ f∈fs,tys.contains f.type=true->∃ as,VRs w U ych as ((cs.drop f.offset).take (P.cellsOf f.type))/\ydk as=true/\Fit P n f.type as)->cs.length=m->o<=m ->
    ∃ as,VRs w U ych as (cs.drop o)/\ydk as=true/\(∀ f∈fs,o<=f.offset)/\∀ f∈fs,Fit P n f.type ((as.drop (f.offset - o)).take (P.cellsOf f.type))
  | [],o,m,h,hf,hl,ho=>by
    have:o=m:=qy h
    subst this
    refine ⟨[],?_,rfl,by simp,by simp⟩
    rw [jv (by omega)]
    simp [VRs]
  | f :: fs,o,m,h,hf,hl,ho=>by
    simp only [yady,qq] at h
    obtain ⟨h1,h2,h3⟩:=h
    have h1:=qy h1
    obtain ⟨as,g1,g2,g3⟩:=hf f (by simp) h2
    have hle:∀ (fs:List Field) (o:Nat),yady P tys o fs m=true->o<=m:=by
      intro fs
      induction fs with
      | nil=>intro o h; exact Nat.le_of_eq (qy h)
      | cons f r ih=>
        intro o h
        simp only [yady,qq] at h
        have:=ih _ h.2.2
        omega
    have hom:=hle _ _ h3
    obtain ⟨bs,k1,k2,k3,k4⟩:=yaio h3 (fun f' hf'=>hf f' (by simp [hf'])) hl hom
    have hal:as.length=P.cellsOf f.type:=by
      rw [ycd g1,qp,wq]; omega
    refine ⟨as++bs,?_,yaab g2 k2,fun f' hf'=>?_,fun f' hf'=>?_⟩
    .have:cs.drop o=(cs.drop f.offset).take (P.cellsOf f.type)++cs.drop (o + P.cellsOf f.type):=by
       rw [h1,← jp,List.take_append_drop]
     rw [this]
     exact yny g1 k1
    .rcases wt.1 hf' with rfl | hf'
     .omega
     .have:=k3 f' hf'; omega
    .rcases wt.1 hf' with rfl | hf'
     .rw [h1,Nat.sub_self,List.drop_zero,List.take_append_of_le_length (by omega),wm (by omega)]
      exact g3
     .have h5:=k3 f' hf'
      have h6:=k4 f' hf'
      rw [show f'.offset - o=as.length + (f'.offset - (o + P.cellsOf f.type)) by omega,← jp,List.drop_left]
      exact h6
theorem yxf{v:Value}{a:AV}(h:VR w U ych a v):VRs w U ych [a] [v]:=by simp only [VRs]; exact ⟨v,[],rfl,h,rfl⟩
theorem yafh{e:TypeId}{d:DataW H}:∀ {ds:List (DataW H)},d∈ds->∀ n∈d.weights P e,n∈DataW.weightsAll P e ds
  | [],h,_,_=>by simp at h
  | d0 :: ds,h,n,hn=>by
    simp only [DataW.weightsAll,qt]
    rcases wt.1 h with rfl | h
    .exact Or.inl hn
    .exact Or.inr (yafh h n hn)
theorem yahn(hU:∀ b o,¬ U b o)(hT:tysB P tys=true):∀ (n:Nat) (t:TypeId) (cs:List Value) (x:DataW H × List MemPlace),tys.contains t=true->DataW.trod enc P w base spare held n t cs=some x->(∀ m∈x.1.weights P t,m<=reachBytes)->∃ as,VRs w U ych as cs/\ydk as=true/\Fit P n t as
  | 0,t,cs,x,ht,h,hw=>by simp [DataW.trod] at h
  | n + 1,t,cs,x,ht,h,hw=>by
    have htB:tyB P tys t=true:=by
      simp only [tysB,List.all_eq_true] at hT
      exact hT t (by simpa using ht)
    unfold tyB at htB
    split at htB
    .rename_i hu
     obtain ⟨b,rfl,_⟩:=DataW.trod_bool hu h
     refine ⟨[.bool b],yxf (by simp [VR]),rfl,?_⟩
     simp only [Fit,hu]
     exact ⟨b,rfl⟩
    .rename_i k hu
     obtain ⟨i,rfl,_,hw⟩:=DataW.trod_int hu h
     refine ⟨[.int k i],yxf (by simp [VR]),rfl,?_⟩
     simp only [Fit,hu]
     exact ⟨i,rfl,hw⟩
    .rename_i hu
     obtain ⟨s,rfl,rfl,hs⟩:=DataW.trod_string hu h
     refine ⟨[.str s],yxf (by simp [VR]),rfl,?_⟩
     simp only [Fit,hu]
     exact ⟨s,rfl,by simpa [DataW.weights] using hw⟩
    .rename_i e hu
     simp only [qq] at htB
     obtain ⟨hz,hbz,he⟩:=htB
     have hbz:0 < P.bytesOf e:=by rwa [Nat.blt_eq] at hbz
     have hz:0 < P.cellsOf e:=by rwa [Nat.blt_eq] at hz
     rcases DataW.trod_slice hu h with ⟨rfl,_⟩ | ⟨a,len,cap,elems,rest,m,hm,rfl,rfl,_,hlc,hcap,hel,hget,_⟩
     .refine ⟨[ycr []],yxf (yaxf (O:=ych) (by simp [VR])),rfl,?_⟩
      simp only [Fit,hu]
      exact ⟨[],rfl,jb _,by simp⟩
     .have hm:n=m:=by omega
      subst hm
      simp only [DataW.weights,hu,wt,qt] at hw
      have hlen:len<=reachBytes:=by
        have h1:=hw _ (Or.inl rfl)
        rw [wj,wj] at h1
        have h2:=Nat.le_mul_of_pos_right (elems.length + rest.length) hbz
        omega
      have hrow:∀ i,i < len->∃ r:List AV,(∃ cs',w.cells? base (a.add (i * P.cellsOf e)) (P.cellsOf e) = some cs'/\VRs w U ych r cs')/\ydk r=true/\Fit P n e r:=by
        intro i hi
        have hg:=hget i hi
        rw [qj (by omega)] at hg
        cases hc:w.cells? base (a.add (i * P.cellsOf e)) (P.cellsOf e) with
        | none=>rw [hc] at hg; cases hg
        | some cs'=>
          rw [hc] at hg
          obtain ⟨r,g1,g2,g3⟩:=yahn hU hT n e cs' _ he hg fun m hm=>hw m (Or.inr (Or.inl (yafh (List.mem_map_of_mem (jd _)) m hm)))
          exact ⟨r,⟨cs',rfl,g1⟩,g2,g3⟩
      obtain ⟨rows,h1,h2⟩:=yaef len hrow
      refine ⟨[ycr rows],yxf (yww (es:=P.cellsOf e) (ex:=decide (cap=len)) ?_),rfl,?_⟩
      .simp only [VR]
       refine ⟨some a,cap,by rw [h1],by omega,fun hh=>by rw [h1]; simpa using hh,?_⟩
       rcases jf len with h0 | h0
       .left; exact wg (by omega)
       .right
        obtain ⟨b,o,spot⟩:=a
        have hspot:spot=none:=by
          obtain ⟨⟨cs',hc,_⟩,_,_⟩:=h2 0 rows[0] (qj (by omega))
          obtain ⟨_,hlen,hcell⟩:=World.cells?_some hc
          have g0:=hcell 0 hz
          obtain ⟨c0,hc0⟩:∃ c0,cs'[0]? = some c0:=by
            cases cs' with
            | nil=>simp at hlen; omega
            | cons c _=>exact ⟨c,rfl⟩
          rw [hc0] at g0
          simpa [Addr.add] using World.cell?_spot g0
        subst hspot
        refine ⟨b,o,rfl,ywv fun i r hi=>?_⟩
        obtain ⟨⟨cs',hc,hv⟩,hb,_⟩:=h2 i r hi
        obtain ⟨_,hlen,hcell⟩:=World.cells?_some hc
        have hrl:=ycd hv
        refine ⟨by omega,yaaj fun j c hj=>?_⟩
        obtain ⟨v,g1,g2⟩:=ydz hv hj
        have hjl:=ylt g1
        have g3:=hcell j (by omega)
        rw [ynb,ynb,g1] at g3
        exact ⟨v,g3,hU _ _,ylq hb hv v (wa g1),g2⟩
      .simp only [Fit,hu]
       refine ⟨rows,rfl,by omega,fun r hr=>?_⟩
       obtain ⟨i,hi⟩:=List.mem_iff_getElem?.1 hr
       exact (h2 i r hi).2.2
    .rename_i fs hu
     obtain ⟨xs,m,hm,rfl,hl,hxs,hf⟩:=DataW.trod_struct hu h
     have hm:n=m:=by omega
     subst hm
     obtain ⟨as,g1,g2,_,g4⟩:=yaio (n:=n) htB (fun f hfm hft=>by
       obtain ⟨i,hi⟩:=List.mem_iff_getElem?.1 hfm
       have hi':fs[i]? = some f:=by simpa using hi
       have:=hf i f hi'
       have hlt:i < xs.length:=by
         rw [hxs]
         exact (Array.getElem?_eq_some_iff.1 hi').1
       rw [qj hlt] at this
       refine yahn hU hT n f.type _ _ hft this fun m hm=>hw m ?_
       simp only [DataW.weights,hu]
       exact DataW.weights_mem_each (j:=i) (by simp [hi]) (by rw [jw,qj hlt]; rfl) m hm) hl (jb _)
     rw [List.drop_zero] at g1
     refine ⟨as,g1,g2,?_⟩
     simp only [Fit,hu]
     refine ⟨by rw [ycd g1,hl],fun f hfm=>?_⟩
     simpa using g4 f hfm
    .cases htB
end
end Go.Proofs.Ytgoachcogmlhcaa.R
