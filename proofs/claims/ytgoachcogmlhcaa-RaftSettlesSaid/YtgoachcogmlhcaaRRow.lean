import Derived.Test.YtgoachcogmlhcaaRFit
set_option linter.unusedVariables false
set_option linter.unusedSectionVars false
set_option linter.unusedSimpArgs false
noncomputable section
namespace Go.Proofs.Ytgoachcogmlhcaa.R
open Go Go.ChangeShapes Go.WideShapes Go.ChangeAt Go.RowKit
def yvq(P:Program)(t:TypeId)(as:List AV):AV:=
  match P.underlying t with
  | some (.struct _)=>.agg as
  | _=>as.headD .bad
def Args(P:Program):List TypeId->List AV->Prop
  | [],[]=>True
  | t :: ts,a :: as=>(∃ n cs,Fit P n t cs/\a=yvq P t cs)/\Args P ts as
  | _,_=>False
section
variable {H:Type} {enc:TypeId × Value->H} {P:Program} {w:World} {tys:List TypeId} {U:Nat->Nat->Prop}
theorem ybui(hU:∀ b o,¬ U b o)(hT:tysB P tys=true){base:Nat}{t:TypeId}(ht:tys.contains t=true){v:Value}{d:DataW H}{ps:List MemPlace}(hv:Value.okWide P w .any base t v)(h:DataW.Trod enc P w 0 (fun _=>true) true t v d ps)(hw:∀ m∈d.weights P t,m<=reachBytes) :
    ∃ a,VR w U ych a v/\∃ n cs,Fit P n t cs/\a=yvq P t cs:=by
  obtain ⟨n,h⟩:=h
  obtain ⟨as,h1,h2,h3⟩:=yahn hU hT n t _ _ ht h hw
  refine ⟨yvq P t as,?_,n,as,h3,rfl⟩
  have htB:tyB P tys t=true:=by
    simp only [tysB,List.all_eq_true] at hT
    exact hT t (by simpa using ht)
  have single:(∀ fs,P.underlying t≠some (.struct fs))->yib v=true->VR w U ych (yvq P t as) v:=by
    intro hns hone
    rw [yvt hone] at h1
    cases as with
    | nil=>simp [VRs] at h1
    | cons a as=>
      simp only [VRs] at h1
      obtain ⟨x,r,e1,e2,e3⟩:=h1
      have e1:[v] = x :: r:=e1
      simp only [List.cons.injEq] at e1
      obtain ⟨rfl,rfl⟩:=e1
      have:yvq P t (a :: as) = a:=by
        unfold yvq
        split
        .rename_i fs hu; exact absurd hu (hns fs)
        .rfl
      rw [this]
      exact e2
  cases n with
  | zero=>simp [Fit] at h3
  | succ n=>
    unfold tyB at htB
    split at htB
    .rename_i hu
     obtain ⟨b,rfl⟩:=okWide_bool hu hv
     exact single (fun fs e=>by rw [hu] at e; cases e) rfl
    .rename_i k hu
     obtain ⟨b,rfl⟩:=okWide_int hu hv
     exact single (fun fs e=>by rw [hu] at e; cases e) rfl
    .rename_i hu
     obtain ⟨b,rfl⟩:=okWide_string hu hv
     exact single (fun fs e=>by rw [hu] at e; cases e) rfl
    .rename_i e hu
     obtain ⟨a,l,c,rfl⟩:=okWide_slice hu hv
     exact single (fun fs e=>by rw [hu] at e; cases e) rfl
    .rename_i fs hu
     simp only [Value.okWide,hu] at hv
     obtain ⟨cs,rfl,_⟩:=hv
     simp only [yvq,hu,VR]
     exact ⟨cs,rfl,h1⟩
    .cases htB
theorem yanh(hU:∀ b o,¬ U b o)(hT:tysB P tys=true){base:Nat}:∀ {ts:List TypeId} {vs:List Value} {ds:List (DataW H)} {ps:List MemPlace},(∀ t∈ts,tys.contains t=true)->(∀ (j:Nat) t v,ts[j]? = some t->vs[j]? = some v->Value.okWide P w .any base t v) ->
    DataW.TrodAll enc P w 0 (fun _=>true) true ts vs ds ps->(∀ m∈DataW.weightsEach P ts ds,m<=reachBytes)->∃ avs,VRs w U ych avs vs/\Args P ts avs
  | [],vs,ds,ps,ht,hv,h,hw=>by
    obtain ⟨rfl,rfl,rfl⟩:=trodAll_nil h
    exact ⟨[],by simp [VRs],by simp [Args]⟩
  | t :: ts,vs,ds,ps,ht,hv,h,hw=>by
    obtain ⟨v,vs',d,ds',p,q,rfl,rfl,rfl,h1,h2⟩:=trodAll_cons h
    simp only [DataW.weightsEach,qt] at hw
    obtain ⟨a,g1,g2⟩:=ybui hU hT (ht t (by simp)) (hv 0 t v rfl rfl) h1 fun m hm=>hw m (Or.inl hm)
    obtain ⟨avs,k1,k2⟩:=yanh hU hT (fun t' ht'=>ht t' (by simp [ht'])) (fun j t' v' h h'=>hv (j + 1) t' v' (by simpa using h) (by simpa using h')) h2 fun m hm=>hw m (Or.inr hm)
    exact ⟨a :: avs,by simp only [VRs]; exact ⟨v,vs',rfl,g1,k1⟩,by simp only [Args]; exact ⟨g2,k2⟩⟩
theorem yaah(hl:laidOutB P=true){W W':World}{sp:Nat->Bool}:∀ {ts:List TypeId} {vs:List Value} {ds:List (DataW H)} {ps:List MemPlace},(∀ t∈ts,P.readableRec t=true/\t < P.types.size)->DataW.TrodAll enc P W 0 (fun _=>true) true ts vs ds ps->(∀ p∈ps,W.sameAt W' p)->(∀ p∈ps,sp p.block=true) ->
    DataW.TrodAll enc P W' 0 sp true ts vs ds ps
  | [],vs,ds,ps,ht,h,hs,hp=>by
    obtain ⟨rfl,rfl,rfl⟩:=trodAll_nil h
    exact rfl
  | t :: ts,vs,ds,ps,ht,h,hs,hp=>by
    obtain ⟨v,vs',d,ds',p,q,rfl,rfl,rfl,h1,h2⟩:=trodAll_cons h
    have h3:=ht t (by simp)
    exact ⟨p,q,WideElems.Trod_stays hl h3.1 h3.2 h1 (fun x hx=>hs x (wc _ hx)) (fun x hx=>hp x (wc _ hx)),
      yaah hl (fun t' ht'=>ht t' (by simp [ht'])) h2 (fun x hx=>hs x (wo _ hx)) (fun x hx=>hp x (wo _ hx)),rfl⟩
theorem yavw{W W':World}{Z:Rho}{H':yr}(h:Fr ych [] W Z H' W'):Below W.heap.size W W':=by
  have hno:∀ b o,¬ Wr ych [] b o:=fun b o hw=>by
    obtain ⟨id,es,ob,h1,_⟩:=hw
    simp at h1
  refine ⟨h.os,h.tape,h.output,h.size,fun b hb=>?_⟩
  cases hob:W.heap[b]? with
  | none=>rw [Array.getElem?_eq_getElem hb] at hob; cases hob
  | some ob=>
    cases ob with
    | cells C e fr=>rw [← hob]; exact yph h hob (hno b)
    | map es c=>exact h.other b _ hob (fun C e fr hh=>by cases hh)
    | _=>exact h.other b _ hob (fun C e fr hh=>by cases hh)
theorem yaoz{f:Func}{s:ChangeSpec}{apart fresh handsOn again:Bool}{W W':World}{args:Array Value}{v:Value}{ds:List (DataW H)}{before:List MemPlace}
    (hvars:s.vars = []) (hl:laidOutB P=true) (hrd:∀ t∈f.params.toList,P.readableRec t=true/\t < P.types.size)
    (hW:DataW.Whole enc P f.params.toList s.vars apart W args.toList ds [] before)
    (hsp:(s.fn H (ds++[])).args=ds) (hsv:(s.fn H (ds++[])).vars = [])
    (hres:∀ (b:Nat) (sp:Nat->Bool) (hd:Bool),DataW.TrodAll enc P W' b sp hd f.resultTypes.toList (v.resultList f.resultTypes.size) (s.fn H (ds++[])).results [])
    (hb:Below W.heap.size W W')
    (hok:∀ (j:Nat) (t:TypeId) (r:Value),f.resultTypes[j]? = some t->(v.resultList f.resultTypes.size)[j]? = some r->Value.okWide P W' .any 0 t r) :
    s.post enc P f apart fresh handsOn again W args v W':=by
  obtain ⟨p,q,hA,hV,hps,hz,hn⟩:=hW
  rw [hvars] at hV
  obtain ⟨_,rfl⟩:=trodVars_none hV
  simp only [jh] at hps
  subst hps
  have hlt:∀ x∈before,x.block < W.heap.size:=fun x hx=>DataW.Whole.lt (⟨before,[],hA,by rw [hvars]; exact hV,by simp,hz,hn⟩:DataW.Whole enc P f.params.toList s.vars apart W args.toList ds [] before) x hx
  have hsame:∀ x∈before,W.sameAt W' x:=fun x hx=>hb.same (hlt x hx)
  have hold:∀ x∈before,(fun b=>decide (b < W.heap.size)) x.block=true:=fun x hx=>by simpa using hlt x hx
  have hargs:∀ sp:Nat->Bool,(∀ x∈before,sp x.block=true)->DataW.TrodAll enc P W' 0 sp true f.params.toList args.toList (s.fn H (ds++[])).args before:=fun sp hs=>by
    rw [hsp]
    exact yaah hl hrd hA hsame hs
  have hvs:∀ sp:Nat->Bool,DataW.TrodVars enc P W' sp s.vars (s.fn H (ds++[])).vars []:=fun sp=>by
    rw [hvars,hsv]
    rfl
  refine ⟨ds,[],before,[],before,[],⟨before,[],hA,by rw [hvars]; exact hV,by simp,hz,hn⟩,hres _ _ _,hargs _ hold,hvs _,hb.frame _,fun _=>?_⟩
  refine ⟨hok,_,_,([]++before)++[],⟨[]++before,[],trodAll_append (hargs _ (fun _ _=>rfl)) (hres _ _ _),hvs _,rfl,?_,?_⟩,?_⟩
  .intro b off hp
   have hp':MemPlace.cell b off∈before:=by simpa using hp
   rw [hb.frozen (p:=⟨b,off,none⟩) (hlt _ hp')]
   exact hz b off hp'
  .intro ha
   simpa using hn ha
  .intro x hx _
   simpa using hx
end
end Go.Proofs.Ytgoachcogmlhcaa.R
