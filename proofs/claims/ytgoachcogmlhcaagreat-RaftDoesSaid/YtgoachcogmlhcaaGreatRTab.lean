/- What functions answer. -/
import Derived.Test.YtgoachcogmlhcaaGreatRCln
import Derived.Test.YtgoachcogmlhcaaGreatREqs
set_option linter.unusedVariables false
set_option linter.unusedSectionVars false
set_option linter.unusedSimpArgs false
noncomputable section
namespace Go.Proofs.YtgoachcogmlhcaaGreat.R
open Go
def yag(P:Program)(f:Nat)(args:List AV)(H:yq)(m:Nat)(r:AV)(H':yq)(n':Nat):Prop:=
  (∃ fn,P.funcs[f]? = some fn∧(fn.name == "runtime.NumGoroutine") = false∧fn.body.isNone=false) ∧
  ∀ {A:Nat→Nat→Prop} {ρ:Rho} {w:World} {xs:Array Value},Rep A ρ H m w→VRs w (UU A ρ H) ρ args xs.toList→Calls P f xs w (Ret A ρ H w m r H' n')
theorem yag.of_callF{c:Cfg}{dr:yacu}(hc:yaxv c)(hd:yakk c dr)(hp:ycx c.P c.pr){k f:Nat}{args:List AV}{H H':yq}{m n':Nat}{r:AV}(h:ype c dr k f args H m=some (r,H',n')):yag c.P f args H m r H' n':=
  ⟨(yst hc hd hp k).fn h,(yst hc hd hp k).calls h⟩
open Classical in
def tab:List (Nat × List AV × yq × Nat × (AV × yq × Nat))→Callee
  | [],_,_,_,_=>none
  | e :: r,f,args,H,m=>if f=e.1∧args=e.2.1∧H=e.2.2.1∧m=e.2.2.2.1 then some e.2.2.2.2 else tab r f args H m
theorem yf(P:Program):ycx P (tab []):=⟨yayh P,fun h=>by simp [tab] at h,fun h=>by simp [tab] at h⟩
theorem ybqz(P:Program):ycx P (fun _ _ _ _=>none):=⟨yayh P,fun h=>(by cases h),fun h=>(by cases h)⟩
theorem yp{P:Program}{l:List (Nat × List AV × yq × Nat × (AV × yq × Nat))}{f m n':Nat}{args:List AV}{H H':yq}{r:AV}(h:yag P f args H m r H' n')(hl:ycx P (tab l)):ycx P (tab ((f,args,H,m,(r,H',n')) :: l)):=by
  refine ⟨yayh P,fun {f' a' H1 m1 x} hx=>?_,fun {f' a' H1 m1 r1 H2 n2} hx=>?_⟩
  ·simp only [tab] at hx
   split at hx
   ·rename_i hh
    obtain ⟨rfl,rfl,rfl,rfl⟩:=hh
    exact h.1
   ·exact hl.fn hx
  ·simp only [tab] at hx
   split at hx
   ·rename_i hh
    obtain ⟨rfl,rfl,rfl,rfl⟩:=hh
    simp only [Option.some.injEq,Prod.mk.injEq] at hx
    obtain ⟨rfl,rfl,rfl⟩:=hx
    exact h.2
   ·exact hl.calls hx
theorem ycbt(l:List (Nat × List AV × yq × Nat × (AV × yq × Nat)))(f m:Nat)(args:List AV)(H:yq)(x:AV × yq × Nat):tab ((f,args,H,m,x) :: l) f args H m=some x:=by simp [tab]
theorem ydnr(l:List (Nat × List AV × yq × Nat × (AV × yq × Nat)))(f g m m':Nat)(args args':List AV)(H H':yq)(x:AV × yq × Nat)(h:Nat.beq g f=false):tab ((f,args,H,m,x) :: l) g args' H' m' = tab l g args' H' m':=by
  have:¬ g=f:=Nat.ne_of_beq_eq_false h
  simp [tab,this]
def yay(m:Nat)(res:List IR)(r:AV)(H':yq)(n':Nat):Ex→St→Prop:=fun e s=>∃ s',ylu m s s'∧yjx m res (some (e,s')) = some (r,H',n')
theorem yag.intro{P:Program}{f m n':Nat}{args:List AV}{H H':yq}{r:AV}{i:IFn}{fn:Func}{V:List Nat}(hf:P.funcs[f]? = some fn)(hc:yat P V fn=some i)(hn:args.length≤i.nt)
    (hw:Wp P i.nt m i.body ⟨yal args i.live,[],H,m⟩ (yay m i.res r H' n')):yag P f args H m r H' n':=by
  obtain ⟨h3,body,h4,h5,h6,h7⟩:=yug hc
  refine ⟨⟨fn,hf,h3,by rw [h4]; rfl⟩,fun {A ρ w xs} hr hx=>?_⟩
  have hst:=yako hr hx hn i.live
  rw [h5] at hst
  refine calls_of_wp hf h4 ?_
  refine hw body h6 A ⟨ρ,H,w,m⟩ _ w rfl (fun j x hj=>hr.ltR j x hj) (by rw [h5]; exact hst) _ fun e s0 a' w' hq hs0=>?_
  obtain ⟨s1,hwk,hq⟩:=hq
  have hs:=hwk _ _ _ _ _ rfl (fun j x hj=>hr.ltR j x hj) hs0
  unfold yjx at hq
  split at hq
  ·cases hq
  ·rename_i e' s1' hne he
   simp only [Option.some.injEq,Prod.mk.injEq] at he
   obtain ⟨rfl,rfl⟩:=he
   split at hq
   ·rename_i vs hvs
    simp only [Option.some.injEq,Prod.mk.injEq] at hq
    obtain ⟨rfl,rfl,rfl⟩:=hq
    obtain ⟨ρ1,q1,q2,q3,q4⟩:=hs.ex
    obtain ⟨ys,g1,g2⟩:=yzu q1 q2 h7 hvs
    have hbody:∃ v,(results fn a'.tmps).run P w' = .ok v w'∧Ret A ρ H w m (ren (pos (ybs s1.H m vs)) (one vs)) (ycd (pos (ybs s1.H m vs)) s1.H) (ybs s1.H m vs).length (.returned v) w':=by
      refine ⟨_,ysq g1,?_⟩
      obtain ⟨p1,p2⟩:=yso s1.H m vs
      obtain ⟨r1,r2,r3⟩:=yye (l:=ybs s1.H m vs) q1
      refine ⟨ygx (ybs s1.H m vs) ρ1,r1,yakq q1 ?_,yagh q3 (fun j x hj=>hr.ltR j x hj) p2,q4.trans r3⟩
      have hlen:=yce g2
      match vs,ys,g2,hlen with
      | [],[],g2,_=>simp only [R.one,VR]; exact ⟨_,rfl,g2⟩
      | [v],[y],g2,_=>
        simp only [R.one]
        simp only [VRs] at g2
        obtain ⟨x,r,e1,e2,e3⟩:=g2
        simp only [List.cons.injEq] at e1
        rw [e1.1]
        exact e2
      | v :: v2 :: r,y :: y2 :: r',g2,_=>simp only [R.one,VR]; exact ⟨_,rfl,g2⟩
    obtain ⟨v,b1,b2⟩:=hbody
    cases e with
    | norm=>exact ⟨hs.defers,v,b1,b2⟩
    | ret=>exact ⟨hs.defers,v,b1,b2⟩
    | out id=>exact absurd rfl (hne id)
   ·cases hq
  ·rename_i he
   cases he
theorem yau(P:Program):∀ i,ycx P (clsL [] i):=fun i=>ybqz P
theorem ybk{P:Program}{cl:Callee}{l:List (Nat × Callee)}(j:Nat)(h:ycx P cl)(hl:∀ i,ycx P (clsL l i)):∀ i,ycx P (clsL ((j,cl) :: l) i):=fun i=>by
  simp only [clsL,ybo]
  by_cases hj:j=i
  ·rw [if_pos hj]; exact h
  ·rw [if_neg hj]; exact hl i
end Go.Proofs.YtgoachcogmlhcaaGreat.R
