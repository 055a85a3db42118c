/- Functions: what the evaluator answers, the program answers. -/
import Derived.Test.YtgoachcogmlhcaaGreatRCode
set_option linter.unusedVariables false
set_option linter.unusedSectionVars false
set_option linter.unusedSimpArgs false
noncomputable section
namespace Go.Proofs.YtgoachcogmlhcaaGreat.R
open Go
def yoj(tmps:Array Value):ResultVar→Sem Value
  | .tmp t=>pure (tmps.getD t undef)
  | .cell a t=>do loadVar t (← asAddr (tmps.getD a undef))
section
variable {P:Program} {A:Nat→Nat→Prop} {E:Entry} {nt:Nat} {c:Cfg} {cl:Callee} {s s':St} {a:Act} {w:World}
theorem yzu{ρ:Rho}(hr:Rep A ρ s.H s.nx w)(hv:yjl w (UU A ρ s.H) ρ s a):∀ {rs:List ResultVar} {irs:List IR} {vs:List AV},yln P rs=some irs→yej s irs=some vs →
    ∃ xs:List Value,(rs.mapM (yoj a.tmps)).run P w = .ok xs w∧VRs w (UU A ρ s.H) ρ vs xs
  | [],irs,vs,hc,h=>by
    simp only [yln,Option.some.injEq] at hc
    subst hc
    simp only [yej,Option.some.injEq] at h
    subst h
    exact ⟨[],by simp,by simp [VRs]⟩
  | .tmp t :: rs,irs,vs,hc,h=>by
    simp only [yln] at hc
    split at hc
    ·rename_i l hl
     simp only [Option.some.injEq] at hc
     subst hc
     simp only [yej] at h
     split at h
     ·rename_i l' hl'
      simp only [Option.some.injEq] at h
      subst h
      obtain ⟨xs,g1,g2⟩:=yzu hr hv hl hl'
      refine ⟨a.tmps.getD t undef :: xs,?_,?_⟩
      ·rw [List.mapM_cons]
       simp only [Sem.run_bind,yoj,Sem.run_pure,Result.andThen_ok,g1]
      ·simp only [VRs]
       exact ⟨_,_,rfl,hv t,g2⟩
     ·cases h
    ·cases hc
  | .cell b t :: rs,irs,vs,hc,h=>by
    simp only [yln] at hc
    split at hc
    ·rename_i x l hx hl
     simp only [Option.some.injEq] at hc
     subst hc
     simp only [yej] at h
     split at h
     ·rename_i v l' hv' hl'
      simp only [Option.some.injEq] at h
      subst h
      obtain ⟨xs,g1,g2⟩:=yzu hr hv hl hl'
      obtain ⟨z,k1,k2⟩:=yarn (P:=P) hr hx (hv b) hv'
      have k3:(yoj a.tmps (.cell b t)).run P w = .ok z w:=by
        rw [← k1]
        have hb:=hv b
        unfold yhd at hv'
        split at hv'
        ·rename_i heq
         rw [heq] at hb
         simp only [VR] at hb
         obtain ⟨_,_,_,hb⟩:=hb
         simp only [yoj,hb,Instr.loadAt,Instr.sureAddr,asAddr,Sem.run_bind,Sem.run_pure,Result.andThen_ok]
        ·rename_i heq
         rw [heq] at hb
         simp only [VR] at hb
         obtain ⟨_,_,_,hb⟩:=hb
         simp only [yoj,hb,Instr.loadAt,Instr.sureAddr,asAddr,Sem.run_bind,Sem.run_pure,Result.andThen_ok]
        ·rename_i heq
         rw [heq] at hb
         simp only [VR] at hb
         obtain ⟨_,_,hb,_⟩:=hb
         simp only [yoj,hb,Instr.loadAt,Instr.sureAddr,asAddr,Sem.run_bind,Sem.run_pure,Result.andThen_ok]
        ·cases hv'
      refine ⟨z :: xs,?_,?_⟩
      ·rw [List.mapM_cons]
       simp only [Sem.run_bind,k3,Sem.run_pure,Result.andThen_ok,g1]
      ·simp only [VRs]
       exact ⟨_,_,rfl,k2,g2⟩
     ·cases h
    ·cases hc
theorem ysq{fn:Func}{tmps:Array Value}{xs:List Value}(h:(fn.results.toList.mapM (yoj tmps)).run P w = .ok xs w):(results fn tmps).run P w = .ok (match xs with | [x]=>x | xs=>.tuple xs.toArray) w:=by
  have he:(fn.results.mapM (yoj tmps)).run P w = .ok xs.toArray w:=by
    rw [Array.mapM_eq_mapM_toList,Sem.run_map,h]
    rfl
  have hd:results fn tmps=(do
   let vs ← fn.results.mapM (yoj tmps)
   pure (if h:vs.size=1 then vs[0] else .tuple vs)):=by
    unfold results
    congr 1
  rw [hd]
  simp only [Sem.run_bind,he,Result.andThen_ok,Sem.run_pure]
  match xs with
  | []=>simp
  | [x]=>simp
  | x :: y :: r=>simp
theorem yaiu(args:List AV):∀ (live:List Nat) (t:Nat),lk (yal args live) t=none∨lk (yal args live) t=some (match args[t]? with | some v=>v | none=>.un)
  | [],t=>.inl (by simp [yal])
  | k :: r,t=>by
    simp only [yal,ybo]
    by_cases h:k=t
    ·subst h
     right
     rw [if_pos rfl]
     cases args[k]? <;> rfl
    ·rw [if_neg h]
     exact yaiu args r t
theorem yako{ρ:Rho}{H:yq}{m:Nat}(hr:Rep A ρ H m w){args:List AV}{xs:Array Value}(hx:VRs w (UU A ρ H) ρ args xs.toList){nt:Nat}(hn:args.length≤nt)(live:List Nat) :
    SR A ⟨ρ,H,w,m⟩ nt ⟨yal args live,[],H,m⟩ { tmps:=xs++Array.replicate (nt - xs.size) undef,defers:=[] } w:=by
  have hl:=yce hx
  have hxs:xs.toList.length=xs.size:=by simp
  refine ⟨fun t x _=>rfl,by simp; omega,rfl,ρ,hr,fun t=>?_,yfh.refl _ _,Fr.refl _ _ _⟩
  rw [yho]
  show VR w (UU A ρ H) ρ ((lk (yal args live) t).getD .bad) _
  rcases yaiu args live t with h | h
  ·rw [h]; simp [VR]
  ·rw [h,Option.getD_some]
   cases ha:args[t]? with
   | some v=>
     obtain ⟨x,h1,h2⟩:=ydp hx ha
     have hlt:t < xs.size:=by
       rcases Nat.lt_or_ge t xs.size with h | h
       ·exact h
       ·rw [List.getElem?_eq_none (by omega)] at h1; cases h1
     have h3:xs[t]? = some x:=by simpa using h1
     have:(xs++Array.replicate (nt - xs.size) undef).getD t undef=x:=by
       rw [Array.getD_eq_getD_getElem?,Array.getElem?_append_left hlt,h3]
       rfl
     rw [this]
     exact h2
   | none=>
     have hge:xs.size≤t:=by
       rcases Nat.lt_or_ge t xs.size with h | h
       ·have:t < args.length:=by omega
        rw [List.getElem?_eq_getElem this] at ha; cases ha
       ·exact h
     have:(xs++Array.replicate (nt - xs.size) undef).getD t undef=undef:=by
       rw [Array.getD_eq_getD_getElem?,Array.getElem?_append_right hge,Array.getElem?_replicate]
       split <;> rfl
     rw [this]
     simp [VR]
def yaxv(c:Cfg):Prop:=∀ f i,c.fn f=some i→∃ fn V,c.P.funcs[f]? = some fn∧yat c.P V fn=some i
def yakk(c:Cfg)(dr:yacu):Prop:=∀ cl,ycx c.P cl→∀ nt,yccc c.P (dr c cl nt) nt
theorem yug{V:List Nat}{fn:Func}{i:IFn}(h:yat P V fn=some i):(fn.name == "runtime.NumGoroutine") = false∧∃ body,fn.body=some body∧i.nt=fn.ntmps∧ycp P body=some i.body∧yln P fn.results.toList=some i.res:=by
  unfold yat at h
  split at h
  ·cases h
  ·rename_i hn
   split at h
   ·rename_i body hb
    split at h
    ·rename_i b r h1 h2
     simp only [Option.some.injEq] at h
     subst h
     exact ⟨by simpa using hn,body,hb,rfl,h1,h2⟩
    ·cases h
   ·cases h
theorem yst(hc:yaxv c){dr:yacu}(hd:yakk c dr)(hp:ycx c.P c.pr):∀ k,ycx c.P (ype c dr k)
  | 0=>⟨hp.cln,fun h=>by simp [ype] at h,fun h=>by simp [ype] at h⟩
  | k + 1=>by
    have ih:=yst hc hd hp k
    refine ⟨hp.cln,fun {f args H m r} h=>?_,fun {f args H m r H' n'} h A ρ w xs hr hx=>?_⟩
    ·simp only [ype] at h
     split at h
     ·rename_i i hi
      obtain ⟨fn,V,h1,h2⟩:=hc f i hi
      obtain ⟨h3,body,h4,_⟩:=yug h2
      exact ⟨fn,h1,h3,by rw [h4]; rfl⟩
     ·exact hp.fn h
    ·simp only [ype] at h
     split at h
     ·rename_i i hi
      obtain ⟨fn,V,h1,h2⟩:=hc f i hi
      obtain ⟨h3,body,h4,h5,h6,h7⟩:=yug h2
      split at h
      ·rename_i hn
       have hst:=yako hr hx hn i.live
       rw [h5] at hst
       refine calls_of_wp h1 h4 ?_
       unfold yjx at h
       split at h
       ·cases h
       ·rename_i e s1 hne he
        split at h
        ·rename_i vs hvs
         simp only [Option.some.injEq,Prod.mk.injEq] at h
         obtain ⟨rfl,rfl,rfl⟩:=h
         refine ycbk ih (hd _ ih i.nt) (nt:=i.nt) (fun j x hj=>hr.ltR j x hj) body h6 (by rw [h5]; exact hst) he fun a' w' hs=>?_
         obtain ⟨ρ1,q1,q2,q3,q4⟩:=hs.ex
         obtain ⟨ys,g1,g2⟩:=yzu q1 q2 h7 hvs
         have hbody:∃ v,(results fn a'.tmps).run c.P w' = .ok v w'∧Ret A ρ H w m (ren (pos (ybs s1.H m vs)) (one vs)) (ycd (pos (ybs s1.H m vs)) s1.H) (ybs s1.H m vs).length (.returned v) w':=by
           refine ⟨_,ysq g1,?_⟩
           obtain ⟨p1,p2⟩:=yso s1.H m vs
           obtain ⟨r1,r2,r3⟩:=yye (l:=ybs s1.H m vs) q1
           refine ⟨ygx (ybs s1.H m vs) ρ1,r1,yakq q1 ?_,yagh q3 (fun j x hj=>hr.ltR j x hj) p2,q4.trans r3⟩
           have hlen:=yce g2
           match vs,ys,g2,hlen with
           | [],[],g2,_=>simp only [one,VR]; exact ⟨_,rfl,g2⟩
           | [v],[y],g2,_=>
             simp only [one]
             simp only [VRs] at g2
             obtain ⟨x,r,e1,e2,e3⟩:=g2
             simp only [List.cons.injEq] at e1
             rw [e1.1]
             exact e2
           | v :: v2 :: r,y :: y2 :: r',g2,_=>simp only [one,VR]; exact ⟨_,rfl,g2⟩
         obtain ⟨v,b1,b2⟩:=hbody
         cases e with
         | norm=>exact ⟨hs.defers,v,b1,b2⟩
         | ret=>exact ⟨hs.defers,v,b1,b2⟩
         | out id=>exact absurd rfl (hne id)
        ·cases h
       ·cases h
      ·cases h
     ·exact hp.calls h hr hx
end
end Go.Proofs.YtgoachcogmlhcaaGreat.R
