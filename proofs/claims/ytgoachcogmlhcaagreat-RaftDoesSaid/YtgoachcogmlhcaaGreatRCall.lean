/- Calls. -/
import Derived.Test.YtgoachcogmlhcaaGreatRRen
set_option linter.unusedVariables false
set_option linter.unusedSectionVars false
set_option linter.unusedSimpArgs false
noncomputable section
namespace Go.Proofs.YtgoachcogmlhcaaGreat.R
open Go
def Ret(A:Nat→Nat→Prop)(ρ:Rho)(H:yq)(w:World)(m:Nat)(r:AV)(H':yq)(n':Nat):Ending→World→Prop
  | .returned x,w'=>∃ ρ',Rep A ρ' H' n' w'∧VR w' (UU A ρ' H') ρ' r x∧yfh ρ m ρ' n'∧Fr ρ H w ρ' H' w'
  | _,_=>False
def ycca(P:Program):Prop:=∀ {f es:Nat},ywm P f=some es→∀ {A:Nat→Nat→Prop} {ρ:Rho} {w:World} {s s':St} {v r:AV} {X:Value},Rep A ρ s.H s.nx w→VR w (UU A ρ s.H) ρ v X→ypf es s v=some (r,s') →
  (callFunc f #[X]).run P w = .ok (.enter f #[X]) w∧Calls P f #[X] w (fun e w'=>∃ x,e = .returned x∧ydj A ρ s w r s' x w')
structure ycx (P:Program) (cl:Callee):Prop where
  cln:ycca P
  fn:∀ {f args H m r},cl f args H m=some r→∃ fn,P.funcs[f]? = some fn∧(fn.name == "runtime.NumGoroutine") = false∧fn.body.isNone=false
  calls:∀ {f args H m r H' n'},cl f args H m=some (r,H',n')→∀ {A ρ w} {xs:Array Value},Rep A ρ H m w→VRs w (UU A ρ H) ρ args xs.toList→Calls P f xs w (Ret A ρ H w m r H' n')
def yccd(A:Nat→Nat→Prop)(ρ:Rho)(s:St)(w:World)(v:AV)(s':St):Ending→World→Prop
  | .returned x,w'=>ydj A ρ s w v s' x w'
  | _,_=>False
theorem ymo{P:Program}{w:World}{f:FuncId}{args:Array Value}{fn:Func}(hf:P.funcs[f]? = some fn)(hn:(fn.name == "runtime.NumGoroutine") = false)(hb:fn.body.isNone=false):(callFunc f args).run P w = .ok (.enter f args) w:=by
  have h1:fn.name ≠ "runtime.NumGoroutine":=by simpa using hn
  have h2:fn.body≠none:=by
    intro e
    rw [e] at hb
    cases hb
  simp [callFunc,hf,h1,h2]
section
variable {P:Program} {w:World} {A:Nat→Nat→Prop} {ρ:Rho} {s s':St} {v:AV} {c:Cfg} {cl:Callee}
theorem ycen(hcl:ycx P cl)(hr:Rep A ρ s.H s.nx w){f:FuncId}{args:List AV}{xs:Array Value}(hx:VRs w (UU A ρ s.H) ρ args xs.toList){r:AV}{H1:yq}{n1:Nat}(h1:cl f (yef s.H args) [] 0=some (r,H1,n1))(h:ymd s args (frz H1 r) = some (v,s')) :
    Calls P f xs w (yccd A ρ s w v s'):=by
  let A':=UU A ρ (yei s.H args)
  have hlk:=yja args s.H
  have hr1:Rep A ρ (yei s.H args) s.nx w:=yqm hr hlk
  have hrep:Rep A' ybz [] 0 w:=yrn fun b o ha=>yajl hr1 ha
  have hxs:=yyi hr args s.H (ybx.refl _) (yei s.H args) (ybx.refl _) _ hx
  have hU0:∀ b o,UU A' ybz [] b o→A' b o:=by
    rintro b o (h | ⟨id,es,ob,h1,_⟩)
    ·exact h
    ·simp at h1
  refine Calls.mono (hcl.calls h1 hrep (yel (ydn.less hU0) _ _ _ _ (Ext.refl _) hxs)) fun e w' he=>?_
  cases e with
  | returned x=>
    obtain ⟨ρ',g1,g2,g3,g4⟩:=he
    have g5:=ywi g1 r H1 (ybx.refl _) (ybm H1 r) (ybx.refl _) x g2
    obtain ⟨q1,q2⟩:=ywg hr g4
    unfold ymd at h
    split at h
    ·rename_i hp
     simp only [Option.some.injEq,Prod.mk.injEq] at h
     obtain ⟨rfl,rfl⟩:=h
     exact ⟨rfl,rfl,ρ,q1,yakp _ _ hp g5,yfh.refl _ _,q2⟩
    ·split at h
     ·rename_i hp
      simp only [Option.some.injEq,Prod.mk.injEq] at h
      obtain ⟨rfl,rfl⟩:=h
      refine ⟨rfl,rfl,ρ,yqm q1 hlk,?_,yfh.refl _ _,q2.trans (yhj fun b o=>ymw hlk)⟩
      have g6:=ydo (ydn.less (U':=A') fun b o ha=>.inl ha) _ _ _ _ (Ext.refl _) g5
      exact yagi _ _ hp g6
     ·cases h
  | panicked chain=>exact he.elim
  | outgrown=>exact he.elim
theorem yke{l:List Nat}{n1 nx j:Nat}(h:j < l.length):yem l l.length n1 nx j=l[j]?:=by simp [yem,h]
theorem ykd{l:List Nat}{n1 nx j i:Nat}(h:¬ j < l.length)(hb:yem l l.length n1 nx j=some i):j < n1∧i=nx + (j - l.length):=by
  unfold yem at hb
  rw [if_neg h] at hb
  split at hb
  ·rename_i h1
   exact ⟨h1,(Option.some.inj hb).symm⟩
  ·cases hb
theorem yats(hcl:ycx P cl){H0:yq}{nx:Nat}(hr:Rep A ρ H0 nx w){f:FuncId}{args:List AV}{xs:Array Value}(hx:VRs w (UU A ρ H0) ρ args xs.toList){l:List Nat}(hl:l.Nodup)(hlH:∀ id∈l,∃ o,lk H0 id=some o){r:AV}{H1:yq}{n1:Nat}
    (h1:cl f (yhr (pos l) args) (yff (ycd (pos l) H0) l.length) l.length=some (r,H1,n1)) (q n':Nat) (hq:∀ t,q≤t→t < q + (n1 - l.length)→ρ t=none∧lk H0 t=none) (hqn:q + (n1 - l.length)≤n') (hmn:nx≤n') :
    Calls P f xs w (fun e w'=>∃ x ρ2,e = .returned x∧Rep A ρ2 (ycd (yem l l.length n1 q) H1++ydd H0 l) n' w'∧VR w' (UU A ρ2 (ycd (yem l l.length n1 q) H1++ydd H0 l)) ρ2 (ren (yem l l.length n1 q) r) x∧Ext ρ ρ2 ∧
      (∀ k,ρ k=none→¬ (q≤k∧k < q + (n1 - l.length))→ρ2 k=none)∧Fr ρ H0 w ρ2 (ycd (yem l l.length n1 q) H1++ydd H0 l) w'):=by
  let Hr:=ydd H0 l
  let A':=UU A ρ Hr
  let back:=yem l l.length n1 q
  have hHr:∀ k o,lk Hr k=some o→lk H0 k=some o∧k∉l:=fun k o h=>yaez h
  have hWr:∀ b o,Wr ρ Hr b o→Wr ρ H0 b o:=fun b o h=>yjn (fun k o hk=>(hHr k o hk).1) h
  have hi:Inj (pos l):=fun i i' j h h'=>yahp h h'
  obtain ⟨e1,e2⟩:=yasz (A':=A') (ρ':=ygx l ρ) (n:=l.length) hr hi (fun i j h=>yhi h) (fun i j h=>yafh h) (fun j x h=>yari h)
    (fun b o h=>yajl hr (h.imp_right (hWr b o))) (fun b o h=>h.imp_right (hWr b o)) (fun i j o b es off hp ho hρ=>by
      rintro (h | ⟨id,es',ob,g1,g2,_⟩)
      ·exact hr.apart i o b es off ho hρ h
      ·obtain ⟨g3,g4⟩:=hHr _ _ g1
       have:=hr.inj i id o ob b es es' ho g3 hρ g2
       subst this
       exact g4 (List.mem_of_getElem? (yjj hp)))
  have hargs:=yli (f:=pos l) (ρ':=ygx l ρ) (fun id j y hj hy=>by rw [yhi hj]; exact hy) args _ hx
  have hcan:∀ k o,lk (yff (ycd (pos l) H0) l.length) k=some o→lk (ycd (pos l) H0) k=some o:=by
    intro k o hk
    rw [yahj] at hk
    split at hk
    ·exact hk
    ·cases hk
  have e1:=ymu e1 hcan
  have e2:∀ b o,UU A' (ygx l ρ) (yff (ycd (pos l) H0) l.length) b o→UU A ρ H0 b o:=fun b o h=>e2 b o (h.imp_right (yjn hcan))
  refine Calls.mono (hcl.calls h1 e1 (yel (ydn.less e2) _ _ _ _ (Ext.refl _) hargs)) fun e w' he=>?_
  cases e with
  | panicked chain=>exact he.elim
  | outgrown=>exact he.elim
  | returned x=>
    obtain ⟨ρ',g1,g2,g3,g4⟩:=he
    let ρ2:Rho:=fun id=>match pos l id with | some j=>ρ' j | none=>if q≤id∧id < q + (n1 - l.length) then ρ' (l.length + (id - q)) else ρ id
    have hlnx:∀ id∈l,id < nx:=fun id hid=>by
      obtain ⟨o,ho⟩:=hlH id hid
      exact hr.ltH id o ho
    have hlq:∀ t,q≤t→t < q + (n1 - l.length)→pos l t=none:=fun t h1 h2=>by
      cases hp:pos l t with
      | none=>rfl
      | some u=>
        obtain ⟨o,ho⟩:=hlH t (List.mem_of_getElem? (yjj hp))
        rw [(hq t h1 h2).2] at ho
        cases ho
    have hback:∀ j i,back j=some i→ρ2 i=ρ' j:=by
      intro j i hj
      by_cases hlt:j < l.length
      ·have hj':l[j]? = some i:=by rw [← yke hlt (n1:=n1) (nx:=q)]; exact hj
       simp only [ρ2,ypt hl hj']
      ·obtain ⟨hj1,rfl⟩:=ykd hlt hj
       simp only [ρ2,hlq (q + (j - l.length)) (by omega) (by omega)]
       rw [if_pos (by omega)]
       congr 1; omega
    have hext:Ext ρ ρ2:=by
      intro id y hy
      cases hp:pos l id with
      | none=>
        have:¬ (q≤id∧id < q + (n1 - l.length)):=fun hh=>by rw [(hq id hh.1 hh.2).1] at hy; cases hy
        simp only [ρ2,hp,if_neg this]; exact hy
      | some j=>
        simp only [ρ2,hp]
        exact g3.ext j y (by rw [yhi hp]; exact hy)
    have hlH':∀ t,q≤t→t < q + (n1 - l.length)→t∉l:=fun t h1 h2 hm=>by
      obtain ⟨o,ho⟩:=hlH t hm
      rw [(hq t h1 h2).2] at ho
      cases ho
    have hinj:Inj back:=by
      intro i i' j h h'
      by_cases hlt:i < l.length
      ·have hi':l[i]? = some j:=by rw [← yke hlt (n1:=n1) (nx:=q)]; exact h
       by_cases hlt':i' < l.length
       ·have hi2:l[i']? = some j:=by rw [← yke hlt' (n1:=n1) (nx:=q)]; exact h'
        have a1:=ypt hl hi'
        have a2:=ypt hl hi2
        rw [a1] at a2
        exact Option.some.inj a2
       ·obtain ⟨b1,rfl⟩:=ykd hlt' h'
        exact absurd (List.mem_of_getElem? hi') (hlH' _ (by omega) (by omega))
      ·obtain ⟨b1,b2⟩:=ykd hlt h
       by_cases hlt':i' < l.length
       ·have hi2:l[i']? = some j:=by rw [← yke hlt' (n1:=n1) (nx:=q)]; exact h'
        subst b2
        exact absurd (List.mem_of_getElem? hi2) (hlH' _ (by omega) (by omega))
       ·obtain ⟨b3,b4⟩:=ykd hlt' h'
        omega
    let H2:=ycd back H1++Hr
    have hlk:∀ i o,lk H2 i=some o→(∃ j o',lk H1 j=some o'∧back j=some i∧o=yoi back o'∧ρ2 i=ρ' j)∨(lk H0 i=some o∧i∉l∧i < nx∧ρ2 i=ρ i∧lk Hr i=some o):=by
      intro i o h
      rcases yait h with h | h
      ·obtain ⟨j,o',a1,a2,a3⟩:=ykj hinj h
       exact .inl ⟨j,o',a1,a2,a3,hback j i a2⟩
      ·obtain ⟨a1,a2⟩:=hHr i o h
       have a3:=hr.ltH i o a1
       refine .inr ⟨a1,a2,a3,?_,h⟩
       have hp:pos l i=none:=by
         cases hp:pos l i with
         | none=>rfl
         | some q=>exact absurd (List.mem_of_getElem? (yjj hp)) a2
       have:¬ (q≤i∧i < q + (n1 - l.length)):=fun hh=>by rw [(hq i hh.1 hh.2).2] at a1; cases a1
       simp only [ρ2,hp,if_neg this]
    have hW2:∀ b o,Wr ρ2 H2 b o→Wr ρ' H1 b o∨Wr ρ Hr b o:=by
      rintro b o ⟨i,es,ob,a1,a2,a3⟩
      rcases hlk i ob a1 with ⟨j,o',b1,b2,rfl,b4⟩ | ⟨b1,b2,b3,b4,b5⟩
      ·rw [b4] at a2
       exact .inl ⟨j,es,o',b1,a2,yarx.1 a3⟩
      ·rw [b4] at a2
       exact .inr ⟨i,es,ob,b5,a2,a3⟩
    have hU2:∀ b o,UU A ρ2 H2 b o→UU A' ρ' H1 b o:=by
      rintro b o (h | h)
      ·exact .inl (.inl h)
      ·rcases hW2 b o h with h | h
       ·exact .inr h
       ·exact .inl (.inr h)
    have hWc:∀ b o,Wr (ygx l ρ) (yff (ycd (pos l) H0) l.length) b o→∃ i j es ob,lk H0 i=some ob∧pos l i=some j∧ρ i=some (b,es)∧yiy es o ob:=fun b o h=>yakv hi (fun i j h=>yhi h) (yjn hcan h)
    have hfr:Fr ρ H0 w ρ2 H2 w':=
      { size:=g4.size
        os:=g4.os
        tape:=g4.tape
        output:=g4.output
        cells:=fun b C e fr hb=>by
          obtain ⟨C',a1,a2,a3⟩:=g4.cells b C e fr hb
          refine ⟨C',a1,a2,fun o ho=>a3 o fun hw=>ho ?_⟩
          obtain ⟨i,j,es,ob,q1,_,q2,q3⟩:=hWc b o hw
          exact ⟨i,es,ob,q1,q2,q3⟩
        other:=g4.other
        shrink:=fun b o hb hw=>by
          rcases hW2 b o hw with h | h
          ·obtain ⟨i,j,es,ob,q1,_,q2,q3⟩:=hWc b o (g4.shrink b o hb h)
           exact ⟨i,es,ob,q1,q2,q3⟩
          ·exact hWr b o h }
    have hmix:∀ j o' b es,lk H1 j=some o'→ρ' j=some (b,es)→∀ i ob es',lk Hr i=some ob→ρ i=some (b,es')→False:=by
      intro j o' b es a1 a2 i ob es' a3 a4
      cases ob with
      | box cells=>exact g1.apart j o' b es 0 a1 a2 (.inr ⟨i,es',_,a3,a4,trivial⟩)
      | arr es2 rows leak=>exact g1.apart j o' b es (leak * es') a1 a2 (.inr ⟨i,es',_,a3,a4,Nat.le_refl _⟩)
    have hcl0:∀ k,ρ k=none→¬ (q≤k∧k < q + (n1 - l.length))→ρ2 k=none:=by
      intro k hk hn
      cases hp:pos l k with
      | none=>simp only [ρ2,hp,if_neg hn]; exact hk
      | some j=>
        simp only [ρ2,hp]
        exact g3.cl j (yafh hp) (by rw [yhi hp]; exact hk)
    refine ⟨x,ρ2,rfl,?_,?_,hext,hcl0,hfr⟩
    ·exact
       { ob:=fun i o b es a1 a2=>by
          rcases hlk i o a1 with ⟨j,o',b1,b2,rfl,b4⟩ | ⟨b1,b2,b3,b4,b5⟩
          ·rw [b4] at a2
           have h6:=g1.ob j o' b es b1 a2
           cases o' with
           | box cells=>
             obtain ⟨C,e,fr,k1,k2,k3⟩:=h6
             refine ⟨C,e,fr,k1,k2,?_⟩
             have:=yli (f:=back) (ρ':=ρ2) (fun id j y hj hy=>by rw [hback id j hj]; exact hy) cells _ k3
             exact yel (ydn.less hU2) _ _ _ _ (Ext.refl _) this
           | arr es' rows leak=>
             obtain ⟨k0,k0',C,e,fr,k1,k2,k3⟩:=h6
             exact ⟨k0,k0',C,e,fr,k1,k2,ygz (ydn.less hU2) k3⟩
          ·rw [b4] at a2
           have h6:=hr.ob i o b es b1 a2
           refine yfk hfr.stay hext ?_ h6
           have hn:∀ off,¬ Wr (ygx l ρ) (yff (ycd (pos l) H0) l.length) b off:=by
             intro off hw
             obtain ⟨i2,j,es2,ob,q1,q2,q3,_⟩:=hWc b off hw
             have:=hr.inj i i2 o ob b es es2 b1 q1 a2 q3
             subst this
             exact b2 (List.mem_of_getElem? (yjj q2))
           cases o with
           | box cells=>obtain ⟨C,e,fr,h7,_⟩:=h6; exact yqq g4 h7 hn
           | arr es' rows leak=>obtain ⟨_,_,C,e,fr,h7,_⟩:=h6; exact yqq g4 h7 hn
         inj:=fun i i' oi oi' b ei ei' a1 a2 a3 a4=>by
           rcases hlk i oi a1 with ⟨j,o',b1,b2,rfl,b4⟩ | ⟨b1,b2,b3,b4,b5⟩ <;> rcases hlk i' oi' a2 with ⟨j',o2,c1,c2,rfl,c4⟩ | ⟨c1,c2,c3,c4,c5⟩
           ·rw [b4] at a3
            rw [c4] at a4
            have:=g1.inj j j' o' o2 b ei ei' b1 c1 a3 a4
            subst this
            exact Option.some.inj (b2.symm.trans c2)
           ·rw [b4] at a3
            rw [c4] at a4
            exact (hmix j o' b ei b1 a3 i' oi' ei' c5 a4).elim
           ·rw [b4] at a3
            rw [c4] at a4
            exact (hmix j' o2 b ei' c1 a4 i oi ei b5 a3).elim
           ·rw [b4] at a3
            rw [c4] at a4
            exact hr.inj i i' oi oi' b ei ei' b1 c1 a3 a4
         ltH:=fun i o a1=>by
           rcases hlk i o a1 with ⟨j,o',b1,b2,rfl,b4⟩ | ⟨b1,b2,b3,b4,b5⟩
           ·have hj1:=g1.ltH j o' b1
            by_cases hlt:j < l.length
            ·have hj':l[j]? = some i:=by rw [← yke hlt (n1:=n1) (nx:=q)]; exact b2
             have:=hlnx i (List.mem_of_getElem? hj')
             omega
            ·obtain ⟨b5,b6⟩:=ykd hlt b2
             omega
           ·omega
         ltR:=fun i x hx=>by
           simp only [ρ2] at hx
           split at hx
           ·rename_i j hp
            have:=hlnx i (List.mem_of_getElem? (yjj hp))
            omega
           ·split at hx
            ·omega
            ·have:=hr.ltR i x hx
             omega
         ltA:=fun b o ha=>Nat.lt_of_lt_of_le (hr.ltA b o ha) g4.size
         apart:=fun i o b es off a1 a2=>by
           rcases hlk i o a1 with ⟨j,o',b1,b2,rfl,b4⟩ | ⟨b1,b2,b3,b4,b5⟩
           ·rw [b4] at a2
            exact fun ha=>g1.apart j o' b es off b1 a2 (.inl ha)
           ·rw [b4] at a2
            exact hr.apart i o b es off b1 a2 }
    ·have:=yakr (f:=back) (ρ':=ρ2) (fun id j y hj hy=>by rw [hback id j hj]; exact hy) r x g2
     exact ydo (ydn.less hU2) _ _ _ _ (Ext.refl _) this
theorem ycbj(hcl:ycx P cl)(hr:Rep A ρ s.H s.nx w){f:FuncId}{args:List AV}{xs:Array Value}(hx:VRs w (UU A ρ s.H) ρ args xs.toList)(h:ydv c cl s f args=some (v,s')) :
    (callFunc f xs).run P w = .ok (.enter f xs) w∧Calls P f xs w (yccd A ρ s w v s'):=by
  unfold ydv at h
  split at h
  ·split at h
   ·rename_i r H1 n1 h1
    obtain ⟨fn,k1,k2,k3⟩:=hcl.fn h1
    exact ⟨ymo k1 k2 k3,ycen hcl hr hx h1 h⟩
   ·cases h
  ·simp only at h
   split at h
   ·rename_i r H1 n1 h1
    obtain ⟨fn,k1,k2,k3⟩:=hcl.fn h1
    simp only [Option.some.injEq,Prod.mk.injEq] at h
    obtain ⟨rfl,rfl⟩:=h
    obtain ⟨q1,_,q3⟩:=yiv s.H yea args [] List.nodup_nil
    refine ⟨ymo k1 k2 k3,Calls.mono (yats hcl hr hx q1 (fun id hid=>?_) h1 s.nx (s.nx + (n1 - (yaw s.H yea args []).length)) (fun t h1 h2=>?_) (Nat.le_refl _) (Nat.le_add_right _ _)) fun e w' hp=>?_⟩
    ·rcases q3 id hid with h | h
     ·simp at h
     ·exact h
    ·refine ⟨?_,?_⟩
     ·cases hh:ρ t with
      | none=>rfl
      | some x=>have:=hr.ltR t x hh; omega
     ·cases hh:lk s.H t with
      | none=>rfl
      | some o=>have:=hr.ltH t o hh; omega
    ·obtain ⟨x,ρ2,rfl,p1,p2,p3,p4,p5⟩:=hp
     exact ⟨rfl,rfl,ρ2,p1,p2,⟨p3,fun k hk h0=>p4 k h0 (by omega),Nat.le_add_right _ _⟩,p5⟩
   ·cases h
theorem yaip(hcl:ycx P cl){o:Oper}{a:Act}(hr:Rep A ρ s.H s.nx w){f:FuncId}{args:List AV}{xs:Array Value}(he:(execOp a.eval o).run P w=(callFunc f xs).run P w)(hx:VRs w (UU A ρ s.H) ρ args xs.toList)(h:ydv c cl s f args=some (v,s')):ysi P A ρ s w v s' o a:=by
  intro K Q hK
  obtain ⟨h1,h2⟩:=ycbj hcl hr hx h
  unfold Oper.wp
  rw [he,h1,Oper.upon_enter]
  refine Calls.mono h2 fun e w' hp=>?_
  cases e with
  | returned x=>exact hK x w' hp
  | panicked chain=>exact hp.elim
  | outgrown=>exact hp.elim
theorem yadd{o:Oper}{ip:IP}(hc:yhu P o.op=some ip)(hn:¬ yny ip=false):∃ callee args ts as,o.op = .call ⟨callee,args,ts⟩∧ymk args.toList=some as∧((∃ f,callee = .value (.func f)∧ip = .call f as)∨∃ x g,callee = .value x∧opd x=some g∧ip = .callv g as):=by
  cases ho:o.op <;> simp only [ho,yhu] at hc
  case call cc=>
    obtain ⟨callee,args,ts⟩:=cc
    simp only at hc
    split at hc
    ·rename_i as has
     split at hc
     ·rename_i b
      exfalso
      unfold yhh at hc
      apply hn
      repeat' split at hc
      all_goals first
        | (cases hc; done)
        | (simp only [Option.some.injEq] at hc; subst hc; rfl)
     ·rename_i f
      simp only [Option.some.injEq] at hc
      exact ⟨_,args,ts,as,rfl,has,.inl ⟨f,rfl,hc.symm⟩⟩
     ·rename_i x _
      split at hc
      ·rename_i g hg
       simp only [Option.some.injEq] at hc
       exact ⟨_,args,ts,as,rfl,has,.inr ⟨x,g,rfl,hg,hc.symm⟩⟩
      ·cases hc
     ·cases hc
    ·cases hc
  case makeFunc f pre post=>
    exfalso
    apply hn
    cases f with
    | func f=>
      simp only at hc
      split at hc
      ·simp only [Option.some.injEq] at hc
       subst hc
       rfl
      ·cases hc
    | _=>simp at hc
  all_goals
    exfalso
    apply hn
    (try simp only [ylm,yjo] at hc)
    repeat' split at hc
    all_goals first
      | (cases hc; done)
      | (simp only [Option.some.injEq] at hc; subst hc; rfl)
theorem ydpc(hcl:ycx P cl){o:Oper}{a:Act}{ip:IP}(hr:Rep A ρ s.H s.nx w)(hv:yjl w (UU A ρ s.H) ρ s a)(hc:yhu P o.op=some ip)(h:ybe c cl s ip=some (v,s')):ysi P A ρ s w v s' o a:=by
  by_cases hn:yny ip=false
  ·exact yayw hr hv hc hn h
  ·have key:=yadd hc hn
   obtain ⟨callee,args,ts,as,ho,has,hcase⟩:=key
   have hvs:=ymv hv has
   rw [← yqv] at hvs
   rcases hcase with ⟨f,rfl,rfl⟩ | ⟨x,g,rfl,hg,rfl⟩
   ·simp only [ybe] at h
    refine yaip hcl (xs:=args.map a.eval) hr ?_ hvs h
    simp only [execOp,ho,resolve,Act.eval,Deferred.ofValue,invoke,Sem.run_bind,Sem.run_pure,Result.andThen_ok]
    simp
   ·simp only [ybe] at h
    have hgv:=ycf hv hg
    unfold ylk at h
    split at h
    ·rename_i f pre post heq
     rw [heq] at hgv
     simp only [VR] at hgv
     obtain ⟨ps,qs,h1,h2,h3⟩:=hgv
     refine yaip hcl (xs:=ps++args.map a.eval++qs) hr ?_ ?_ h
     ·simp only [execOp,ho,resolve,h1,Deferred.ofValue,invoke,Sem.run_bind,Sem.run_pure,Result.andThen_ok]
     ·simp only [Array.toList_append,List.append_assoc]
      exact ykb h2 (ykb hvs h3)
    ·cases h
theorem ybuq{o:Oper}{a:Act}{ip:IP}(hv:yjl w (UU A ρ s.H) ρ s a)(hc:yhu P o.op=some ip){fn:Nat}{L:List AV}
    (hip:(∃ as,ip = .call fn as∧L=s.evs as)∨∃ g as pre post,ip = .callv g as∧s.ev g = .fn (.func fn) pre post∧L=pre++(s.evs as++post)):∃ xs:Array Value,(execOp a.eval o).run P w=(callFunc fn xs).run P w∧VRs w (UU A ρ s.H) ρ L xs.toList:=by
  have hn:¬ yny ip=false:=by
    rcases hip with ⟨as,rfl,_⟩ | ⟨g,as,pre,post,rfl,_⟩ <;> simp [yny]
  obtain ⟨callee,args,ts,as,ho,has,hcase⟩:=yadd hc hn
  have hvs:=ymv hv has
  rw [← yqv] at hvs
  rcases hcase with ⟨f,rfl,rfl⟩ | ⟨x,g,rfl,hg,rfl⟩
  ·rcases hip with ⟨as',h1,rfl⟩ | ⟨g,as',pre,post,h1,_⟩
   ·simp only [IP.call.injEq] at h1
    obtain ⟨rfl,rfl⟩:=h1
    refine ⟨args.map a.eval,?_,hvs⟩
    simp only [execOp,ho,resolve,Act.eval,Deferred.ofValue,invoke,Sem.run_bind,Sem.run_pure,Result.andThen_ok]
    simp
   ·cases h1
  ·rcases hip with ⟨as',h1,rfl⟩ | ⟨g',as',pre,post,h1,h2,rfl⟩
   ·cases h1
   ·simp only [IP.callv.injEq] at h1
    obtain ⟨rfl,rfl⟩:=h1
    have hgv:=ycf hv hg
    rw [h2] at hgv
    simp only [VR] at hgv
    obtain ⟨ps,qs,k1,k2,k3⟩:=hgv
    refine ⟨ps++args.map a.eval++qs,?_,?_⟩
    ·simp only [execOp,ho,resolve,k1,Deferred.ofValue,invoke,Sem.run_bind,Sem.run_pure,Result.andThen_ok]
    ·simp only [Array.toList_append,List.append_assoc]
     exact ykb k2 (ykb hvs k3)
theorem ywo{o:Op}{ip:IP}(h:yagl P o=some ip):∃ f args ts x X es,o = .call ⟨.value (.func f),args,ts⟩∧args.toList = [x]∧ywm P f=some es∧opd x=some X∧ip = .cln es X:=by
  unfold yagl at h
  split at h
  ·rename_i f args ts
   split at h
   ·rename_i x hx
    split at h
    ·rename_i es X h1 h2
     simp only [Option.some.injEq] at h
     exact ⟨f,args,ts,x,X,es,rfl,hx,h1,h2,h.symm⟩
    ·cases h
   ·cases h
  ·cases h
theorem ybhp{o:Op}{ip:IP}(hc:comp P o=some ip)(hn:yny ip=true):yhu P o=some ip:=by
  unfold comp at hc
  split at hc
  ·rename_i ip' hq
   obtain ⟨f,args,ts,x,X,es,_,_,_,_,rfl⟩:=ywo hq
   simp only [Option.some.injEq] at hc
   subst hc
   simp [yny] at hn
  ·exact hc
theorem goes(hcl:ycx P cl){o:Oper}{a:Act}{ip:IP}(hr:Rep A ρ s.H s.nx w)(hv:yjl w (UU A ρ s.H) ρ s a)(hc:comp P o.op=some ip)(h:ybe c cl s ip=some (v,s')):ysi P A ρ s w v s' o a:=by
  unfold comp at hc
  split at hc
  ·rename_i ip' hq
   simp only [Option.some.injEq] at hc
   subst hc
   obtain ⟨f,args,ts,x,X,es,ho,hx,h1,h2,rfl⟩:=ywo hq
   simp only [ybe] at h
   obtain ⟨k1,k2⟩:=hcl.cln h1 hr (ycf hv h2) h
   have hargs:args.map a.eval = #[a.eval x]:=by
     apply Array.ext'
     simp [hx]
   have he:(execOp a.eval o).run P w=(callFunc f #[a.eval x]).run P w:=by
     rw [← hargs]
     simp only [execOp,ho,resolve,Act.eval,Deferred.ofValue,invoke,Sem.run_bind,Sem.run_pure,Result.andThen_ok]
     simp
   intro K Q hK
   unfold Oper.wp
   rw [he,k1,Oper.upon_enter]
   refine Calls.mono k2 fun e w' hp=>?_
   obtain ⟨x',rfl,hp⟩:=hp
   exact hK x' w' hp
  ·exact ydpc hcl hr hv hc h
end
end Go.Proofs.YtgoachcogmlhcaaGreat.R
