/- Other names for places: what stays true. -/
import Derived.Test.YtgoachcogmlhcaaGreatROp
set_option linter.unusedVariables false
set_option linter.unusedSectionVars false
set_option linter.unusedSimpArgs false
noncomputable section
namespace Go.Proofs.YtgoachcogmlhcaaGreat.R
open Go
theorem yjj:∀ {l:List Nat} {t j:Nat},pos l t=some j→l[j]? = some t
  | [],t,j,h=>by simp at h
  | x :: r,t,j,h=>by
    rw [yvc] at h
    split at h
    ·rename_i hx
     obtain rfl:=Option.some.inj h
     simp [hx]
    ·cases hp:pos r t with
     | none=>simp [hp] at h
     | some k=>
       simp only [hp,Option.map_some,Option.some.injEq] at h
       subst h
       simpa using yjj hp
theorem ypt:∀ {l:List Nat} {t j:Nat},l.Nodup→l[j]? = some t→pos l t=some j
  | [],t,j,_,h=>by simp at h
  | x :: r,t,j,hn,h=>by
    rw [yvc]
    rw [List.nodup_cons] at hn
    cases j with
    | zero=>simp at h; simp [h]
    | succ j=>
      simp only [List.getElem?_cons_succ] at h
      have hne:x≠t:=fun e=>hn.1 (e ▸ List.mem_of_getElem? h)
      rw [if_neg hne,ypt hn.2 h]
      rfl
theorem yahp{l:List Nat}{i i' j:Nat}(h:pos l i=some j)(h':pos l i' = some j):i=i':=by
  have h1:=yjj h
  have h2:=yjj h'
  rw [h1] at h2
  exact Option.some.inj h2
theorem yafh{l:List Nat}{i j:Nat}(h:pos l i=some j):j < l.length:=by
  have h1:=yjj h
  rcases Nat.lt_or_ge j l.length with h2 | h2
  ·exact h2
  ·rw [List.getElem?_eq_none h2] at h1; cases h1
def Inj(f:Nat→Option Nat):Prop:=∀ i i' j,f i=some j→f i' = some j→i=i'
theorem ykj{f:Nat→Option Nat}(hf:Inj f):∀ {H:yq} {j:Nat} {o':Ob},lk (ycd f H) j=some o'→∃ i o,lk H i=some o∧f i=some j∧o' = yoi f o
  | [],j,o',h=>by simp [ycd] at h
  | (i0,o0) :: r,j,o',h=>by
    simp only [ycd] at h
    split at h
    ·rename_i j0 hj0
     rw [ybo] at h
     split at h
     ·rename_i he
      subst he
      exact ⟨i0,o0,by simp,hj0,(Option.some.inj h).symm⟩
     ·rename_i hne
      obtain ⟨i,o,h1,h2,h3⟩:=ykj hf h
      refine ⟨i,o,?_,h2,h3⟩
      rw [ybo,if_neg]
      ·exact h1
      ·intro e
       subst e
       rw [hj0] at h2
       exact hne (Option.some.inj h2)
    ·rename_i hj0
     obtain ⟨i,o,h1,h2,h3⟩:=ykj hf h
     refine ⟨i,o,?_,h2,h3⟩
     rw [ybo,if_neg]
     ·exact h1
     ·intro e
      subst e
      rw [hj0] at h2
      cases h2
theorem yait{α:Type}:∀ {l l':List (Nat × α)} {k:Nat} {o:α},lk (l++l') k=some o→lk l k=some o∨lk l' k=some o
  | [],l',k,o,h=>.inr h
  | (i,x) :: r,l',k,o,h=>by
    rw [List.cons_append,ybo] at h
    rw [ybo]
    split at h
    ·rename_i he
     rw [if_pos he]
     exact .inl h
    ·rename_i he
     rw [if_neg he]
     exact yait h
theorem yaez:∀ {l:List Nat} {H:yq} {k:Nat} {o:Ob},lk (ydd H l) k=some o→lk H k=some o∧k∉l
  | [],H,k,o,h=>⟨h,by simp⟩
  | i :: r,H,k,o,h=>by
    simp only [ydd] at h
    obtain ⟨h1,h2⟩:=yaez h
    rw [ygn] at h1
    split at h1
    ·cases h1
    ·rename_i hne
     exact ⟨h1,by simp [hne,h2]⟩
theorem yarx{f:Nat→Option Nat}{es o:Nat}{ob:Ob}:yiy es o (yoi f ob)↔yiy es o ob:=by
  cases ob <;> simp [yoi,yiy]
section
variable {w:World} {A A':Nat→Nat→Prop} {ρ ρ':Rho} {H:yq} {nx n:Nat} {f:Nat→Option Nat}
theorem ycdl{U U':Nat→Nat→Prop}(hf:∀ i j,f i=some j→ρ' j=ρ i)(hU:∀ b o,U' b o→U b o){b es:Nat}{o:Ob}(h:ObR w U ρ b es o):ObR w U' ρ' b es (yoi f o):=by
  cases o with
  | box cells=>
    obtain ⟨C,e,fr,h1,h2,h3⟩:=h
    refine ⟨C,e,fr,h1,h2,?_⟩
    have:=yli (f:=f) (ρ':=ρ') (fun id j x hj hx=>by rw [hf _ _ hj]; exact hx) cells _ h3
    exact yel (ydn.less hU) _ _ ρ' ρ' (Ext.refl _) this
  | arr es' rows leak=>
    obtain ⟨h0,h0',C,e,fr,h1,h2,h3⟩:=h
    exact ⟨h0,h0',C,e,fr,h1,h2,ygz (ydn.less hU) h3⟩
theorem yakv(hi:Inj f)(hf:∀ i j,f i=some j→ρ' j=ρ i){b o:Nat}(h:Wr ρ' (ycd f H) b o):∃ i j es ob,lk H i=some ob∧f i=some j∧ρ i=some (b,es)∧yiy es o ob:=by
  obtain ⟨j,es,ob,h1,h2,h3⟩:=h
  obtain ⟨i,o',h4,h5,rfl⟩:=ykj hi h1
  rw [hf _ _ h5] at h2
  exact ⟨i,j,es,o',h4,h5,h2,yarx.1 h3⟩
theorem yasz(hr:Rep A ρ H nx w)(hi:Inj f)(hf:∀ i j,f i=some j→ρ' j=ρ i)(hn:∀ i j,f i=some j→j < n)(hR:∀ j x,ρ' j=some x→j < n)
    (hA:∀ b o,A' b o→b < w.heap.size) (hAU:∀ b o,A' b o→UU A ρ H b o) (hap:∀ i j o b es off,f i=some j→lk H i=some o→ρ i=some (b,es)→¬ A' b off) :
    Rep A' ρ' (ycd f H) n w∧∀ b o,UU A' ρ' (ycd f H) b o→UU A ρ H b o:=by
  have hU:∀ b o,UU A' ρ' (ycd f H) b o→UU A ρ H b o:=by
    rintro b o (h | h)
    ·exact hAU b o h
    ·obtain ⟨i,j,es,ob,h1,_,h2,h3⟩:=yakv hi hf h
     exact .inr ⟨i,es,ob,h1,h2,h3⟩
  refine ⟨?_,hU⟩
  exact
    { ob:=fun j o b es h1 h2=>by
       obtain ⟨i,o',h3,h4,rfl⟩:=ykj hi h1
       rw [hf _ _ h4] at h2
       exact ycdl hf hU (hr.ob i o' b es h3 h2)
      inj:=fun j j' oj oj' b e e' h1 h2 h3 h4=>by
        obtain ⟨i,o,g1,g2,_⟩:=ykj hi h1
        obtain ⟨i',o',g3,g4,_⟩:=ykj hi h2
        rw [hf _ _ g2] at h3
        rw [hf _ _ g4] at h4
        have:=hr.inj i i' o o' b e e' g1 g3 h3 h4
        subst this
        rw [g2] at g4
        exact Option.some.inj g4
      ltH:=fun j o h1=>by
        obtain ⟨i,o',_,h4,_⟩:=ykj hi h1
        exact hn _ _ h4
      ltR:=hR
      ltA:=hA
      apart:=fun j o b es off h1 h2=>by
        obtain ⟨i,o',h3,h4,rfl⟩:=ykj hi h1
        rw [hf _ _ h4] at h2
        exact hap i j o' b es off h4 h3 h2 }
end
theorem yiv(H:yq):∀ (n:Nat) (todo:List AV) (acc:List Nat),acc.Nodup →
    (yaw H n todo acc).Nodup∧(∃ t,yaw H n todo acc=acc++t)∧∀ id∈yaw H n todo acc,id∈acc∨∃ o,lk H id=some o
  | 0,todo,acc,h=>by
    simp only [yaw]
    exact ⟨h,⟨[],by simp⟩,fun id hi=>.inl hi⟩
  | n + 1,[],acc,h=>by
    simp only [yaw]
    exact ⟨h,⟨[],by simp⟩,fun id hi=>.inl hi⟩
  | n + 1,v :: todo,acc,h=>by
    have step:∀ (id:Nat) (o:Ob) (todo':List AV),id∉acc→lk H id=some o →
     (yaw H n todo' (acc++[id])).Nodup∧(∃ t,yaw H n todo' (acc++[id]) = acc++t)∧∀ i∈yaw H n todo' (acc++[id]),i∈acc∨∃ o,lk H i=some o:=by
      intro id o todo' hid ho
      have hn:(acc++[id]).Nodup:=by
        rw [List.nodup_append]
        refine ⟨h,by simp,fun a ha b hb=>?_⟩
        simp at hb
        subst hb
        exact fun e=>hid (e ▸ ha)
      obtain ⟨g1,⟨t,g2⟩,g3⟩:=yiv H n todo' (acc++[id]) hn
      refine ⟨g1,⟨[id]++t,by rw [g2]; simp⟩,fun i hi=>?_⟩
      rcases g3 i hi with h4 | h4
      ·rcases List.mem_append.1 h4 with h5 | h5
       ·exact .inl h5
       ·simp at h5; subst h5; exact .inr ⟨o,ho⟩
      ·exact .inr h4
    have same:∀ todo',(yaw H n todo' acc).Nodup∧(∃ t,yaw H n todo' acc=acc++t)∧∀ id∈yaw H n todo' acc,id∈acc∨∃ o,lk H id=some o:=
      fun todo'=>yiv H n todo' acc h
    cases v <;> simp only [yaw]
    case own es id off len ex=>
      split
      ·exact same _
      ·rename_i hid
       split
       ·rename_i o ho; exact step id o _ hid ho
       ·exact same _
    case eptr id i f=>
      split
      ·exact same _
      ·rename_i hid
       split
       ·rename_i o ho; exact step id o _ hid ho
       ·exact same _
    case ptr id off=>
      split
      ·exact same _
      ·rename_i hid
       split
       ·rename_i cells ho; exact step id _ _ hid ho
       ·rename_i o _ ho; exact step id o _ hid ho
       ·exact same _
    all_goals exact same _
theorem yso(H:yq)(m:Nat)(roots:List AV):(ybs H m roots).Nodup∧∀ j,j < m→pos (ybs H m roots) j=some j:=by
  obtain ⟨h1,⟨t,h2⟩,_⟩:=yiv H yea ((List.range m).flatMap (yqr H)++roots) (List.range m) List.nodup_range
  refine ⟨h1,fun j hj=>ypt h1 ?_⟩
  unfold ybs
  rw [h2,List.getElem?_append_left (by simpa using hj),List.getElem?_range hj]
def ygx(l:List Nat)(ρ:Rho):Rho:=fun j=>match l[j]? with | some i=>ρ i | none=>none
theorem yhi{l:List Nat}{ρ:Rho}{i j:Nat}(h:pos l i=some j):ygx l ρ j=ρ i:=by
  simp [ygx,yjj h]
theorem yari{l:List Nat}{ρ:Rho}{j:Nat}{x:Nat × Nat}(h:ygx l ρ j=some x):j < l.length:=by
  unfold ygx at h
  rcases Nat.lt_or_ge j l.length with h2 | h2
  ·exact h2
  ·rw [List.getElem?_eq_none h2] at h; cases h
section
variable {w:World} {A:Nat→Nat→Prop} {ρ:Rho} {H:yq} {nx:Nat} {l:List Nat}
theorem yye(hr:Rep A ρ H nx w):Rep A (ygx l ρ) (ycd (pos l) H) l.length w∧(∀ b o,UU A (ygx l ρ) (ycd (pos l) H) b o→UU A ρ H b o)∧Fr ρ H w (ygx l ρ) (ycd (pos l) H) w:=by
  have hi:Inj (pos l):=fun i i' j h h'=>yahp h h'
  obtain ⟨h1,h2⟩:=yasz (A':=A) (ρ':=ygx l ρ) (n:=l.length) hr hi (fun i j h=>yhi h) (fun i j h=>yafh h) (fun j x h=>yari h) hr.ltA (fun b o h=>.inl h) (fun i j o b es off _ ho hρ=>hr.apart i o b es off ho hρ)
  refine ⟨h1,h2,?_⟩
  exact
    { size:=Nat.le_refl _
      os:=rfl
      tape:=rfl
      output:=rfl
      cells:=fun b C e fr hb=>⟨C,hb,rfl,fun _ _=>rfl⟩
      other:=fun b ob hb _=>hb
      shrink:=fun b o _ h=>by
        obtain ⟨i,j,es,ob,g1,_,g2,g3⟩:=yakv hi (fun i j h=>yhi h) h
        exact ⟨i,es,ob,g1,g2,g3⟩ }
theorem yakq(hr:Rep A ρ H nx w){v:AV}{x:Value}(h:VR w (UU A ρ H) ρ v x):VR w (UU A (ygx l ρ) (ycd (pos l) H)) (ygx l ρ) (ren (pos l) v) x:=by
  have h1:=yakr (f:=pos l) (ρ':=ygx l ρ) (fun id j y hj hy=>by rw [yhi hj]; exact hy) v x h
  exact ydo (ydn.less (yye (l:=l) hr).2.1) _ _ _ _ (Ext.refl _) h1
theorem yagh{ρ0:Rho}{m n:Nat}(h:yfh ρ0 m ρ n)(hm:∀ i x,ρ0 i=some x→i < m)(hl:∀ j,j < m→pos l j=some j):yfh ρ0 m (ygx l ρ) l.length where
  ext i x hx:=by
    rw [yhi (hl i (hm i x hx))]
    exact h.ext i x hx
  cl k hk h0:=by
   rw [yhi (hl k hk)]
   exact h.cl k hk h0
  le:=by
   rcases Nat.eq_zero_or_pos m with h0 | h0
   ·omega
   ·have:=yafh (hl (m - 1) (by omega))
    omega
end
theorem yaqb{α:Type}:∀ (l l':List (Nat × α)) (t:Nat),lk (l++l') t=(lk l t).or (lk l' t)
  | [],l',t=>by simp
  | (k,v) :: r,l',t=>by
    simp only [List.cons_append,ybo]
    split
    ·rfl
    ·exact yaqb r l' t
theorem yahj(H:yq):∀ (n t:Nat),lk (yff H n) t=if t < n then lk H t else none
  | 0,t=>by simp [yff]
  | n + 1,t=>by
    simp only [yff]
    have ih:=yahj H n t
    cases hn:lk H n with
    | none=>
      simp only
      rw [ih]
      by_cases h:t < n
      ·rw [if_pos h,if_pos (by omega)]
      ·rw [if_neg h]
       by_cases h2:t=n
       ·subst h2; simp [hn]
       ·rw [if_neg (by omega)]
    | some o=>
      simp only
      rw [yaqb,ih,ybo]
      by_cases h:t < n
      ·have h1:t < n + 1:=by omega
       have h2:¬ n=t:=by omega
       simp only [h,h1,h2,if_true,if_false,yaqd]
       cases lk H t <;> rfl
      ·by_cases h2:t=n
       ·subst h2; simp [hn]
       ·have h1:¬ t < n + 1:=by omega
        have h3:¬ n=t:=by omega
        simp [h,h1,h3]
end Go.Proofs.YtgoachcogmlhcaaGreat.R
