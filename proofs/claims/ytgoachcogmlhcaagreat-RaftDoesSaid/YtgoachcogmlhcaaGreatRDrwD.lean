/- Regions that draw their order: any order answers as the program's own; at a place of its own. -/
import Derived.Test.YtgoachcogmlhcaaGreatRDrwC
set_option linter.unusedVariables false
set_option linter.unusedSectionVars false
set_option linter.unusedSimpArgs false
noncomputable section
namespace Go.Proofs.YtgoachcogmlhcaaGreat.R
open Go
def yiu:Nat→List Iop→List (Nat × Iop)
  | _,[]=>[]
  | i,o :: r=>(i,o) :: yiu (i + 1) r
def yjk(c:Cfg)(cl:Nat→Callee)(nt base:Nat)(fp:Nat→Option ycs):List (Nat × Iop)→St→St→Prop
  | [],s,sF=>sF=s
  | (i,o) :: r,s,sF=>∃ s1 f,evN c (cl i) nt base i o s=some s1∧yga c s o=some f∧fp i=some f∧yjk c cl nt base fp r s1 sF
def ygl(base:Nat)(U:List (Nat × Iop))(H:yq):Prop:=∀ p∈U,yfi (base + p.1 * 64) (base + p.1 * 64 + wd p.2.op) H
section
variable {c:Cfg} {cl:Nat→Callee} {nt base:Nat} {fp:Nat→Option ycs} {s s1 sF s' u:St} {v:AV} {o x y:Iop}
theorem ydz.of_eq{f:ycs}{H H':yq}(h:∀ k,lk H' k=lk H k):ydz f H H':=⟨fun id _=>h id,fun id _=>LEq.of (h id),fun id _=>LEq.of (h id)⟩
theorem yfi.of_eq{a b:Nat}{H H':yq}(h:∀ k,lk H' k=lk H k)(hf:yfi a b H):yfi a b H':=fun k h1 h2=>by rw [h]; exact hf k h1 h2
theorem ygl.next{i:Nat}{U:List (Nat × Iop)}{f:ycs}{g:Nat→Nat}{n:Nat}{cl:Callee}(hs:Step c cl nt base i o s s1 f v g n)(hf:ygl base U s.H)(hne:∀ p∈U,p.1≠i):ygl base U s1.H:=by
  intro p hp k h1 h2
  have hle:=yzy p.2.op
  have hle2:=yzy o.op
  refine hs.dom k (hf p hp k h1 h2) ?_
  have:=hne p hp
  omega
theorem yjk.cong:∀ {U:List (Nat × Iop)} {s sF u:St},yhm s→ygl base U s.H→(U.map (fun p=>p.1)).Nodup→yjk c cl nt base fp U s sF→Eqv s u→∃ uF,yjk c cl nt base fp U u uF∧Eqv sF uF
  | [],s,sF,u,hd,hfr,hn,h,he=>by
    simp only [yjk] at h
    subst h
    exact ⟨u,rfl,he⟩
  | (i,o) :: r,s,sF,u,hd,hfr,hn,h,he=>by
    obtain ⟨s1,f,h1,h2,h3,h4⟩:=h
    obtain ⟨v,g,n,hs⟩:=step hd h1 h2 (hfr (i,o) (by simp))
    have hk:∀ k,lk u.H k=lk s.H k:=fun k=>(he.heap k).symm
    obtain ⟨b0,u1,b1,b2,b3,b4⟩:=hs.same u he.disj (fun t _=>(he.get t).symm) (ydz.of_eq hk) (yfi.of_eq hk (hfr (i,o) (by simp)))
    rw [List.map_cons,List.nodup_cons] at hn
    have hne:∀ p∈r,p.1≠i:=fun p hp e=>hn.1 (List.mem_map.2 ⟨p,hp,e⟩)
    obtain ⟨uF,c1,c2⟩:=yjk.cong hs.disj (ygl.next hs (fun p hp=>hfr p (List.mem_cons_of_mem _ hp)) hne) hn.2 h4 (u:=u1) ⟨fun t=>by rw [hs.get,b2,he.get],fun k=>by rw [hs.eff k,b4 k,hk k],b3⟩
    exact ⟨uF,⟨u1,f,b1,b0,h3,c1⟩,c2⟩
theorem yjk.disj:∀ {U:List (Nat × Iop)} {s sF:St},yhm s→ygl base U s.H→(U.map (fun p=>p.1)).Nodup→yjk c cl nt base fp U s sF→yhm sF
  | [],s,sF,hd,hfr,hn,h=>by
    simp only [yjk] at h
    subst h
    exact hd
  | (i,o) :: r,s,sF,hd,hfr,hn,h=>by
    obtain ⟨s1,f,h1,h2,h3,h4⟩:=h
    obtain ⟨v,g,n,hs⟩:=step hd h1 h2 (hfr (i,o) (by simp))
    rw [List.map_cons,List.nodup_cons] at hn
    have hne:∀ p∈r,p.1≠i:=fun p hp e=>hn.1 (List.mem_map.2 ⟨p,hp,e⟩)
    exact yjk.disj hs.disj (ygl.next hs (fun p hp=>hfr p (List.mem_cons_of_mem _ hp)) hne) hn.2 h4
def ybgg(base:Nat)(fp:Nat→Option ycs)(i j:Nat)(x y:Iop):Prop:=
  yyb x y∧∀ fx fy,fp i=some fx→fp j=some fy→(yfx x.op=true→fx=ybv)→(yfx y.op=true→fy=ybv)→(ldB x.op=true→fx.w = []∧fx.l = [])→(ldB y.op=true→fy.w = []∧fy.l = [])→Free base i j (wd x.op) (wd y.op) fx fy
theorem ybgu{j:Nat}{y:Iop}:∀ {pre post:List (Nat × Iop)} {s sF:St},yhm s→ygl base (pre++(j,y) :: post) s.H→((pre++(j,y) :: post).map (fun p=>p.1)).Nodup→(∀ p∈pre,ybgg base fp p.1 j p.2 y)→yjk c cl nt base fp (pre++(j,y) :: post) s sF →
    ∃ u1 f,evN c (cl j) nt base j y s=some u1∧yga c s y=some f∧fp j=some f∧∃ uF,yjk c cl nt base fp (pre++post) u1 uF∧Eqv sF uF
  | [],post,s,sF,hd,hfr,hn,hp,h=>by
    obtain ⟨s1,f,h1,h2,h3,h4⟩:=h
    obtain ⟨v,g,n,hs⟩:=step hd h1 h2 (hfr (j,y) (by simp))
    exact ⟨s1,f,h1,h2,h3,sF,h4,fun _=>rfl,fun _=>rfl,by
      simp only [List.nil_append,List.map_cons,List.nodup_cons] at hn
      have hne:∀ p∈post,p.1≠j:=fun p hp e=>hn.1 (List.mem_map.2 ⟨p,hp,e⟩)
      exact yjk.disj hs.disj (ygl.next hs (fun p hp=>hfr p (by simp [hp])) hne) hn.2 h4⟩
  | (i,x) :: pre,post,s,sF,hd,hfr,hn,hp,h=>by
    obtain ⟨s1,fx,h1,h2,h3,h4⟩:=h
    have hfx:=hfr (i,x) (by simp)
    have hfy:=hfr (j,y) (by simp)
    obtain ⟨v,g,n,hs⟩:=step hd h1 h2 hfx
    rw [List.cons_append,List.map_cons,List.nodup_cons] at hn
    have hij:i≠j:=fun e=>hn.1 (by subst e; simp)
    have hne:∀ p∈pre++(j,y) :: post,p.1≠i:=fun p hp e=>hn.1 (List.mem_map.2 ⟨p,hp,e⟩)
    obtain ⟨v1,fy,b1,b2,b3,vF,b4,b5⟩:=ybgu hs.disj (ygl.next hs (fun p hp=>hfr p (by rw [List.cons_append]; exact List.mem_cons_of_mem _ hp)) hne) hn.2 (fun p hpm=>hp p (List.mem_cons_of_mem _ hpm)) h4
    obtain ⟨a1,a2⟩:=hp (i,x) (by simp)
    obtain ⟨u1,u2,c1,c2,c3,c4,c5⟩:=swap hij a1 (a2 fx fy h3 b3 (fun hv=>yaio hv h2) (fun hv=>yaio hv b2) (fun hv=>yalt hv h2) (fun hv=>yalt hv b2)) hd hfx hfy h1 h2 b1 b2
    have hfy1:yfi (base + j * 64) (base + j * 64 + wd y.op) s1.H:=ygl.next hs (fun p hp=>hfr p (by rw [List.cons_append]; exact List.mem_cons_of_mem _ hp)) hne (j,y) (by simp)
    obtain ⟨v2,g2,n2,hs2⟩:=step hs.disj b1 b2 hfy1
    have hn2:((pre++post).map (fun p=>p.1)).Nodup:=by
      have:=hn.2
      rw [List.map_append,List.map_cons] at this
      rw [List.map_append]
      exact this.sublist (List.Sublist.append_left (List.sublist_cons_self _ _) _)
    have hnej:∀ p∈pre++post,p.1≠j:=by
      intro p hpm e
      have:=hn.2
      rw [List.map_append,List.map_cons] at this
      rw [List.nodup_append] at this
      obtain ⟨q1,q2,q3⟩:=this
      rcases List.mem_append.1 hpm with h | h
      ·exact q3 _ (List.mem_map.2 ⟨p,h,rfl⟩) _ (List.mem_cons_self ..) e
      ·rw [List.nodup_cons] at q2
       exact q2.1 (by rw [← e]; exact List.mem_map.2 ⟨p,h,rfl⟩)
    have hfU:ygl base (pre++post) v1.H:=ygl.next hs2 (fun p hpm=>ygl.next hs (fun p hp=>hfr p (by rw [List.cons_append]; exact List.mem_cons_of_mem _ hp)) hne p (by
      rcases List.mem_append.1 hpm with h | h
      ·exact List.mem_append_left _ h
      ·exact List.mem_append_right _ (List.mem_cons_of_mem _ h))) hnej
    obtain ⟨uF,e1,e2⟩:=yjk.cong hs2.disj hfU hn2 b4 c5
    exact ⟨u1,fy,c1,c2,b3,uF,⟨u2,fx,c3,c4,h3,e1⟩,b5.trans e2⟩
end
def newB:IP→Bool
  | .bsl _ _ _ _=>true
  | .s2b _=>true
  | .mks _ _ _ _=>true
  | .cln _ _=>true
  | .alloc _=>true
  | .box _=>true
  | .app _ _ _=>true
  | _=>false
def yaey(c:Cfg)(s:St):IP→Bool
  | .call f _=>!(c.fz f)
  | .callv g _=>match s.ev g with | .fn (.func f) _ _=>!(c.fz f) | _=>false
  | _=>false
section
variable {c:Cfg} {cl:Callee} {nt base:Nat} {s s1 sF s' u:St} {v:AV} {o x y:Iop}
theorem yaid{q f:Nat}{L:List AV}(hf:c.fz f=true)(h:ydv c cl (atN s q) f L=some (v,s1))(m:Nat):ydv c cl (atN s m) f L=some (v,atN s1 m):=by
  simp only [ydv,hf,if_true] at h ⊢
  have hH:(atN s m).H=(atN s q).H:=rfl
  rw [hH]
  split at h
  ·rename_i r H1 n1 hcl
   unfold ymd at h ⊢
   split at h
   ·rename_i hp
    simp only [Option.some.injEq,Prod.mk.injEq] at h
    obtain ⟨rfl,rfl⟩:=h
    rw [if_pos hp]
    rfl
   ·rename_i hp
    rw [if_neg hp]
    split at h
    ·rename_i hi
     simp only [Option.some.injEq,Prod.mk.injEq] at h
     obtain ⟨rfl,rfl⟩:=h
     rw [if_pos hi]
     rfl
    ·cases h
  ·cases h
theorem ycec{q:Nat}{ip:IP}(hk:newB ip=false)(hf:yaey c s ip=false)(h:ybe c cl (atN s q) ip=some (v,s1))(m:Nat):ybe c cl (atN s m) ip=some (v,atN s1 m):=by
  by_cases h0:yfx ip=true
  ·obtain ⟨rfl,h2⟩:=yafe (s':=atN s m) h0 h (fun x _=>by rw [yeg,yeg])
   exact h2
  ·cases ip
   case ld a size p=>
     obtain ⟨hg,rfl⟩:=yhb h
     simp only [ybe]
     rw [yeg] at hg ⊢
     have:yhd a size (atN s m).H (s.ev p) = some v:=hg
     rw [this]
     rfl
   case call f args=>
     have hf:c.fz f=true:=by simpa [yaey] using hf
     simp only [ybe,ysv] at h ⊢
     exact yaid hf h m
   case callv g args=>
     simp only [ybe,ysv,yeg] at h ⊢
     cases hq:s.ev g <;> rw [hq] at h <;> simp only [ylk,reduceCtorEq] at h
     case fn f pre post=>
       cases f <;> simp only [ylk,reduceCtorEq] at h
       case func f=>
         simp only [ylk] at h ⊢
         exact yaid (by simpa [yaey,hq] using hf) h m
   case cpy es x y=>
     simp only [ybe,yeg] at h ⊢
     have hs:∀ q':Nat,ykf es (atN s q') (s.ev x) (s.ev y) = (ykf es (atN s 0) (s.ev x) (s.ev y)).map fun p=>(p.1,atN p.2 q'):=by
       intro q'
       unfold ykf
       have hH:(atN s q').H=(atN s 0).H:=rfl
       rw [hH]
       split
       ·split
        ·split
         ·split
          ·split <;> rfl
          ·rfl
         ·rfl
        ·rfl
       ·rfl
       ·rfl
     rw [hs q] at h
     rw [hs m]
     cases hc:ykf es (atN s 0) (s.ev x) (s.ev y) with
     | none=>rw [hc] at h; cases h
     | some p=>
       rw [hc] at h
       simp only [Option.map_some,Option.some.injEq,Prod.mk.injEq] at h ⊢
       obtain ⟨rfl,rfl⟩:=h
       exact ⟨rfl,rfl⟩
   case b2s x=>
     obtain ⟨hg,rfl⟩:=yhb h
     simp only [ybe]
     rw [yeg] at hg ⊢
     have:ypc (atN s m).H (s.ev x) = some v:=hg
     rw [this]
     rfl
   case st size p x=>
     simp only [ybe,yeg] at h ⊢
     have hH:(atN s m).H=(atN s q).H:=rfl
     rw [hH]
     split at h
     ·rename_i H1 hH1
      simp only [Option.some.injEq,Prod.mk.injEq] at h
      obtain ⟨rfl,rfl⟩:=h
      rfl
     ·cases h
   all_goals (simp [newB,yfx] at hk h0)
def newV(f:Nat→AV):Prop:=(f=fun i=>.ptr i 0)∨(∃ es len ex,f=fun i=>.own es i 0 len ex)∨∃ rows,f=fun _=>yca rows
structure New (c:Cfg) (cl:Callee) (s:St) (q:Nat) (ip:IP) (v:AV) (s1:St) (ob:Ob) (H1:yq) (f:Nat→AV):Prop where
  nv:newV f
  v:v=f q
  s1:s1 = ⟨s.env,s.loc,(q,ob) :: H1,q + 1⟩
  sub:∀ j,lk s.H j=none→lk H1 j=none
  at_:∀ m,ybe c cl (atN s m) ip=some (f m,⟨s.env,s.loc,(m,ob) :: H1,m + 1⟩)
theorem yawp{es:Nat}{rows:List (List AV)}{q:Nat}(h:yck (atN s q) es rows=some (v,s1)):∃ ob f,newV f∧v=f q∧s1 = ⟨s.env,s.loc,(q,ob) :: s.H,q + 1⟩∧∀ m,yck (atN s m) es rows=some (f m,⟨s.env,s.loc,(m,ob) :: s.H,m + 1⟩):=by
  unfold yck at h
  split at h
  ·rename_i hl
   simp only [Option.some.injEq,Prod.mk.injEq] at h
   obtain ⟨rfl,rfl⟩:=h
   refine ⟨.arr es rows 0,fun i=>.own es i 0 rows.length false,.inr (.inl ⟨es,_,_,rfl⟩),rfl,rfl,fun m=>?_⟩
   simp only [yck,hl,if_true]
   rfl
  ·cases h
theorem ycqg{q:Nat}{ip:IP}(hk:newB ip=true)(h:ybe c cl (atN s q) ip=some (v,s1)):∃ ob H1 f,New c cl s q ip v s1 ob H1 f:=by
  cases ip
  case bsl es z len ps=>
    have hp:∀ m,(atN s m).evp ps=s.evp ps:=fun m=>yrx fun x _=>yeg s m x
    simp only [ybe,ynx,hp] at h
    split at h
    ·rename_i rows hrows
     simp only [Option.some.injEq,Prod.mk.injEq] at h
     obtain ⟨rfl,rfl⟩:=h
     refine ⟨.arr es rows 0,yec s.H (s.evp ps),fun i=>.own es i 0 len true,.inr (.inl ⟨es,_,_,rfl⟩),rfl,rfl,fun j hj=>?_,fun m=>?_⟩
     ·obtain ⟨g,_,hg⟩:=ysm (s.evp ps)
      rw [hg,hj]
      rfl
     ·have h2:yee es (atN s m).H (List.replicate len z) (s.evp ps) = some rows:=hrows
      simp only [ybe,ynx,hp,h2]
      rfl
    ·cases h
  case cln es x=>
    simp only [ybe,yeg] at h
    unfold ypf at h
    split at h
    ·rename_i rows hrows
     obtain ⟨ob,f,h1,h2,h3,h4⟩:=yawp h
     refine ⟨ob,s.H,f,h1,h2,h3,fun _ hj=>hj,fun m=>?_⟩
     have:ydt es (atN s m).H (s.ev x) = some rows:=hrows
     simp only [ybe,yeg,ypf,this]
     exact h4 m
    ·cases h
  case s2b x=>
    simp only [ybe,yeg] at h
    unfold ypo at h
    split at h
    ·rename_i str hx
     simp only [Option.some.injEq,Prod.mk.injEq] at h
     obtain ⟨rfl,rfl⟩:=h
     refine ⟨.box [],s.H,fun i=>yca (ygf str),.inr (.inr ⟨_,rfl⟩),rfl,rfl,fun _ hj=>hj,fun m=>?_⟩
     simp only [ybe,yeg,hx,ypo]
     rfl
    ·cases h
  case mks es z l m'=>
    simp only [ybe,yeg] at h
    unfold ypm at h
    split at h
    ·rename_i a b hl hm
     split at h
     ·rename_i hb
      simp only [Option.some.injEq,Prod.mk.injEq] at h
      obtain ⟨rfl,rfl⟩:=h
      refine ⟨.arr es (List.replicate a.toNat z) 0,s.H,fun i=>.own es i 0 a.toNat (a == b),.inr (.inl ⟨es,_,_,rfl⟩),rfl,rfl,fun _ hj=>hj,fun m=>?_⟩
      simp only [ybe,yeg,hl,hm,ypm,hb,and_self,if_true]
      rfl
     ·cases h
    ·cases h
  case alloc z=>
    simp only [ybe,Option.some.injEq,Prod.mk.injEq] at h
    obtain ⟨rfl,rfl⟩:=h
    exact ⟨.box z,s.H,fun i=>.ptr i 0,.inl rfl,rfl,rfl,fun _ hj=>hj,fun m=>rfl⟩
  case box x=>
    simp only [ybe,yeg] at h
    split at h
    ·rename_i cs hcs
     split at h
     ·rename_i hb
      simp only [Option.some.injEq,Prod.mk.injEq] at h
      obtain ⟨rfl,rfl⟩:=h
      refine ⟨.box cs,s.H,fun i=>.ptr i 0,.inl rfl,rfl,rfl,fun _ hj=>hj,fun m=>?_⟩
      simp only [ybe,yeg,hcs,hb,if_true]
      rfl
     ·cases h
    ·cases h
  case app es a b=>
    have hn:∀ rows,yck (atN s q) es rows=some (v,s1)→(∀ m,ybe c cl (atN s m) (.app es a b) = yck (atN s m) es rows)→∃ ob H1 f,New c cl s q (.app es a b) v s1 ob H1 f:=by
      intro rows h hm
      obtain ⟨ob,f,h1,h2,h3,h4⟩:=yawp h
      exact ⟨ob,s.H,f,h1,h2,h3,fun _ hj=>hj,fun m=>by rw [hm,h4]⟩
    have hs:∀ m,yci es (atN s m).H (s.ev b) = yci es s.H (s.ev b):=fun m=>rfl
    simp only [ybe,yeg] at h hn
    unfold yfy at h
    rw [hs] at h
    split at h
    ·rename_i new hnew
     split at h
     ·rename_i hbase
      exact hn _ h fun m=>by simp only [yfy,hs,hnew,hbase]
     ·rename_i es' rows ex hbase
      split at h
      ·rename_i hc
       split at h
       ·rename_i hz
        exact hn _ h fun m=>by simp only [yfy,hs,hnew,hbase,hc,hz,and_self,if_true]
       ·rename_i hz
        split at h
        ·rename_i h0
         exact hn _ h fun m=>by simp only [yfy,hs,hnew,hbase,hc,hz,h0,and_self,if_true,if_false]
        ·cases h
      ·cases h
     ·rename_i es' id off len ex hbase
      have hl:∀ m,lk (atN s m).H id=lk s.H id:=fun m=>rfl
      rw [hl] at h
      split at h
      ·rename_i hc
       split at h
       ·rename_i es2 rows leak hid
        split at h
        ·rename_i hex
         split at h
         ·rename_i hz
          exact hn _ h fun m=>by simp only [yfy,hs,hnew,hbase,hl,hid,hc,hex,hz,if_true]
         ·rename_i hz
          split at h
          ·rename_i h0
           have hH:∀ m,(atN s m).H=s.H:=fun _=>rfl
           exact hn _ h fun m=>by simp only [yfy,hs,hnew,hbase,hl,hid,hc,hex,hz,h0,and_self,if_true,if_false]
          ·cases h
        ·rename_i hex
         split at h
         ·rename_i hc2
          simp only [Option.some.injEq,Prod.mk.injEq] at h
          obtain ⟨rfl,rfl⟩:=h
          refine ⟨.arr es (rows.take len++new) leak,rmv s.H id,fun i=>.own es i 0 (len + new.length) false,.inr (.inl ⟨es,_,_,rfl⟩),rfl,rfl,fun j hj=>?_,fun m=>?_⟩
          ·rw [ygn,hj]
           split <;> rfl
          ·simp only [ybe,yeg,yfy,hs,hnew,hbase,hl,hid,hc,hex,if_true,if_false,Bool.false_eq_true]
           rw [if_pos hc2]
           rfl
         ·cases h
       ·cases h
      ·cases h
     ·cases h
    ·cases h
  all_goals (simp [newB] at hk)
end
end Go.Proofs.YtgoachcogmlhcaaGreat.R
