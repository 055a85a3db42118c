/- Regions that draw their order: one operation, two neighbours. -/
import Derived.Test.YtgoachcogmlhcaaGreatRDrwB
set_option linter.unusedVariables false
set_option linter.unusedSectionVars false
set_option linter.unusedSimpArgs false
noncomputable section
namespace Go.Proofs.YtgoachcogmlhcaaGreat.R
open Go
theorem yeg(s:St)(q:Nat)(x:Opd):(atN s q).ev x=s.ev x:=by cases x <;> rfl
theorem ysv(s:St)(q:Nat):∀ l:List Opd,(atN s q).evs l=s.evs l:=fun l=>ylo fun x _=>yeg s q x
theorem yceb(s:St)(q:Nat)(l:List (Nat × Opd)):(atN s q).evp l=s.evp l:=yrx fun x _=>yeg s q x
theorem ymy(s:St)(q:Nat)(g:Option (Nat × Bool)):ygc (atN s q) g=ygc s g:=rfl
theorem yaky(c:Cfg)(s:St)(q:Nat)(ip:IP):ybr c (atN s q) ip=ybr c s ip:=by
  cases ip <;> simp only [ybr,yeg,ysv,yceb] <;> rfl
section
variable {c:Cfg} {cl:Callee} {nt base:Nat} {s s' u:St} {v:AV} {o:Iop} {f:ycs}
theorem yalk(h:ygh c cl nt o s=some s'):yla nt o.dst=true∧((ygc s o.guard=some true∧∃ v s1,ybe c cl s o.op=some (v,s1)∧s' = s1.putO o.dst v)∨(ygc s o.guard=some false∧s' = s.putO o.dst .un)):=by
  unfold ygh at h
  rw [cond_eq_ite] at h
  split at h
  ·rename_i hd
   refine ⟨hd,?_⟩
   split at h
   ·rename_i b hb
    rw [cond_eq_ite] at h
    cases b with
    | true=>
      simp only [if_true] at h
      split at h
      ·rename_i v s1 hv
       rw [ylr] at h
       simp only [Option.some.injEq] at h
       exact .inl ⟨hb,v,s1,hv,h.symm⟩
      ·cases h
    | false=>
      simp only [Bool.false_eq_true,if_false] at h
      rw [ylr] at h
      simp only [Option.some.injEq] at h
      exact .inr ⟨hb,h.symm⟩
   ·cases h
  ·cases h
theorem ybvm{s1:St}(hd:yla nt o.dst=true)(hw:ygc s o.guard=some true)(h:ybe c cl s o.op=some (v,s1)):ygh c cl nt o s=some (s1.putO o.dst v):=by
  unfold ygh
  rw [hd,hw]
  simp only [cond_true,h,ylr]
theorem ycez(hd:yla nt o.dst=true)(hw:ygc s o.guard=some false):ygh c cl nt o s=some (s.putO o.dst .un):=by
  unfold ygh
  rw [hd,hw]
  simp only [cond_true,cond_false,ylr]
def Look(o:Iop)(s u:St):Prop:=∀ t,yuw t o=true→u.get t=s.get t
theorem yxn{n:Nat}:∀ {l:List Opd},Opd.t n∈l→yzs n l=true
  | .t m :: r,h=>by
    simp only [yzs,Bool.or_eq_true]
    rcases List.mem_cons.1 h with h | h
    ·cases h
     exact .inl (Nat.beq_refl n)
    ·exact .inr (yxn h)
  | .c v :: r,h=>by
    simp only [yzs]
    rcases List.mem_cons.1 h with h | h
    ·cases h
    ·exact yxn h
theorem Look.ev(h:Look o s u):∀ x∈ycg o.op,u.ev x=s.ev x:=fun x hx=>by
  cases x with
  | c v=>rfl
  | t n=>
    refine h n ?_
    simp only [yuw,yxn hx,Bool.true_or]
theorem Look.want(h:Look o s u):ygc u o.guard=ygc s o.guard:=by
  cases hg:o.guard with
  | none=>rfl
  | some p=>
    obtain ⟨d,b⟩:=p
    have:=h d (by simp [yuw,hg])
    simp only [ygc,this]
theorem yrg{s1:St}(hd:yhm s1)(d:Option Nat)(x:AV)(he:s1.env=s.env)(hl:s1.loc=s.loc):(∀ t,(s1.putO d x).get t=if d=some t then x else s.get t)∧yhm (s1.putO d x)∧(s1.putO d x).H=s1.H∧(s1.putO d x).nx=s1.nx:=by
  obtain ⟨h1,h2,h3,h4⟩:=yxi hd d x
  refine ⟨fun t=>?_,h2,h3,h4⟩
  rw [h1]
  split
  ·rfl
  ·rw [yho,yho,he,hl]
theorem yagm{s1:St}(hd:yhm s)(he:s1.env=s.env)(hl:s1.loc=s.loc):yhm s1:=by
  intro t x hx
  rw [he] at hx
  rw [hl]
  exact hd t x hx
theorem yatz{i:Nat}(h:evN c cl nt base i o s=some s'):ygh c cl nt o (atN s (base + i * 64)) = some s'∧s'.nx≤base + i * 64 + 64:=by
  unfold evN at h
  split at h
  ·rename_i s1 h1
   split at h
   ·rename_i hle
    obtain rfl:=Option.some.inj h
    exact ⟨h1,hle⟩
   ·cases h
  ·cases h
theorem ybhu{i:Nat}(h:ygh c cl nt o (atN s (base + i * 64)) = some s')(hle:s'.nx≤base + i * 64 + 64):evN c cl nt base i o s=some s':=by
  unfold evN
  rw [h]
  exact if_pos hle
def wd(ip:IP):Nat:=if (yfx ip || ldB ip) = true then 0 else 64
theorem yzy(ip:IP):wd ip≤64:=by unfold wd; split <;> omega
theorem ydtu{s1:St}{ip:IP}(h:ybe c cl s ip=some (v,s1))(hq:(yfx ip || ldB ip) = true):s1.nx=s.nx:=by
  by_cases hv:yfx ip=true
  ·obtain ⟨rfl,_⟩:=yafe (s':=s) hv h (fun _ _=>rfl)
   rfl
  ·cases ip <;> simp [yfx,ldB] at hv hq
   obtain ⟨_,rfl⟩:=yhb h
   rfl
theorem yacs{H H1:yq}{id:Nat}{o x:Ob}(hid:lk H id=some x)(h:upd H id o=some H1){k:Nat}(hk:lk H k=none):lk H1 k=none:=by
  rw [ygd h,if_neg]
  ·exact hk
  ·intro e; subst e; rw [hk] at hid; cases hid
theorem ydlu{s1:St}{ip:IP}(hf:ybr c s ip=some f)(h:ybe c cl s ip=some (v,s1))(hfr:yfi s.nx s1.nx s.H){k:Nat}(hk:lk s.H k=none)(hn:¬ (s.nx≤k∧k < s1.nx)):lk s1.H k=none:=by
  obtain ⟨g,hL⟩:=ybqt hf h hfr
  by_cases hw:k∈f.w
  ·have call:∀ {fn:Nat} {L:List AV},yid c s fn L=some f→ydv c cl s fn L=some (v,s1)→lk s1.H k=none:=by
     intro fn L hf h
     unfold yid at hf
     split at hf
     ·simp only [Option.some.injEq] at hf
      subst hf
      simp at hw
     ·split at hf
      ·rename_i l hl
       simp only [Option.some.injEq] at hf
       subst hf
       obtain ⟨_,_,q3⟩:=yiv s.H yea L [] List.nodup_nil
       rw [ygs hl] at q3
       rcases q3 k hw with hh | ⟨o,ho⟩
       ·simp at hh
       ·rw [hk] at ho; cases ho
      ·cases hf
   cases ip <;> simp only [ybr,Option.some.injEq] at hf
   case ld a size p=>subst hf; simp at hw
   case b2s x=>subst hf; simp at hw
   case cln es x=>subst hf; simp at hw
   case bsl es z len ps=>subst hf; simp at hw
   case st size p x=>
     subst hf
     simp only [ybe] at h
     split at h
     ·rename_i H1 hs
      simp only [Option.some.injEq,Prod.mk.injEq] at h
      obtain ⟨rfl,rfl⟩:=h
      show lk H1 k=none
      unfold yka at hs
      split at hs
      ·split at hs
       ·rename_i hid _
        split at hs
        ·exact yacs hid hs hk
        ·cases hs
       ·cases hs
      ·obtain ⟨g,_,hg⟩:=ysb (s.ev x)
       split at hs
       ·rename_i hid
        split at hs
        ·split at hs
         ·exact yacs hid hs (by rw [hg,hk]; rfl)
         ·cases hs
        ·cases hs
       ·cases hs
      ·cases hs
     ·cases h
   case app es x y=>
     subst hf
     simp only [ybe] at h
     have hnew:∀ rows,yck s es rows=some (v,s1)→lk s1.H k=none:=by
       intro rows h
       obtain ⟨_,_,rfl⟩:=yuz h
       simp only [St.add,ybo]
       rw [if_neg (fun e=>hn ⟨by omega,by simp [St.add]; omega⟩)]
       exact hk
     unfold yfy at h
     repeat' split at h
     all_goals first
       | (cases h; done)
       | exact hnew _ h
       | (simp only [Option.some.injEq,Prod.mk.injEq] at h
          obtain ⟨rfl,rfl⟩:=h
          simp only [St.add,St.setH,ybo,ygn]
          rw [if_neg (fun e=>hn ⟨by omega,by simp [St.add,St.setH]; omega⟩)]
          split
          ·rfl
          ·exact hk)
   case cpy es x y=>
     subst hf
     simp only [ybe] at h
     unfold ykf at h
     split at h
     ·split at h
      ·split at h
       ·rename_i hid
        split at h
        ·split at h
         ·rename_i H1 hu
          simp only [Option.some.injEq,Prod.mk.injEq] at h
          obtain ⟨rfl,rfl⟩:=h
          exact yacs hid hu hk
         ·cases h
        ·cases h
       ·cases h
      ·cases h
     ·simp only [Option.some.injEq,Prod.mk.injEq] at h
      obtain ⟨rfl,rfl⟩:=h
      exact hk
     ·cases h
   case call fn args=>
     simp only [ybe] at h
     exact call hf h
   case callv q args=>
     simp only [ybe] at h
     split at hf
     ·rename_i hq
      rw [hq] at h
      exact call hf h
     ·cases hf
   all_goals (subst hf; simp [ybv] at hw)
  ·rw [hL.eff k,if_neg (fun hh=>hh.elim hw hn),hk]
   rfl
structure Step (c:Cfg) (cl:Callee) (nt base i:Nat) (o:Iop) (s s':St) (f:ycs) (v:AV) (g:Nat→Nat) (n:Nat):Prop where
  get:∀ t,s'.get t=if o.dst=some t then v else s.get t
  disj:yhm s'
  lo:base + i * 64≤n
  hi:n≤base + i * 64 + wd o.op
  g0:∀ k,k∉f.l→g k=0
  dom:∀ k,lk s.H k=none→¬ (base + i * 64≤k∧k < base + i * 64 + wd o.op)→lk s'.H k=none
  eff:Eff f g (base + i * 64) n s'.H s.H s'.H
  same:∀ u,yhm u→Look o s u→ydz f s.H u.H→yfi (base + i * 64) (base + i * 64 + wd o.op) u.H→yga c u o=some f∧∃ u',evN c cl nt base i o u=some u'∧(∀ t,u'.get t=if o.dst=some t then v else u.get t)∧yhm u'∧Eff f g (base + i * 64) n s'.H u.H u'.H
theorem step{i:Nat}(hd:yhm s)(h:evN c cl nt base i o s=some s')(hf:yga c s o=some f)(hfr:yfi (base + i * 64) (base + i * 64 + wd o.op) s.H):∃ v g n,Step c cl nt base i o s s' f v g n:=by
  obtain ⟨h1,hle⟩:=yatz h
  obtain ⟨hdst,⟨hw,v,s1,hv,rfl⟩ | ⟨hw,rfl⟩⟩:=yalk h1
  ·rw [ymy] at hw
   unfold yga at hf
   rw [hw] at hf
   simp only at hf
   have hnx:(s1.putO o.dst v).nx=s1.nx:=by
     cases o.dst with
     | none=>rfl
     | some d=>
       simp only [St.putO,St.put]
       cases upd s1.env d v <;> rfl
   rw [hnx] at hle
   have hwd:s1.nx≤base + i * 64 + wd o.op:=by
     unfold wd
     split
     ·rename_i hq
      have:=ydtu hv hq
      rw [this]
      exact Nat.le_refl _
     ·exact hle
   have hfr1:yfi (atN s (base + i * 64)).nx s1.nx (atN s (base + i * 64)).H:=fun k h1 h2=>hfr k h1 (Nat.lt_of_lt_of_le h2 hwd)
   have hf1:ybr c (atN s (base + i * 64)) o.op=some f:=by rw [yaky]; exact hf
   obtain ⟨g,hL⟩:=ybqt hf1 hv hfr1
   obtain ⟨p1,p2,p3,p4⟩:=yrg (s:=s) (yagm (s:=atN s (base + i * 64)) hd hL.env hL.loc) o.dst v hL.env hL.loc
   refine ⟨v,g,s1.nx,p1,p2,hL.nx,hwd,hL.g0,fun k hk hn=>by rw [p3]; exact ydlu hf1 hv hfr1 hk (fun hh=>hn ⟨hh.1,Nat.lt_of_lt_of_le hh.2 hwd⟩),by rw [p3]; exact hL.eff,fun u hdu hl ha hfu=>?_⟩
   obtain ⟨k1,u1,k2,k3,k4,k5,k6⟩:=hL.same (atN u (base + i * 64)) (fun x hx=>by rw [yeg,yeg]; exact hl.ev x hx) rfl ha (fun k h1 h2=>hfu k h1 (Nat.lt_of_lt_of_le h2 hwd))
   obtain ⟨r1,r2,r3,r4⟩:=yrg (s:=u) (yagm (s:=atN u (base + i * 64)) hdu k3 k4) o.dst v k3 k4
   refine ⟨?_,u1.putO o.dst v,ybhu (ybvm hdst (by rw [ymy,hl.want]; exact hw) k2) (by rw [r4,k5]; exact hle),r1,r2,by rw [r3,p3]; exact k6⟩
   unfold yga
   rw [hl.want,hw]
   rw [yaky] at k1
   exact k1
  ·rw [ymy] at hw
   unfold yga at hf
   rw [hw] at hf
   simp only [Option.some.injEq] at hf
   subst hf
   obtain ⟨p1,p2,p3,p4⟩:=yrg (s:=s) (s1:=atN s (base + i * 64)) hd o.dst .un rfl rfl
   refine ⟨.un,R.g0,base + i * 64,p1,p2,Nat.le_refl _,Nat.le_add_right _ _,fun _ _=>rfl,fun k hk _=>by rw [p3]; exact hk,by rw [p3]; exact Eff.same (f:=ybv) (by simp [ybv]),fun u hdu hl ha hfu=>?_⟩
   obtain ⟨r1,r2,r3,r4⟩:=yrg (s:=u) (s1:=atN u (base + i * 64)) hdu o.dst .un rfl rfl
   refine ⟨by unfold yga; rw [hl.want,hw],_,ybhu (ycez hdst (by rw [ymy,hl.want]; exact hw)) (by rw [r4]; exact Nat.le_add_right _ _),r1,r2,by rw [r3]; exact Eff.same (f:=ybv) (by simp [ybv])⟩
structure Eqv (s u:St):Prop where
  get:∀ t,s.get t=u.get t
  heap:∀ j,lk s.H j=lk u.H j
  disj:yhm u
theorem Eqv.trans{s u v:St}(h:Eqv s u)(h':Eqv u v):Eqv s v:=⟨fun t=>(h.get t).trans (h'.get t),fun j=>(h.heap j).trans (h'.heap j),h'.disj⟩
structure yyb (x y:Iop):Prop where
  a1:∀ d,x.dst=some d→yuw d y=false
  a2:∀ d,x.dst=some d→y.dst≠some d
  a3:∀ d,y.dst=some d→yuw d x=false
theorem yaxz{x y:Iop}(h:yakw x y=true):yyb x y:=by
  unfold yakw at h
  simp only [Bool.and_eq_true] at h
  obtain ⟨h1,h2⟩:=h
  refine ⟨fun d hd=>?_,fun d hd=>?_,fun d hd=>?_⟩
  ·simp only [hd,Bool.and_eq_true] at h1
   simpa using h1.1
  ·intro hy
   simp only [hd,hy,Bool.and_eq_true] at h1
   have:=h1.2
   simp [Nat.beq_refl] at this
  ·simp only [hd] at h2
   simpa using h2
theorem Eff.fresh{g:Nat→Nat}{q n:Nat}{H1 H H':yq}(h:Eff f g q n H1 H H'){a b:Nat}(hf:yfi a b H)(ho:∀ id∈f.w,id < a∨b≤id)(hd:n≤a∨b≤q):yfi a b H':=by
  intro k h1 h2
  rw [h k,if_neg,hf k h1 h2]
  ·rfl
  ·rintro (hh | hh)
   ·have:=ho k hh; omega
   ·omega
structure Free (base i j wx wy:Nat) (x y:ycs):Prop where
  xw:∀ id∈x.w,id∉y.r∧id∉y.l∧id∉y.w
  yw:∀ id∈y.w,id∉x.r∧id∉x.l
  xo:∀ id,(id∈y.r∨id∈y.l∨id∈y.w)→id < base + i * 64∨base + i * 64 + wx≤id
  yo:∀ id,(id∈x.r∨id∈x.l∨id∈x.w)→id < base + j * 64∨base + j * 64 + wy≤id
theorem yaiw{x:Nat}:∀ {l:List Nat},yno x l=false→x∉l
  | [],_=>by simp
  | y :: r,h=>by
    simp only [yno,Bool.or_eq_false_iff] at h
    intro hm
    rcases List.mem_cons.1 hm with rfl | hm
    ·rw [Nat.beq_refl] at h; cases h.1
    ·exact yaiw h.2 hm
theorem yabh:∀ {a b:List Nat},djB a b=true→∀ id∈a,id∉b
  | [],b,_=>by simp
  | x :: r,b,h=>by
    simp only [djB,Bool.and_eq_true,Bool.not_eq_true'] at h
    intro id hid
    rcases List.mem_cons.1 hid with rfl | hid
    ·exact yaiw h.1
    ·exact yabh h.2 id hid
theorem yxd{q:Nat}:∀ {a:List Nat},yrf q a=true→∀ id∈a,id < q∨q + 64≤id
  | [],_=>by simp
  | x :: r,h=>by
    simp only [yrf,Bool.and_eq_true,Bool.or_eq_true,Nat.blt_eq,Nat.ble_eq] at h
    intro id hid
    rcases List.mem_cons.1 hid with rfl | hid
    ·exact h.1
    ·exact yxd h.2 id hid
theorem ybet{base i j wx wy:Nat}{x y:ycs}(hx:wx≤64)(hy:wy≤64)(h:ybes base i j x y=true):Free base i j wx wy x y:=by
  simp only [ybes,Bool.and_eq_true] at h
  obtain ⟨h1,h2,h3,h4⟩:=h
  refine ⟨fun id hid=>?_,fun id hid=>?_,fun id hid=>?_,fun id hid=>?_⟩
  ·have:=yabh h1 id hid
   simpa [not_or] using this
  ·have:=yabh h2 id hid
   simpa [not_or] using this
  ·have:=yxd h3 id (by simpa using hid)
   omega
  ·have:=yxd h4 id (by simpa using hid)
   omega
theorem yaio(hv:yfx o.op=true)(hf:yga c s o=some f):f=ybv:=by
  unfold yga at hf
  split at hf
  ·rw [yuj hv] at hf
   exact (Option.some.inj hf).symm
  ·exact (Option.some.inj hf).symm
theorem yalt(hv:ldB o.op=true)(hf:yga c s o=some f):f.w = []∧f.l = []:=by
  unfold yga at hf
  split at hf
  ·cases ho:o.op <;> rw [ho] at hv hf <;> simp [ldB] at hv
   simp only [ybr,Option.some.injEq] at hf
   subst hf
   exact ⟨rfl,rfl⟩
  ·simp only [Option.some.injEq] at hf
   subst hf
   exact ⟨rfl,rfl⟩
end
section
variable {c:Cfg} {cl:Callee} {nt base:Nat} {s s1 s2 s' u:St} {v:AV} {o x y:Iop} {fx fy:ycs}
theorem ybqv(ha:yyb x y)(hg:∀ t,s1.get t=if x.dst=some t then v else s.get t):Look y s1 s:=by
  intro t ht
  rw [hg,if_neg]
  intro hx
  rw [ha.a1 t hx] at ht
  cases ht
theorem ybep(ha:yyb x y)(hg:∀ t,u.get t=if y.dst=some t then v else s.get t):Look x s u:=by
  intro t ht
  rw [hg,if_neg]
  intro hy
  rw [ha.a3 t hy] at ht
  cases ht
theorem ybwg(ha:yyb x y){vx vy:AV}{u1 u2:St}(g1:∀ t,s1.get t=if x.dst=some t then vx else s.get t)(g2:∀ t,s2.get t=if y.dst=some t then vy else s1.get t)(g3:∀ t,u1.get t=if y.dst=some t then vy else s.get t)(g4:∀ t,u2.get t=if x.dst=some t then vx else u1.get t):∀ t,s2.get t=u2.get t:=by
  intro t
  rw [g2,g4,g1,g3]
  by_cases hx:x.dst=some t
  ·have:=ha.a2 t hx
   rw [if_neg this,if_pos hx,if_pos hx]
  ·rw [if_neg hx,if_neg hx]
theorem swap{clx cly:Callee}{i j:Nat}(hij:i≠j)(ha:yyb x y)(hF:Free base i j (wd x.op) (wd y.op) fx fy)(hds:yhm s)(hfi:yfi (base + i * 64) (base + i * 64 + wd x.op) s.H)(hfj:yfi (base + j * 64) (base + j * 64 + wd y.op) s.H)
    (h1:evN c clx nt base i x s=some s1) (f1:yga c s x=some fx) (h2:evN c cly nt base j y s1=some s2) (f2:yga c s1 y=some fy) :
    ∃ u1 u2,evN c cly nt base j y s=some u1∧yga c s y=some fy∧evN c clx nt base i x u1=some u2∧yga c u1 x=some fx∧Eqv s2 u2:=by
  have hsep:base + i * 64 + 64≤base + j * 64∨base + j * 64 + 64≤base + i * 64:=by omega
  obtain ⟨vx,gx,nx,tx⟩:=step hds h1 f1 hfi
  have hxlo:=tx.lo
  have hxhi:=tx.hi
  have hwx:=yzy x.op
  have hwy:=yzy y.op
  have hfj1:yfi (base + j * 64) (base + j * 64 + wd y.op) s1.H:=fun k h1 h2=>tx.dom k (hfj k h1 h2) (by omega)
  obtain ⟨vy,gy,ny,ty⟩:=step tx.disj h2 f2 hfj1
  have hylo:=ty.lo
  have hyhi:=ty.hi
  have ex:∀ k,¬ (k∈fx.w∨(base + i * 64≤k∧k < nx))→lk s1.H k=(lk s.H k).map (ycu (gx k)):=fun k hk=>by rw [tx.eff k,if_neg hk]
  have nrx:∀ k,(k∈fy.r∨k∈fy.l∨k∈fy.w)→¬ (k∈fx.w∨(base + i * 64≤k∧k < nx)):=by
    rintro k hk (hh | hh)
    ·obtain ⟨a1,a2,a3⟩:=hF.xw k hh
     rcases hk with hk | hk | hk
     ·exact a1 hk
     ·exact a2 hk
     ·exact a3 hk
    ·have:=hF.xo k hk; omega
  have agy:ydz fy s1.H s.H:=by
    refine ⟨fun id hid=>?_,fun id hid=>?_,fun id hid=>?_⟩
    ·rw [ex id (nrx id (.inr (.inr hid))),tx.g0 id (hF.yw id hid).2,yij]
    ·rw [ex id (nrx id (.inl hid))]
     exact (LEq.leak _ _).symm
    ·rw [ex id (nrx id (.inr (.inl hid)))]
     exact (LEq.leak _ _).symm
  obtain ⟨b0,u1,b1,b2,b3,b4⟩:=ty.same s hds (ybqv ha tx.get) agy hfj
  have ey:∀ k,¬ (k∈fy.w∨(base + j * 64≤k∧k < ny))→lk u1.H k=(lk s.H k).map (ycu (gy k)):=fun k hk=>by rw [b4 k,if_neg hk]
  have nry:∀ k,(k∈fx.r∨k∈fx.l∨k∈fx.w)→¬ (k∈fy.w∨(base + j * 64≤k∧k < ny)):=by
    rintro k hk (hh | hh)
    ·obtain ⟨a1,a2⟩:=hF.yw k hh
     rcases hk with hk | hk | hk
     ·exact a1 hk
     ·exact a2 hk
     ·exact (hF.xw k hk).2.2 hh
    ·have:=hF.yo k hk; omega
  have agx:ydz fx s.H u1.H:=by
    refine ⟨fun id hid=>?_,fun id hid=>?_,fun id hid=>?_⟩
    ·rw [ey id (nry id (.inr (.inr hid))),ty.g0 id (hF.xw id hid).2.1,yij]
    ·rw [ey id (nry id (.inl hid))]
     exact LEq.leak _ _
    ·rw [ey id (nry id (.inr (.inl hid)))]
     exact LEq.leak _ _
  have hfi1:yfi (base + i * 64) (base + i * 64 + wd x.op) u1.H:=b4.fresh hfi (fun id hid=>hF.xo id (.inr (.inr hid))) (by omega)
  obtain ⟨c0,u2,c1,c2,c3,c4⟩:=tx.same u1 b3 (ybep ha b2) agx hfi1
  refine ⟨u1,u2,b1,b0,c1,c0,ybwg ha tx.get ty.get b2 c2,fun k=>?_,c3⟩
  by_cases hky:k∈fy.w∨(base + j * 64≤k∧k < ny)
  ·have hnx:¬ (k∈fx.w∨(base + i * 64≤k∧k < nx)):=by
     rintro (hh | hh)
     ·rcases hky with hk | hk
      ·exact (hF.xw k hh).2.2 hk
      ·have:=hF.yo k (.inr (.inr hh)); omega
     ·rcases hky with hk | hk
      ·have:=hF.xo k (.inr (.inr hk)); omega
      ·omega
   have hgx:gx k=0:=tx.g0 k fun hl=>by
     rcases hky with hk | hk
     ·exact (hF.yw k hk).2 hl
     ·have:=hF.yo k (.inr (.inl hl)); omega
   rw [c4 k,if_neg hnx,b4 k,if_pos hky,hgx,yij]
  ·by_cases hkx:k∈fx.w∨(base + i * 64≤k∧k < nx)
   ·have hgy:gy k=0:=ty.g0 k fun hl=>by
      rcases hkx with hk | hk
      ·exact (hF.xw k hk).2.1 hl
      ·have:=hF.xo k (.inr (.inl hl)); omega
    rw [ty.eff k,if_neg hky,c4 k,if_pos hkx,hgy,yij]
   ·rw [ty.eff k,if_neg hky,c4 k,if_neg hkx,ex k hkx,ey k hky,yabp,yabp,Nat.max_comm]
end
end Go.Proofs.YtgoachcogmlhcaaGreat.R
