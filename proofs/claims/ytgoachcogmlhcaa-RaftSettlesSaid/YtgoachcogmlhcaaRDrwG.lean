import Derived.Test.YtgoachcogmlhcaaRMain
import Derived.Orders
set_option linter.unusedVariables false
set_option linter.unusedSectionVars false
set_option linter.unusedSimpArgs false
noncomputable section
namespace Go.Proofs.Ytgoachcogmlhcaa.R
open Go
section
variable {c:Cfg} {cl:Callee} {s s' s1:St} {v:AV}
theorem yps:∀ {l:List Opd},(∀ x∈l,s'.ev x=s.ev x)->s'.evs l=s.evs l
  | [],_=>rfl
  | x :: r,h=>by
    simp only [St.evs]
    rw [h x (by simp),yps fun y hy=>h y (by simp [hy])]
theorem yvz:∀ {l:List (Nat × Opd)},(∀ x∈l.map (fun p=>p.2),s'.ev x=s.ev x)->s'.evp l=s.evp l
  | [],_=>rfl
  | (i,x) :: r,h=>by
    simp only [St.evp]
    rw [h x (by simp),yvz fun y hy=>h y (by rw [wr]; exact ql _ hy)]
theorem yanv:∀ {l:List (Nat × Nat × Opd)},(∀ x∈l.map (fun p=>p.2.2),s'.ev x=s.ev x)->s'.evq l=s.evq l
  | [],_=>rfl
  | (i,j,x) :: r,h=>by
    simp only [St.evq]
    rw [h x (by simp),yanv fun y hy=>h y (by rw [wr]; exact ql _ hy)]
theorem ysv{x:Option Opd}(h:∀ y∈x.toList,s'.ev y=s.ev y):s'.evo x=s.evo x:=by
  cases x with
  | none=>rfl
  | some y=>simp only [St.evo]; rw [h y (by simp)]
theorem yakd{ip:IP}(hp:yht ip=true)(h:ybi c cl s ip=some (v,s1))(he:∀ x∈ycq ip,s'.ev x=s.ev x):s1=s/\ybi c cl s' ip=some (v,s'):=by
  cases ip
  case mv x=>
    simp only [ybi,qa,qi] at h
    obtain ⟨rfl,rfl⟩:=h
    exact ⟨rfl,by simp only [ybi]; rw [he x (by simp [ycq])]⟩
  case mkf f pre post=>
    simp only [ybi,qa,qi] at h
    obtain ⟨rfl,rfl⟩:=h
    refine ⟨rfl,?_⟩
    simp only [ybi]
    rw [yps fun x hx=>he x (by simp only [ycq]; exact wc _ hx),yps fun x hx=>he x (by simp only [ycq]; exact wo _ hx)]
  case build z ps=>
    obtain ⟨hg,rfl⟩:=yjx h
    refine ⟨rfl,?_⟩
    simp only [ybi]
    rw [yanv (by simpa [ycq] using he),hg]
    rfl
  case sls x lo hi=>
    obtain ⟨hg,rfl⟩:=yjx h
    refine ⟨rfl,?_⟩
    simp only [ybi]
    rw [he x (by simp [ycq]),ysv fun y hy=>he y (by simp only [ycq]; exact ql _ (wc _ hy)),ysv fun y hy=>he y (by simp only [ycq]; exact ql _ (wo _ hy)),hg]
    rfl
  case sll size x lo hi mx=>
    obtain ⟨hg,rfl⟩:=yjx h
    refine ⟨rfl,?_⟩
    simp only [ybi]
    rw [he x (by simp [ycq]),ysv fun y hy=>he y (by simp only [ycq]; exact ql _ (wc _ hy)),ysv fun y hy=>he y (by simp only [ycq]; exact ql _ (wo _ (wc _ hy))),ysv fun y hy=>he y (by simp only [ycq]; exact ql _ (wo _ (wo _ hy))),hg]
    rfl
  case ld=>simp [yht] at hp
  case call=>simp [yht] at hp
  case bsl=>simp [yht] at hp
  case alloc=>simp [yht] at hp
  case st=>simp [yht] at hp
  case app=>simp [yht] at hp
  case box=>simp [yht] at hp
  case mks=>simp [yht] at hp
  case s2b=>simp [yht] at hp
  case b2s=>simp [yht] at hp
  case cpy=>simp [yht] at hp
  case cln=>simp [yht] at hp
  case clr=>simp [yht] at hp
  case no=>simp [yht] at hp
  case callv=>simp [yht] at hp
  all_goals
    obtain ⟨hg,rfl⟩:=yjx h
    refine ⟨rfl,?_⟩
    simp only [ycq,wt,wz,or_false,forall_eq_or_imp,forall_eq] at he
    simp only [ybi,he,hg]
    rfl
def yzq:Ob->Ob
  | .arr es rows _=>.arr es rows 0
  | o=>o
def LEq(a b:Option Ob):Prop:=a.map yzq=b.map yzq
theorem LEq.refl(a:Option Ob):LEq a a:=rfl
theorem LEq.of{a b:Option Ob}(h:a=b):LEq a b:=by rw [h]; exact LEq.refl _
theorem LEq.trans{a b d:Option Ob}(h:LEq a b)(h':LEq b d):LEq a d:=Eq.trans h h'
theorem LEq.symm{a b:Option Ob}(h:LEq a b):LEq b a:=Eq.symm h
theorem ybit(n:Nat)(o:Ob):yzq (ydh n o) = yzq o:=by cases o <;> rfl
theorem LEq.leak(a:Option Ob)(n:Nat):LEq (a.map (ydh n)) a:=by
  cases a with
  | none=>rfl
  | some o=>simp [LEq,ybit]
def yfw(H:yr)(id:Nat):Option (List (List AV)):=match lk H id with | some (.arr _ rows _)=>some rows | _=>none
theorem LEq.rows{H H':yr}{id:Nat}(h:LEq (lk H' id) (lk H id)):yfw H' id=yfw H id:=by
  unfold LEq at h
  unfold yfw
  cases h1:lk H' id with
  | none=>
    rw [h1] at h
    cases h2:lk H id with
    | none=>rfl
    | some o=>rw [h2] at h; cases h
  | some o'=>
    rw [h1] at h
    cases h2:lk H id with
    | none=>rw [h2] at h; cases h
    | some o=>
      rw [h2] at h
      cases o <;> cases o' <;> simp [yzq] at h ⊢
      exact h.2
theorem ybyi{a:Bool}{size:Nat}{H H':yr}{p:AV}(h:∀ id∈idL p,LEq (lk H' id) (lk H id)):yka a size H' p=yka a size H p:=by
  unfold yka
  cases p <;> simp only
  case ptr id off=>
    have:=h id (by simp [idL])
    unfold LEq at this
    cases h1:lk H' id with
    | none=>
      rw [h1] at this
      cases h2:lk H id with
      | none=>rfl
      | some o=>rw [h2] at this; cases this
    | some o'=>
      rw [h1] at this
      cases h2:lk H id with
      | none=>rw [h2] at this; cases this
      | some o=>
        rw [h2] at this
        cases o <;> cases o' <;> simp [yzq] at this ⊢
        rw [this]
  case eptr id i f=>
    have:=h id (by simp [idL])
    unfold LEq at this
    cases h1:lk H' id with
    | none=>
      rw [h1] at this
      cases h2:lk H id with
      | none=>rfl
      | some o=>rw [h2] at this; cases this
    | some o'=>
      rw [h1] at this
      cases h2:lk H id with
      | none=>rw [h2] at this; cases this
      | some o=>
        rw [h2] at this
        simp only [kb,qa] at this
        cases o <;> cases o' <;> simp only [yzq,reduceCtorEq,Ob.arr.injEq,Ob.arx.injEq] at this ⊢
        .rw [this.2.1]
        .rw [this.2]
theorem yayn(H:yr)(es id off len:Nat)(ex:Bool):frz H (.own es id off len ex) = match yfw H id with | some rows=>if off + len<=rows.length then ycr ((rows.drop off).take len) else .bad | none=>.bad:=by
  simp only [frz,yfw]
  cases lk H id with
  | none=>rfl
  | some o=>cases o <;> rfl
mutual
theorem yalu{H H':yr}:∀ (v:AV),(∀ id∈ybk v,yfw H' id=yfw H id)->frz H' v=frz H v
  | .own es id off len ex,h=>by rw [yayn,yayn,h id (by simp [ybk])]
  | .agg cs,h=>by simp only [frz]; rw [yye cs (by simpa [ybk] using h)]
  | .tup cs,h=>by simp only [frz]; rw [yye cs (by simpa [ybk] using h)]
  | .bad,_=>rfl
  | .un,_=>rfl
  | .bool _,_=>rfl
  | .int _ _,_=>rfl
  | .str _,_=>rfl
  | .nil,_=>rfl
  | .oth _,_=>rfl
  | .imm _ _ _,_=>rfl
  | .ptr _ _,_=>rfl
  | .eptr _ _ _,_=>rfl
  | .iptr _ _,_=>rfl
  | .fn _ _ _,_=>rfl
theorem yye{H H':yr}:∀ (vs:List AV),(∀ id∈yfs vs,yfw H' id=yfw H id)->ydn H' vs=ydn H vs
  | [],_=>rfl
  | v :: r,h=>by
    simp only [ydn]
    rw [yalu v fun id hid=>h id (by simp [yfs,hid]),yye r fun id hid=>h id (by simp [yfs,hid])]
end
theorem yaga(n m:Nat)(o:Option Ob):(o.map (ydh n)).map (ydh m) = o.map (ydh (max n m)):=by
  cases o with
  | none=>rfl
  | some o=>simp [ytf]
theorem ykm(o:Option Ob):o.map (ydh 0) = o:=by cases o <;> simp [ynd]
def yhw(l:List Nat)(g:Nat->Nat)(F:yr->yr):Prop:=(∀ k,k∉l->g k=0)/\∀ (H:yr) (k:Nat),lk (F H) k=(lk H k).map (ydh (g k))
theorem yhw.none:yhw [] (fun _=>0) (fun H=>H):=⟨fun _ _=>rfl,fun H k=>(ykm _).symm⟩
theorem yhw.comp{l1 l2:List Nat}{g1 g2:Nat->Nat}{F1 F2:yr->yr}(h1:yhw l1 g1 F1)(h2:yhw l2 g2 F2):yhw (l1++l2) (fun k=>max (g1 k) (g2 k)) (fun H=>F2 (F1 H)):=by
  refine ⟨fun k hk=>?_,fun H k=>?_⟩
  .rw [qt,not_or] at hk
   simp [h1.1 k hk.1,h2.1 k hk.2]
  .rw [h2.2,h1.2,yaga]
mutual
theorem ywc:∀ (v:AV),∃ g,yhw (ybk v) g (fun H=>ybv H v)
  | .own es id off len ex=>by
    refine ⟨fun k=>if k=id then off + len else 0,fun k hk=>?_,fun H k=>?_⟩
    .simp only [ybk,wb] at hk
     simp [hk]
    .simp only [ybv,ysx]
     cases lk H k with
     | none=>rfl
     | some o=>
       by_cases hk:k=id
       .simp [hk]
       .simp [hk,ynd]
  | .agg cs=>by
    obtain ⟨g,h⟩:=ytq cs
    exact ⟨g,by simpa only [ybk,ybv] using h⟩
  | .tup cs=>by
    obtain ⟨g,h⟩:=ytq cs
    exact ⟨g,by simpa only [ybk,ybv] using h⟩
  | .bad=>⟨_,by simpa only [ybk,ybv] using yhw.none⟩
  | .un=>⟨_,by simpa only [ybk,ybv] using yhw.none⟩
  | .bool _=>⟨_,by simpa only [ybk,ybv] using yhw.none⟩
  | .int _ _=>⟨_,by simpa only [ybk,ybv] using yhw.none⟩
  | .str _=>⟨_,by simpa only [ybk,ybv] using yhw.none⟩
  | .nil=>⟨_,by simpa only [ybk,ybv] using yhw.none⟩
  | .oth _=>⟨_,by simpa only [ybk,ybv] using yhw.none⟩
  | .imm _ _ _=>⟨_,by simpa only [ybk,ybv] using yhw.none⟩
  | .ptr _ _=>⟨_,by simpa only [ybk,ybv] using yhw.none⟩
  | .eptr _ _ _=>⟨_,by simpa only [ybk,ybv] using yhw.none⟩
  | .iptr _ _=>⟨_,by simpa only [ybk,ybv] using yhw.none⟩
  | .fn _ _ _=>⟨_,by simpa only [ybk,ybv] using yhw.none⟩
theorem ytq:∀ (vs:List AV),∃ g,yhw (yfs vs) g (fun H=>yeu H vs)
  | []=>⟨_,by simpa only [yfs,yeu] using yhw.none⟩
  | v :: r=>by
    obtain ⟨g1,h1⟩:=ywc v
    obtain ⟨g2,h2⟩:=ytq r
    exact ⟨_,by simpa only [yfs,yeu] using h1.comp h2⟩
end
theorem ywn:∀ (ps:List (Nat × AV)),∃ g,yhw (yfs (ygr ps)) g (fun H=>yfl H ps)
  | []=>⟨_,by simpa only [yfs,ygr,yfl] using yhw.none⟩
  | (i,v) :: r=>by
    obtain ⟨g1,h1⟩:=ywc v
    obtain ⟨g2,h2⟩:=ywn r
    exact ⟨_,by simpa only [yfs,ygr,yfl] using h1.comp h2⟩
theorem yaaz{H H':yr}{es:Nat}:∀ {ps:List (Nat × AV)} {rows:List (List AV)},(∀ id∈yfs (ygr ps),yfw H' id=yfw H id)->yfp es H' rows ps=yfp es H rows ps
  | [],rows,_=>rfl
  | (i,v) :: r,rows,h=>by
    simp only [yfp]
    rw [yalu v fun id hid=>h id (by simp [ygr,yfs,hid])]
    cases cellsOf (frz H v) with
    | none=>rfl
    | some vs=>
      simp only
      split
      .exact yaaz fun id hid=>h id (by simp [ygr,yfs,hid])
      .rfl
theorem yzl{H H':yr}{es:Nat}(v:AV)(h:∀ id∈ybk v,yfw H' id=yfw H id):yei es H' v=yei es H v:=by
  cases v
  case own es' id off len ex=>
    have:=h id (by simp [ybk])
    unfold yfw at this
    simp only [yei]
    split
    .cases ha:lk H' id with
     | none=>
       rw [ha] at this
       cases hb:lk H id with
       | none=>rfl
       | some o=>cases o <;> rw [hb] at this <;> first | rfl | cases this
     | some o=>
       rw [ha] at this
       cases hb:lk H id with
       | none=>cases o <;> rw [hb] at this <;> first | rfl | cases this
       | some o'=>cases o <;> cases o' <;> rw [hb] at this <;> first | rfl | (simp only [qa] at this; subst this; rfl) | cases this
    .rfl
  all_goals rfl
theorem yws{H H':yr}{es:Nat}(v:AV)(h:∀ id∈ybk v,yfw H' id=yfw H id):ydc es H' v=ydc es H v:=by
  unfold ydc
  split
  .rfl
  .exact yzl v h
theorem yjn{H:yr}:∀ {n:Nat} {todo:List AV} {acc l:List Nat},ybg H n todo acc=some l->yba H n todo acc=l
  | 0,_,_,_,h=>by simp [ybg] at h
  | n + 1,[],acc,l,h=>by simpa [ybg,yba] using h
  | n + 1,v :: todo,acc,l,h=>by
    cases v <;> simp only [ybg,yba] at h ⊢
    case own es id off len ex=>
      split at h
      .rename_i hid; rw [qe hid]; exact yjn h
      .rename_i hid
       rw [qc hid]
       split at h
       .exact yjn h
       .cases h
    case eptr id i f=>
      split at h
      .rename_i hid; rw [qe hid]; exact yjn h
      .rename_i hid
       rw [qc hid]
       split at h
       .exact yjn h
       .cases h
    case ptr id off=>
      split at h
      .rename_i hid; rw [qe hid]; exact yjn h
      .rename_i hid
       rw [qc hid]
       split at h
       .exact yjn h
       .exact yjn h
       .cases h
    all_goals exact yjn h
theorem yhf{H:yr}:∀ {n:Nat} {todo:List AV} {acc l:List Nat},ybg H n todo acc=some l->∀ id∈acc,id∈l
  | 0,_,_,_,h=>by simp [ybg] at h
  | n + 1,[],acc,l,h=>by simp only [ybg,qa] at h; subst h; exact fun _ h=>h
  | n + 1,v :: todo,acc,l,h=>by
    intro id hid
    cases v <;> simp only [ybg] at h
    case own es i off len ex=>
      split at h
      .exact yhf h id hid
      .split at h
       .exact yhf h id (by simp [hid])
       .cases h
    case eptr i _ f=>
      split at h
      .exact yhf h id hid
      .split at h
       .exact yhf h id (by simp [hid])
       .cases h
    case ptr i off=>
      split at h
      .exact yhf h id hid
      .split at h
       .exact yhf h id (by simp [hid])
       .exact yhf h id (by simp [hid])
       .cases h
    all_goals exact yhf h id hid
theorem yhd{H H':yr}:∀ {n:Nat} {todo:List AV} {acc l:List Nat},ybg H n todo acc=some l->(∀ id∈l,lk H' id=lk H id)->ybg H' n todo acc=some l
  | 0,_,_,_,h,_=>by simp [ybg] at h
  | n + 1,[],acc,l,h,_=>by simpa [ybg] using h
  | n + 1,v :: todo,acc,l,h,he=>by
    cases v <;> simp only [ybg] at h ⊢
    case own es id off len ex=>
      split at h
      .rename_i hid; rw [qe hid]; exact yhd h he
      .rename_i hid
       rw [qc hid]
       split at h
       .rename_i o ho
        rw [he id (yhf h id (by simp)),ho]
        exact yhd h he
       .cases h
    case eptr id i f=>
      split at h
      .rename_i hid; rw [qe hid]; exact yhd h he
      .rename_i hid
       rw [qc hid]
       split at h
       .rename_i o ho
        rw [he id (yhf h id (by simp)),ho]
        exact yhd h he
       .cases h
    case ptr id off=>
      split at h
      .rename_i hid; rw [qe hid]; exact yhd h he
      .rename_i hid
       rw [qc hid]
       split at h
       .rename_i cells ho
        rw [he id (yhf h id (by simp)),ho]
        exact yhd h he
       .rename_i o hne ho
        rw [he id (yhf h id (by simp)),ho]
        cases o with
        | box cells=>exact absurd rfl (hne cells)
        | arr es rows leak=>exact yhd h he
        | arx es rows=>exact yhd h he
       .cases h
    all_goals exact yhd h he
theorem yadt{f:Nat->Option Nat}(hf:Inj f):∀ (H:yr) {id j:Nat},f id=some j->lk (ycy f H) j=(lk H id).map (ysl f)
  | [],id,j,h=>by simp [ycy]
  | (i,o) :: r,id,j,h=>by
    simp only [ycy]
    cases hi:f i with
    | none=>
      simp only
      have:i≠id:=fun e=>by subst e; rw [h] at hi; cases hi
      rw [ybx,qc this]
      exact yadt hf r h
    | some k=>
      simp only [ybx]
      by_cases hk:i=id
      .subst hk
       rw [h] at hi
       obtain rfl:=qd hi
       simp
      .have:¬ k=j:=fun e=>by subst e; exact hk (hf _ _ _ hi h)
       rw [qc this,qc hk]
       exact yadt hf r h
theorem yamz{f:Nat->Option Nat}:∀ (H:yr) {j:Nat},(∀ id,f id≠some j)->lk (ycy f H) j=none
  | [],j,h=>by simp [ycy]
  | (i,o) :: r,j,h=>by
    simp only [ycy]
    cases hi:f i with
    | none=>exact yamz r h
    | some k=>
      simp only [ybx]
      have:¬ k=j:=fun e=>by subst e; exact h i hi
      rw [qc this]
      exact yamz r h
theorem yanl{H H':yr}:∀ {n:Nat},(∀ t,t < n->lk H' t=lk H t)->yhs H' n=yhs H n
  | 0,_=>rfl
  | n + 1,h=>by
    simp only [yhs]
    rw [h n (by omega),yanl fun t ht=>h t (by omega)]
theorem ybqo{H H':yr}{l:List Nat}(hl:l.Nodup)(h:∀ id∈l,lk H' id=lk H id):yhs (ycy (pos l) H') l.length=yhs (ycy (pos l) H) l.length:=by
  refine yanl fun t ht=>?_
  have hi:Inj (pos l):=fun i i' j h h'=>yamv h h'
  have hp:pos l l[t] = some t:=ytw hl (qj ht)
  rw [yadt hi H' hp,yadt hi H hp,h _ (jd ht)]
theorem ytg:∀ (l:List Nat) (H:yr) (k:Nat),lk (yem H l) k=if k∈l then none else lk H k
  | [],H,k=>by simp [yem]
  | i :: r,H,k=>by
    simp only [yem]
    rw [ytg r,yjl]
    by_cases h1:k∈r
    .simp [h1]
    .by_cases h2:k=i
     .simp [h2]
     .simp [h1,h2]
theorem yabk{α:Type}:∀ (l l':List (Nat × α)) (t:Nat),lk (l++l') t=match lk l t with | some x=>some x | none=>lk l' t
  | [],l',t=>by simp
  | (k,x) :: r,l',t=>by
    rw [jn,ybx,ybx]
    by_cases h:k=t
    .simp [h]
    .rw [qc h,qc h]
     exact yabk r l' t
end
structure yez (f:yds) (H H':yr):Prop where
  w:∀ id∈f.w,lk H' id=lk H id
  r:∀ id∈f.r,LEq (lk H' id) (lk H id)
  l:∀ id∈f.l,LEq (lk H' id) (lk H id)
def yhv(q n:Nat)(H:yr):Prop:=∀ k,q<=k->k < n->lk H k=none
def Eff(f:yds)(g:Nat->Nat)(q n:Nat)(H1 H H':yr):Prop:=
  ∀ k,lk H' k=if k∈f.w\/(q<=k/\k < n) then lk H1 k else (lk H k).map (ydh (g k))
structure Loc (c:Cfg) (cl:Callee) (ip:IP) (s:St) (v:AV) (s1:St) (f:yds) (g:Nat->Nat):Prop where
  env:s1.env=s.env
  loc:s1.loc=s.loc
  nx:s.nx<=s1.nx
  g0:∀ k,k∉f.l->g k=0
  eff:Eff f g s.nx s1.nx s1.H s.H s1.H
  same:∀ s',(∀ x∈ycq ip,s'.ev x=s.ev x)->s'.nx=s.nx->yez f s.H s'.H->yhv s.nx s1.nx s'.H->ybz c s' ip=some f/\∃ s1',ybi c cl s' ip=some (v,s1')/\s1'.env=s'.env/\s1'.loc=s'.loc/\s1'.nx=s1.nx/\Eff f g s.nx s1.nx s1.H s'.H s1'.H
def g0:Nat->Nat:=fun _=>0
section
variable {c:Cfg} {cl:Callee} {s s' s1:St} {v:AV} {f:yds}
theorem Eff.same{q:Nat}{H H':yr}(hw:∀ id∈f.w,lk H' id=lk H id):Eff f g0 q q H H' H':=by
  intro k
  split
  .rename_i h
   rcases h with h | h
   .exact hw k h
   .omega
  .exact (ykm _).symm
theorem Eff.add{ob:Ob}(hn:s'.nx=s.nx)(hw:∀ id∈f.w,lk s'.H id=lk s.H id):Eff f g0 s.nx (s.nx + 1) (s.add ob).H s'.H (s'.add ob).H:=by
  intro k
  simp only [St.add,ybx,hn]
  by_cases hk:s.nx=k
  .subst hk; simp
  .rw [qc hk,qc hk]
   split
   .rename_i h
    rcases h with h | h
    .exact hw k h
    .omega
   .exact (ykm _).symm
theorem yuy{ip:IP}{r l:List Nat}(hf:ybz c s ip=some ⟨r,l,[]⟩)(h:ybi c cl s ip=some (v,s))(hs:∀ s',(∀ x∈ycq ip,s'.ev x=s.ev x)->yez ⟨r,l,[]⟩ s.H s'.H->ybz c s' ip=some ⟨r,l,[]⟩/\ybi c cl s' ip=some (v,s')):Loc c cl ip s v s ⟨r,l,[]⟩ g0:=
  ⟨rfl,rfl,qk _,fun _ _=>rfl,Eff.same (by simp),fun s' he hn ha _=>⟨(hs s' he ha).1,s',(hs s' he ha).2,rfl,rfl,hn,by rw [← hn]; exact Eff.same (by simp)⟩⟩
theorem yua{ip:IP}{ob:Ob}(hf:ybz c s ip=some f)(hs:∀ s',(∀ x∈ycq ip,s'.ev x=s.ev x)->s'.nx=s.nx->yez f s.H s'.H->ybz c s' ip=some f/\ybi c cl s' ip=some (v,s'.add ob)):Loc c cl ip s v (s.add ob) f g0:=
  ⟨rfl,rfl,Nat.le_succ _,fun _ _=>rfl,Eff.add rfl (fun _ _=>rfl),fun s' he hn ha _=>⟨(hs s' he hn ha).1,s'.add ob,(hs s' he hn ha).2,rfl,rfl,by simp [St.add,hn],Eff.add hn ha.w⟩⟩
theorem yaka{es:Nat}{rows:List (List AV)}(h:ycu s es rows=some (v,s1)):rows.length<=yno/\v = .own es s.nx 0 rows.length false/\s1=s.add (.arr es rows 0):=by
  unfold ycu at h
  split at h
  .rename_i hl
   simp only [qa,qi] at h
   exact ⟨hl,h.1.symm,h.2.symm⟩
  .cases h
theorem ybqw{es:Nat}{rows:List (List AV)}(hl:rows.length<=yno)(hn:s'.nx=s.nx):ycu s' es rows=some (.own es s.nx 0 rows.length false,s'.add (.arr es rows 0)):=by
  unfold ycu
  rw [qe hl,hn]
theorem yez.rr(h:yez f s.H s'.H):∀ id∈f.r,yfw s'.H id=yfw s.H id:=fun id hid=>(h.r id hid).rows
theorem yez.rl(h:yez f s.H s'.H):∀ id∈f.l,yfw s'.H id=yfw s.H id:=fun id hid=>(h.l id hid).rows
theorem yez.rw(h:yez f s.H s'.H):∀ id∈f.w,yfw s'.H id=yfw s.H id:=fun id hid=>by unfold yfw; rw [h.w id hid]
theorem yyd{ip:IP}(hp:yht ip=true):ybz c s ip=some ycf:=by
  cases ip <;> simp [yht] at hp <;> rfl
theorem yciw{es:Nat}{x y:Opd}(h:yio es s (s.ev x) (s.ev y) = some (v,s1)):∃ g,Loc c cl (.app es x y) s v s1 ⟨ybk (s.ev y),[],ybk (s.ev x)⟩ g:=by
  have hfoot:∀ s':St,(∀ z∈ycq (.app es x y),s'.ev z=s.ev z)->ybz c s' (.app es x y) = some ⟨ybk (s.ev y),[],ybk (s.ev x)⟩:=fun s' he=>by
    simp only [ybz,he x (by simp [ycq]),he y (by simp [ycq])]
  have h0:=h
  unfold yio at h
  split at h
  .rename_i new hnew
   have hsrc:∀ s':St,yez ⟨ybk (s.ev y),[],ybk (s.ev x)⟩ s.H s'.H->ydc es s'.H (s.ev y) = some new:=fun s' ha=>by rw [yws _ ha.rr,hnew]
   have wrap:∀ rows,ycu s es rows=some (v,s1)->(∀ s':St,yez ⟨ybk (s.ev y),[],ybk (s.ev x)⟩ s.H s'.H->yio es s' (s.ev x) (s.ev y) = ycu s' es rows)->∃ g,Loc c cl (.app es x y) s v s1 ⟨ybk (s.ev y),[],ybk (s.ev x)⟩ g:=by
     intro rows hn hs
     obtain ⟨k1,rfl,rfl⟩:=yaka hn
     refine ⟨_,yua (hfoot s fun _ _=>rfl) fun s' he hn ha=>⟨hfoot s' he,?_⟩⟩
     simp only [ybi,he x (by simp [ycq]),he y (by simp [ycq])]
     rw [hs s' ha]
     exact ybqw k1 hn
   split at h
   .rename_i hb
    exact wrap _ h fun s' ha=>by simp only [yio,hb,hsrc s' ha]
   .rename_i es' rows ex hb
    split at h
    .rename_i hc
     split at h
     .rename_i hc2
      exact wrap _ h fun s' ha=>by simp only [yio,hb,hsrc s' ha]; rw [qe hc,qe hc2]
     .rename_i hc2
      split at h
      .rename_i hc3
       exact wrap _ h fun s' ha=>by simp only [yio,hb,hsrc s' ha]; rw [qe hc,qc hc2,qe hc3]
      .cases h
    .cases h
   .rename_i es' id off len ex hb
    have hw:∀ s':St,yez ⟨ybk (s.ev y),[],ybk (s.ev x)⟩ s.H s'.H->lk s'.H id=lk s.H id:=fun s' ha=>ha.w id (by simp [hb,ybk])
    split at h
    .rename_i hc
     split at h
     .rename_i es2 rows leak hid
      split at h
      .rename_i hc2
       split at h
       .rename_i hc3
        exact wrap _ h fun s' ha=>by simp only [yio,hb,hsrc s' ha,hw s' ha,hid]; rw [qe hc,qe hc2,qe hc3]
       .rename_i hc3
        split at h
        .rename_i hc4
         exact wrap _ h fun s' ha=>by simp only [yio,hb,hsrc s' ha,hw s' ha,hid]; rw [qe hc,qe hc2,qc hc3,qe hc4]
        .cases h
      .rename_i hc2
       split at h
       .rename_i hc3
        simp only [qa,qi] at h
        obtain ⟨rfl,rfl⟩:=h
        have key:∀ s':St,s'.nx=s.nx->Eff ⟨ybk (s.ev y),[],ybk (s.ev x)⟩ g0 s.nx (s.nx + 1) ((s.setH (rmv s.H id)).add (.arr es (rows.take len++new) leak)).H s'.H ((s'.setH (rmv s'.H id)).add (.arr es (rows.take len++new) leak)).H:=by
          intro s' hn k
          simp only [St.add,St.setH,ybx,yjl,hn]
          by_cases hk:s.nx=k
          .subst hk; simp
          .rw [qc hk,qc hk]
           by_cases hi:k=id
           .subst hi; simp [hb,ybk]
           .rw [qc hi,qc hi,qc]
            .exact (ykm _).symm
            .rintro (hh | hh)
             .simp [hb,ybk] at hh; exact hi hh
             .omega
        refine ⟨g0,rfl,rfl,Nat.le_succ _,fun _ _=>rfl,key s rfl,fun s' he hn ha _=>⟨hfoot s' he,(s'.setH (rmv s'.H id)).add (.arr es (rows.take len++new) leak),?_,rfl,rfl,by simp [St.add,St.setH,hn],key s' hn⟩⟩
        simp only [ybi,he x (by simp [ycq]),he y (by simp [ycq]),yio,hb,hsrc s' ha,hw s' ha,hid]
        rw [qe hc,qc hc2,qe hc3,hn]
       .cases h
     .cases h
    .cases h
   .cases h
  .cases h
theorem ydev{size:Nat}{p x:Opd}{H1:yr}(h:ynv size s.H (s.ev p) (s.ev x) = some H1):∃ g,Loc c cl (.st size p x) s .un (s.setH H1) ⟨[],[],idL (s.ev p)++ybk (s.ev x)⟩ g:=by
  have hfoot:∀ s':St,(∀ z∈ycq (.st size p x),s'.ev z=s.ev z)->ybz c s' (.st size p x) = some ⟨[],[],idL (s.ev p)++ybk (s.ev x)⟩:=fun s' he=>by
    simp only [ybz,he x (by simp [ycq]),he p (by simp [ycq])]
  have key:∀ s':St,yez ⟨[],[],idL (s.ev p)++ybk (s.ev x)⟩ s.H s'.H->∃ H1',ynv size s'.H (s.ev p) (s.ev x) = some H1'/\Eff ⟨[],[],idL (s.ev p)++ybk (s.ev x)⟩ g0 s.nx s.nx H1 s'.H H1':=by
    intro s' ha
    unfold ynv at h ⊢
    split at h
    .rename_i id off hp
     have hid:lk s'.H id=lk s.H id:=ha.w id (by simp [hp,idL])
     split at h
     .rename_i cells vs hc hvs
      split at h
      .rename_i hcd
       obtain ⟨H1',g1⟩:=ymp (x:=Ob.box (ycp cells off vs)) (l:=s'.H) (t:=id) (y:=.box cells) (by rw [hid]; exact hc)
       refine ⟨H1',?_,fun k=>?_⟩
       .simp only [hp,hid,hc,hvs]
        rw [qe hcd]
        exact g1
       .rw [yey g1,yey h]
        by_cases hk:k=id
        .simp [hk,hp,idL]
        .rw [qc hk,qc hk]
         split
         .rename_i hh
          rcases hh with hh | hh
          .exact ha.w k hh
          .omega
         .exact (ykm _).symm
      .cases h
     .cases h
    .rename_i id i f hp
     have hid:lk s'.H id=lk s.H id:=ha.w id (by simp [hp,idL])
     obtain ⟨g,hg1,hg2⟩:=ywc (s.ev x)
     have hfr:frz s'.H (s.ev x) = frz s.H (s.ev x):=yalu _ fun j hj=>by unfold yfw; rw [ha.w j (by simp [hj])]
     split at h
     .rename_i vs es rows leak hvs hc
      split at h
      .rename_i row hrow
       split at h
       .rename_i hcd
        have hc':lk (ybv s'.H (s.ev x)) id=some (.arr es rows leak):=by
          rw [hg2,hid,← hg2]
          exact hc
        obtain ⟨H1',g1⟩:=ymp (x:=Ob.arr es (rows.set i (ycp row f vs)) leak) (l:=ybv s'.H (s.ev x)) (t:=id) (y:=.arr es rows leak) hc'
        refine ⟨H1',?_,fun k=>?_⟩
        .simp only [hp,hfr,hvs,hc',hrow]
         rw [qe hcd]
         exact g1
        .rw [yey g1,yey h,hg2,hg2]
         by_cases hk:k=id
         .simp [hk,hp,idL]
         .rw [qc hk,qc hk]
          split
          .rename_i hh
           rcases hh with hh | hh
           .rw [ha.w k hh]
           .omega
          .rename_i hh
           rw [hg1 k (fun hm=>hh (.inl (by simp [hm])))]
           rfl
       .cases h
      .cases h
     .rename_i vs es rows hvs hc
      have hc':lk (ybv s'.H (s.ev x)) id=some (.arx es rows):=by
        rw [hg2,hid,← hg2]
        exact hc
      have hcs:=yagb hc
      unfold yvk at h
      split at h
      .rename_i vs2 row hv2 hrow
       split at h
       .rename_i hcd
        obtain ⟨H1',g1⟩:=ymp (x:=Ob.arx es (rows.set i (ycp row f vs2))) (l:=s'.H) (t:=id) (y:=.arx es rows) (by rw [hid]; exact hcs)
        refine ⟨H1',?_,fun k=>?_⟩
        .simp only [hp,hfr,hvs,hc',yvk,hv2,hrow]
         rw [qe hcd]
         exact g1
        .rw [yey g1,yey h]
         by_cases hk:k=id
         .simp [hk,hp,idL]
         .rw [qc hk,qc hk]
          split
          .rename_i hh
           rcases hh with hh | hh
           .exact ha.w k hh
           .omega
          .exact (ykm _).symm
       .cases h
      .cases h
     .cases h
    .cases h
  have k0:yez ⟨[],[],idL (s.ev p)++ybk (s.ev x)⟩ s.H s.H:=⟨fun _ _=>rfl,fun _ _=>LEq.refl _,fun _ _=>LEq.refl _⟩
  obtain ⟨H1',e1,e2⟩:=key s k0
  rw [h] at e1
  obtain rfl:=qd e1
  refine ⟨g0,rfl,rfl,qk _,fun _ _=>rfl,e2,fun s' he hn ha _=>⟨hfoot s' he,?_⟩⟩
  obtain ⟨H1',e1,e2⟩:=key s' ha
  refine ⟨s'.setH H1',?_,rfl,rfl,hn,e2⟩
  simp only [ybi,he x (by simp [ycq]),he p (by simp [ycq]),e1]
theorem yciy{es:Nat}{x y:Opd}(h:yoe es s (s.ev x) (s.ev y) = some (v,s1)):∃ g,Loc c cl (.cpy es x y) s v s1 ⟨ybk (s.ev y),[],ybk (s.ev x)⟩ g:=by
  have hfoot:∀ s':St,(∀ z∈ycq (.cpy es x y),s'.ev z=s.ev z)->ybz c s' (.cpy es x y) = some ⟨ybk (s.ev y),[],ybk (s.ev x)⟩:=fun s' he=>by
    simp only [ybz,he x (by simp [ycq]),he y (by simp [ycq])]
  unfold yoe at h
  split at h
  .rename_i src es' id off len ex hsrc hb
   have hs:∀ s':St,yez ⟨ybk (s.ev y),[],ybk (s.ev x)⟩ s.H s'.H->ydc es s'.H (s.ev y) = some src:=fun s' ha=>by rw [yws _ ha.rr,hsrc]
   have hw:∀ s':St,yez ⟨ybk (s.ev y),[],ybk (s.ev x)⟩ s.H s'.H->lk s'.H id=lk s.H id:=fun s' ha=>ha.w id (by simp [hb,ybk])
   split at h
   .rename_i hc
    split at h
    .rename_i es2 rows leak hid
     split at h
     .rename_i hc2
      split at h
      .rename_i H1 hu
       simp only [qa,qi] at h
       obtain ⟨rfl,rfl⟩:=h
       have key:∀ s':St,yez ⟨ybk (s.ev y),[],ybk (s.ev x)⟩ s.H s'.H->∃ H1',upd s'.H id (.arr es2 (ygw rows off (src.take len)) leak) = some H1'/\Eff ⟨ybk (s.ev y),[],ybk (s.ev x)⟩ g0 s.nx s.nx H1 s'.H H1':=by
         intro s' ha
         obtain ⟨H1',g1⟩:=ymp (x:=Ob.arr es2 (ygw rows off (src.take len)) leak) (l:=s'.H) (t:=id) (y:=.arr es2 rows leak) (by rw [hw s' ha]; exact hid)
         refine ⟨H1',g1,fun k=>?_⟩
         rw [yey g1,yey hu]
         by_cases hk:k=id
         .subst hk; simp [hb,ybk]
         .rw [qc hk,qc hk,qc]
          .exact (ykm _).symm
          .rintro (hh | hh)
           .simp [hb,ybk] at hh; exact hk hh
           .omega
       have k0:yez ⟨ybk (s.ev y),[],ybk (s.ev x)⟩ s.H s.H:=⟨fun _ _=>rfl,fun _ _=>LEq.refl _,fun _ _=>LEq.refl _⟩
       obtain ⟨H2,e1,e2⟩:=key s k0
       rw [hu] at e1
       obtain rfl:=qd e1
       refine ⟨g0,rfl,rfl,qk _,fun _ _=>rfl,e2,fun s' he hn ha _=>⟨hfoot s' he,?_⟩⟩
       obtain ⟨H1',e1,e2⟩:=key s' ha
       refine ⟨s'.setH H1',?_,rfl,rfl,hn,e2⟩
       simp only [ybi,he x (by simp [ycq]),he y (by simp [ycq]),yoe,hb,hs s' ha,hw s' ha,hid]
       rw [qe hc,qe hc2,e1]
      .cases h
     .cases h
    .cases h
   .cases h
  .rename_i src hsrc hb
   simp only [qa,qi] at h
   obtain ⟨rfl,rfl⟩:=h
   have h0:ybk (s.ev x) = []:=by rw [hb]; rfl
   rw [h0] at hfoot ⊢
   refine ⟨g0,yuy (hfoot s fun _ _=>rfl) ?_ fun s' he ha=>⟨hfoot s' he,?_⟩⟩
   .simp only [ybi,yoe,hb,hsrc]
   .simp only [ybi,he x (by simp [ycq]),he y (by simp [ycq]),yoe,hb]
    rw [yws _ ha.rr,hsrc]
  .cases h
theorem ycix{es:Nat}{z:List AV}{x:Opd}(h:ymf es z s (s.ev x) = some (v,s1)):∃ g,Loc c cl (.clr es z x) s v s1 ⟨[],[],ybk (s.ev x)⟩ g:=by
  have hfoot:∀ s':St,(∀ q∈ycq (.clr es z x),s'.ev q=s.ev q)->ybz c s' (.clr es z x) = some ⟨[],[],ybk (s.ev x)⟩:=fun s' he=>by
    simp only [ybz,he x (by simp [ycq])]
  have main:∀ {id:Nat} {ob ob1:Ob} {H1:yr},ybk (s.ev x) = [id]->lk s.H id=some ob->upd s.H id ob1=some H1->v = .tup []->s1=s.setH H1 ->
   (∀ s':St,s'.ev x=s.ev x->lk s'.H id=some ob->∀ H1',upd s'.H id ob1=some H1'->ymf es z s' (s'.ev x) = some (.tup [],s'.setH H1'))->∃ g,Loc c cl (.clr es z x) s v s1 ⟨[],[],ybk (s.ev x)⟩ g:=by
    intro id ob ob1 H1 hids hid hu hv hs1 hev
    subst hv; subst hs1
    have hw:∀ s':St,yez ⟨[],[],ybk (s.ev x)⟩ s.H s'.H->lk s'.H id=lk s.H id:=fun s' ha=>ha.w id (by simp [hids])
    have key:∀ s':St,yez ⟨[],[],ybk (s.ev x)⟩ s.H s'.H->∃ H1',upd s'.H id ob1=some H1'/\Eff ⟨[],[],ybk (s.ev x)⟩ g0 s.nx s.nx H1 s'.H H1':=by
      intro s' ha
      obtain ⟨H1',g1⟩:=ymp (x:=ob1) (l:=s'.H) (t:=id) (y:=ob) (by rw [hw s' ha]; exact hid)
      refine ⟨H1',g1,fun k=>?_⟩
      rw [yey g1,yey hu]
      by_cases hk:k=id
      .subst hk; simp [hids]
      .rw [qc hk,qc hk,qc]
       .exact (ykm _).symm
       .rintro (hh | hh)
        .simp [hids] at hh; exact hk hh
        .omega
    have k0:yez ⟨[],[],ybk (s.ev x)⟩ s.H s.H:=⟨fun _ _=>rfl,fun _ _=>LEq.refl _,fun _ _=>LEq.refl _⟩
    obtain ⟨H2,e1,e2⟩:=key s k0
    rw [hu] at e1
    obtain rfl:=qd e1
    refine ⟨g0,rfl,rfl,qk _,fun _ _=>rfl,e2,fun s' he hn ha _=>⟨hfoot s' he,?_⟩⟩
    obtain ⟨H1',e1,e2⟩:=key s' ha
    refine ⟨s'.setH H1',?_,rfl,rfl,hn,e2⟩
    simp only [ybi]
    exact hev s' (he x (by simp [ycq])) (by rw [hw s' ha]; exact hid) H1' e1
  unfold ymf at h
  split at h
  .rename_i es' id off len ex hb
   split at h
   .rename_i hc
    split at h
    .rename_i es2 rows leak hid
     split at h
     .rename_i hc2
      split at h
      .rename_i H1 hu
       simp only [qa,qi] at h
       obtain ⟨rfl,rfl⟩:=h
       refine main (by rw [hb]; rfl) hid hu rfl rfl fun s' he hl H1' e1=>?_
       simp only [he,ymf,hb,hl]
       rw [qe hc,qe hc2,e1]
      .cases h
     .cases h
    .rename_i es2 rows hid
     split at h
     .rename_i hc2
      split at h
      .rename_i H1 hu
       simp only [qa,qi] at h
       obtain ⟨rfl,rfl⟩:=h
       refine main (by rw [hb]; rfl) hid hu rfl rfl fun s' he hl H1' e1=>?_
       simp only [he,ymf,hb,hl]
       rw [qe hc,qe hc2,e1]
      .cases h
     .cases h
    .cases h
   .cases h
  .rename_i hb
   simp only [qa,qi] at h
   obtain ⟨rfl,rfl⟩:=h
   have h0:ybk (s.ev x) = []:=by rw [hb]; rfl
   rw [h0] at hfoot ⊢
   refine ⟨g0,yuy (hfoot s fun _ _=>rfl) ?_ fun s' he ha=>⟨hfoot s' he,?_⟩⟩
   .simp only [ybi,ymf,hb]
   .simp only [ybi,he x (by simp [ycq]),ymf,hb]
  .cases h
theorem yats{fn:Nat}{L:List AV}(hf:yln c s fn L=some f)(h:yfi c cl s fn L=some (v,s1))(hfr:yhv s.nx s1.nx s.H):∃ g,s1.env=s.env/\s1.loc=s.loc/\s.nx<=s1.nx/\(∀ k,k∉f.l->g k=0)/\Eff f g s.nx s1.nx s1.H s.H s1.H /\
    ∀ s',s'.nx=s.nx->yez f s.H s'.H->yhv s.nx s1.nx s'.H->yln c s' fn L=some f/\∃ s1',yfi c cl s' fn L=some (v,s1')/\s1'.env=s'.env/\s1'.loc=s'.loc/\s1'.nx=s1.nx/\Eff f g s.nx s1.nx s1.H s'.H s1'.H:=by
  unfold yln at hf
  by_cases hz:c.fz fn=true
  .rw [qe hz] at hf
   simp only [qa] at hf
   subst hf
   have hfoot:∀ s':St,yln c s' fn L=some ⟨[],yfs L,[]⟩:=fun s'=>by unfold yln; rw [qe hz]
   simp only [yfi,hz,wl] at h
   split at h
   .rename_i r H1 n1 hcl
    have key:∀ s':St,yez ⟨[],yfs L,[]⟩ s.H s'.H->yfi c cl s' fn L=yql s' L (frz H1 r):=by
      intro s' ha
      have h2:ydn s'.H L=ydn s.H L:=yye _ ha.rl
      simp only [yfi,hz,wl,h2,hcl]
    unfold yql at h
    split at h
    .rename_i hp
     simp only [qa,qi] at h
     obtain ⟨rfl,rfl⟩:=h
     refine ⟨g0,rfl,rfl,qk _,fun _ _=>rfl,Eff.same (by simp),fun s' hn ha _=>⟨hfoot s',s',?_,rfl,rfl,hn,by rw [← hn]; exact Eff.same (by simp)⟩⟩
     rw [key s' ha]
     simp only [yql,hp,wl]
    .rename_i hp
     split at h
     .rename_i hi
      simp only [qa,qi] at h
      obtain ⟨rfl,rfl⟩:=h
      obtain ⟨g,hg1,hg2⟩:=ytq L
      have he:∀ s':St,Eff ⟨[],yfs L,[]⟩ g s.nx s.nx (yeu s.H L) s'.H (yeu s'.H L):=fun s' k=>by
        rw [qc (by rintro (hh | hh); (simp at hh); omega)]
        exact hg2 s'.H k
      refine ⟨g,rfl,rfl,qk _,hg1,he s,fun s' hn ha _=>⟨hfoot s',s'.setH (yeu s'.H L),?_,rfl,rfl,hn,he s'⟩⟩
      rw [key s' ha]
      simp only [yql,hp,hi,wl,wn]
      rfl
     .cases h
   .cases h
  .rw [qc hz] at hf
   split at hf
   .rename_i l hl
    simp only [qa] at hf
    subst hf
    have hreach:=yjn hl
    obtain ⟨q1,_,q3⟩:=yml s.H yfk L [] List.nodup_nil
    rw [hreach] at q1 q3
    have hfoot:∀ s':St,yez ⟨[],[],l⟩ s.H s'.H->yln c s' fn L=some ⟨[],[],l⟩:=fun s' ha=>by
      unfold yln
      rw [qc hz,yhd hl ha.w]
    have hcall:∀ s':St,yez ⟨[],[],l⟩ s.H s'.H->yba s'.H yfk L [] = l:=fun s' ha=>yjn (yhd hl ha.w)
    simp only [yfi,hz,hreach] at h
    rw [qc (by simp)] at h
    split at h
    .rename_i r H1 n1 hcl
     simp only [qa,qi] at h
     obtain ⟨rfl,rfl⟩:=h
     have he:∀ s':St,yez ⟨[],[],l⟩ s.H s'.H->yhv s.nx (s.nx + (n1 - l.length)) s'.H->Eff ⟨[],[],l⟩ g0 s.nx (s.nx + (n1 - l.length)) (ycy (yge l l.length n1 s.nx) H1++yem s.H l) s'.H (ycy (yge l l.length n1 s.nx) H1++yem s'.H l):=by
       intro s' ha hfr' k
       rw [yabk,yabk,ytg,ytg]
       have hno:k∉l->¬ (s.nx<=k/\k < s.nx + (n1 - l.length))->lk (ycy (yge l l.length n1 s.nx) H1) k=none:=by
         intro hk hr
         refine yamz H1 fun j hj=>?_
         by_cases hlt:j < l.length
         .rw [yoc hlt] at hj
          exact hk (wa hj)
         .obtain ⟨b1,b2⟩:=yob hlt hj
          omega
       by_cases hk:k∈l
       .have hc:k∈(yds.mk [] [] l).w\/s.nx<=k/\k < s.nx + (n1 - l.length):=Or.inl hk
        rw [qe hc]
        simp only [hk,wl]
       .by_cases hr:s.nx<=k/\k < s.nx + (n1 - l.length)
        .have hc:k∈(yds.mk [] [] l).w\/s.nx<=k/\k < s.nx + (n1 - l.length):=Or.inr hr
         rw [qe hc]
         simp only [hk,wn,hfr' k hr.1 hr.2,hfr k hr.1 hr.2]
        .have hc:¬ (k∈(yds.mk [] [] l).w\/s.nx<=k/\k < s.nx + (n1 - l.length)):=fun hh=>hh.elim hk hr
         rw [qc hc,hno hk hr]
         simp only [hk,wn]
         exact (ykm _).symm
     have k0:yez ⟨[],[],l⟩ s.H s.H:=⟨fun _ _=>rfl,fun _ _=>LEq.refl _,fun _ _=>LEq.refl _⟩
     refine ⟨g0,rfl,rfl,kc _ _,fun _ _=>rfl,he s k0 hfr,fun s' hn ha hfr'=>⟨hfoot s' ha,⟨s'.env,s'.loc,ycy (yge l l.length n1 s.nx) H1++yem s'.H l,s.nx + (n1 - l.length)⟩,?_,rfl,rfl,rfl,he s' ha hfr'⟩⟩
     simp only [yfi,hz,hcall s' ha,ybqo q1 ha.w,hcl]
     rw [qc (by simp),hn]
    .cases h
   .cases hf
theorem ybqs{ip:IP}(hf:ybz c s ip=some f)(h:ybi c cl s ip=some (v,s1))(hfr:yhv s.nx s1.nx s.H):∃ g,Loc c cl ip s v s1 f g:=by
  by_cases hv:yht ip=true
  .obtain ⟨rfl,_⟩:=yakd (s':=s) hv h (fun _ _=>rfl)
   rw [yyd hv] at hf
   obtain rfl:=qd hf
   exact ⟨_,yuy (yyd hv) h fun s' he _=>⟨yyd hv,(yakd hv h he).2⟩⟩
  .cases ip
   case ld a size p=>
     simp only [ybz,qa] at hf
     subst hf
     obtain ⟨hg,rfl⟩:=yjx h
     refine ⟨_,yuy rfl h fun s' he ha=>?_⟩
     have h1:=he p (by simp [ycq])
     refine ⟨by simp only [ybz,h1],?_⟩
     simp only [ybi,h1]
     rw [ybyi ha.r,hg]
     rfl
   case b2s x=>
     simp only [ybz,qa] at hf
     subst hf
     obtain ⟨hg,rfl⟩:=yjx h
     refine ⟨_,yuy rfl h fun s' he ha=>?_⟩
     have h1:=he x (by simp [ycq])
     refine ⟨by simp only [ybz,h1],?_⟩
     have h2:ytk s'.H (s1.ev x) = ytk s1.H (s1.ev x):=by
       unfold ytk
       rw [yzl _ ha.rr]
     simp only [ybi,h1,h2,hg]
     rfl
   case st size p x=>
     simp only [ybz,qa] at hf
     subst hf
     simp only [ybi] at h
     split at h
     .rename_i H1 hH1
      simp only [qa,qi] at h
      obtain ⟨rfl,rfl⟩:=h
      exact ydev hH1
     .cases h
   case alloc z=>
     simp only [ybz,qa] at hf
     subst hf
     simp only [ybi,qa,qi] at h
     obtain ⟨rfl,rfl⟩:=h
     exact ⟨_,yua rfl fun s' he hn ha=>⟨rfl,by simp only [ybi,hn]⟩⟩
   case box x=>
     simp only [ybz,qa] at hf
     subst hf
     simp only [ybi] at h
     split at h
     .rename_i cs hcs
      split at h
      .rename_i hb
       simp only [qa,qi] at h
       obtain ⟨rfl,rfl⟩:=h
       refine ⟨_,yua rfl fun s' he hn ha=>⟨rfl,?_⟩⟩
       simp only [ybi,he x (by simp [ycq]),hcs,hb,wl,hn]
      .cases h
     .cases h
   case mks es z l m=>
     simp only [ybz,qa] at hf
     subst hf
     simp only [ybi] at h
     unfold yts at h
     split at h
     .rename_i a b hl hm
      split at h
      .rename_i hb
       simp only [qa,qi] at h
       obtain ⟨rfl,rfl⟩:=h
       refine ⟨_,yua rfl fun s' he hn ha=>⟨rfl,?_⟩⟩
       simp only [ybi,he l (by simp [ycq]),he m (by simp [ycq]),hl,hm,yts,hb,and_self,wl,hn]
      .cases h
     .cases h
   case s2b x=>
     simp only [ybz,qa] at hf
     subst hf
     simp only [ybi] at h
     unfold ytt at h
     split at h
     .rename_i str hx
      simp only [qa,qi] at h
      obtain ⟨rfl,rfl⟩:=h
      refine ⟨_,yua rfl fun s' he hn ha=>⟨rfl,?_⟩⟩
      simp only [ybi,he x (by simp [ycq]),hx,ytt,hn]
     .cases h
   case cln es x=>
     simp only [ybz,qa] at hf
     subst hf
     simp only [ybi] at h
     obtain ⟨rows,ob,k1,k2,k3⟩:=yarh h
     obtain ⟨rfl,rfl⟩:=k3
     refine ⟨_,yua rfl fun s' he hn ha=>?_⟩
     have h1:=he x (by simp [ycq])
     refine ⟨by simp only [ybz,h1],?_⟩
     simp only [ybi,h1]
     rw [k2 s' (by rw [yzl _ ha.rr]; exact k1),hn]
   case bsl es z len ps=>
     simp only [ybz,qa] at hf
     subst hf
     simp only [ybi,ysd] at h
     split at h
     .rename_i rows hrows
      simp only [qa,qi] at h
      obtain ⟨rfl,rfl⟩:=h
      obtain ⟨g,hg1,hg2⟩:=ywn (s.evp ps)
      have key:∀ s':St,s'.nx=s.nx->Eff ⟨[],yfs (ygr (s.evp ps)),[]⟩ g s.nx (s.nx + 1) ((s.setH (yfl s.H (s.evp ps))).add (.arr es rows 0)).H s'.H ((s'.setH (yfl s'.H (s.evp ps))).add (.arr es rows 0)).H:=by
        intro s' hn k
        simp only [St.add,St.setH,ybx,hn]
        by_cases hk:s.nx=k
        .subst hk; simp
        .rw [qc hk,qc hk,qc]
         .exact hg2 s'.H k
         .rintro (hh | hh)
          .simp at hh
          .omega
      refine ⟨g,rfl,rfl,Nat.le_succ _,hg1,key s rfl,fun s' he hn ha _=>?_⟩
      have h1:s'.evp ps=s.evp ps:=yvz (by simpa [ycq] using he)
      refine ⟨by simp only [ybz,h1],(s'.setH (yfl s'.H (s.evp ps))).add (.arr es rows 0),?_,rfl,rfl,by simp [St.add,St.setH,hn],key s' hn⟩
      have h2:yfp es s'.H (List.replicate len z) (s.evp ps) = some rows:=by rw [yaaz ha.rl,hrows]
      simp only [ybi,ysd,h1,h2,hn]
     .cases h
   case app es x y=>
     simp only [ybz,qa] at hf
     subst hf
     simp only [ybi] at h
     exact yciw h
   case cpy es x y=>
     simp only [ybz,qa] at hf
     subst hf
     simp only [ybi] at h
     exact yciy h
   case no=>
     simp only [ybi] at h
     cases h
   case clr es z x=>
     simp only [ybz,qa] at hf
     subst hf
     simp only [ybi] at h
     exact ycix h
   case call fn args=>
     simp only [ybz] at hf
     simp only [ybi] at h
     obtain ⟨g,k1,k2,k3,k4,k5,k6⟩:=yats hf h hfr
     refine ⟨g,k1,k2,k3,k4,k5,fun s' he hn ha hfr'=>?_⟩
     have h1:s'.evs args=s.evs args:=yps (by simpa [ycq] using he)
     simp only [ybz,ybi,h1]
     exact k6 s' hn ha hfr'
   case callv q args=>
     simp only [ybz] at hf
     simp only [ybi] at h
     split at hf
     .rename_i fn pre post hq
      rw [hq] at h
      simp only [ypp] at h
      obtain ⟨g,k1,k2,k3,k4,k5,k6⟩:=yats hf h hfr
      refine ⟨g,k1,k2,k3,k4,k5,fun s' he hn ha hfr'=>?_⟩
      have h1:s'.evs args=s.evs args:=yps fun x hx=>he x (by simp only [ycq]; exact ql _ hx)
      have h2:s'.ev q=s.ev q:=he q (by simp [ycq])
      simp only [ybz,ybi,h1,h2,hq,ypp]
      exact k6 s' hn ha hfr'
     .cases hf
   all_goals exact absurd rfl hv
end
theorem yfg(s:St)(q:Nat)(x:Opd):(atN s q).ev x=s.ev x:=by cases x <;> rfl
theorem yxa(s:St)(q:Nat):∀ l:List Opd,(atN s q).evs l=s.evs l:=fun l=>yps fun x _=>yfg s q x
theorem ycef(s:St)(q:Nat)(l:List (Nat × Opd)):(atN s q).evp l=s.evp l:=yvz fun x _=>yfg s q x
theorem yri(s:St)(q:Nat)(g:Option (Nat × Bool)):yis (atN s q) g=yis s g:=rfl
theorem yara(c:Cfg)(s:St)(q:Nat)(ip:IP):ybz c (atN s q) ip=ybz c s ip:=by
  cases ip <;> simp only [ybz,yfg,yxa,ycef] <;> rfl
section
variable {c:Cfg} {cl:Callee} {nt base:Nat} {s s' u:St} {v:AV} {o:Iop} {f:yds}
theorem yaru(h:yiy c cl nt o s=some s'):ypa nt o.dst=true/\((yis s o.guard=some true/\∃ v s1,ybi c cl s o.op=some (v,s1)/\s' = s1.putO o.dst v)\/(yis s o.guard=some false/\s' = s.putO o.dst .un)):=by
  unfold yiy at h
  rw [cond_eq_ite] at h
  split at h
  .rename_i hd
   refine ⟨hd,?_⟩
   split at h
   .rename_i b hb
    rw [cond_eq_ite] at h
    cases b with
    | true=>
      simp only [wl] at h
      split at h
      .rename_i v s1 hv
       rw [ypu] at h
       simp only [qa] at h
       exact .inl ⟨hb,v,s1,hv,h.symm⟩
      .cases h
    | false=>
      simp only [qr,wn] at h
      rw [ypu] at h
      simp only [qa] at h
      exact .inr ⟨hb,h.symm⟩
   .cases h
  .cases h
theorem ybwf{s1:St}(hd:ypa nt o.dst=true)(hw:yis s o.guard=some true)(h:ybi c cl s o.op=some (v,s1)):yiy c cl nt o s=some (s1.putO o.dst v):=by
  unfold yiy
  rw [hd,hw]
  simp only [cond_true,h,ypu]
theorem ycfe(hd:ypa nt o.dst=true)(hw:yis s o.guard=some false):yiy c cl nt o s=some (s.putO o.dst .un):=by
  unfold yiy
  rw [hd,hw]
  simp only [cond_true,cond_false,ypu]
def Look(o:Iop)(s u:St):Prop:=∀ t,yyp t o=true->u.get t=s.get t
theorem yabw{n:Nat}:∀ {l:List Opd},Opd.t n∈l->yads n l=true
  | .t m :: r,h=>by
    simp only [yads,ju]
    rcases wt.1 h with h | h
    .cases h
     exact .inl (Nat.beq_refl n)
    .exact .inr (yabw h)
  | .c v :: r,h=>by
    simp only [yads]
    rcases wt.1 h with h | h
    .cases h
    .exact yabw h
theorem Look.ev(h:Look o s u):∀ x∈ycq o.op,u.ev x=s.ev x:=fun x hx=>by
  cases x with
  | c v=>rfl
  | t n=>
    refine h n ?_
    simp only [yyp,yabw hx,Bool.true_or]
theorem Look.want(h:Look o s u):yis u o.guard=yis s o.guard:=by
  cases hg:o.guard with
  | none=>rfl
  | some p=>
    obtain ⟨d,b⟩:=p
    have:=h d (by simp [yyp,hg])
    simp only [yis,this]
theorem yvb{s1:St}(hd:yko s1)(d:Option Nat)(x:AV)(he:s1.env=s.env)(hl:s1.loc=s.loc):(∀ t,(s1.putO d x).get t=if d=some t then x else s.get t)/\yko (s1.putO d x)/\(s1.putO d x).H=s1.H/\(s1.putO d x).nx=s1.nx:=by
  obtain ⟨h1,h2,h3,h4⟩:=yabt hd d x
  refine ⟨fun t=>?_,h2,h3,h4⟩
  rw [h1]
  split
  .rfl
  .rw [ykq,ykq,he,hl]
theorem yalq{s1:St}(hd:yko s)(he:s1.env=s.env)(hl:s1.loc=s.loc):yko s1:=by
  intro t x hx
  rw [he] at hx
  rw [hl]
  exact hd t x hx
theorem yayf{i:Nat}(h:evN c cl nt base i o s=some s'):yiy c cl nt o (atN s (base + i * 64)) = some s'/\s'.nx<=base + i * 64 + 64:=by
  unfold evN at h
  split at h
  .rename_i s1 h1
   split at h
   .rename_i hle
    obtain rfl:=qd h
    exact ⟨h1,hle⟩
   .cases h
  .cases h
theorem ybkx{i:Nat}(h:yiy c cl nt o (atN s (base + i * 64)) = some s')(hle:s'.nx<=base + i * 64 + 64):evN c cl nt base i o s=some s':=by
  unfold evN
  rw [h]
  exact qe hle
def wd(ip:IP):Nat:=if (yht ip || ldB ip) = true then 0 else 64
theorem yadz(ip:IP):wd ip<=64:=by unfold wd; split <;> omega
theorem ydlm{s1:St}{ip:IP}(h:ybi c cl s ip=some (v,s1))(hq:(yht ip || ldB ip) = true):s1.nx=s.nx:=by
  by_cases hv:yht ip=true
  .obtain ⟨rfl,_⟩:=yakd (s':=s) hv h (fun _ _=>rfl)
   rfl
  .cases ip <;> simp [yht,ldB] at hv hq
   obtain ⟨_,rfl⟩:=yjx h
   rfl
theorem yrz{H H1:yr}{id:Nat}{o x:Ob}(hid:lk H id=some x)(h:upd H id o=some H1){k:Nat}(hk:lk H k=none):lk H1 k=none:=by
  rw [yey h,qc]
  .exact hk
  .intro e; subst e; rw [hk] at hid; cases hid
theorem ydfk{s1:St}{ip:IP}(hf:ybz c s ip=some f)(h:ybi c cl s ip=some (v,s1))(hfr:yhv s.nx s1.nx s.H){k:Nat}(hk:lk s.H k=none)(hn:¬ (s.nx<=k/\k < s1.nx)):lk s1.H k=none:=by
  obtain ⟨g,hL⟩:=ybqs hf h hfr
  by_cases hw:k∈f.w
  .have call:∀ {fn:Nat} {L:List AV},yln c s fn L=some f->yfi c cl s fn L=some (v,s1)->lk s1.H k=none:=by
     intro fn L hf h
     unfold yln at hf
     split at hf
     .simp only [qa] at hf
      subst hf
      simp at hw
     .split at hf
      .rename_i l hl
       simp only [qa] at hf
       subst hf
       obtain ⟨_,_,q3⟩:=yml s.H yfk L [] List.nodup_nil
       rw [yjn hl] at q3
       rcases q3 k hw with hh | ⟨o,ho⟩
       .simp at hh
       .rw [hk] at ho; cases ho
      .cases hf
   cases ip <;> simp only [ybz,qa] at hf
   case ld a size p=>subst hf; simp at hw
   case b2s x=>subst hf; simp at hw
   case cln es x=>subst hf; simp at hw
   case clr es z x=>
     subst hf
     simp only [ybi] at h
     unfold ymf at h
     split at h
     .split at h
      .split at h
       .rename_i hid
        split at h
        .split at h
         .rename_i H1 hu
          simp only [qa,qi] at h
          obtain ⟨rfl,rfl⟩:=h
          exact yrz hid hu hk
         .cases h
        .cases h
       .rename_i hid
        split at h
        .split at h
         .rename_i H1 hu
          simp only [qa,qi] at h
          obtain ⟨rfl,rfl⟩:=h
          exact yrz hid hu hk
         .cases h
        .cases h
       .cases h
      .cases h
     .simp only [qa,qi] at h
      obtain ⟨rfl,rfl⟩:=h
      exact hk
     .cases h
   case bsl es z len ps=>subst hf; simp at hw
   case st size p x=>
     subst hf
     simp only [ybi] at h
     split at h
     .rename_i H1 hs
      simp only [qa,qi] at h
      obtain ⟨rfl,rfl⟩:=h
      show lk H1 k=none
      unfold ynv at hs
      split at hs
      .split at hs
       .rename_i hid _
        split at hs
        .exact yrz hid hs hk
        .cases hs
       .cases hs
      .obtain ⟨g,_,hg⟩:=ywc (s.ev x)
       split at hs
       .rename_i hid
        split at hs
        .split at hs
         .exact yrz hid hs (by rw [hg,hk]; rfl)
         .cases hs
        .cases hs
       .rename_i hid
        unfold yvk at hs
        split at hs
        .split at hs
         .exact yrz (yagb hid) hs hk
         .cases hs
        .cases hs
       .cases hs
      .cases hs
     .cases h
   case app es x y=>
     subst hf
     simp only [ybi] at h
     have hnew:∀ rows,ycu s es rows=some (v,s1)->lk s1.H k=none:=by
       intro rows h
       obtain ⟨_,_,rfl⟩:=yaka h
       simp only [St.add,ybx]
       rw [qc (fun e=>hn ⟨by omega,by simp [St.add]; omega⟩)]
       exact hk
     unfold yio at h
     repeat' split at h
     all_goals first
       | (cases h; done)
       | exact hnew _ h
       | (simp only [qa,qi] at h
          obtain ⟨rfl,rfl⟩:=h
          simp only [St.add,St.setH,ybx,yjl]
          rw [qc (fun e=>hn ⟨by omega,by simp [St.add,St.setH]; omega⟩)]
          split
          .rfl
          .exact hk)
   case cpy es x y=>
     subst hf
     simp only [ybi] at h
     unfold yoe at h
     split at h
     .split at h
      .split at h
       .rename_i hid
        split at h
        .split at h
         .rename_i H1 hu
          simp only [qa,qi] at h
          obtain ⟨rfl,rfl⟩:=h
          exact yrz hid hu hk
         .cases h
        .cases h
       .cases h
      .cases h
     .simp only [qa,qi] at h
      obtain ⟨rfl,rfl⟩:=h
      exact hk
     .cases h
   case call fn args=>
     simp only [ybi] at h
     exact call hf h
   case callv q args=>
     simp only [ybi] at h
     split at hf
     .rename_i hq
      rw [hq] at h
      exact call hf h
     .cases hf
   all_goals (subst hf; simp [ycf] at hw)
  .rw [hL.eff k,qc (fun hh=>hh.elim hw hn),hk]
   rfl
structure Step (c:Cfg) (cl:Callee) (nt base i:Nat) (o:Iop) (s s':St) (f:yds) (v:AV) (g:Nat->Nat) (n:Nat):Prop where
  get:∀ t,s'.get t=if o.dst=some t then v else s.get t
  disj:yko s'
  lo:base + i * 64<=n
  hi:n<=base + i * 64 + wd o.op
  g0:∀ k,k∉f.l->g k=0
  dom:∀ k,lk s.H k=none->¬ (base + i * 64<=k/\k < base + i * 64 + wd o.op)->lk s'.H k=none
  eff:Eff f g (base + i * 64) n s'.H s.H s'.H
  same:∀ u,yko u->Look o s u->yez f s.H u.H->yhv (base + i * 64) (base + i * 64 + wd o.op) u.H->yiq c u o=some f/\∃ u',evN c cl nt base i o u=some u'/\(∀ t,u'.get t=if o.dst=some t then v else u.get t)/\yko u'/\Eff f g (base + i * 64) n s'.H u.H u'.H
theorem step{i:Nat}(hd:yko s)(h:evN c cl nt base i o s=some s')(hf:yiq c s o=some f)(hfr:yhv (base + i * 64) (base + i * 64 + wd o.op) s.H):∃ v g n,Step c cl nt base i o s s' f v g n:=by
  obtain ⟨h1,hle⟩:=yayf h
  obtain ⟨hdst,⟨hw,v,s1,hv,rfl⟩ | ⟨hw,rfl⟩⟩:=yaru h1
  .rw [yri] at hw
   unfold yiq at hf
   rw [hw] at hf
   simp only at hf
   have hnx:(s1.putO o.dst v).nx=s1.nx:=by
     cases o.dst with
     | none=>rfl
     | some d=>
       simp only [St.putO,St.put]
       cases upd s1.env d v <;> rfl
   rw [hnx] at hle
   have hwd:s1.nx<=base + i * 64 + wd o.op:=by
     unfold wd
     split
     .rename_i hq
      have:=ydlm hv hq
      rw [this]
      exact qk _
     .exact hle
   have hfr1:yhv (atN s (base + i * 64)).nx s1.nx (atN s (base + i * 64)).H:=fun k h1 h2=>hfr k h1 (ji h2 hwd)
   have hf1:ybz c (atN s (base + i * 64)) o.op=some f:=by rw [yara]; exact hf
   obtain ⟨g,hL⟩:=ybqs hf1 hv hfr1
   obtain ⟨p1,p2,p3,p4⟩:=yvb (s:=s) (yalq (s:=atN s (base + i * 64)) hd hL.env hL.loc) o.dst v hL.env hL.loc
   refine ⟨v,g,s1.nx,p1,p2,hL.nx,hwd,hL.g0,fun k hk hn=>by rw [p3]; exact ydfk hf1 hv hfr1 hk (fun hh=>hn ⟨hh.1,ji hh.2 hwd⟩),by rw [p3]; exact hL.eff,fun u hdu hl ha hfu=>?_⟩
   obtain ⟨k1,u1,k2,k3,k4,k5,k6⟩:=hL.same (atN u (base + i * 64)) (fun x hx=>by rw [yfg,yfg]; exact hl.ev x hx) rfl ha (fun k h1 h2=>hfu k h1 (ji h2 hwd))
   obtain ⟨r1,r2,r3,r4⟩:=yvb (s:=u) (yalq (s:=atN u (base + i * 64)) hdu k3 k4) o.dst v k3 k4
   refine ⟨?_,u1.putO o.dst v,ybkx (ybwf hdst (by rw [yri,hl.want]; exact hw) k2) (by rw [r4,k5]; exact hle),r1,r2,by rw [r3,p3]; exact k6⟩
   unfold yiq
   rw [hl.want,hw]
   rw [yara] at k1
   exact k1
  .rw [yri] at hw
   unfold yiq at hf
   rw [hw] at hf
   simp only [qa] at hf
   subst hf
   obtain ⟨p1,p2,p3,p4⟩:=yvb (s:=s) (s1:=atN s (base + i * 64)) hd o.dst .un rfl rfl
   refine ⟨.un,R.g0,base + i * 64,p1,p2,qk _,kc _ _,fun _ _=>rfl,fun k hk _=>by rw [p3]; exact hk,by rw [p3]; exact Eff.same (f:=ycf) (by simp [ycf]),fun u hdu hl ha hfu=>?_⟩
   obtain ⟨r1,r2,r3,r4⟩:=yvb (s:=u) (s1:=atN u (base + i * 64)) hdu o.dst .un rfl rfl
   refine ⟨by unfold yiq; rw [hl.want,hw],_,ybkx (ycfe hdst (by rw [yri,hl.want]; exact hw)) (by rw [r4]; exact kc _ _),r1,r2,by rw [r3]; exact Eff.same (f:=ycf) (by simp [ycf])⟩
structure Eqv (s u:St):Prop where
  get:∀ t,s.get t=u.get t
  heap:∀ j,lk s.H j=lk u.H j
  disj:yko u
theorem Eqv.trans{s u v:St}(h:Eqv s u)(h':Eqv u v):Eqv s v:=⟨fun t=>(h.get t).trans (h'.get t),fun j=>(h.heap j).trans (h'.heap j),h'.disj⟩
structure yacm (x y:Iop):Prop where
  a1:∀ d,x.dst=some d->yyp d y=false
  a2:∀ d,x.dst=some d->y.dst≠some d
  a3:∀ d,y.dst=some d->yyp d x=false
theorem ybbq{x y:Iop}(h:yaqx x y=true):yacm x y:=by
  unfold yaqx at h
  simp only [qq] at h
  obtain ⟨h1,h2⟩:=h
  refine ⟨fun d hd=>?_,fun d hd=>?_,fun d hd=>?_⟩
  .simp only [hd,qq] at h1
   simpa using h1.1
  .intro hy
   simp only [hd,hy,qq] at h1
   have:=h1.2
   simp [Nat.beq_refl] at this
  .simp only [hd] at h2
   simpa using h2
theorem Eff.fresh{g:Nat->Nat}{q n:Nat}{H1 H H':yr}(h:Eff f g q n H1 H H'){a b:Nat}(hf:yhv a b H)(ho:∀ id∈f.w,id < a\/b<=id)(hd:n<=a\/b<=q):yhv a b H':=by
  intro k h1 h2
  rw [h k,qc,hf k h1 h2]
  .rfl
  .rintro (hh | hh)
   .have:=ho k hh; omega
   .omega
structure Free (base i j wx wy:Nat) (x y:yds):Prop where
  xw:∀ id∈x.w,id∉y.r/\id∉y.l/\id∉y.w
  yw:∀ id∈y.w,id∉x.r/\id∉x.l
  xo:∀ id,(id∈y.r\/id∈y.l\/id∈y.w)->id < base + i * 64\/base + i * 64 + wx<=id
  yo:∀ id,(id∈x.r\/id∈x.l\/id∈x.w)->id < base + j * 64\/base + j * 64 + wy<=id
theorem yaoi{x:Nat}:∀ {l:List Nat},yro x l=false->x∉l
  | [],_=>by simp
  | y :: r,h=>by
    simp only [yro,js] at h
    intro hm
    rcases wt.1 hm with rfl | hm
    .rw [Nat.beq_refl] at h; cases h.1
    .exact yaoi h.2 hm
theorem yafq:∀ {a b:List Nat},djB a b=true->∀ id∈a,id∉b
  | [],b,_=>by simp
  | x :: r,b,h=>by
    simp only [djB,qq,Bool.not_eq_true'] at h
    intro id hid
    rcases wt.1 hid with rfl | hid
    .exact yaoi h.1
    .exact yafq h.2 id hid
theorem yabn{q:Nat}:∀ {a:List Nat},yuz q a=true->∀ id∈a,id < q\/q + 64<=id
  | [],_=>by simp
  | x :: r,h=>by
    simp only [yuz,qq,ju,Nat.blt_eq,Nat.ble_eq] at h
    intro id hid
    rcases wt.1 hid with rfl | hid
    .exact h.1
    .exact yabn h.2 id hid
theorem ybhp{base i j wx wy:Nat}{x y:yds}(hx:wx<=64)(hy:wy<=64)(h:ybho base i j x y=true):Free base i j wx wy x y:=by
  simp only [ybho,qq] at h
  obtain ⟨h1,h2,h3,h4⟩:=h
  refine ⟨fun id hid=>?_,fun id hid=>?_,fun id hid=>?_,fun id hid=>?_⟩
  .have:=yafq h1 id hid
   simpa [not_or] using this
  .have:=yafq h2 id hid
   simpa [not_or] using this
  .have:=yabn h3 id (by simpa using hid)
   omega
  .have:=yabn h4 id (by simpa using hid)
   omega
theorem yanx(hv:yht o.op=true)(hf:yiq c s o=some f):f=ycf:=by
  unfold yiq at hf
  split at hf
  .rw [yyd hv] at hf
   exact (qd hf).symm
  .exact (qd hf).symm
theorem yasd(hv:ldB o.op=true)(hf:yiq c s o=some f):f.w = []/\f.l = []:=by
  unfold yiq at hf
  split at hf
  .cases ho:o.op <;> rw [ho] at hv hf <;> simp [ldB] at hv
   simp only [ybz,qa] at hf
   subst hf
   exact ⟨rfl,rfl⟩
  .simp only [qa] at hf
   subst hf
   exact ⟨rfl,rfl⟩
end
section
variable {c:Cfg} {cl:Callee} {nt base:Nat} {s s1 s2 s' u:St} {v:AV} {o x y:Iop} {fx fy:yds}
theorem ybqu(ha:yacm x y)(hg:∀ t,s1.get t=if x.dst=some t then v else s.get t):Look y s1 s:=by
  intro t ht
  rw [hg,qc]
  intro hx
  rw [ha.a1 t hx] at ht
  cases ht
theorem ybhj(ha:yacm x y)(hg:∀ t,u.get t=if y.dst=some t then v else s.get t):Look x s u:=by
  intro t ht
  rw [hg,qc]
  intro hy
  rw [ha.a3 t hy] at ht
  cases ht
theorem ybwz(ha:yacm x y){vx vy:AV}{u1 u2:St}(g1:∀ t,s1.get t=if x.dst=some t then vx else s.get t)(g2:∀ t,s2.get t=if y.dst=some t then vy else s1.get t)(g3:∀ t,u1.get t=if y.dst=some t then vy else s.get t)(g4:∀ t,u2.get t=if x.dst=some t then vx else u1.get t):∀ t,s2.get t=u2.get t:=by
  intro t
  rw [g2,g4,g1,g3]
  by_cases hx:x.dst=some t
  .have:=ha.a2 t hx
   rw [qc this,qe hx,qe hx]
  .rw [qc hx,qc hx]
theorem swap{clx cly:Callee}{i j:Nat}(hij:i≠j)(ha:yacm x y)(hF:Free base i j (wd x.op) (wd y.op) fx fy)(hds:yko s)(hfi:yhv (base + i * 64) (base + i * 64 + wd x.op) s.H)(hfj:yhv (base + j * 64) (base + j * 64 + wd y.op) s.H)
    (h1:evN c clx nt base i x s=some s1) (f1:yiq c s x=some fx) (h2:evN c cly nt base j y s1=some s2) (f2:yiq c s1 y=some fy) :
    ∃ u1 u2,evN c cly nt base j y s=some u1/\yiq c s y=some fy/\evN c clx nt base i x u1=some u2/\yiq c u1 x=some fx/\Eqv s2 u2:=by
  have hsep:base + i * 64 + 64<=base + j * 64\/base + j * 64 + 64<=base + i * 64:=by omega
  obtain ⟨vx,gx,nx,tx⟩:=step hds h1 f1 hfi
  have hxlo:=tx.lo
  have hxhi:=tx.hi
  have hwx:=yadz x.op
  have hwy:=yadz y.op
  have hfj1:yhv (base + j * 64) (base + j * 64 + wd y.op) s1.H:=fun k h1 h2=>tx.dom k (hfj k h1 h2) (by omega)
  obtain ⟨vy,gy,ny,ty⟩:=step tx.disj h2 f2 hfj1
  have hylo:=ty.lo
  have hyhi:=ty.hi
  have ex:∀ k,¬ (k∈fx.w\/(base + i * 64<=k/\k < nx))->lk s1.H k=(lk s.H k).map (ydh (gx k)):=fun k hk=>by rw [tx.eff k,qc hk]
  have nrx:∀ k,(k∈fy.r\/k∈fy.l\/k∈fy.w)->¬ (k∈fx.w\/(base + i * 64<=k/\k < nx)):=by
    rintro k hk (hh | hh)
    .obtain ⟨a1,a2,a3⟩:=hF.xw k hh
     rcases hk with hk | hk | hk
     .exact a1 hk
     .exact a2 hk
     .exact a3 hk
    .have:=hF.xo k hk; omega
  have agy:yez fy s1.H s.H:=by
    refine ⟨fun id hid=>?_,fun id hid=>?_,fun id hid=>?_⟩
    .rw [ex id (nrx id (.inr (.inr hid))),tx.g0 id (hF.yw id hid).2,ykm]
    .rw [ex id (nrx id (.inl hid))]
     exact (LEq.leak _ _).symm
    .rw [ex id (nrx id (.inr (.inl hid)))]
     exact (LEq.leak _ _).symm
  obtain ⟨b0,u1,b1,b2,b3,b4⟩:=ty.same s hds (ybqu ha tx.get) agy hfj
  have ey:∀ k,¬ (k∈fy.w\/(base + j * 64<=k/\k < ny))->lk u1.H k=(lk s.H k).map (ydh (gy k)):=fun k hk=>by rw [b4 k,qc hk]
  have nry:∀ k,(k∈fx.r\/k∈fx.l\/k∈fx.w)->¬ (k∈fy.w\/(base + j * 64<=k/\k < ny)):=by
    rintro k hk (hh | hh)
    .obtain ⟨a1,a2⟩:=hF.yw k hh
     rcases hk with hk | hk | hk
     .exact a1 hk
     .exact a2 hk
     .exact (hF.xw k hk).2.2 hh
    .have:=hF.yo k hk; omega
  have agx:yez fx s.H u1.H:=by
    refine ⟨fun id hid=>?_,fun id hid=>?_,fun id hid=>?_⟩
    .rw [ey id (nry id (.inr (.inr hid))),ty.g0 id (hF.xw id hid).2.1,ykm]
    .rw [ey id (nry id (.inl hid))]
     exact LEq.leak _ _
    .rw [ey id (nry id (.inr (.inl hid)))]
     exact LEq.leak _ _
  have hfi1:yhv (base + i * 64) (base + i * 64 + wd x.op) u1.H:=b4.fresh hfi (fun id hid=>hF.xo id (.inr (.inr hid))) (by omega)
  obtain ⟨c0,u2,c1,c2,c3,c4⟩:=tx.same u1 b3 (ybhj ha b2) agx hfi1
  refine ⟨u1,u2,b1,b0,c1,c0,ybwz ha tx.get ty.get b2 c2,fun k=>?_,c3⟩
  by_cases hky:k∈fy.w\/(base + j * 64<=k/\k < ny)
  .have hnx:¬ (k∈fx.w\/(base + i * 64<=k/\k < nx)):=by
     rintro (hh | hh)
     .rcases hky with hk | hk
      .exact (hF.xw k hh).2.2 hk
      .have:=hF.yo k (.inr (.inr hh)); omega
     .rcases hky with hk | hk
      .have:=hF.xo k (.inr (.inr hk)); omega
      .omega
   have hgx:gx k=0:=tx.g0 k fun hl=>by
     rcases hky with hk | hk
     .exact (hF.yw k hk).2 hl
     .have:=hF.yo k (.inr (.inl hl)); omega
   rw [c4 k,qc hnx,b4 k,qe hky,hgx,ykm]
  .by_cases hkx:k∈fx.w\/(base + i * 64<=k/\k < nx)
   .have hgy:gy k=0:=ty.g0 k fun hl=>by
      rcases hkx with hk | hk
      .exact (hF.xw k hk).2.1 hl
      .have:=hF.xo k (.inr (.inl hl)); omega
    rw [ty.eff k,qc hky,c4 k,qe hkx,hgy,ykm]
   .rw [ty.eff k,qc hky,c4 k,qc hkx,ex k hkx,ey k hky,yaga,yaga,Nat.max_comm]
end
def ymk:Nat->List Iop->List (Nat × Iop)
  | _,[]=>[]
  | i,o :: r=>(i,o) :: ymk (i + 1) r
def yng(c:Cfg)(cl:Nat->Callee)(nt base:Nat)(fp:Nat->Option yds):List (Nat × Iop)->St->St->Prop
  | [],s,sF=>sF=s
  | (i,o) :: r,s,sF=>∃ s1 f,evN c (cl i) nt base i o s=some s1/\yiq c s o=some f/\fp i=some f/\yng c cl nt base fp r s1 sF
def yjg(base:Nat)(U:List (Nat × Iop))(H:yr):Prop:=∀ p∈U,yhv (base + p.1 * 64) (base + p.1 * 64 + wd p.2.op) H
section
variable {c:Cfg} {cl:Nat->Callee} {nt base:Nat} {fp:Nat->Option yds} {s s1 sF s' u:St} {v:AV} {o x y:Iop}
theorem yez.of_eq{f:yds}{H H':yr}(h:∀ k,lk H' k=lk H k):yez f H H':=⟨fun id _=>h id,fun id _=>LEq.of (h id),fun id _=>LEq.of (h id)⟩
theorem yhv.of_eq{a b:Nat}{H H':yr}(h:∀ k,lk H' k=lk H k)(hf:yhv a b H):yhv a b H':=fun k h1 h2=>by rw [h]; exact hf k h1 h2
theorem yjg.next{i:Nat}{U:List (Nat × Iop)}{f:yds}{g:Nat->Nat}{n:Nat}{cl:Callee}(hs:Step c cl nt base i o s s1 f v g n)(hf:yjg base U s.H)(hne:∀ p∈U,p.1≠i):yjg base U s1.H:=by
  intro p hp k h1 h2
  have hle:=yadz p.2.op
  have hle2:=yadz o.op
  refine hs.dom k (hf p hp k h1 h2) ?_
  have:=hne p hp
  omega
theorem yng.cong:∀ {U:List (Nat × Iop)} {s sF u:St},yko s->yjg base U s.H->(U.map (fun p=>p.1)).Nodup->yng c cl nt base fp U s sF->Eqv s u->∃ uF,yng c cl nt base fp U u uF/\Eqv sF uF
  | [],s,sF,u,hd,hfr,hn,h,he=>by
    simp only [yng] at h
    subst h
    exact ⟨u,rfl,he⟩
  | (i,o) :: r,s,sF,u,hd,hfr,hn,h,he=>by
    obtain ⟨s1,f,h1,h2,h3,h4⟩:=h
    obtain ⟨v,g,n,hs⟩:=step hd h1 h2 (hfr (i,o) (by simp))
    have hk:∀ k,lk u.H k=lk s.H k:=fun k=>(he.heap k).symm
    obtain ⟨b0,u1,b1,b2,b3,b4⟩:=hs.same u he.disj (fun t _=>(he.get t).symm) (yez.of_eq hk) (yhv.of_eq hk (hfr (i,o) (by simp)))
    rw [wr,List.nodup_cons] at hn
    have hne:∀ p∈r,p.1≠i:=fun p hp e=>hn.1 (wh.2 ⟨p,hp,e⟩)
    obtain ⟨uF,c1,c2⟩:=yng.cong hs.disj (yjg.next hs (fun p hp=>hfr p (ql _ hp)) hne) hn.2 h4 (u:=u1) ⟨fun t=>by rw [hs.get,b2,he.get],fun k=>by rw [hs.eff k,b4 k,hk k],b3⟩
    exact ⟨uF,⟨u1,f,b1,b0,h3,c1⟩,c2⟩
theorem yng.disj:∀ {U:List (Nat × Iop)} {s sF:St},yko s->yjg base U s.H->(U.map (fun p=>p.1)).Nodup->yng c cl nt base fp U s sF->yko sF
  | [],s,sF,hd,hfr,hn,h=>by
    simp only [yng] at h
    subst h
    exact hd
  | (i,o) :: r,s,sF,hd,hfr,hn,h=>by
    obtain ⟨s1,f,h1,h2,h3,h4⟩:=h
    obtain ⟨v,g,n,hs⟩:=step hd h1 h2 (hfr (i,o) (by simp))
    rw [wr,List.nodup_cons] at hn
    have hne:∀ p∈r,p.1≠i:=fun p hp e=>hn.1 (wh.2 ⟨p,hp,e⟩)
    exact yng.disj hs.disj (yjg.next hs (fun p hp=>hfr p (ql _ hp)) hne) hn.2 h4
def ybjc(base:Nat)(fp:Nat->Option yds)(i j:Nat)(x y:Iop):Prop:=
  yacm x y/\∀ fx fy,fp i=some fx->fp j=some fy->(yht x.op=true->fx=ycf)->(yht y.op=true->fy=ycf)->(ldB x.op=true->fx.w = []/\fx.l = [])->(ldB y.op=true->fy.w = []/\fy.l = [])->Free base i j (wd x.op) (wd y.op) fx fy
theorem ybjv{j:Nat}{y:Iop}:∀ {pre post:List (Nat × Iop)} {s sF:St},yko s->yjg base (pre++(j,y) :: post) s.H->((pre++(j,y) :: post).map (fun p=>p.1)).Nodup->(∀ p∈pre,ybjc base fp p.1 j p.2 y)->yng c cl nt base fp (pre++(j,y) :: post) s sF ->
    ∃ u1 f,evN c (cl j) nt base j y s=some u1/\yiq c s y=some f/\fp j=some f/\∃ uF,yng c cl nt base fp (pre++post) u1 uF/\Eqv sF uF
  | [],post,s,sF,hd,hfr,hn,hp,h=>by
    obtain ⟨s1,f,h1,h2,h3,h4⟩:=h
    obtain ⟨v,g,n,hs⟩:=step hd h1 h2 (hfr (j,y) (by simp))
    exact ⟨s1,f,h1,h2,h3,sF,h4,fun _=>rfl,fun _=>rfl,by
      simp only [List.nil_append,wr,List.nodup_cons] at hn
      have hne:∀ p∈post,p.1≠j:=fun p hp e=>hn.1 (wh.2 ⟨p,hp,e⟩)
      exact yng.disj hs.disj (yjg.next hs (fun p hp=>hfr p (by simp [hp])) hne) hn.2 h4⟩
  | (i,x) :: pre,post,s,sF,hd,hfr,hn,hp,h=>by
    obtain ⟨s1,fx,h1,h2,h3,h4⟩:=h
    have hfx:=hfr (i,x) (by simp)
    have hfy:=hfr (j,y) (by simp)
    obtain ⟨v,g,n,hs⟩:=step hd h1 h2 hfx
    rw [jn,wr,List.nodup_cons] at hn
    have hij:i≠j:=fun e=>hn.1 (by subst e; simp)
    have hne:∀ p∈pre++(j,y) :: post,p.1≠i:=fun p hp e=>hn.1 (wh.2 ⟨p,hp,e⟩)
    obtain ⟨v1,fy,b1,b2,b3,vF,b4,b5⟩:=ybjv hs.disj (yjg.next hs (fun p hp=>hfr p (by rw [jn]; exact ql _ hp)) hne) hn.2 (fun p hpm=>hp p (ql _ hpm)) h4
    obtain ⟨a1,a2⟩:=hp (i,x) (by simp)
    obtain ⟨u1,u2,c1,c2,c3,c4,c5⟩:=swap hij a1 (a2 fx fy h3 b3 (fun hv=>yanx hv h2) (fun hv=>yanx hv b2) (fun hv=>yasd hv h2) (fun hv=>yasd hv b2)) hd hfx hfy h1 h2 b1 b2
    have hfy1:yhv (base + j * 64) (base + j * 64 + wd y.op) s1.H:=yjg.next hs (fun p hp=>hfr p (by rw [jn]; exact ql _ hp)) hne (j,y) (by simp)
    obtain ⟨v2,g2,n2,hs2⟩:=step hs.disj b1 b2 hfy1
    have hn2:((pre++post).map (fun p=>p.1)).Nodup:=by
      have:=hn.2
      rw [ke,wr] at this
      rw [ke]
      exact this.sublist (List.Sublist.append_left (List.sublist_cons_self _ _) _)
    have hnej:∀ p∈pre++post,p.1≠j:=by
      intro p hpm e
      have:=hn.2
      rw [ke,wr] at this
      rw [kj] at this
      obtain ⟨q1,q2,q3⟩:=this
      rcases qt.1 hpm with h | h
      .exact q3 _ (wh.2 ⟨p,h,rfl⟩) _ (qv ..) e
      .rw [List.nodup_cons] at q2
       exact q2.1 (by rw [← e]; exact wh.2 ⟨p,h,rfl⟩)
    have hfU:yjg base (pre++post) v1.H:=yjg.next hs2 (fun p hpm=>yjg.next hs (fun p hp=>hfr p (by rw [jn]; exact ql _ hp)) hne p (by
      rcases qt.1 hpm with h | h
      .exact wc _ h
      .exact wo _ (ql _ h))) hnej
    obtain ⟨uF,e1,e2⟩:=yng.cong hs2.disj hfU hn2 b4 c5
    exact ⟨u1,fy,c1,c2,b3,uF,⟨u2,fx,c3,c4,h3,e1⟩,b5.trans e2⟩
end
def newB:IP->Bool
  | .bsl _ _ _ _=>true
  | .s2b _=>true
  | .mks _ _ _ _=>true
  | .cln _ _=>true
  | .alloc _=>true
  | .box _=>true
  | .app _ _ _=>true
  | _=>false
def yajw(c:Cfg)(s:St):IP->Bool
  | .call f _=>!(c.fz f)
  | .callv g _=>match s.ev g with | .fn (.func f) _ _=>!(c.fz f) | _=>false
  | _=>false
section
variable {c:Cfg} {cl:Callee} {nt base:Nat} {s s1 sF s' u:St} {v:AV} {o x y:Iop}
theorem yanj{q f:Nat}{L:List AV}(hf:c.fz f=true)(h:yfi c cl (atN s q) f L=some (v,s1))(m:Nat):yfi c cl (atN s m) f L=some (v,atN s1 m):=by
  simp only [yfi,hf,wl] at h ⊢
  have hH:(atN s m).H=(atN s q).H:=rfl
  rw [hH]
  split at h
  .rename_i r H1 n1 hcl
   unfold yql at h ⊢
   split at h
   .rename_i hp
    simp only [qa,qi] at h
    obtain ⟨rfl,rfl⟩:=h
    rw [qe hp]
    rfl
   .rename_i hp
    rw [qc hp]
    split at h
    .rename_i hi
     simp only [qa,qi] at h
     obtain ⟨rfl,rfl⟩:=h
     rw [qe hi]
     rfl
    .cases h
  .cases h
theorem yceg{q:Nat}{ip:IP}(hk:newB ip=false)(hf:yajw c s ip=false)(h:ybi c cl (atN s q) ip=some (v,s1))(m:Nat):ybi c cl (atN s m) ip=some (v,atN s1 m):=by
  by_cases h0:yht ip=true
  .obtain ⟨rfl,h2⟩:=yakd (s':=atN s m) h0 h (fun x _=>by rw [yfg,yfg])
   exact h2
  .cases ip
   case ld a size p=>
     obtain ⟨hg,rfl⟩:=yjx h
     simp only [ybi]
     rw [yfg] at hg ⊢
     have:yka a size (atN s m).H (s.ev p) = some v:=hg
     rw [this]
     rfl
   case call f args=>
     have hf:c.fz f=true:=by simpa [yajw] using hf
     simp only [ybi,yxa] at h ⊢
     exact yanj hf h m
   case callv g args=>
     simp only [ybi,yxa,yfg] at h ⊢
     cases hq:s.ev g <;> rw [hq] at h <;> simp only [ypp,reduceCtorEq] at h
     case fn f pre post=>
       cases f <;> simp only [ypp,reduceCtorEq] at h
       case func f=>
         simp only [ypp] at h ⊢
         exact yanj (by simpa [yajw,hq] using hf) h m
   case cpy es x y=>
     simp only [ybi,yfg] at h ⊢
     have hs:∀ q':Nat,yoe es (atN s q') (s.ev x) (s.ev y) = (yoe es (atN s 0) (s.ev x) (s.ev y)).map fun p=>(p.1,atN p.2 q'):=by
       intro q'
       unfold yoe
       have hH:(atN s q').H=(atN s 0).H:=rfl
       rw [hH]
       split
       .split
        .split
         .split
          .split <;> rfl
          .rfl
         .rfl
        .rfl
       .rfl
       .rfl
     rw [hs q] at h
     rw [hs m]
     cases hc:yoe es (atN s 0) (s.ev x) (s.ev y) with
     | none=>rw [hc] at h; cases h
     | some p=>
       rw [hc] at h
       simp only [kb,qa,qi] at h ⊢
       obtain ⟨rfl,rfl⟩:=h
       exact ⟨rfl,rfl⟩
   case no=>
     simp only [ybi] at h
     cases h
   case clr es z x=>
     simp only [ybi,yfg] at h ⊢
     have hs:∀ q':Nat,ymf es z (atN s q') (s.ev x) = (ymf es z (atN s 0) (s.ev x)).map fun p=>(p.1,atN p.2 q'):=by
       intro q'
       unfold ymf
       have hH:(atN s q').H=(atN s 0).H:=rfl
       rw [hH]
       split
       .split
        .split
         .split
          .split <;> rfl
          .rfl
         .split
          .split <;> rfl
          .rfl
         .rfl
        .rfl
       .rfl
       .rfl
     rw [hs q] at h
     rw [hs m]
     cases hc:ymf es z (atN s 0) (s.ev x) with
     | none=>rw [hc] at h; cases h
     | some p=>
       rw [hc] at h
       simp only [kb,qa,qi] at h ⊢
       obtain ⟨rfl,rfl⟩:=h
       exact ⟨rfl,rfl⟩
   case b2s x=>
     obtain ⟨hg,rfl⟩:=yjx h
     simp only [ybi]
     rw [yfg] at hg ⊢
     have:ytk (atN s m).H (s.ev x) = some v:=hg
     rw [this]
     rfl
   case st size p x=>
     simp only [ybi,yfg] at h ⊢
     have hH:(atN s m).H=(atN s q).H:=rfl
     rw [hH]
     split at h
     .rename_i H1 hH1
      simp only [qa,qi] at h
      obtain ⟨rfl,rfl⟩:=h
      rfl
     .cases h
   all_goals (simp [newB,yht] at hk h0)
def newV(f:Nat->AV):Prop:=(f=fun i=>.ptr i 0)\/(∃ es len ex,f=fun i=>.own es i 0 len ex)\/∃ rows,f=fun _=>ycr rows
structure New (c:Cfg) (cl:Callee) (s:St) (q:Nat) (ip:IP) (v:AV) (s1:St) (ob:Ob) (H1:yr) (f:Nat->AV):Prop where
  nv:newV f
  v:v=f q
  s1:s1 = ⟨s.env,s.loc,(q,ob) :: H1,q + 1⟩
  sub:∀ j,lk s.H j=none->lk H1 j=none
  at_:∀ m,ybi c cl (atN s m) ip=some (f m,⟨s.env,s.loc,(m,ob) :: H1,m + 1⟩)
theorem ycji{es:Nat}{rows:List (List AV)}{q:Nat}(h:ycu (atN s q) es rows=some (v,s1)):∃ ob f,newV f/\v=f q/\s1 = ⟨s.env,s.loc,(q,ob) :: s.H,q + 1⟩/\∀ m,ycu (atN s m) es rows=some (f m,⟨s.env,s.loc,(m,ob) :: s.H,m + 1⟩):=by
  unfold ycu at h
  split at h
  .rename_i hl
   simp only [qa,qi] at h
   obtain ⟨rfl,rfl⟩:=h
   refine ⟨.arr es rows 0,fun i=>.own es i 0 rows.length false,.inr (.inl ⟨es,_,_,rfl⟩),rfl,rfl,fun m=>?_⟩
   simp only [ycu,hl,wl]
   rfl
  .cases h
theorem ycnh{q:Nat}{ip:IP}(hk:newB ip=true)(h:ybi c cl (atN s q) ip=some (v,s1)):∃ ob H1 f,New c cl s q ip v s1 ob H1 f:=by
  cases ip
  case bsl es z len ps=>
    have hp:∀ m,(atN s m).evp ps=s.evp ps:=fun m=>yvz fun x _=>yfg s m x
    simp only [ybi,ysd,hp] at h
    split at h
    .rename_i rows hrows
     simp only [qa,qi] at h
     obtain ⟨rfl,rfl⟩:=h
     refine ⟨.arr es rows 0,yfl s.H (s.evp ps),fun i=>.own es i 0 len true,.inr (.inl ⟨es,_,_,rfl⟩),rfl,rfl,fun j hj=>?_,fun m=>?_⟩
     .obtain ⟨g,_,hg⟩:=ywn (s.evp ps)
      rw [hg,hj]
      rfl
     .have h2:yfp es (atN s m).H (List.replicate len z) (s.evp ps) = some rows:=hrows
      simp only [ybi,ysd,hp,h2]
      rfl
    .cases h
  case cln es x=>
    simp only [ybi,yfg] at h
    obtain ⟨rows,ob,k1,k2,k3,k4⟩:=yarh h
    subst k3; subst k4
    refine ⟨ob,s.H,fun i=>.own es i 0 rows.length false,.inr (.inl ⟨es,_,_,rfl⟩),rfl,rfl,fun _ hj=>hj,fun m=>?_⟩
    simp only [ybi,yfg]
    exact k2 (atN s m) k1
  case s2b x=>
    simp only [ybi,yfg] at h
    unfold ytt at h
    split at h
    .rename_i str hx
     simp only [qa,qi] at h
     obtain ⟨rfl,rfl⟩:=h
     refine ⟨.box [],s.H,fun i=>ycr (yiv str),.inr (.inr ⟨_,rfl⟩),rfl,rfl,fun _ hj=>hj,fun m=>?_⟩
     simp only [ybi,yfg,hx,ytt]
     rfl
    .cases h
  case mks es z l m'=>
    simp only [ybi,yfg] at h
    unfold yts at h
    split at h
    .rename_i a b hl hm
     split at h
     .rename_i hb
      simp only [qa,qi] at h
      obtain ⟨rfl,rfl⟩:=h
      refine ⟨.arr es (List.replicate a.toNat z) 0,s.H,fun i=>.own es i 0 a.toNat (a == b),.inr (.inl ⟨es,_,_,rfl⟩),rfl,rfl,fun _ hj=>hj,fun m=>?_⟩
      simp only [ybi,yfg,hl,hm,yts,hb,and_self,wl]
      rfl
     .cases h
    .cases h
  case alloc z=>
    simp only [ybi,qa,qi] at h
    obtain ⟨rfl,rfl⟩:=h
    exact ⟨.box z,s.H,fun i=>.ptr i 0,.inl rfl,rfl,rfl,fun _ hj=>hj,fun m=>rfl⟩
  case box x=>
    simp only [ybi,yfg] at h
    split at h
    .rename_i cs hcs
     split at h
     .rename_i hb
      simp only [qa,qi] at h
      obtain ⟨rfl,rfl⟩:=h
      refine ⟨.box cs,s.H,fun i=>.ptr i 0,.inl rfl,rfl,rfl,fun _ hj=>hj,fun m=>?_⟩
      simp only [ybi,yfg,hcs,hb,wl]
      rfl
     .cases h
    .cases h
  case app es a b=>
    have hn:∀ rows,ycu (atN s q) es rows=some (v,s1)->(∀ m,ybi c cl (atN s m) (.app es a b) = ycu (atN s m) es rows)->∃ ob H1 f,New c cl s q (.app es a b) v s1 ob H1 f:=by
      intro rows h hm
      obtain ⟨ob,f,h1,h2,h3,h4⟩:=ycji h
      exact ⟨ob,s.H,f,h1,h2,h3,fun _ hj=>hj,fun m=>by rw [hm,h4]⟩
    have hs:∀ m,ydc es (atN s m).H (s.ev b) = ydc es s.H (s.ev b):=fun m=>rfl
    simp only [ybi,yfg] at h hn
    unfold yio at h
    rw [hs] at h
    split at h
    .rename_i new hnew
     split at h
     .rename_i hbase
      exact hn _ h fun m=>by simp only [yio,hs,hnew,hbase]
     .rename_i es' rows ex hbase
      split at h
      .rename_i hc
       split at h
       .rename_i hz
        exact hn _ h fun m=>by simp only [yio,hs,hnew,hbase,hc,hz,and_self,wl]
       .rename_i hz
        split at h
        .rename_i h0
         exact hn _ h fun m=>by simp only [yio,hs,hnew,hbase,hc,hz,h0,and_self,wl,wn]
        .cases h
      .cases h
     .rename_i es' id off len ex hbase
      have hl:∀ m,lk (atN s m).H id=lk s.H id:=fun m=>rfl
      rw [hl] at h
      split at h
      .rename_i hc
       split at h
       .rename_i es2 rows leak hid
        split at h
        .rename_i hex
         split at h
         .rename_i hz
          exact hn _ h fun m=>by simp only [yio,hs,hnew,hbase,hl,hid,hc,hex,hz,wl]
         .rename_i hz
          split at h
          .rename_i h0
           have hH:∀ m,(atN s m).H=s.H:=fun _=>rfl
           exact hn _ h fun m=>by simp only [yio,hs,hnew,hbase,hl,hid,hc,hex,hz,h0,and_self,wl,wn]
          .cases h
        .rename_i hex
         split at h
         .rename_i hc2
          simp only [qa,qi] at h
          obtain ⟨rfl,rfl⟩:=h
          refine ⟨.arr es (rows.take len++new) leak,rmv s.H id,fun i=>.own es i 0 (len + new.length) false,.inr (.inl ⟨es,_,_,rfl⟩),rfl,rfl,fun j hj=>?_,fun m=>?_⟩
          .rw [yjl,hj]
           split <;> rfl
          .simp only [ybi,yfg,yio,hs,hnew,hbase,hl,hid,hc,hex,wl,wn,qr]
           rw [qe hc2]
           rfl
         .cases h
       .cases h
      .cases h
     .cases h
    .cases h
  all_goals (simp [newB] at hk)
end
theorem ycms{A:Nat->Nat->Prop}{O:Rho}{Ha Hb:yr}{n m q:Nat}{w:World}(hr:Rep A O Ha n w)(hH:∀ k,lk Hb k=if k=q then lk Ha m else if k=m then none else lk Ha k)(hq:O q=none)(hqn:q < n) :
    Rep A (fun k=>if k=q then O m else O k) Hb n w/\(∀ b o,Wr (fun k=>if k=q then O m else O k) Hb b o->Wr O Ha b o)/\Ext O (fun k=>if k=q then O m else O k):=by
  have hext:Ext O (fun k=>if k=q then O m else O k):=by
    intro k x hx
    have:k≠q:=fun e=>by subst e; rw [hq] at hx; cases hx
    simp only [this,wn]
    exact hx
  have old:∀ k o x,lk Hb k=some o->(if k=q then O m else O k) = some x->∃ k',lk Ha k' = some o/\O k' = some x/\((k=q/\k' = m)\/(k≠q/\k≠m/\k' = k)):=by
    intro k o x g1 g2
    rw [hH] at g1
    by_cases hk:k=q
    .rw [qe hk] at g1 g2
     exact ⟨m,g1,g2,.inl ⟨hk,rfl⟩⟩
    .rw [qc hk] at g1 g2
     by_cases hm:k=m
     .rw [qe hm] at g1; cases g1
     .rw [qc hm] at g1
      exact ⟨k,g1,g2,.inr ⟨hk,hm,rfl⟩⟩
  have hw:∀ b o,Wr (fun k=>if k=q then O m else O k) Hb b o->Wr O Ha b o:=by
    rintro b o ⟨i,es,ob,g1,g2,g3⟩
    obtain ⟨k',h1,h2,_⟩:=old i ob _ g1 g2
    exact ⟨k',es,ob,h1,h2,g3⟩
  refine ⟨?_,hw,hext⟩
  exact
    { ob:=fun i o b es g1 g2=>by
       obtain ⟨k',h1,h2,_⟩:=old i o _ g1 g2
       exact ygd (ydo.less fun b o hu=>hu.imp_right (hw b o)) hext rfl (hr.ob k' o b es h1 h2)
      inj:=fun i j oi oj b ei ej g1 g2 g3 g4=>by
        obtain ⟨i',h1,h2,h3⟩:=old i oi _ g1 g3
        obtain ⟨j',h4,h5,h6⟩:=old j oj _ g2 g4
        have:=hr.inj i' j' oi oj b ei ej h1 h4 h2 h5
        rcases h3 with ⟨rfl,rfl⟩ | ⟨a1,a2,rfl⟩ <;> rcases h6 with ⟨rfl,rfl⟩ | ⟨a3,a4,rfl⟩
        .rfl
        .exact absurd this.symm a4
        .exact absurd this a2
        .exact this
      ltH:=fun i o g1=>by
        rw [hH] at g1
        by_cases hk:i=q
        .omega
        .rw [qc hk] at g1
         split at g1
         .cases g1
         .exact hr.ltH i o g1
      ltR:=fun i x g1=>by
        change (if i=q then O m else O i) = some x at g1
        split at g1
        .omega
        .exact hr.ltR i x g1
      ltA:=hr.ltA
      apart:=fun i o b es off g1 g2=>by
        obtain ⟨k',h1,h2,_⟩:=old i o _ g1 g2
        exact hr.apart k' o b es off h1 h2 }
structure SD (A:Nat->Nat->Prop) (E:Entry) (nt base:Nat) (F:Nat->Prop) (m:Nat) (s:St) (a:Act) (w:World):Prop where
  disj:yko s
  size:a.tmps.size=nt
  defers:a.defers = []
  le:E.m<=base
  lt:∀ i,F i->base + i * 64 + 64<=m
  ex:∃ O,Rep A O s.H m w/\ynh w (UU A O s.H) O s a/\ygs E.O E.m O m/\Fr E.O E.H E.w O s.H w/\∀ i,F i->∀ t,base + i * 64<=t->t < base + i * 64 + 64->O t=none
section
variable {P:Program} {c:Cfg} {cl:Callee} {A:Nat->Nat->Prop} {E:Entry} {nt base m:Nat} {F F':Nat->Prop} {s s1:St} {a:Act} {w w':World} {v:AV} {x:Value}
theorem SD.sr(h:SD A E nt base F m s a w):SR A E nt (atN s m) a w:=by
  obtain ⟨O,h1,h2,h3,h4,_⟩:=h.ex
  exact ⟨h.disj,h.size,h.defers,O,h1,h2,h3,h4⟩
theorem yacq(h:SD A E nt base F m s a w){O AD:Rho}{m':Nat}(hv:ynh w (UU A O s.H) O s a)(hf0:Fr E.O E.H E.w O s.H w)(he:s1.env=s.env)(hl:s1.loc=s.loc)(hr:Rep A AD s1.H m' w')(hx:VR w' (UU A AD s1.H) AD v x)(hE:ygs E.O E.m AD m')(hext:Ext O AD)(hf:Fr O s.H w AD s1.H w')
    (hm:∀ i,F' i->base + i * 64 + 64<=m') (hF:∀ i,F' i->∀ t,base + i * 64<=t->t < base + i * 64 + 64->AD t=none) {d:Option Nat} (hd:ypa nt d=true):SD A E nt base F' m' (s1.putO d v) (a.put d x) w':=by
  obtain ⟨g1,g2,g3,_⟩:=yvb (s:=s) (yalq h.disj he hl) d v he hl
  obtain ⟨k1,k2,k3⟩:=yna h.size hd x
  refine ⟨g2,k2,by rw [k3]; exact h.defers,h.le,hm,AD,by rw [g3]; exact hr,fun t=>?_,hE,by rw [g3]; exact hf0.trans hf,hF⟩
  rw [g1,k1,g3]
  split
  .exact hx
  .exact yacs hf hext (hv t)
theorem yaqi{O:Rho}{H:yr}{n n':Nat}(hr:Rep A O H n w)(hn:n<=n'):Rep A O H n' w where
  ob:=hr.ob
  inj:=hr.inj
  ltH i o hi:=ji (hr.ltH i o hi) hn
  ltR i x hi:=ji (hr.ltR i x hi) hn
  ltA:=hr.ltA
  apart:=hr.apart
theorem yclk(hcl:yeb P cl){ops:Array Oper}{o:Oper}{y:Iop}{j:Nat}(h:SD A E nt base F m s a w)(hj:F j)(hjH:yhv (base + j * 64) (base + j * 64 + wd y.op) s.H)(hc:yxd P ops.toList o=some y){u1:St}{f:yds}(he:evN c cl nt base j y s=some u1)(hft:yiq c s y=some f)
    (hF':∀ i,F' i->F i/\i≠j) {K:Act->World->Prop} {Q:Exit->Act->World->Prop} (hK:∀ a' w',SD A E nt base F' (m + 1) u1 a' w'->K a' w') :
    if Region.wanted o (yielded ops a.tmps) then o.wp P a w K Q else K (a.put o.dst undef) w:=by
  obtain ⟨h1,hle⟩:=yayf he
  obtain ⟨hdst,hcase⟩:=yaru h1
  obtain ⟨O,r1,r2,r3,r4,r5⟩:=h.ex
  have hlt:=h.lt j hj
  have hbase:=h.le
  have hm':∀ i,F' i->base + i * 64 + 64<=m + 1:=fun i hi=>Nat.le_succ_of_le (h.lt i (hF' i hi).1)
  rcases hcase with ⟨hw,v,s1,hv,rfl⟩ | ⟨hw,rfl⟩
  .rw [yri] at hw
   obtain ⟨p1,p2,p3⟩:=yacj h.sr hc hw
   rw [p3]
   simp only [wl]
   by_cases hnew:newB y.op=true
   .obtain ⟨ob,H1,fv,hN⟩:=ycnh hnew hv
    have hs1:=hN.s1
    have hvv:=hN.v
    subst hs1
    subst hvv
    have hwd:wd y.op=64:=by
      cases hy:y.op <;> rw [hy] at hnew <;> simp [newB] at hnew <;> rfl
    refine yur (c:=c) hcl (s:=atN s m) (s':=⟨s.env,s.loc,(m,ob) :: H1,m + 1⟩) r1 r2 p1 (hN.at_ m) K Q fun x w' hp=>hK _ _ ?_
    obtain ⟨_,_,Z,q1,q2,q3,q4⟩:=hp
    have hqn:Z (base + j * 64) = none:=q3.cl _ (show base + j * 64 < m by omega) (r5 j hj _ (qk _) (by omega))
    have hqH:lk H1 (base + j * 64) = none:=hN.sub _ (hjH _ (qk _) (by omega))
    have hmH:lk H1 m=none:=hN.sub _ (by
      cases hh:lk s.H m with
      | none=>rfl
      | some o'=>have:=r1.ltH m o' hh; omega)
    obtain ⟨t1,t2,t3⟩:=ycms (m:=m) (q:=base + j * 64) (Hb:=(base + j * 64,ob) :: H1) q1 (fun i=>by
      show lk ((base + j * 64,ob) :: H1) i=if i=base + j * 64 then lk ((m,ob) :: H1) m else if i=m then none else lk ((m,ob) :: H1) i
      simp only [ybx,wl]
      by_cases hi:i=base + j * 64
      .subst hi; simp
      .have e1:¬ base + j * 64=i:=fun e=>hi e.symm
       rw [qc e1,qc hi]
       by_cases hi2:i=m
       .subst hi2; simp [hmH]
       .have e2:¬ m=i:=fun e=>hi2 e.symm
        rw [qc hi2,qc e2]) hqn (show base + j * 64 < m + 1 by omega)
    rw [← p2]
    have hfr2:Fr O s.H w (fun i=>if i=base + j * 64 then Z m else Z i) ((base + j * 64,ob) :: H1) w':=
      q4.trans
        { size:=qk _
          os:=rfl
          tape:=rfl
          output:=rfl
          cells:=fun b C e fr hb=>⟨C,hb,rfl,fun _ _=>rfl⟩
          other:=fun b ob hb _=>hb
          shrink:=fun b o _ hw=>t2 b o hw }
    refine yacq (s1:=⟨s.env,s.loc,(base + j * 64,ob) :: H1,base + j * 64 + 1⟩) h r2 r4 rfl rfl t1 ?_ ?_ (q3.ext.trans t3) hfr2 hm' ?_ hdst
    .have hst:ydo w' (UU A Z ((m,ob) :: H1)) w' (UU A (fun i=>if i=base + j * 64 then Z m else Z i) ((base + j * 64,ob) :: H1)):=ydo.less fun b o hu=>hu.imp_right (t2 b o)
     rcases hN.nv with rfl | ⟨es,len,ex,rfl⟩ | ⟨rows,rfl⟩
     .simp only [VR] at q2 ⊢
      simpa using q2
     .have q5:=ydw hst _ _ _ _ (Ext.refl _) q2
      simp only [VR] at q5 ⊢
      simpa using q5
     .exact yalm _ _ rfl (ydw hst _ _ _ _ (Ext.refl _) q2)
    .refine ⟨r3.ext.trans (q3.ext.trans t3),fun i hi h0=>?_,ww r3.le (Nat.le_succ _)⟩
     have e1:i≠base + j * 64:=by omega
     simp only [e1,wn]
     exact q3.cl i (ji hi r3.le) (r3.cl i hi h0)
    .intro i hi t ht1 ht2
     obtain ⟨f1,f2⟩:=hF' i hi
     have e1:t≠base + j * 64:=by omega
     simp only [e1,wn]
     exact q3.cl _ (show t < m by have:=h.lt i f1; omega) (r5 i f1 t ht1 ht2)
   .by_cases hlent:yajw c s y.op=true
    .have hcall:∃ fn L,((∃ as,y.op = .call fn as/\L=s.evs as)\/∃ g as pre post,y.op = .callv g as/\s.ev g = .fn (.func fn) pre post/\L=pre++(s.evs as++post))/\c.fz fn=false/\yfi c cl (atN s (base + j * 64)) fn L=some (v,s1):=by
       cases hy:y.op <;> rw [hy] at hlent hv <;> simp only [yajw,qr] at hlent
       case call fn as=>
         simp only [ybi,yxa] at hv
         exact ⟨fn,_,.inl ⟨as,rfl,rfl⟩,by simpa using hlent,hv⟩
       case callv g as=>
         simp only [ybi,yxa,yfg] at hv
         cases hg:s.ev g <;> rw [hg] at hlent hv <;> try (exact absurd hlent qw)
         case fn fnv pre post=>
           cases fnv <;> try (exact absurd hlent qw)
           case func fn=>
             exact ⟨fn,_,.inr ⟨g,as,pre,post,rfl,hg,rfl⟩,by simpa using hlent,hv⟩
     obtain ⟨fn,L,hip,hfz,hcl1⟩:=hcall
     have hcB:yqd y.op=true:=by
       rcases hip with ⟨as,e,_⟩ | ⟨g,as,pre,post,e,_⟩ <;> rw [e] <;> rfl
     obtain ⟨xs,x1,x2⟩:=ybvg r2 (ybkq p1 hcB) hip
     unfold yfi at hcl1
     rw [qc (by simp [hfz])] at hcl1
     simp only at hcl1
     have hH:(atN s (base + j * 64)).H=s.H:=rfl
     rw [hH] at hcl1
     split at hcl1
     .rename_i r H1 n1 hcr
      simp only [qa,qi] at hcl1
      obtain ⟨rfl,rfl⟩:=hcl1
      obtain ⟨fn',k1,k2,k3⟩:=hcl.fn hcr
      obtain ⟨q1,_,q3⟩:=yml s.H yfk L [] List.nodup_nil
      have hwd:wd y.op=64:=by
        rcases hip with ⟨as,e,_⟩ | ⟨g,as,pre,post,e,_⟩ <;> rw [e] <;> rfl
      have hcnt:n1 - (yba s.H yfk L []).length<=64:=by
        obtain ⟨_,_,_,e⟩:=yabt (s:=St.mk s.env s.loc (ycy (yge (yba s.H yfk L []) (yba s.H yfk L []).length n1 (base + j * 64)) H1++yem s.H (yba s.H yfk L [])) (base + j * 64 + (n1 - (yba s.H yfk L []).length))) h.disj y.dst (ren (yge (yba s.H yfk L []) (yba s.H yfk L []).length n1 (base + j * 64)) r)
        have h2:base + j * 64 + (n1 - (yba s.H yfk L []).length)<=base + j * 64 + 64:=ww (Nat.le_of_eq e.symm) hle
        omega
      unfold Oper.wp
      rw [x1,yqw k1 k2 k3,Oper.upon_enter]
      refine Calls.mono (yaxx hcl r1 x2 q1 (fun id hid=>?_) hcr (base + j * 64) (m + 1) (fun t ht1 ht2=>⟨r5 j hj t ht1 (by omega),hjH t ht1 (by omega)⟩) (by omega) (Nat.le_succ _)) fun e w' hp=>?_
      .rcases q3 id hid with hh | hh
       .simp at hh
       .exact hh
      .obtain ⟨xv,AD,rfl,g1,g2,g3,g4,g5⟩:=hp
       refine hK _ _ ?_
       rw [← p2]
       refine yacq (s1:={ (atN s (base + j * 64)) with H:=ycy (yge (yba s.H yfk L []) (yba s.H yfk L []).length n1 (base + j * 64)) H1++yem s.H (yba s.H yfk L []),nx:=base + j * 64 + (n1 - (yba s.H yfk L []).length) }) h r2 r4 rfl rfl g1 g2 ⟨r3.ext.trans g3,fun k hk h0=>g4 k (r3.cl k hk h0) (by omega),ww r3.le (Nat.le_succ _)⟩ g3 g5 hm' (fun i hi t ht1 ht2=>?_) hdst
       obtain ⟨f1,f2⟩:=hF' i hi
       exact g4 t (r5 i f1 t ht1 ht2) (by omega)
     .cases hcl1
    .have hat:=yceg (by simpa using hnew) (by simpa using hlent) hv m
     refine yur (c:=c) hcl (s:=atN s m) (s':=atN s1 m) r1 r2 p1 hat K Q fun x w' hp=>hK _ _ ?_
     obtain ⟨q1,q2,Z,q3,q4,q5,q6⟩:=hp
     rw [← p2]
     refine yacq (s1:=s1) (AD:=Z) h r2 r4 q1 q2 (yaqi q3 (Nat.le_succ m)) q4 ?_ q5.ext q6 hm' ?_ hdst
     .have:=r3.trans q5
      exact ⟨this.ext,this.cl,ww r3.le (Nat.le_succ _)⟩
     .intro i hi t ht1 ht2
      obtain ⟨f1,f2⟩:=hF' i hi
      exact q5.cl _ (show t < m by have:=h.lt i f1; omega) (r5 i f1 t ht1 ht2)
  .rw [yri] at hw
   obtain ⟨p1,p2,p3⟩:=yacj h.sr hc hw
   rw [p3]
   simp only [qr,wn]
   rw [← p2]
   exact hK _ _ (yacq (s1:=atN s (base + j * 64)) (AD:=O) h r2 r4 rfl rfl (yaqi r1 (Nat.le_succ m)) (by simp [VR]) ⟨r3.ext,r3.cl,ww r3.le (Nat.le_succ _)⟩ (Ext.refl _) (Fr.refl _ _ _) hm' (fun i hi=>r5 i (hF' i hi).1) hdst)
end
theorem yxy{acc:List Nat}:∀ {es:List Edge} {m:Nat},yacu acc es=some m ->
    (∀ e∈es,Region.binds .any e=true->e.on < acc.length)/\∀ b,Nat.testBit m b=true->∃ e∈es,Region.binds .any e=true/\(b=e.on\/∃ a,acc[e.on]? = some a/\Nat.testBit a b=true)
  | [],m,h=>by
    simp only [yacu,qa] at h
    subst h
    exact ⟨by simp,by simp⟩
  | e :: r,m,h=>by
    simp only [yacu] at h
    split at h
    .rename_i hb
     split at h
     .rename_i a m' ha hm
      simp only [qa] at h
      subst h
      obtain ⟨h1,h2⟩:=yxy hm
      refine ⟨fun e' he' hb'=>?_,fun b hbt=>?_⟩
      .rcases wt.1 he' with rfl | he'
       .rcases qz e'.on acc.length with h | h
        .exact h
        .rw [qm h] at ha; cases ha
       .exact h1 e' he' hb'
      .rw [Nat.testBit_or,Nat.testBit_or,ju,ju] at hbt
       rcases hbt with hbt | hbt | hbt
       .obtain ⟨e',g1,g2⟩:=h2 b hbt
        exact ⟨e',ql _ g1,g2⟩
       .exact ⟨e,by simp,hb,.inr ⟨a,ha,hbt⟩⟩
       .refine ⟨e,by simp,hb,.inl ?_⟩
        rw [Nat.testBit_shiftLeft] at hbt
        simp only [ge_iff_le,qq,wv] at hbt
        have:=hbt.2
        rw [Nat.testBit_one_eq_true_iff_self_eq_zero] at this
        omega
     .cases h
    .rename_i hb
     obtain ⟨h1,h2⟩:=yxy h
     refine ⟨fun e' he' hb'=>?_,fun b hbt=>?_⟩
     .rcases wt.1 he' with rfl | he'
      .exact absurd hb' hb
      .exact h1 e' he' hb'
     .obtain ⟨e',g1,g2⟩:=h2 b hbt
      exact ⟨e',ql _ g1,g2⟩
theorem yafc{j a:Nat}{y:Iop}:∀ {l:List Iop} {i:Nat} {k:List (Nat × Nat)},yakm j a y i l=some k->∀ t x,l[t]? = some x->Nat.testBit a (i + t) = false->∃ kk,yuc (i + t) j x y=some kk/\∀ p∈kk,p∈k
  | [],i,k,h,t,x,hx,hb=>by simp at hx
  | z :: r,i,k,h,t,x,hx,hb=>by
    simp only [yakm] at h
    split at h
    .rename_i l' hl
     cases t with
     | zero=>
       simp at hx
       subst hx
       simp only [ka] at hb ⊢
       rw [qc (by simp [hb])] at h
       split at h
       .rename_i kk hkk
        simp only [qa] at h
        subst h
        exact ⟨kk,hkk,fun p hp=>wc _ hp⟩
       .cases h
     | succ t=>
       simp only [je] at hx
       obtain ⟨kk,h1,h2⟩:=yafc hl t x hx (by rw [show i + 1 + t=i + (t + 1) by omega]; exact hb)
       refine ⟨kk,by rw [show i + (t + 1) = i + 1 + t by omega]; exact h1,fun p hp=>?_⟩
       have:=h2 p hp
       split at h
       .simp only [qa] at h
        subst h
        exact this
       .split at h
        .simp only [qa] at h
         subst h
         exact wo _ this
        .cases h
    .cases h
structure ycbz (ops:List Oper) (ios:List Iop) (k:List (Nat × Nat)) (an:List Nat) (n0:Nat):Prop where
  len:an.length=ops.length
  len2:ios.length=ops.length
  on:∀ j o,n0<=j->ops[j]? = some o->∀ e∈o.after.toList,Region.binds .any e=true->e.on < j
  anc:∀ j o a,n0<=j->ops[j]? = some o->an[j]? = some a->∀ b,Nat.testBit a b=true->∃ e∈o.after.toList,Region.binds .any e=true/\(b=e.on\/∃ a',an[e.on]? = some a'/\Nat.testBit a' b=true)
  pair:∀ j y a,n0<=j->ios[j]? = some y->an[j]? = some a->∀ i x,i < j->ios[i]? = some x->Nat.testBit a i=false->∃ kk,yuc i j x y=some kk/\∀ p∈kk,p∈k
theorem yaej{ops:List Oper}{ios:List Iop}:∀ {r:List Oper} {q:List Iop} {acc:List Nat} {k:List (Nat × Nat)} {pre:List Oper} {ipre:List Iop},ops=pre++r->ios=ipre++q->pre.length=acc.length->ipre.length=acc.length->yqj ios r q acc=some k ->
    ∃ rest,ycbz ops ios k (acc++rest) acc.length
  | [],[],acc,k,pre,ipre,h1,h2,h3,h4,h=>by
    simp only [jh] at h1 h2
    subst h1; subst h2
    refine ⟨[],by simpa using h3.symm,by omega,fun j o hj ho=>?_,fun j o a hj ho=>?_,fun j y a hj hy=>?_⟩
    .rw [qm (by omega)] at ho; cases ho
    .rw [qm (by omega)] at ho; cases ho
    .rw [qm (by omega)] at hy; cases hy
  | o :: r,y :: q,acc,k,pre,ipre,h1,h2,h3,h4,h=>by
    simp only [yqj] at h
    split at h
    .rename_i a ha
     split at h
     .rename_i k1 l hk1 hl
      .simp only [qa] at h
       subst h
       obtain ⟨rest,hF⟩:=yaej (ops:=ops) (ios:=ios) (pre:=pre++[o]) (ipre:=ipre++[y]) (by rw [h1]; simp) (by rw [h2]; simp) (by simp [h3]) (by simp [h4]) hl
       obtain ⟨a1,a2⟩:=yxy ha
       have ho:∀ o',ops[acc.length]? = some o'->o' = o:=fun o' ho'=>by
         rw [h1,jc (by omega),h3,Nat.sub_self] at ho'
         simpa using ho'.symm
       have hy:∀ y',ios[acc.length]? = some y'->y' = y:=fun y' hy'=>by
         rw [h2,jc (by omega),h4,Nat.sub_self] at hy'
         simpa using hy'.symm
       have haa:∀ a',(acc++[a]++rest)[acc.length]? = some a'->a' = a:=fun a' ha'=>by
         rw [jr,jc (qk _),Nat.sub_self] at ha'
         simpa using ha'.symm
       have hle:∀ j,acc.length<=j->j=acc.length\/(acc++[a]).length<=j:=fun j hj=>by simp; omega
       refine ⟨a :: rest,?_⟩
       rw [show acc++a :: rest=acc++[a]++rest by simp]
       refine ⟨hF.len,hF.len2,fun j o' hj hoj e he hb=>?_,fun j o' a' hj hoj haj b hbt=>?_,fun j y' a' hj hyj haj i x hij hx hbt=>?_⟩
       .rcases hle j hj with rfl | hj'
        .rw [ho o' hoj] at he
         exact a1 e he hb
        .exact hF.on j o' hj' hoj e he hb
       .rcases hle j hj with rfl | hj'
        .rw [ho o' hoj]
         rw [haa a' haj] at hbt
         obtain ⟨e,g1,g2,g3⟩:=a2 b hbt
         refine ⟨e,g1,g2,g3.imp_right ?_⟩
         rintro ⟨a',g4,g5⟩
         refine ⟨a',?_,g5⟩
         rw [jr,jl (a1 e g1 g2)]
         exact g4
        .exact hF.anc j o' a' hj' hoj haj b hbt
       .rcases hle j hj with rfl | hj'
        .rw [hy y' hyj]
         rw [haa a' haj] at hbt
         obtain ⟨kk,g1,g2⟩:=yafc hk1 i x (by rw [qn,qe hij]; exact hx) (by simpa using hbt)
         exact ⟨kk,by simpa using g1,fun p hp=>wc _ (g2 p hp)⟩
        .obtain ⟨kk,g1,g2⟩:=hF.pair j y' a' hj' hyj haj i x hij hx hbt
         exact ⟨kk,g1,fun p hp=>wo _ (g2 p hp)⟩
     .cases h
    .cases h
  | [],_ :: _,acc,k,pre,ipre,h1,h2,h3,h4,h=>by simp [yqj] at h
  | _ :: _,[],acc,k,pre,ipre,h1,h2,h3,h4,h=>by simp [yqj] at h
theorem yys:∀ {l:List Iop} {i j:Nat} {o:Iop},(j,o)∈ymk i l->∃ t,j=i + t/\l[t]? = some o
  | [],i,j,o,h=>by simp [ymk] at h
  | x :: r,i,j,o,h=>by
    simp only [ymk,wt,qi] at h
    rcases h with ⟨rfl,rfl⟩ | h
    .exact ⟨0,rfl,rfl⟩
    .obtain ⟨t,h1,h2⟩:=yys h
     exact ⟨t + 1,by omega,h2⟩
theorem yaub:∀ {l:List Iop} {i t:Nat} {o:Iop},l[t]? = some o->(i + t,o)∈ymk i l
  | [],i,t,o,h=>by simp at h
  | x :: r,i,t,o,h=>by
    cases t with
    | zero=>simp at h; subst h; simp [ymk]
    | succ t=>
      simp only [je] at h
      have:=yaub (i:=i + 1) h
      rw [show i + (t + 1) = i + 1 + t by omega]
      simp only [ymk]
      exact ql _ this
theorem yrp:∀ (l:List Iop) (i:Nat),(ymk i l).length=l.length
  | [],i=>rfl
  | x :: r,i=>by simp [ymk,yrp r]
def Up(U:List (Nat × Iop)):Prop:=U.Pairwise fun p q=>p.1 < q.1
theorem yamr:∀ (l:List Iop) (i:Nat),Up (ymk i l)
  | [],i=>by simp [ymk,Up]
  | x :: r,i=>by
    have:=yamr r (i + 1)
    simp only [ymk,Up,List.pairwise_cons] at this ⊢
    refine ⟨fun p hp=>?_,this⟩
    obtain ⟨j,o⟩:=p
    obtain ⟨t,h1,h2⟩:=yys hp
    simp only
    omega
theorem Up.nodup{U:List (Nat × Iop)}(h:Up U):(U.map fun p=>p.1).Nodup:=by
  unfold Up at h
  unfold List.Nodup
  rw [List.pairwise_map]
  exact h.imp fun {a b} hab=>Nat.ne_of_lt hab
theorem yse{P:Program}{all:List Oper}:∀ {l:List Oper} {ios:List Iop},yie P all l=some ios->ios.length=l.length/\∀ (j:Nat) (o:Oper) (y:Iop),l[j]? = some o->ios[j]? = some y->yxd P all o=some y
  | [],ios,h=>by
    simp only [yie,qa] at h
    subst h
    exact ⟨rfl,by simp⟩
  | a :: l,ios,h=>by
    simp only [yie] at h
    split at h
    .rename_i io r h1 h2
     simp only [qa] at h
     subst h
     obtain ⟨g1,g2⟩:=yse h2
     refine ⟨by simp [g1],fun j o y ho hy=>?_⟩
     cases j with
     | zero=>simp at ho hy; subst ho; subst hy; exact h1
     | succ j=>simp at ho hy; exact g2 j o y ho hy
    .cases h
section
variable {P:Program} {c:Cfg} {cl:Callee} {A:Nat->Nat->Prop} {E:Entry} {nt base:Nat}
theorem yarv{cl:Nat->Callee}{fp:Nat->Option yds}:∀ {l:List Iop} {i:Nat} {s sF:St} {fs:List yds},yqk c cl nt base l i s=some (sF,fs)->(∀ t f,fs[t]? = some f->fp (i + t) = some f)->yng c cl nt base fp (ymk i l) s sF
  | [],i,s,sF,fs,h,hf=>by
    simp only [yqk,qa,qi] at h
    exact h.1.symm
  | o :: r,i,s,sF,fs,h,hf=>by
    simp only [yqk] at h
    split at h
    .rename_i f s1 h1 h2
     split at h
     .rename_i sF' l' h3
      simp only [qa,qi] at h
      obtain ⟨rfl,rfl⟩:=h
      refine ⟨s1,f,h2,h1,hf 0 f (by simp),yarv h3 fun t g hg=>?_⟩
      have:=hf (t + 1) g (by simpa using hg)
      rwa [show i + (t + 1) = i + 1 + t by omega] at this
     .cases h
    .cases h
theorem yaex{fs:List yds}:∀ {k:List (Nat × Nat)},yqt base fs k=true->∀ i j,(i,j)∈k->yadq base i j fs[i]? fs[j]? = true
  | [],h,i,j,hm=>by simp at hm
  | (a,b) :: r,h,i,j,hm=>by
    simp only [yqt,qq] at h
    rcases wt.1 hm with e | hm
    .cases e; exact h.1
    .exact yaex h.2 i j hm
theorem ydfj{fp:Nat->Option yds}{k kk:List (Nat × Nat)}{i j:Nat}{x y:Iop}(h:yuc i j x y=some kk)(hk:∀ p∈kk,p∈k)(hp:∀ i j,(i,j)∈k->yadq base i j (fp i) (fp j) = true):ybjc base fp i j x y:=by
  unfold yuc at h
  split at h
  .rename_i hap
   refine ⟨ybbq hap,fun fx fy h1 h2 v1 v2 l1 l2=>?_⟩
   split at h
   .rename_i hq
    simp only [ju,qq] at hq
    rcases hq with hq | hq | ⟨q1,q2⟩
    .rw [v1 hq]
     have:wd x.op=0:=by unfold wd; rw [hq]; rfl
     exact ⟨by simp [ycf],by simp [ycf],fun id _=>by omega,by simp [ycf]⟩
    .rw [v2 hq]
     have:wd y.op=0:=by unfold wd; rw [hq]; rfl
     exact ⟨by simp [ycf],by simp [ycf],by simp [ycf],fun id _=>by omega⟩
    .have e1:wd x.op=0:=by unfold wd; rw [q1]; simp
     have e2:wd y.op=0:=by unfold wd; rw [q2]; simp
     obtain ⟨a1,a2⟩:=l1 q1
     obtain ⟨b1,b2⟩:=l2 q2
     exact ⟨by simp [a1],by simp [b1],fun id _=>by omega,fun id _=>by omega⟩
   .simp only [qa] at h
    subst h
    have:=hp i j (hk _ (by simp))
    rw [h1,h2] at this
    exact ybhp (yadz _) (yadz _) this
  .cases h
theorem ycmv{s u:St}{m n:Nat}{F:Nat->Prop}{a:Act}{w:World}(h:SD A E nt base F m s a w)(he:Eqv u s)(hu:yko u)(hn:m<=n):SR A E nt ⟨u.env,u.loc,u.H,n⟩ a w:=by
  obtain ⟨O,r1,r2,r3,r4,_⟩:=h.ex
  have hwr:∀ b o,Wr O u.H b o->Wr O s.H b o:=by
    rintro b o ⟨id,es,ob,h1,h2,h3⟩
    exact ⟨id,es,ob,by rw [← he.heap]; exact h1,h2,h3⟩
  have hst:ydo w (UU A O s.H) w (UU A O u.H):=ydo.less fun b o hu=>hu.imp_right (hwr b o)
  refine ⟨hu,h.size,h.defers,O,?_,fun t=>?_,⟨r3.ext,r3.cl,ww r3.le hn⟩,?_⟩
  .have r1':=ynx (H':=u.H) r1 fun j o hj=>by rw [← he.heap]; exact hj
   exact
     { ob:=r1'.ob
       inj:=r1'.inj
       ltH:=fun i o hi=>ji (r1'.ltH i o hi) hn
       ltR:=fun i x hi=>ji (r1'.ltR i x hi) hn
       ltA:=r1'.ltA
       apart:=r1'.apart }
  .have h1:=ydw hst _ _ O O (Ext.refl _) (r2 t)
   have h2:(St.mk u.env u.loc u.H n).get t=s.get t:=he.get t
   rw [h2]
   exact h1
  .exact r4.trans (yhj hwr)
theorem ylt{α:Type}{l:List α}{i:Nat}{x:α}(h:l[i]? = some x):i < l.length:=by
  rcases qz i l.length with h' | h'
  .exact h'
  .rw [qm h'] at h; cases h
theorem ycfb{cl:Nat->Callee}(hcl:∀ i,yeb P (cl i)){ops:Array Oper}{ios:List Iop}{an:List Nat}{Q:Exit->Act->World->Prop}(hc:yie P ops.toList ops.toList=some ios){k:List (Nat × Nat)}{fp:Nat->Option yds}(hD:ycbz ops.toList ios k an 0)
    (hk0:∀ i j,(i,j)∈k->yadq base i j (fp i) (fp j) = true) {sT:St} (hsT:yko sT) {N:Nat} (hQ:∀ a w m s F,SD A E nt base F m s a w->m<=N->Eqv sT s->Q .normal a w) :
    ∀ (U:List (Nat × Iop)) (listed:Array Bool) (s sF:St) (m:Nat) (a:Act) (w:World),Up U->(∀ j y,(j,y)∈U↔(ios[j]? = some y/\listed.getD j true=false))->listed.size=ios.length ->
      (∀ j a',listed.getD j true=true->an[j]? = some a'->∀ b,Nat.testBit a' b=true->listed.getD b true=true)->yjg base U s.H->SD A E nt base (fun i=>∃ y,(i,y)∈U) m s a w->m + U.length<=N ->
      yng c cl nt base fp U s sF->Eqv sT sF->wpAny P .any ops Q U.length listed a w:=by
  intro U
  have hlen:=(yse hc).1
  have hcg:=(yse hc).2
  have hosz:ops.toList.length=ops.size:=by simp
  generalize hn:U.length=n
  induction n generalizing U with
  | zero=>
    intro listed s sF m a w hup hU hsz hcl2 hfr hS hm hev hT
    have hU0:U = []:=wg hn
    subst hU0
    simp only [yng] at hev
    subst hev
    refine ⟨?_,hQ a w m _ _ hS (by simp at hm; omega) hT⟩
    rw [List.eq_nil_iff_forall_not_mem]
    intro j hj
    obtain ⟨h1,o,h2,_⟩:=mem_ready.1 hj
    have hjl:j < ios.length:=by
      have:j < ops.size:=(Array.getElem?_eq_some_iff.1 h2).1
      omega
    exact absurd ((hU j ios[j]).2 ⟨qj hjl,h1⟩) (by simp)
  | succ n ih=>
    intro listed s sF m a w hup hU hsz hcl2 hfr hS hm hev hT
    have getF:∀ j,j < listed.size->listed.getD j true=false->listed.getD j false=false:=fun j hj h=>by
      simp [hj] at h ⊢; exact h
    have getT:∀ j,listed.getD j false=true->listed.getD j true=true:=fun j h=>by
      rcases qz j listed.size with hj | hj
      .simp [hj] at h ⊢; exact h
      .simp [Nat.not_lt.2 hj] at h
    have getT':∀ j,j < listed.size->listed.getD j true=true->listed.getD j false=true:=fun j hj h=>by
      simp [hj] at h ⊢; exact h
    refine ⟨fun hr=>?_,fun j hj=>?_⟩
    .exfalso
     cases U with
     | nil=>simp at hn
     | cons p U'=>
       obtain ⟨j,y⟩:=p
       obtain ⟨g1,g2⟩:=(hU j y).1 (by simp)
       have hjl:=ylt g1
       have hjo:ops[j]? = some (ops[j]'(by omega)):=by simp
       have:j∈Region.ready .any ops listed:=by
         refine mem_ready.2 ⟨g2,_,hjo,fun e he hb=>?_⟩
         have hon:=hD.on j (ops[j]'(by omega)) (jb _) (by rw [qu]; exact hjo) e (by simpa using he) hb
         refine getT' _ (by omega) ?_
         cases hlst:listed.getD e.on true with
         | true=>rfl
         | false=>
           have hel:e.on < ios.length:=by omega
           have hmem:=(hU e.on ios[e.on]).2 ⟨qj hel,hlst⟩
           rcases wt.1 hmem with h | h
           .have:=(Prod.mk.inj h).1; omega
           .have:=(List.pairwise_cons.1 hup).1 _ h
            simp only at this
            omega
       rw [hr] at this
       cases this
    .obtain ⟨h1,o,h2,h3⟩:=mem_ready.1 hj
     have hjs:j < ops.size:=(Array.getElem?_eq_some_iff.1 h2).1
     have hjl:j < ios.length:=by omega
     have hyj:ios[j]? = some ios[j]:=qj hjl
     have hmem:=(hU j ios[j]).2 ⟨hyj,h1⟩
     obtain ⟨pre,post,hsplit⟩:=List.append_of_mem hmem
     subst hsplit
     have hjan:j < an.length:=by rw [hD.len]; omega
     have haj:an[j]? = some an[j]:=qj hjan
     have h2':ops.toList[j]? = some o:=by simpa using h2
     have hup':=hup
     rw [Up,List.pairwise_append] at hup'
     obtain ⟨up1,up2,up3⟩:=hup'
     have hpairs:∀ p∈pre,∃ kk,yuc p.1 j p.2 ios[j] = some kk/\∀ q∈kk,q∈k:=by
       intro p hp
       have hpm:=(hU p.1 p.2).1 (wc _ hp)
       have hplt:p.1 < j:=up3 p hp (j,ios[j]) (by simp)
       refine hD.pair j _ _ (jb _) hyj haj p.1 p.2 hplt hpm.1 ?_
       cases hb:Nat.testBit an[j] p.1 with
       | false=>rfl
       | true=>
         exfalso
         obtain ⟨e,e1,e2,e3⟩:=hD.anc j o _ (jb _) h2' haj p.1 hb
         have hon:=h3 e (by simpa using e1) e2
         have hon':=getT _ hon
         rcases e3 with e3 | ⟨a',e4,e5⟩
         .rw [← e3] at hon'
          rw [hon'] at hpm
          cases hpm.2
         .have:=hcl2 e.on a' hon' e4 p.1 e5
          rw [this] at hpm
          cases hpm.2
     obtain ⟨u1,ff,b1,b0,bf,uF,b2,b3⟩:=ybjv hS.disj hfr hup.nodup (fun p hp=>by
       obtain ⟨kk,k1,k2⟩:=hpairs p hp
       exact ydfj k1 k2 hk0) hev
     have hnd:=hup.nodup
     have hne:∀ p∈pre++post,p.1≠j:=by
       intro p hp
       rcases qt.1 hp with h | h
       .have:=up3 p h _ (qv ..)
        simp only at this; omega
       .have:=(List.pairwise_cons.1 up2).1 p h
        simp only at this; omega
     have hsub:∀ p∈pre++post,p∈pre++(j,ios[j]) :: post:=by
       intro p hp
       rcases qt.1 hp with h | h
       .exact wc _ h
       .exact wo _ (ql _ h)
     have hfj:yhv (base + j * 64) (base + j * 64 + wd (ios[j]).op) s.H:=hfr (j,ios[j]) hmem
     have hstep:=yclk (F':=fun i=>∃ y,(i,y)∈pre++post) (Q:=Q) (K:=wpAny P .any ops Q n (listed.setIfInBounds j true)) (hcl j) hS (⟨_,hmem⟩:∃ y,(j,y)∈pre++(j,ios[j]) :: post) hfj (hcg j o _ h2' hyj) b1 b0
       (fun i ⟨y,hy⟩=>⟨⟨y,hsub _ hy⟩,hne _ hy⟩) (fun a' w' hs'=>by
         have hln:(pre++post).length=n:=by
           simp only [wk,ws] at hn ⊢
           omega
         have hgd:∀ i,(listed.setIfInBounds j true).getD i true=false↔(listed.getD i true=false/\i≠j):=by
           intro i
           by_cases hij:j=i
           .subst hij
            have:j < listed.size:=by omega
            simp [this]
           .rw [getD_set_ne true hij]
            exact ⟨fun h=>⟨h,fun e=>hij e.symm⟩,fun h=>h.1⟩
         refine ih (pre++post) hln (listed.setIfInBounds j true) u1 uF (m + 1) a' w' ?_ ?_ ?_ ?_ ?_ hs' ?_ b2 (hT.trans b3)
         .refine hup.sublist ?_
          exact List.Sublist.append_left (List.sublist_cons_self _ _) _
         .intro i y
          rw [hgd]
          constructor
          .intro hm
           obtain ⟨q1,q2⟩:=(hU i y).1 (hsub _ hm)
           exact ⟨q1,q2,hne _ hm⟩
          .rintro ⟨q1,q2,q3⟩
           have:=(hU i y).2 ⟨q1,q2⟩
           rcases qt.1 this with h | h
           .exact wc _ h
           .rcases wt.1 h with h | h
            .exact absurd (Prod.mk.inj h).1 q3
            .exact wo _ h
         .simpa using hsz
         .intro i a' hi ha' b hb
          have hmono:∀ i,listed.getD i true=true->(listed.setIfInBounds j true).getD i true=true:=by
            intro i hi
            cases hh:(listed.setIfInBounds j true).getD i true with
            | true=>rfl
            | false=>rw [((hgd i).1 hh).1] at hi; cases hi
          by_cases hij:i=j
          .subst hij
           rw [haj] at ha'
           obtain rfl:=qd ha'
           obtain ⟨e,e1,e2,e3⟩:=hD.anc i o _ (jb _) h2' haj b hb
           have hon':=getT _ (h3 e (by simpa using e1) e2)
           rcases e3 with e3 | ⟨a',e4,e5⟩
           .rw [e3]; exact hmono _ hon'
           .exact hmono _ (hcl2 e.on a' hon' e4 b e5)
          .rw [getD_set_ne true (fun e=>hij e.symm)] at hi
           exact hmono _ (hcl2 i a' hi ha' b hb)
         .obtain ⟨v0,g0,n0,hst⟩:=step hS.disj b1 b0 hfj
          exact yjg.next hst (fun p hp=>hfr p (hsub p hp)) (fun p hp=>hne p hp)
         .omega)
     unfold wpOp
     simp only [h2]
     split
     .rename_i hw
      rw [qe hw] at hstep
      exact .inl hstep
     .rename_i hw
      rw [qc hw] at hstep
      exact hstep
theorem yaya(hP:c.P.follows .mixedOrders=true){cl:Nat->Callee}(hcl:∀ i,yeb c.P (cl i)){nt:Nat}{A:Nat->Nat->Prop}{E:Entry}{id:Nat}{ops:Array Oper}{ios:List Iop}{k:List (Nat × Nat)}{s s':St}{a:Act}{w:World}{Q:Exit->Act->World->Prop}
    (hc:yie c.P ops.toList ops.toList=some ios) (hk:yqj ios ops.toList ios [] = some k) (hS:SR A E nt s a w) (h:yvw c cl nt k ios s=some s') (hQ:∀ a' w',SR A E nt s' a' w'->Q .normal a' w'):(Code.region id ops true).wp c.P Q a w:=by
  obtain ⟨an,hD⟩:=yaej (ops:=ops.toList) (ios:=ios) (pre:=[]) (ipre:=[]) rfl rfl rfl rfl hk
  simp only [List.nil_append,List.length_nil] at hD
  unfold yvw at h
  cases hev:yqk c cl nt s.nx ios 0 s with
  | none=>rw [hev] at h; cases h
  | some pr=>
    obtain ⟨sF,fs⟩:=pr
    rw [hev] at h
    simp only at h
    split at h
    .rename_i hst
     simp only [qa] at h
     subst h
     have hrun:=yarv (fp:=fun i=>fs[i]?) hev (fun t f ht=>by simpa using ht)
     have hlen:=(yse hc).1
     have hosz:ops.toList.length=ops.size:=by simp
     have hfr0:yjg s.nx (ymk 0 ios) s.H:=by
       obtain ⟨O,r1,_⟩:=hS.ex
       intro p hp k0 h1 h2
       cases hh:lk s.H k0 with
       | none=>rfl
       | some o=>have:=r1.ltH _ o hh; omega
     have hnd:((ymk 0 ios).map (fun p=>p.1)).Nodup:=(yamr ios 0).nodup
     have hdF:=yng.disj hS.disj hfr0 hnd hrun
     refine wp_region_any hP ?_
     have hfuel:ops.size=(ymk 0 ios).length:=by rw [yrp]; omega
     rw [hfuel]
     obtain ⟨O,r1,r2,r3,r4⟩:=hS.ex
     have hsm:=yjs.drawn w (w.drawn + 1)
     have hfree:∀ j,s.nx<=j->O j=none:=fun j hj=>by
       cases hh:O j with
       | none=>rfl
       | some x=>have:=r1.ltR _ x hh; omega
     refine ycfb (A:=A) (E:=E) (base:=s.nx) (fp:=fun i=>fs[i]?) (sT:=sF) (N:=s.nx + 65 * ios.length) hcl hc hD (yaex hst) hdF (fun a' w' m' s1 F hs1 hm he=>?_) (ymk 0 ios) _ s sF (s.nx + 64 * ios.length) a _ (yamr _ _) ?_ ?_ ?_ hfr0 ?_ ?_ hrun ⟨fun _=>rfl,fun _=>rfl,hdF⟩
     .exact hQ a' w' (ycmv hs1 he hdF hm)
     .intro j y
      constructor
      .intro hm
       obtain ⟨t,h1,h2⟩:=yys hm
       have:j=t:=by omega
       subst this
       have hj:=ylt h2
       refine ⟨h2,?_⟩
       have:j < (ymk 0 ios).length:=by rw [yrp]; exact hj
       simp [this]
      .rintro ⟨h1,_⟩
       have:=yaub (i:=0) h1
       simpa using this
     .simp [yrp]
     .intro j a' hj ha' b hb
      exfalso
      have:j < (ymk 0 ios).length:=by
        rw [yrp,hlen,← hD.len]
        exact ylt ha'
      simp [this] at hj
     .refine ⟨hS.disj,hS.size,hS.defers,r3.le,?_,O,?_,fun t=>ydw (hsm.stay _) _ _ _ _ (Ext.refl _) (r2 t),⟨r3.ext,r3.cl,ww r3.le (kc _ _)⟩,r4.trans (hsm.fr O s.H),fun i _ t ht _=>hfree t (by omega)⟩
      .rintro i ⟨y,hy⟩
       obtain ⟨t,h1,h2⟩:=yys hy
       have:=ylt h2
       omega
      .exact yaqi (hsm.rep r1) (kc _ _)
     .rw [yrp]; omega
    .cases h
theorem ycov(hP:c.P.follows .mixedOrders=true):yaqd c yccd:=by
  intro cl hcl nt A E id ops ios k s s' a w Q hc hk hS h hQ
  exact yaya hP (fun _=>hcl) hc hk hS h hQ
end
end Go.Proofs.Ytgoachcogmlhcaa.R
