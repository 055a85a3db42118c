/- Regions that draw their order: what an operation touches, and that it does the same elsewhere. -/
import Derived.Test.YtgoachcogmlhcaaGreatRMain
set_option linter.unusedVariables false
set_option linter.unusedSectionVars false
set_option linter.unusedSimpArgs false
noncomputable section
namespace Go.Proofs.YtgoachcogmlhcaaGreat.R
open Go
section
variable {c:Cfg} {cl:Callee} {s s' s1:St} {v:AV}
theorem ylo:∀ {l:List Opd},(∀ x∈l,s'.ev x=s.ev x)→s'.evs l=s.evs l
  | [],_=>rfl
  | x :: r,h=>by
    simp only [St.evs]
    rw [h x (by simp),ylo fun y hy=>h y (by simp [hy])]
theorem yrx:∀ {l:List (Nat × Opd)},(∀ x∈l.map (fun p=>p.2),s'.ev x=s.ev x)→s'.evp l=s.evp l
  | [],_=>rfl
  | (i,x) :: r,h=>by
    simp only [St.evp]
    rw [h x (by simp),yrx fun y hy=>h y (by rw [List.map_cons]; exact List.mem_cons_of_mem _ hy)]
theorem yaim:∀ {l:List (Nat × Nat × Opd)},(∀ x∈l.map (fun p=>p.2.2),s'.ev x=s.ev x)→s'.evq l=s.evq l
  | [],_=>rfl
  | (i,j,x) :: r,h=>by
    simp only [St.evq]
    rw [h x (by simp),yaim fun y hy=>h y (by rw [List.map_cons]; exact List.mem_cons_of_mem _ hy)]
theorem yot{x:Option Opd}(h:∀ y∈x.toList,s'.ev y=s.ev y):s'.evo x=s.evo x:=by
  cases x with
  | none=>rfl
  | some y=>simp only [St.evo]; rw [h y (by simp)]
theorem yafe{ip:IP}(hp:yfx ip=true)(h:ybe c cl s ip=some (v,s1))(he:∀ x∈ycg ip,s'.ev x=s.ev x):s1=s∧ybe c cl s' ip=some (v,s'):=by
  cases ip
  case mv x=>
    simp only [ybe,Option.some.injEq,Prod.mk.injEq] at h
    obtain ⟨rfl,rfl⟩:=h
    exact ⟨rfl,by simp only [ybe]; rw [he x (by simp [ycg])]⟩
  case mkf f pre post=>
    simp only [ybe,Option.some.injEq,Prod.mk.injEq] at h
    obtain ⟨rfl,rfl⟩:=h
    refine ⟨rfl,?_⟩
    simp only [ybe]
    rw [ylo fun x hx=>he x (by simp only [ycg]; exact List.mem_append_left _ hx),ylo fun x hx=>he x (by simp only [ycg]; exact List.mem_append_right _ hx)]
  case build z ps=>
    obtain ⟨hg,rfl⟩:=yhb h
    refine ⟨rfl,?_⟩
    simp only [ybe]
    rw [yaim (by simpa [ycg] using he),hg]
    rfl
  case sls x lo hi=>
    obtain ⟨hg,rfl⟩:=yhb h
    refine ⟨rfl,?_⟩
    simp only [ybe]
    rw [he x (by simp [ycg]),yot fun y hy=>he y (by simp only [ycg]; exact List.mem_cons_of_mem _ (List.mem_append_left _ hy)),yot fun y hy=>he y (by simp only [ycg]; exact List.mem_cons_of_mem _ (List.mem_append_right _ hy)),hg]
    rfl
  case sll size x lo hi mx=>
    obtain ⟨hg,rfl⟩:=yhb h
    refine ⟨rfl,?_⟩
    simp only [ybe]
    rw [he x (by simp [ycg]),yot fun y hy=>he y (by simp only [ycg]; exact List.mem_cons_of_mem _ (List.mem_append_left _ hy)),yot fun y hy=>he y (by simp only [ycg]; exact List.mem_cons_of_mem _ (List.mem_append_right _ (List.mem_append_left _ hy))),yot fun y hy=>he y (by simp only [ycg]; exact List.mem_cons_of_mem _ (List.mem_append_right _ (List.mem_append_right _ hy))),hg]
    rfl
  case ld=>simp [yfx] at hp
  case call=>simp [yfx] at hp
  case bsl=>simp [yfx] at hp
  case alloc=>simp [yfx] at hp
  case st=>simp [yfx] at hp
  case app=>simp [yfx] at hp
  case box=>simp [yfx] at hp
  case mks=>simp [yfx] at hp
  case s2b=>simp [yfx] at hp
  case b2s=>simp [yfx] at hp
  case cpy=>simp [yfx] at hp
  case cln=>simp [yfx] at hp
  case callv=>simp [yfx] at hp
  all_goals
    obtain ⟨hg,rfl⟩:=yhb h
    refine ⟨rfl,?_⟩
    simp only [ycg,List.mem_cons,List.not_mem_nil,or_false,forall_eq_or_imp,forall_eq] at he
    simp only [ybe,he,hg]
    rfl
def yzv:Ob→Ob
  | .arr es rows _=>.arr es rows 0
  | o=>o
def LEq(a b:Option Ob):Prop:=a.map yzv=b.map yzv
theorem LEq.refl(a:Option Ob):LEq a a:=rfl
theorem LEq.of{a b:Option Ob}(h:a=b):LEq a b:=by rw [h]; exact LEq.refl _
theorem LEq.trans{a b d:Option Ob}(h:LEq a b)(h':LEq b d):LEq a d:=Eq.trans h h'
theorem LEq.symm{a b:Option Ob}(h:LEq a b):LEq b a:=Eq.symm h
theorem ybgc(n:Nat)(o:Ob):yzv (ycu n o) = yzv o:=by cases o <;> rfl
theorem LEq.leak(a:Option Ob)(n:Nat):LEq (a.map (ycu n)) a:=by
  cases a with
  | none=>rfl
  | some o=>simp [LEq,ybgc]
def ydx(H:yq)(id:Nat):Option (List (List AV)):=match lk H id with | some (.arr _ rows _)=>some rows | _=>none
theorem LEq.rows{H H':yq}{id:Nat}(h:LEq (lk H' id) (lk H id)):ydx H' id=ydx H id:=by
  unfold LEq at h
  unfold ydx
  cases h1:lk H' id with
  | none=>
    rw [h1] at h
    cases h2:lk H id with
    | none=>rfl
    | some o=>rw [h2] at h; cases h
  | some o'=>
    rw [h1] at h
    cases h2:lk H id with
    | none=>rw [h2] at h; cases h
    | some o=>
      rw [h2] at h
      cases o <;> cases o' <;> simp [yzv] at h ⊢
      exact h.2
theorem ybyv{a:Bool}{size:Nat}{H H':yq}{p:AV}(h:∀ id∈idL p,LEq (lk H' id) (lk H id)):yhd a size H' p=yhd a size H p:=by
  unfold yhd
  cases p <;> simp only
  case ptr id off=>
    have:=h id (by simp [idL])
    unfold LEq at this
    cases h1:lk H' id with
    | none=>
      rw [h1] at this
      cases h2:lk H id with
      | none=>rfl
      | some o=>rw [h2] at this; cases this
    | some o'=>
      rw [h1] at this
      cases h2:lk H id with
      | none=>rw [h2] at this; cases this
      | some o=>
        rw [h2] at this
        cases o <;> cases o' <;> simp [yzv] at this ⊢
        rw [this]
  case eptr id i f=>
    have:=(h id (by simp [idL])).rows
    unfold ydx at this
    cases h1:lk H' id with
    | none=>
      rw [h1] at this
      cases h2:lk H id with
      | none=>rfl
      | some o=>rw [h2] at this; cases o <;> simp at this ⊢
    | some o'=>
      rw [h1] at this
      cases h2:lk H id with
      | none=>rw [h2] at this; cases o' <;> simp at this ⊢
      | some o=>
        rw [h2] at this
        cases o <;> cases o' <;> simp at this ⊢
        rw [this]
theorem yauh(H:yq)(es id off len:Nat)(ex:Bool):frz H (.own es id off len ex) = match ydx H id with | some rows=>if off + len≤rows.length then yca ((rows.drop off).take len) else .bad | none=>.bad:=by
  simp only [frz,ydx]
  cases lk H id with
  | none=>rfl
  | some o=>cases o <;> rfl
mutual
theorem yagq{H H':yq}:∀ (v:AV),(∀ id∈ybf v,ydx H' id=ydx H id)→frz H' v=frz H v
  | .own es id off len ex,h=>by rw [yauh,yauh,h id (by simp [ybf])]
  | .agg cs,h=>by simp only [frz]; rw [yuk cs (by simpa [ybf] using h)]
  | .tup cs,h=>by simp only [frz]; rw [yuk cs (by simpa [ybf] using h)]
  | .bad,_=>rfl
  | .un,_=>rfl
  | .bool _,_=>rfl
  | .int _ _,_=>rfl
  | .str _,_=>rfl
  | .nil,_=>rfl
  | .oth _,_=>rfl
  | .imm _ _ _,_=>rfl
  | .ptr _ _,_=>rfl
  | .eptr _ _ _,_=>rfl
  | .iptr _ _,_=>rfl
  | .fn _ _ _,_=>rfl
theorem yuk{H H':yq}:∀ (vs:List AV),(∀ id∈yeh vs,ydx H' id=ydx H id)→yef H' vs=yef H vs
  | [],_=>rfl
  | v :: r,h=>by
    simp only [yef]
    rw [yagq v fun id hid=>h id (by simp [yeh,hid]),yuk r fun id hid=>h id (by simp [yeh,hid])]
end
theorem yabp(n m:Nat)(o:Option Ob):(o.map (ycu n)).map (ycu m) = o.map (ycu (max n m)):=by
  cases o with
  | none=>rfl
  | some o=>simp [yox]
theorem yij(o:Option Ob):o.map (ycu 0) = o:=by cases o <;> simp [yji]
def yfj(l:List Nat)(g:Nat→Nat)(F:yq→yq):Prop:=(∀ k,k∉l→g k=0)∧∀ (H:yq) (k:Nat),lk (F H) k=(lk H k).map (ycu (g k))
theorem yfj.none:yfj [] (fun _=>0) (fun H=>H):=⟨fun _ _=>rfl,fun H k=>(yij _).symm⟩
theorem yfj.comp{l1 l2:List Nat}{g1 g2:Nat→Nat}{F1 F2:yq→yq}(h1:yfj l1 g1 F1)(h2:yfj l2 g2 F2):yfj (l1++l2) (fun k=>max (g1 k) (g2 k)) (fun H=>F2 (F1 H)):=by
  refine ⟨fun k hk=>?_,fun H k=>?_⟩
  ·rw [List.mem_append,not_or] at hk
   simp [h1.1 k hk.1,h2.1 k hk.2]
  ·rw [h2.2,h1.2,yabp]
mutual
theorem ysb:∀ (v:AV),∃ g,yfj (ybf v) g (fun H=>ybm H v)
  | .own es id off len ex=>by
    refine ⟨fun k=>if k=id then off + len else 0,fun k hk=>?_,fun H k=>?_⟩
    ·simp only [ybf,List.mem_singleton] at hk
     simp [hk]
    ·simp only [ybm,you]
     cases lk H k with
     | none=>rfl
     | some o=>
       by_cases hk:k=id
       ·simp [hk]
       ·simp [hk,yji]
  | .agg cs=>by
    obtain ⟨g,h⟩:=ypl cs
    exact ⟨g,by simpa only [ybf,ybm] using h⟩
  | .tup cs=>by
    obtain ⟨g,h⟩:=ypl cs
    exact ⟨g,by simpa only [ybf,ybm] using h⟩
  | .bad=>⟨_,by simpa only [ybf,ybm] using yfj.none⟩
  | .un=>⟨_,by simpa only [ybf,ybm] using yfj.none⟩
  | .bool _=>⟨_,by simpa only [ybf,ybm] using yfj.none⟩
  | .int _ _=>⟨_,by simpa only [ybf,ybm] using yfj.none⟩
  | .str _=>⟨_,by simpa only [ybf,ybm] using yfj.none⟩
  | .nil=>⟨_,by simpa only [ybf,ybm] using yfj.none⟩
  | .oth _=>⟨_,by simpa only [ybf,ybm] using yfj.none⟩
  | .imm _ _ _=>⟨_,by simpa only [ybf,ybm] using yfj.none⟩
  | .ptr _ _=>⟨_,by simpa only [ybf,ybm] using yfj.none⟩
  | .eptr _ _ _=>⟨_,by simpa only [ybf,ybm] using yfj.none⟩
  | .iptr _ _=>⟨_,by simpa only [ybf,ybm] using yfj.none⟩
  | .fn _ _ _=>⟨_,by simpa only [ybf,ybm] using yfj.none⟩
theorem ypl:∀ (vs:List AV),∃ g,yfj (yeh vs) g (fun H=>yei H vs)
  | []=>⟨_,by simpa only [yeh,yei] using yfj.none⟩
  | v :: r=>by
    obtain ⟨g1,h1⟩:=ysb v
    obtain ⟨g2,h2⟩:=ypl r
    exact ⟨_,by simpa only [yeh,yei] using h1.comp h2⟩
end
theorem ysm:∀ (ps:List (Nat × AV)),∃ g,yfj (yeh (yeq ps)) g (fun H=>yec H ps)
  | []=>⟨_,by simpa only [yeh,yeq,yec] using yfj.none⟩
  | (i,v) :: r=>by
    obtain ⟨g1,h1⟩:=ysb v
    obtain ⟨g2,h2⟩:=ysm r
    exact ⟨_,by simpa only [yeh,yeq,yec] using h1.comp h2⟩
theorem ywp{H H':yq}{es:Nat}:∀ {ps:List (Nat × AV)} {rows:List (List AV)},(∀ id∈yeh (yeq ps),ydx H' id=ydx H id)→yee es H' rows ps=yee es H rows ps
  | [],rows,_=>rfl
  | (i,v) :: r,rows,h=>by
    simp only [yee]
    rw [yagq v fun id hid=>h id (by simp [yeq,yeh,hid])]
    cases cellsOf (frz H v) with
    | none=>rfl
    | some vs=>
      simp only
      split
      ·exact ywp fun id hid=>h id (by simp [yeq,yeh,hid])
      ·rfl
theorem yvr{H H':yq}{es:Nat}(v:AV)(h:∀ id∈ybf v,ydx H' id=ydx H id):ydt es H' v=ydt es H v:=by
  cases v
  case own es' id off len ex=>
    have:=h id (by simp [ybf])
    unfold ydx at this
    simp only [ydt]
    split
    ·cases ha:lk H' id with
     | none=>
       rw [ha] at this
       cases hb:lk H id with
       | none=>rfl
       | some o=>cases o <;> rw [hb] at this <;> first | rfl | cases this
     | some o=>
       rw [ha] at this
       cases hb:lk H id with
       | none=>cases o <;> rw [hb] at this <;> first | rfl | cases this
       | some o'=>cases o <;> cases o' <;> rw [hb] at this <;> first | rfl | (simp only [Option.some.injEq] at this; subst this; rfl) | cases this
    ·rfl
  all_goals rfl
theorem ysu{H H':yq}{es:Nat}(v:AV)(h:∀ id∈ybf v,ydx H' id=ydx H id):yci es H' v=yci es H v:=by
  unfold yci
  split
  ·rfl
  ·exact yvr v h
theorem ygs{H:yq}:∀ {n:Nat} {todo:List AV} {acc l:List Nat},yba H n todo acc=some l→yaw H n todo acc=l
  | 0,_,_,_,h=>by simp [yba] at h
  | n + 1,[],acc,l,h=>by simpa [yba,yaw] using h
  | n + 1,v :: todo,acc,l,h=>by
    cases v <;> simp only [yba,yaw] at h ⊢
    case own es id off len ex=>
      split at h
      ·rename_i hid; rw [if_pos hid]; exact ygs h
      ·rename_i hid
       rw [if_neg hid]
       split at h
       ·exact ygs h
       ·cases h
    case eptr id i f=>
      split at h
      ·rename_i hid; rw [if_pos hid]; exact ygs h
      ·rename_i hid
       rw [if_neg hid]
       split at h
       ·exact ygs h
       ·cases h
    case ptr id off=>
      split at h
      ·rename_i hid; rw [if_pos hid]; exact ygs h
      ·rename_i hid
       rw [if_neg hid]
       split at h
       ·exact ygs h
       ·exact ygs h
       ·cases h
    all_goals exact ygs h
theorem yez{H:yq}:∀ {n:Nat} {todo:List AV} {acc l:List Nat},yba H n todo acc=some l→∀ id∈acc,id∈l
  | 0,_,_,_,h=>by simp [yba] at h
  | n + 1,[],acc,l,h=>by simp only [yba,Option.some.injEq] at h; subst h; exact fun _ h=>h
  | n + 1,v :: todo,acc,l,h=>by
    intro id hid
    cases v <;> simp only [yba] at h
    case own es i off len ex=>
      split at h
      ·exact yez h id hid
      ·split at h
       ·exact yez h id (by simp [hid])
       ·cases h
    case eptr i _ f=>
      split at h
      ·exact yez h id hid
      ·split at h
       ·exact yez h id (by simp [hid])
       ·cases h
    case ptr i off=>
      split at h
      ·exact yez h id hid
      ·split at h
       ·exact yez h id (by simp [hid])
       ·exact yez h id (by simp [hid])
       ·cases h
    all_goals exact yez h id hid
theorem yfg{H H':yq}:∀ {n:Nat} {todo:List AV} {acc l:List Nat},yba H n todo acc=some l→(∀ id∈l,lk H' id=lk H id)→yba H' n todo acc=some l
  | 0,_,_,_,h,_=>by simp [yba] at h
  | n + 1,[],acc,l,h,_=>by simpa [yba] using h
  | n + 1,v :: todo,acc,l,h,he=>by
    cases v <;> simp only [yba] at h ⊢
    case own es id off len ex=>
      split at h
      ·rename_i hid; rw [if_pos hid]; exact yfg h he
      ·rename_i hid
       rw [if_neg hid]
       split at h
       ·rename_i o ho
        rw [he id (yez h id (by simp)),ho]
        exact yfg h he
       ·cases h
    case eptr id i f=>
      split at h
      ·rename_i hid; rw [if_pos hid]; exact yfg h he
      ·rename_i hid
       rw [if_neg hid]
       split at h
       ·rename_i o ho
        rw [he id (yez h id (by simp)),ho]
        exact yfg h he
       ·cases h
    case ptr id off=>
      split at h
      ·rename_i hid; rw [if_pos hid]; exact yfg h he
      ·rename_i hid
       rw [if_neg hid]
       split at h
       ·rename_i cells ho
        rw [he id (yez h id (by simp)),ho]
        exact yfg h he
       ·rename_i o hne ho
        rw [he id (yez h id (by simp)),ho]
        cases o with
        | box cells=>exact absurd rfl (hne cells)
        | arr es rows leak=>exact yfg h he
       ·cases h
    all_goals exact yfg h he
theorem yzt{f:Nat→Option Nat}(hf:Inj f):∀ (H:yq) {id j:Nat},f id=some j→lk (ycd f H) j=(lk H id).map (yoi f)
  | [],id,j,h=>by simp [ycd]
  | (i,o) :: r,id,j,h=>by
    simp only [ycd]
    cases hi:f i with
    | none=>
      simp only
      have:i≠id:=fun e=>by subst e; rw [h] at hi; cases hi
      rw [ybo,if_neg this]
      exact yzt hf r h
    | some k=>
      simp only [ybo]
      by_cases hk:i=id
      ·subst hk
       rw [h] at hi
       obtain rfl:=Option.some.inj hi
       simp
      ·have:¬ k=j:=fun e=>by subst e; exact hk (hf _ _ _ hi h)
       rw [if_neg this,if_neg hk]
       exact yzt hf r h
theorem yahr{f:Nat→Option Nat}:∀ (H:yq) {j:Nat},(∀ id,f id≠some j)→lk (ycd f H) j=none
  | [],j,h=>by simp [ycd]
  | (i,o) :: r,j,h=>by
    simp only [ycd]
    cases hi:f i with
    | none=>exact yahr r h
    | some k=>
      simp only [ybo]
      have:¬ k=j:=fun e=>by subst e; exact h i hi
      rw [if_neg this]
      exact yahr r h
theorem yaie{H H':yq}:∀ {n:Nat},(∀ t,t < n→lk H' t=lk H t)→yff H' n=yff H n
  | 0,_=>rfl
  | n + 1,h=>by
    simp only [yff]
    rw [h n (by omega),yaie fun t ht=>h t (by omega)]
theorem ybqp{H H':yq}{l:List Nat}(hl:l.Nodup)(h:∀ id∈l,lk H' id=lk H id):yff (ycd (pos l) H') l.length=yff (ycd (pos l) H) l.length:=by
  refine yaie fun t ht=>?_
  have hi:Inj (pos l):=fun i i' j h h'=>yahp h h'
  have hp:pos l l[t] = some t:=ypt hl (List.getElem?_eq_getElem ht)
  rw [yzt hi H' hp,yzt hi H hp,h _ (List.getElem_mem ht)]
theorem yoy:∀ (l:List Nat) (H:yq) (k:Nat),lk (ydd H l) k=if k∈l then none else lk H k
  | [],H,k=>by simp [ydd]
  | i :: r,H,k=>by
    simp only [ydd]
    rw [yoy r,ygn]
    by_cases h1:k∈r
    ·simp [h1]
    ·by_cases h2:k=i
     ·simp [h2]
     ·simp [h1,h2]
theorem yxa{α:Type}:∀ (l l':List (Nat × α)) (t:Nat),lk (l++l') t=match lk l t with | some x=>some x | none=>lk l' t
  | [],l',t=>by simp
  | (k,x) :: r,l',t=>by
    rw [List.cons_append,ybo,ybo]
    by_cases h:k=t
    ·simp [h]
    ·rw [if_neg h,if_neg h]
     exact yxa r l' t
end
end Go.Proofs.YtgoachcogmlhcaaGreat.R
