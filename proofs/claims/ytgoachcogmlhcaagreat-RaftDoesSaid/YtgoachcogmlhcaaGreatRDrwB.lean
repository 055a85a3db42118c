/- Regions that draw their order: each operation does elsewhere what it does here, where it touches the same. -/
import Derived.Test.YtgoachcogmlhcaaGreatRDrwA
set_option linter.unusedVariables false
set_option linter.unusedSectionVars false
set_option linter.unusedSimpArgs false
noncomputable section
namespace Go.Proofs.YtgoachcogmlhcaaGreat.R
open Go
structure ydz (f:ycs) (H H':yq):Prop where
  w:∀ id∈f.w,lk H' id=lk H id
  r:∀ id∈f.r,LEq (lk H' id) (lk H id)
  l:∀ id∈f.l,LEq (lk H' id) (lk H id)
def yfi(q n:Nat)(H:yq):Prop:=∀ k,q≤k→k < n→lk H k=none
def Eff(f:ycs)(g:Nat→Nat)(q n:Nat)(H1 H H':yq):Prop:=
  ∀ k,lk H' k=if k∈f.w∨(q≤k∧k < n) then lk H1 k else (lk H k).map (ycu (g k))
structure Loc (c:Cfg) (cl:Callee) (ip:IP) (s:St) (v:AV) (s1:St) (f:ycs) (g:Nat→Nat):Prop where
  env:s1.env=s.env
  loc:s1.loc=s.loc
  nx:s.nx≤s1.nx
  g0:∀ k,k∉f.l→g k=0
  eff:Eff f g s.nx s1.nx s1.H s.H s1.H
  same:∀ s',(∀ x∈ycg ip,s'.ev x=s.ev x)→s'.nx=s.nx→ydz f s.H s'.H→yfi s.nx s1.nx s'.H→ybr c s' ip=some f∧∃ s1',ybe c cl s' ip=some (v,s1')∧s1'.env=s'.env∧s1'.loc=s'.loc∧s1'.nx=s1.nx∧Eff f g s.nx s1.nx s1.H s'.H s1'.H
def g0:Nat→Nat:=fun _=>0
section
variable {c:Cfg} {cl:Callee} {s s' s1:St} {v:AV} {f:ycs}
theorem Eff.same{q:Nat}{H H':yq}(hw:∀ id∈f.w,lk H' id=lk H id):Eff f g0 q q H H' H':=by
  intro k
  split
  ·rename_i h
   rcases h with h | h
   ·exact hw k h
   ·omega
  ·exact (yij _).symm
theorem Eff.add{ob:Ob}(hn:s'.nx=s.nx)(hw:∀ id∈f.w,lk s'.H id=lk s.H id):Eff f g0 s.nx (s.nx + 1) (s.add ob).H s'.H (s'.add ob).H:=by
  intro k
  simp only [St.add,ybo,hn]
  by_cases hk:s.nx=k
  ·subst hk; simp
  ·rw [if_neg hk,if_neg hk]
   split
   ·rename_i h
    rcases h with h | h
    ·exact hw k h
    ·omega
   ·exact (yij _).symm
theorem yuu{ip:IP}{r l:List Nat}(hf:ybr c s ip=some ⟨r,l,[]⟩)(h:ybe c cl s ip=some (v,s))(hs:∀ s',(∀ x∈ycg ip,s'.ev x=s.ev x)→ydz ⟨r,l,[]⟩ s.H s'.H→ybr c s' ip=some ⟨r,l,[]⟩∧ybe c cl s' ip=some (v,s')):Loc c cl ip s v s ⟨r,l,[]⟩ g0:=
  ⟨rfl,rfl,Nat.le_refl _,fun _ _=>rfl,Eff.same (by simp),fun s' he hn ha _=>⟨(hs s' he ha).1,s',(hs s' he ha).2,rfl,rfl,hn,by rw [← hn]; exact Eff.same (by simp)⟩⟩
theorem yqg{ip:IP}{ob:Ob}(hf:ybr c s ip=some f)(hs:∀ s',(∀ x∈ycg ip,s'.ev x=s.ev x)→s'.nx=s.nx→ydz f s.H s'.H→ybr c s' ip=some f∧ybe c cl s' ip=some (v,s'.add ob)):Loc c cl ip s v (s.add ob) f g0:=
  ⟨rfl,rfl,Nat.le_succ _,fun _ _=>rfl,Eff.add rfl (fun _ _=>rfl),fun s' he hn ha _=>⟨(hs s' he hn ha).1,s'.add ob,(hs s' he hn ha).2,rfl,rfl,by simp [St.add,hn],Eff.add hn ha.w⟩⟩
theorem yuz{es:Nat}{rows:List (List AV)}(h:yck s es rows=some (v,s1)):rows.length≤yks∧v = .own es s.nx 0 rows.length false∧s1=s.add (.arr es rows 0):=by
  unfold yck at h
  split at h
  ·rename_i hl
   simp only [Option.some.injEq,Prod.mk.injEq] at h
   exact ⟨hl,h.1.symm,h.2.symm⟩
  ·cases h
theorem yaix{es:Nat}{rows:List (List AV)}(hl:rows.length≤yks)(hn:s'.nx=s.nx):yck s' es rows=some (.own es s.nx 0 rows.length false,s'.add (.arr es rows 0)):=by
  unfold yck
  rw [if_pos hl,hn]
theorem ydz.rr(h:ydz f s.H s'.H):∀ id∈f.r,ydx s'.H id=ydx s.H id:=fun id hid=>(h.r id hid).rows
theorem ydz.rl(h:ydz f s.H s'.H):∀ id∈f.l,ydx s'.H id=ydx s.H id:=fun id hid=>(h.l id hid).rows
theorem ydz.rw(h:ydz f s.H s'.H):∀ id∈f.w,ydx s'.H id=ydx s.H id:=fun id hid=>by unfold ydx; rw [h.w id hid]
theorem yuj{ip:IP}(hp:yfx ip=true):ybr c s ip=some ybv:=by
  cases ip <;> simp [yfx] at hp <;> rfl
theorem ycma{es:Nat}{x y:Opd}(h:yfy es s (s.ev x) (s.ev y) = some (v,s1)):∃ g,Loc c cl (.app es x y) s v s1 ⟨ybf (s.ev y),[],ybf (s.ev x)⟩ g:=by
  have hfoot:∀ s':St,(∀ z∈ycg (.app es x y),s'.ev z=s.ev z)→ybr c s' (.app es x y) = some ⟨ybf (s.ev y),[],ybf (s.ev x)⟩:=fun s' he=>by
    simp only [ybr,he x (by simp [ycg]),he y (by simp [ycg])]
  have h0:=h
  unfold yfy at h
  split at h
  ·rename_i new hnew
   have hsrc:∀ s':St,ydz ⟨ybf (s.ev y),[],ybf (s.ev x)⟩ s.H s'.H→yci es s'.H (s.ev y) = some new:=fun s' ha=>by rw [ysu _ ha.rr,hnew]
   have wrap:∀ rows,yck s es rows=some (v,s1)→(∀ s':St,ydz ⟨ybf (s.ev y),[],ybf (s.ev x)⟩ s.H s'.H→yfy es s' (s.ev x) (s.ev y) = yck s' es rows)→∃ g,Loc c cl (.app es x y) s v s1 ⟨ybf (s.ev y),[],ybf (s.ev x)⟩ g:=by
     intro rows hn hs
     obtain ⟨k1,rfl,rfl⟩:=yuz hn
     refine ⟨_,yqg (hfoot s fun _ _=>rfl) fun s' he hn ha=>⟨hfoot s' he,?_⟩⟩
     simp only [ybe,he x (by simp [ycg]),he y (by simp [ycg])]
     rw [hs s' ha]
     exact yaix k1 hn
   split at h
   ·rename_i hb
    exact wrap _ h fun s' ha=>by simp only [yfy,hb,hsrc s' ha]
   ·rename_i es' rows ex hb
    split at h
    ·rename_i hc
     split at h
     ·rename_i hc2
      exact wrap _ h fun s' ha=>by simp only [yfy,hb,hsrc s' ha]; rw [if_pos hc,if_pos hc2]
     ·rename_i hc2
      split at h
      ·rename_i hc3
       exact wrap _ h fun s' ha=>by simp only [yfy,hb,hsrc s' ha]; rw [if_pos hc,if_neg hc2,if_pos hc3]
      ·cases h
    ·cases h
   ·rename_i es' id off len ex hb
    have hw:∀ s':St,ydz ⟨ybf (s.ev y),[],ybf (s.ev x)⟩ s.H s'.H→lk s'.H id=lk s.H id:=fun s' ha=>ha.w id (by simp [hb,ybf])
    split at h
    ·rename_i hc
     split at h
     ·rename_i es2 rows leak hid
      split at h
      ·rename_i hc2
       split at h
       ·rename_i hc3
        exact wrap _ h fun s' ha=>by simp only [yfy,hb,hsrc s' ha,hw s' ha,hid]; rw [if_pos hc,if_pos hc2,if_pos hc3]
       ·rename_i hc3
        split at h
        ·rename_i hc4
         exact wrap _ h fun s' ha=>by simp only [yfy,hb,hsrc s' ha,hw s' ha,hid]; rw [if_pos hc,if_pos hc2,if_neg hc3,if_pos hc4]
        ·cases h
      ·rename_i hc2
       split at h
       ·rename_i hc3
        simp only [Option.some.injEq,Prod.mk.injEq] at h
        obtain ⟨rfl,rfl⟩:=h
        have key:∀ s':St,s'.nx=s.nx→Eff ⟨ybf (s.ev y),[],ybf (s.ev x)⟩ g0 s.nx (s.nx + 1) ((s.setH (rmv s.H id)).add (.arr es (rows.take len++new) leak)).H s'.H ((s'.setH (rmv s'.H id)).add (.arr es (rows.take len++new) leak)).H:=by
          intro s' hn k
          simp only [St.add,St.setH,ybo,ygn,hn]
          by_cases hk:s.nx=k
          ·subst hk; simp
          ·rw [if_neg hk,if_neg hk]
           by_cases hi:k=id
           ·subst hi; simp [hb,ybf]
           ·rw [if_neg hi,if_neg hi,if_neg]
            ·exact (yij _).symm
            ·rintro (hh | hh)
             ·simp [hb,ybf] at hh; exact hi hh
             ·omega
        refine ⟨g0,rfl,rfl,Nat.le_succ _,fun _ _=>rfl,key s rfl,fun s' he hn ha _=>⟨hfoot s' he,(s'.setH (rmv s'.H id)).add (.arr es (rows.take len++new) leak),?_,rfl,rfl,by simp [St.add,St.setH,hn],key s' hn⟩⟩
        simp only [ybe,he x (by simp [ycg]),he y (by simp [ycg]),yfy,hb,hsrc s' ha,hw s' ha,hid]
        rw [if_pos hc,if_neg hc2,if_pos hc3,hn]
       ·cases h
     ·cases h
    ·cases h
   ·cases h
  ·cases h
theorem ydlf{size:Nat}{p x:Opd}{H1:yq}(h:yka size s.H (s.ev p) (s.ev x) = some H1):∃ g,Loc c cl (.st size p x) s .un (s.setH H1) ⟨[],[],idL (s.ev p)++ybf (s.ev x)⟩ g:=by
  have hfoot:∀ s':St,(∀ z∈ycg (.st size p x),s'.ev z=s.ev z)→ybr c s' (.st size p x) = some ⟨[],[],idL (s.ev p)++ybf (s.ev x)⟩:=fun s' he=>by
    simp only [ybr,he x (by simp [ycg]),he p (by simp [ycg])]
  have key:∀ s':St,ydz ⟨[],[],idL (s.ev p)++ybf (s.ev x)⟩ s.H s'.H→∃ H1',yka size s'.H (s.ev p) (s.ev x) = some H1'∧Eff ⟨[],[],idL (s.ev p)++ybf (s.ev x)⟩ g0 s.nx s.nx H1 s'.H H1':=by
    intro s' ha
    unfold yka at h ⊢
    split at h
    ·rename_i id off hp
     have hid:lk s'.H id=lk s.H id:=ha.w id (by simp [hp,idL])
     split at h
     ·rename_i cells vs hc hvs
      split at h
      ·rename_i hcd
       obtain ⟨H1',g1⟩:=ymr (x:=Ob.box (ych cells off vs)) (l:=s'.H) (t:=id) (y:=.box cells) (by rw [hid]; exact hc)
       refine ⟨H1',?_,fun k=>?_⟩
       ·simp only [hp,hid,hc,hvs]
        rw [if_pos hcd]
        exact g1
       ·rw [ygd g1,ygd h]
        by_cases hk:k=id
        ·simp [hk,hp,idL]
        ·rw [if_neg hk,if_neg hk]
         split
         ·rename_i hh
          rcases hh with hh | hh
          ·exact ha.w k hh
          ·omega
         ·exact (yij _).symm
      ·cases h
     ·cases h
    ·rename_i id i f hp
     have hid:lk s'.H id=lk s.H id:=ha.w id (by simp [hp,idL])
     obtain ⟨g,hg1,hg2⟩:=ysb (s.ev x)
     have hfr:frz s'.H (s.ev x) = frz s.H (s.ev x):=yagq _ fun j hj=>by unfold ydx; rw [ha.w j (by simp [hj])]
     split at h
     ·rename_i vs es rows leak hvs hc
      split at h
      ·rename_i row hrow
       split at h
       ·rename_i hcd
        have hc':lk (ybm s'.H (s.ev x)) id=some (.arr es rows leak):=by
          rw [hg2,hid,← hg2]
          exact hc
        obtain ⟨H1',g1⟩:=ymr (x:=Ob.arr es (rows.set i (ych row f vs)) leak) (l:=ybm s'.H (s.ev x)) (t:=id) (y:=.arr es rows leak) hc'
        refine ⟨H1',?_,fun k=>?_⟩
        ·simp only [hp,hfr,hvs,hc',hrow]
         rw [if_pos hcd]
         exact g1
        ·rw [ygd g1,ygd h,hg2,hg2]
         by_cases hk:k=id
         ·simp [hk,hp,idL]
         ·rw [if_neg hk,if_neg hk]
          split
          ·rename_i hh
           rcases hh with hh | hh
           ·rw [ha.w k hh]
           ·omega
          ·rename_i hh
           rw [hg1 k (fun hm=>hh (.inl (by simp [hm])))]
           rfl
       ·cases h
      ·cases h
     ·cases h
    ·cases h
  have k0:ydz ⟨[],[],idL (s.ev p)++ybf (s.ev x)⟩ s.H s.H:=⟨fun _ _=>rfl,fun _ _=>LEq.refl _,fun _ _=>LEq.refl _⟩
  obtain ⟨H1',e1,e2⟩:=key s k0
  rw [h] at e1
  obtain rfl:=Option.some.inj e1
  refine ⟨g0,rfl,rfl,Nat.le_refl _,fun _ _=>rfl,e2,fun s' he hn ha _=>⟨hfoot s' he,?_⟩⟩
  obtain ⟨H1',e1,e2⟩:=key s' ha
  refine ⟨s'.setH H1',?_,rfl,rfl,hn,e2⟩
  simp only [ybe,he x (by simp [ycg]),he p (by simp [ycg]),e1]
theorem ycmb{es:Nat}{x y:Opd}(h:ykf es s (s.ev x) (s.ev y) = some (v,s1)):∃ g,Loc c cl (.cpy es x y) s v s1 ⟨ybf (s.ev y),[],ybf (s.ev x)⟩ g:=by
  have hfoot:∀ s':St,(∀ z∈ycg (.cpy es x y),s'.ev z=s.ev z)→ybr c s' (.cpy es x y) = some ⟨ybf (s.ev y),[],ybf (s.ev x)⟩:=fun s' he=>by
    simp only [ybr,he x (by simp [ycg]),he y (by simp [ycg])]
  unfold ykf at h
  split at h
  ·rename_i src es' id off len ex hsrc hb
   have hs:∀ s':St,ydz ⟨ybf (s.ev y),[],ybf (s.ev x)⟩ s.H s'.H→yci es s'.H (s.ev y) = some src:=fun s' ha=>by rw [ysu _ ha.rr,hsrc]
   have hw:∀ s':St,ydz ⟨ybf (s.ev y),[],ybf (s.ev x)⟩ s.H s'.H→lk s'.H id=lk s.H id:=fun s' ha=>ha.w id (by simp [hb,ybf])
   split at h
   ·rename_i hc
    split at h
    ·rename_i es2 rows leak hid
     split at h
     ·rename_i hc2
      split at h
      ·rename_i H1 hu
       simp only [Option.some.injEq,Prod.mk.injEq] at h
       obtain ⟨rfl,rfl⟩:=h
       have key:∀ s':St,ydz ⟨ybf (s.ev y),[],ybf (s.ev x)⟩ s.H s'.H→∃ H1',upd s'.H id (.arr es2 (yhn rows off (src.take len)) leak) = some H1'∧Eff ⟨ybf (s.ev y),[],ybf (s.ev x)⟩ g0 s.nx s.nx H1 s'.H H1':=by
         intro s' ha
         obtain ⟨H1',g1⟩:=ymr (x:=Ob.arr es2 (yhn rows off (src.take len)) leak) (l:=s'.H) (t:=id) (y:=.arr es2 rows leak) (by rw [hw s' ha]; exact hid)
         refine ⟨H1',g1,fun k=>?_⟩
         rw [ygd g1,ygd hu]
         by_cases hk:k=id
         ·subst hk; simp [hb,ybf]
         ·rw [if_neg hk,if_neg hk,if_neg]
          ·exact (yij _).symm
          ·rintro (hh | hh)
           ·simp [hb,ybf] at hh; exact hk hh
           ·omega
       have k0:ydz ⟨ybf (s.ev y),[],ybf (s.ev x)⟩ s.H s.H:=⟨fun _ _=>rfl,fun _ _=>LEq.refl _,fun _ _=>LEq.refl _⟩
       obtain ⟨H2,e1,e2⟩:=key s k0
       rw [hu] at e1
       obtain rfl:=Option.some.inj e1
       refine ⟨g0,rfl,rfl,Nat.le_refl _,fun _ _=>rfl,e2,fun s' he hn ha _=>⟨hfoot s' he,?_⟩⟩
       obtain ⟨H1',e1,e2⟩:=key s' ha
       refine ⟨s'.setH H1',?_,rfl,rfl,hn,e2⟩
       simp only [ybe,he x (by simp [ycg]),he y (by simp [ycg]),ykf,hb,hs s' ha,hw s' ha,hid]
       rw [if_pos hc,if_pos hc2,e1]
      ·cases h
     ·cases h
    ·cases h
   ·cases h
  ·rename_i src hsrc hb
   simp only [Option.some.injEq,Prod.mk.injEq] at h
   obtain ⟨rfl,rfl⟩:=h
   have h0:ybf (s.ev x) = []:=by rw [hb]; rfl
   rw [h0] at hfoot ⊢
   refine ⟨g0,yuu (hfoot s fun _ _=>rfl) ?_ fun s' he ha=>⟨hfoot s' he,?_⟩⟩
   ·simp only [ybe,ykf,hb,hsrc]
   ·simp only [ybe,he x (by simp [ycg]),he y (by simp [ycg]),ykf,hb]
    rw [ysu _ ha.rr,hsrc]
  ·cases h
theorem yaqe{fn:Nat}{L:List AV}(hf:yid c s fn L=some f)(h:ydv c cl s fn L=some (v,s1))(hfr:yfi s.nx s1.nx s.H):∃ g,s1.env=s.env∧s1.loc=s.loc∧s.nx≤s1.nx∧(∀ k,k∉f.l→g k=0)∧Eff f g s.nx s1.nx s1.H s.H s1.H ∧
    ∀ s',s'.nx=s.nx→ydz f s.H s'.H→yfi s.nx s1.nx s'.H→yid c s' fn L=some f∧∃ s1',ydv c cl s' fn L=some (v,s1')∧s1'.env=s'.env∧s1'.loc=s'.loc∧s1'.nx=s1.nx∧Eff f g s.nx s1.nx s1.H s'.H s1'.H:=by
  unfold yid at hf
  by_cases hz:c.fz fn=true
  ·rw [if_pos hz] at hf
   simp only [Option.some.injEq] at hf
   subst hf
   have hfoot:∀ s':St,yid c s' fn L=some ⟨[],yeh L,[]⟩:=fun s'=>by unfold yid; rw [if_pos hz]
   simp only [ydv,hz,if_true] at h
   split at h
   ·rename_i r H1 n1 hcl
    have key:∀ s':St,ydz ⟨[],yeh L,[]⟩ s.H s'.H→ydv c cl s' fn L=ymd s' L (frz H1 r):=by
      intro s' ha
      have h2:yef s'.H L=yef s.H L:=yuk _ ha.rl
      simp only [ydv,hz,if_true,h2,hcl]
    unfold ymd at h
    split at h
    ·rename_i hp
     simp only [Option.some.injEq,Prod.mk.injEq] at h
     obtain ⟨rfl,rfl⟩:=h
     refine ⟨g0,rfl,rfl,Nat.le_refl _,fun _ _=>rfl,Eff.same (by simp),fun s' hn ha _=>⟨hfoot s',s',?_,rfl,rfl,hn,by rw [← hn]; exact Eff.same (by simp)⟩⟩
     rw [key s' ha]
     simp only [ymd,hp,if_true]
    ·rename_i hp
     split at h
     ·rename_i hi
      simp only [Option.some.injEq,Prod.mk.injEq] at h
      obtain ⟨rfl,rfl⟩:=h
      obtain ⟨g,hg1,hg2⟩:=ypl L
      have he:∀ s':St,Eff ⟨[],yeh L,[]⟩ g s.nx s.nx (yei s.H L) s'.H (yei s'.H L):=fun s' k=>by
        rw [if_neg (by rintro (hh | hh); (simp at hh); omega)]
        exact hg2 s'.H k
      refine ⟨g,rfl,rfl,Nat.le_refl _,hg1,he s,fun s' hn ha _=>⟨hfoot s',s'.setH (yei s'.H L),?_,rfl,rfl,hn,he s'⟩⟩
      rw [key s' ha]
      simp only [ymd,hp,hi,if_true,if_false]
      rfl
     ·cases h
   ·cases h
  ·rw [if_neg hz] at hf
   split at hf
   ·rename_i l hl
    simp only [Option.some.injEq] at hf
    subst hf
    have hreach:=ygs hl
    obtain ⟨q1,_,q3⟩:=yiv s.H yea L [] List.nodup_nil
    rw [hreach] at q1 q3
    have hfoot:∀ s':St,ydz ⟨[],[],l⟩ s.H s'.H→yid c s' fn L=some ⟨[],[],l⟩:=fun s' ha=>by
      unfold yid
      rw [if_neg hz,yfg hl ha.w]
    have hcall:∀ s':St,ydz ⟨[],[],l⟩ s.H s'.H→yaw s'.H yea L [] = l:=fun s' ha=>ygs (yfg hl ha.w)
    simp only [ydv,hz,hreach] at h
    rw [if_neg (by simp)] at h
    split at h
    ·rename_i r H1 n1 hcl
     simp only [Option.some.injEq,Prod.mk.injEq] at h
     obtain ⟨rfl,rfl⟩:=h
     have he:∀ s':St,ydz ⟨[],[],l⟩ s.H s'.H→yfi s.nx (s.nx + (n1 - l.length)) s'.H→Eff ⟨[],[],l⟩ g0 s.nx (s.nx + (n1 - l.length)) (ycd (yem l l.length n1 s.nx) H1++ydd s.H l) s'.H (ycd (yem l l.length n1 s.nx) H1++ydd s'.H l):=by
       intro s' ha hfr' k
       rw [yxa,yxa,yoy,yoy]
       have hno:k∉l→¬ (s.nx≤k∧k < s.nx + (n1 - l.length))→lk (ycd (yem l l.length n1 s.nx) H1) k=none:=by
         intro hk hr
         refine yahr H1 fun j hj=>?_
         by_cases hlt:j < l.length
         ·rw [yke hlt] at hj
          exact hk (List.mem_of_getElem? hj)
         ·obtain ⟨b1,b2⟩:=ykd hlt hj
          omega
       by_cases hk:k∈l
       ·have hc:k∈(ycs.mk [] [] l).w∨s.nx≤k∧k < s.nx + (n1 - l.length):=Or.inl hk
        rw [if_pos hc]
        simp only [hk,if_true]
       ·by_cases hr:s.nx≤k∧k < s.nx + (n1 - l.length)
        ·have hc:k∈(ycs.mk [] [] l).w∨s.nx≤k∧k < s.nx + (n1 - l.length):=Or.inr hr
         rw [if_pos hc]
         simp only [hk,if_false,hfr' k hr.1 hr.2,hfr k hr.1 hr.2]
        ·have hc:¬ (k∈(ycs.mk [] [] l).w∨s.nx≤k∧k < s.nx + (n1 - l.length)):=fun hh=>hh.elim hk hr
         rw [if_neg hc,hno hk hr]
         simp only [hk,if_false]
         exact (yij _).symm
     have k0:ydz ⟨[],[],l⟩ s.H s.H:=⟨fun _ _=>rfl,fun _ _=>LEq.refl _,fun _ _=>LEq.refl _⟩
     refine ⟨g0,rfl,rfl,Nat.le_add_right _ _,fun _ _=>rfl,he s k0 hfr,fun s' hn ha hfr'=>⟨hfoot s' ha,⟨s'.env,s'.loc,ycd (yem l l.length n1 s.nx) H1++ydd s'.H l,s.nx + (n1 - l.length)⟩,?_,rfl,rfl,rfl,he s' ha hfr'⟩⟩
     simp only [ydv,hz,hcall s' ha,ybqp q1 ha.w,hcl]
     rw [if_neg (by simp),hn]
    ·cases h
   ·cases hf
theorem ybqt{ip:IP}(hf:ybr c s ip=some f)(h:ybe c cl s ip=some (v,s1))(hfr:yfi s.nx s1.nx s.H):∃ g,Loc c cl ip s v s1 f g:=by
  by_cases hv:yfx ip=true
  ·obtain ⟨rfl,_⟩:=yafe (s':=s) hv h (fun _ _=>rfl)
   rw [yuj hv] at hf
   obtain rfl:=Option.some.inj hf
   exact ⟨_,yuu (yuj hv) h fun s' he _=>⟨yuj hv,(yafe hv h he).2⟩⟩
  ·cases ip
   case ld a size p=>
     simp only [ybr,Option.some.injEq] at hf
     subst hf
     obtain ⟨hg,rfl⟩:=yhb h
     refine ⟨_,yuu rfl h fun s' he ha=>?_⟩
     have h1:=he p (by simp [ycg])
     refine ⟨by simp only [ybr,h1],?_⟩
     simp only [ybe,h1]
     rw [ybyv ha.r,hg]
     rfl
   case b2s x=>
     simp only [ybr,Option.some.injEq] at hf
     subst hf
     obtain ⟨hg,rfl⟩:=yhb h
     refine ⟨_,yuu rfl h fun s' he ha=>?_⟩
     have h1:=he x (by simp [ycg])
     refine ⟨by simp only [ybr,h1],?_⟩
     have h2:ypc s'.H (s1.ev x) = ypc s1.H (s1.ev x):=by
       unfold ypc
       rw [yvr _ ha.rr]
     simp only [ybe,h1,h2,hg]
     rfl
   case st size p x=>
     simp only [ybr,Option.some.injEq] at hf
     subst hf
     simp only [ybe] at h
     split at h
     ·rename_i H1 hH1
      simp only [Option.some.injEq,Prod.mk.injEq] at h
      obtain ⟨rfl,rfl⟩:=h
      exact ydlf hH1
     ·cases h
   case alloc z=>
     simp only [ybr,Option.some.injEq] at hf
     subst hf
     simp only [ybe,Option.some.injEq,Prod.mk.injEq] at h
     obtain ⟨rfl,rfl⟩:=h
     exact ⟨_,yqg rfl fun s' he hn ha=>⟨rfl,by simp only [ybe,hn]⟩⟩
   case box x=>
     simp only [ybr,Option.some.injEq] at hf
     subst hf
     simp only [ybe] at h
     split at h
     ·rename_i cs hcs
      split at h
      ·rename_i hb
       simp only [Option.some.injEq,Prod.mk.injEq] at h
       obtain ⟨rfl,rfl⟩:=h
       refine ⟨_,yqg rfl fun s' he hn ha=>⟨rfl,?_⟩⟩
       simp only [ybe,he x (by simp [ycg]),hcs,hb,if_true,hn]
      ·cases h
     ·cases h
   case mks es z l m=>
     simp only [ybr,Option.some.injEq] at hf
     subst hf
     simp only [ybe] at h
     unfold ypm at h
     split at h
     ·rename_i a b hl hm
      split at h
      ·rename_i hb
       simp only [Option.some.injEq,Prod.mk.injEq] at h
       obtain ⟨rfl,rfl⟩:=h
       refine ⟨_,yqg rfl fun s' he hn ha=>⟨rfl,?_⟩⟩
       simp only [ybe,he l (by simp [ycg]),he m (by simp [ycg]),hl,hm,ypm,hb,and_self,if_true,hn]
      ·cases h
     ·cases h
   case s2b x=>
     simp only [ybr,Option.some.injEq] at hf
     subst hf
     simp only [ybe] at h
     unfold ypo at h
     split at h
     ·rename_i str hx
      simp only [Option.some.injEq,Prod.mk.injEq] at h
      obtain ⟨rfl,rfl⟩:=h
      refine ⟨_,yqg rfl fun s' he hn ha=>⟨rfl,?_⟩⟩
      simp only [ybe,he x (by simp [ycg]),hx,ypo,hn]
     ·cases h
   case cln es x=>
     simp only [ybr,Option.some.injEq] at hf
     subst hf
     simp only [ybe] at h
     unfold ypf at h
     split at h
     ·rename_i rows hrows
      obtain ⟨k1,rfl,rfl⟩:=yuz h
      refine ⟨_,yqg rfl fun s' he hn ha=>?_⟩
      have h1:=he x (by simp [ycg])
      refine ⟨by simp only [ybr,h1],?_⟩
      simp only [ybe,h1,ypf]
      rw [yvr _ ha.rr,hrows]
      exact yaix k1 hn
     ·cases h
   case bsl es z len ps=>
     simp only [ybr,Option.some.injEq] at hf
     subst hf
     simp only [ybe,ynx] at h
     split at h
     ·rename_i rows hrows
      simp only [Option.some.injEq,Prod.mk.injEq] at h
      obtain ⟨rfl,rfl⟩:=h
      obtain ⟨g,hg1,hg2⟩:=ysm (s.evp ps)
      have key:∀ s':St,s'.nx=s.nx→Eff ⟨[],yeh (yeq (s.evp ps)),[]⟩ g s.nx (s.nx + 1) ((s.setH (yec s.H (s.evp ps))).add (.arr es rows 0)).H s'.H ((s'.setH (yec s'.H (s.evp ps))).add (.arr es rows 0)).H:=by
        intro s' hn k
        simp only [St.add,St.setH,ybo,hn]
        by_cases hk:s.nx=k
        ·subst hk; simp
        ·rw [if_neg hk,if_neg hk,if_neg]
         ·exact hg2 s'.H k
         ·rintro (hh | hh)
          ·simp at hh
          ·omega
      refine ⟨g,rfl,rfl,Nat.le_succ _,hg1,key s rfl,fun s' he hn ha _=>?_⟩
      have h1:s'.evp ps=s.evp ps:=yrx (by simpa [ycg] using he)
      refine ⟨by simp only [ybr,h1],(s'.setH (yec s'.H (s.evp ps))).add (.arr es rows 0),?_,rfl,rfl,by simp [St.add,St.setH,hn],key s' hn⟩
      have h2:yee es s'.H (List.replicate len z) (s.evp ps) = some rows:=by rw [ywp ha.rl,hrows]
      simp only [ybe,ynx,h1,h2,hn]
     ·cases h
   case app es x y=>
     simp only [ybr,Option.some.injEq] at hf
     subst hf
     simp only [ybe] at h
     exact ycma h
   case cpy es x y=>
     simp only [ybr,Option.some.injEq] at hf
     subst hf
     simp only [ybe] at h
     exact ycmb h
   case call fn args=>
     simp only [ybr] at hf
     simp only [ybe] at h
     obtain ⟨g,k1,k2,k3,k4,k5,k6⟩:=yaqe hf h hfr
     refine ⟨g,k1,k2,k3,k4,k5,fun s' he hn ha hfr'=>?_⟩
     have h1:s'.evs args=s.evs args:=ylo (by simpa [ycg] using he)
     simp only [ybr,ybe,h1]
     exact k6 s' hn ha hfr'
   case callv q args=>
     simp only [ybr] at hf
     simp only [ybe] at h
     split at hf
     ·rename_i fn pre post hq
      rw [hq] at h
      simp only [ylk] at h
      obtain ⟨g,k1,k2,k3,k4,k5,k6⟩:=yaqe hf h hfr
      refine ⟨g,k1,k2,k3,k4,k5,fun s' he hn ha hfr'=>?_⟩
      have h1:s'.evs args=s.evs args:=ylo fun x hx=>he x (by simp only [ycg]; exact List.mem_cons_of_mem _ hx)
      have h2:s'.ev q=s.ev q:=he q (by simp [ycg])
      simp only [ybr,ybe,h1,h2,hq,ylk]
      exact k6 s' hn ha hfr'
     ·cases hf
   all_goals exact absurd rfl hv
end
end Go.Proofs.YtgoachcogmlhcaaGreat.R
