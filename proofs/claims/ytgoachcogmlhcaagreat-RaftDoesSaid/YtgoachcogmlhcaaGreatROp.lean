/- Every operation that calls nothing. -/
import Derived.Test.YtgoachcogmlhcaaGreatROne
set_option linter.unusedVariables false
set_option linter.unusedSectionVars false
set_option linter.unusedSimpArgs false
noncomputable section
namespace Go.Proofs.YtgoachcogmlhcaaGreat.R
open Go
section
variable {P:Program} {w:World} {A:Nat→Nat→Prop} {ρ:Rho} {s s':St} {v:AV} {o:Oper} {a:Act} {c:Cfg} {cl:Callee} {ip:IP}
theorem ybwh(hr:Rep A ρ s.H s.nx w)(hv:yjl w (UU A ρ s.H) ρ s a){op:BinOp}{t ty2:TypeId}{x y:Operand}(ho:o.op = .binOp op t x y ty2){X Y:Opd}(hx:opd x=some X)(hy:opd y=some Y)(hc:ylm P op t X Y=some ip)(h:ybe c cl s ip=some (v,s')):ysi P A ρ s w v s' o a:=by
  have h1:=ycf hv hx
  have h2:=ycf hv hy
  have hexec:execOp a.eval o=(do pure (Next.value (← (do eqGuard op t x y (a.eval x) (a.eval y); binOp op t (a.eval x) (a.eval y))))):=by
    simp only [execOp,ho]
  unfold ylm at hc
  split at hc
  ·rename_i ti hti
   split at hc
   ·simp only [Option.some.injEq] at hc
    subst hc
    exact ydb hr hexec h fun hg=>yaxe h1 h2 hg
   ·simp only [Option.some.injEq] at hc
    subst hc
    exact ydb hr hexec h fun hg=>yaxe h1 h2 hg
   ·rename_i hd
    split at hc
    ·simp only [Option.some.injEq] at hc
     subst hc
     exact ydb hr hexec h fun hg=>yaxh (neg:=false) hti hd h1 h2 hg
    ·simp only [Option.some.injEq] at hc
     subst hc
     exact ydb hr hexec h fun hg=>yaxh (neg:=true) hti hd h1 h2 hg
    ·cases hc
   ·rename_i fs hd
    split at hc
    ·cases hc
    ·rename_i hgd
     have hgd':P.stoodInHeld t=false∧P.eqGuardType P.depth t=false:=by
       simpa [Bool.or_eq_true] using hgd
     split at hc
     ·rename_i l hl
      split at hc
      ·simp only [Option.some.injEq] at hc
       subst hc
       exact ydb hr hexec h fun hg=>yaxi (neg:=false) hti hd hgd'.1 hgd'.2 hl h1 h2 hg
      ·simp only [Option.some.injEq] at hc
       subst hc
       exact ydb hr hexec h fun hg=>yaxi (neg:=true) hti hd hgd'.1 hgd'.2 hl h1 h2 hg
      ·cases hc
     ·cases hc
   ·rename_i n e hd
    split at hc
    ·cases hc
    ·rename_i hgd
     have hgd':P.eqGuardType P.depth t=false:=by simpa using hgd
     split at hc
     ·rename_i te hte
      split at hc
      ·rename_i q hq
       split at hc
       ·rename_i hz
        have hz:=Nat.eq_of_beq_eq_true hz
        split at hc
        ·simp only [Option.some.injEq] at hc
         subst hc
         exact ydb hr hexec h fun hg=>yaxg (neg:=false) hti hd hgd' hte hq hz h1 h2 hg
        ·simp only [Option.some.injEq] at hc
         subst hc
         exact ydb hr hexec h fun hg=>yaxg (neg:=true) hti hd hgd' hte hq hz h1 h2 hg
        ·cases hc
       ·cases hc
      ·cases hc
     ·cases hc
   ·rename_i e hd
    split at hc
    ·rename_i hy0
     have hY:a.eval y = .slice none 0 0:=by
       cases Y with
       | t n=>simp [nilC] at hy0
       | c u=>
         cases u <;> simp [nilC] at hy0
         simpa [St.ev,VR] using h2
     rw [hY] at hexec
     split at hc
     ·simp only [Option.some.injEq] at hc
      subst hc
      exact ydb hr hexec h fun hg=>yaxj (neg:=false) hti hd h1 hg
     ·simp only [Option.some.injEq] at hc
      subst hc
      exact ydb hr hexec h fun hg=>yaxj (neg:=true) hti hd h1 hg
     ·cases hc
    ·cases hc
   ·cases hc
  ·cases hc
theorem ybic(hr:Rep A ρ s.H s.nx w)(hv:yjl w (UU A ρ s.H) ρ s a){t t2:TypeId}{x:Operand}(ho:o.op = .convert t t2 x){X:Opd}(hx:opd x=some X)(hc:yjo P t t2 X=some ip)(h:ybe c cl s ip=some (v,s')):ysi P A ρ s w v s' o a:=by
  have h1:=ycf hv hx
  have hexec:execOp a.eval o=(do pure (Next.value (← convert t t2 (a.eval x)))):=by simp only [execOp,ho]
  unfold yjo at hc
  split at hc
  ·rename_i xs xd hxs hxd
   split at hc
   ·rename_i k e1 e2
    simp only [Option.some.injEq] at hc
    subst hc
    exact ydb hr hexec h fun hg=>ycop hxs hxd e2 h1 hg
   ·rename_i e1 e2
    simp only [Option.some.injEq] at hc
    subst hc
    exact ydb hr hexec h fun hg=>ycoo hxs hxd e2 h1 hg
   ·rename_i e e1 e2
    split at hc
    ·rename_i _ _ _ hte
     simp only [Option.some.injEq] at hc
     subst hc
     exact yjt hexec (ycoz hr hxs hxd e2 hte rfl h1 h)
    ·cases hc
   ·rename_i e e1 e2
    split at hc
    ·rename_i _ _ _ hte
     simp only [Option.some.injEq] at hc
     subst hc
     exact ydb hr hexec h fun hg=>ycol hr hxs e1 hxd e2 hte rfl h1 hg
    ·cases hc
   ·cases hc
  ·cases hc
theorem ycpy{pl:List (Nat × Operand)}{parts:Array (Nat × Operand)}(h:parts.toList=pl):(parts.map fun (i,x)=>(i,a.eval x)).toList=pl.map fun p=>(p.1,a.eval p.2):=by
  subst h; simp
theorem yayw(hr:Rep A ρ s.H s.nx w)(hv:yjl w (UU A ρ s.H) ρ s a)(hc:yhu P o.op=some ip)(hn:yny ip=false)(h:ybe c cl s ip=some (v,s')):ysi P A ρ s w v s' o a:=by
  cases ho:o.op <;> simp only [ho,yhu] at hc
  case move x=>
    split at hc
    ·rename_i X hx
     simp only [Option.some.injEq] at hc
     subst hc
     simp only [ybe,Option.some.injEq,Prod.mk.injEq] at h
     obtain ⟨rfl,rfl⟩:=h
     refine yjt (m:=pure (a.eval x)) (by simp only [execOp,ho,pure_bind]) ⟨_,w,Sem.run_pure ..,ydj.same hr (ycf hv hx)⟩
    ·cases hc
  case assign x=>
    split at hc
    ·rename_i X hx
     simp only [Option.some.injEq] at hc
     subst hc
     simp only [ybe,Option.some.injEq,Prod.mk.injEq] at h
     obtain ⟨rfl,rfl⟩:=h
     refine yjt (m:=pure (a.eval x)) (by simp only [execOp,ho,pure_bind]) ⟨_,w,Sem.run_pure ..,ydj.same hr (ycf hv hx)⟩
    ·cases hc
  case pick b x y=>
    split at hc
    ·rename_i B X Y hb hx hy
     simp only [Option.some.injEq] at hc
     subst hc
     obtain ⟨hg,rfl⟩:=yhb h
     obtain ⟨z,h1,h2⟩:=ycbn (P:=P) (ycf hv hb) (ycf hv hx) (ycf hv hy) hg
     intro K Q hK
     unfold Oper.wp
     have:(execOp a.eval o).run P w = .ok (.value z) w:=by
       rw [← h1]
       simp only [execOp,ho]
     rw [this]
     exact hK z w (ydj.same hr h2)
    ·cases hc
  case binOp op t x y t2=>
    split at hc
    ·rename_i X Y hx hy
     exact ybwh hr hv ho hx hy hc h
    ·cases hc
  case unOp op t x=>
    split at hc
    ·rename_i X hx
     simp only [Option.some.injEq] at hc
     subst hc
     exact ydb (m:=Op.unary .neg (a.eval x)) hr (by simp only [execOp,ho]) h fun hg=>ycoy (ycf hv hx) hg
    ·rename_i X hx
     simp only [Option.some.injEq] at hc
     subst hc
     exact ydb (m:=Op.unary .not (a.eval x)) hr (by simp only [execOp,ho]) h fun hg=>ydnp (ycf hv hx) hg
    ·cases hc
  case convert t t2 x=>
    split at hc
    ·rename_i X hx
     exact ybic hr hv ho hx hc h
    ·cases hc
  case build t parts=>
    split at hc
    ·rename_i ti ps ht hp
     split at hc
     ·rename_i z l hz hl
      split at hc
      ·rename_i hcond
       simp only [Option.some.injEq] at hc
       subst hc
       simp only [Bool.and_eq_true] at hcond
       exact ydb (m:=Instr.build t (parts.map fun (i,x)=>(i,a.eval x))) hr (by simp only [execOp,ho]) h fun hg=>ybsu hv ht hp hz hl hcond.1 hcond.2 hg
      ·cases hc
     ·cases hc
    ·cases hc
  case buildSlice t len parts=>
    split at hc
    ·rename_i xe ps hxe hp
     split at hc
     ·rename_i z hz
      split at hc
      ·rename_i hcond
       simp only [Option.some.injEq] at hc
       subst hc
       obtain ⟨e,g1,g2⟩:=ypr hxe
       refine yjt (m:=Instr.buildSlice t len (parts.map fun (i,x)=>(i,a.eval x))) (by simp only [execOp,ho]) ?_
       refine yaxf hr ⟨e,xe,g1,g2,⟨z,hz,rfl⟩,hcond.1,by rw [yod]; exact hcond.2.2.1,rfl,hcond.2.1⟩ hcond.2.2.2 ?_ h
       rw [ycpy rfl]
       exact yatd hv hp
      ·cases hc
     ·cases hc
    ·cases hc
  case load t p=>
    split at hc
    ·rename_i x p' ht hp
     simp only [Option.some.injEq] at hc
     subst hc
     exact ydb (m:=Instr.loadAt t (a.eval p)) hr (by simp only [execOp,ho]) h fun hg=>yarn hr ht (ycf hv hp) hg
    ·cases hc
  case store t p x=>
    split at hc
    ·rename_i ti p' x' ht hp hx
     simp only [Option.some.injEq] at hc
     subst hc
     simp only [ybe] at h
     split at h
     ·rename_i H hH
      simp only [Option.some.injEq,Prod.mk.injEq] at h
      obtain ⟨rfl,rfl⟩:=h
      exact yctb (m:=Instr.storeAt t (a.eval p) (a.eval x)) (by simp only [execOp,ho]) (ybsw hr ht (ycf hv hp) (ycf hv hx) hH)
     ·cases h
    ·cases hc
  case nilCheck x=>
    split at hc
    ·rename_i X hx
     simp only [Option.some.injEq] at hc
     subst hc
     obtain ⟨hg,rfl⟩:=yhb h
     obtain ⟨z,h1,h2⟩:=ydno (P:=P) (ycf hv hx) hg
     intro K Q hK
     unfold Oper.wp
     have:(execOp a.eval o).run P w = .ok (.value z) w:=by
       rw [← h1]
       simp only [execOp,ho]
       rfl
     rw [this]
     exact hK z w (ydj.same hr h2)
    ·cases hc
  case alloc t=>
    split at hc
    ·rename_i x ht
     split at hc
     ·rename_i z hz
      simp only [Option.some.injEq] at hc
      subst hc
      simp only [ybe,Option.some.injEq,Prod.mk.injEq] at h
      obtain ⟨rfl,rfl⟩:=h
      exact yjt (m:=Instr.alloc t true (.tuple #[])) (by simp only [execOp,ho]) (ybst hr ht hz)
     ·cases hc
    ·cases hc
  case box t x=>
    split at hc
    ·rename_i X hx
     simp only [Option.some.injEq] at hc
     subst hc
     simp only [ybe] at h
     split at h
     ·rename_i cs hcs
      split at h
      ·simp only [Option.some.injEq,Prod.mk.injEq] at h
       obtain ⟨rfl,rfl⟩:=h
       exact yjt (m:=Instr.box t (a.eval x)) (by simp only [execOp,ho]) (ycom hr (ycf hv hx) hcs)
      ·cases h
     ·cases h
    ·cases hc
  case makeFunc f pre post=>
    cases f with
    | func f=>
      simp only at hc
      split at hc
      ·rename_i X Y hx hy
       simp only [Option.some.injEq] at hc
       subst hc
       simp only [ybe,Option.some.injEq,Prod.mk.injEq] at h
       obtain ⟨rfl,rfl⟩:=h
       refine yjt (m:=Instr.makeFunc (.func f) (pre.map a.eval) (post.map a.eval)) (by simp only [execOp,ho]) ⟨.func (.func f) (pre.map a.eval) (post.map a.eval),w,rfl,ydj.same hr ?_⟩
       simp only [VR]
       exact ⟨_,_,rfl,by rw [yqv]; exact ymv hv hx,by rw [yqv]; exact ymv hv hy⟩
      ·cases hc
    | _=>simp at hc
  case makeSlice t l m=>
    split at hc
    ·rename_i xe L M hxe hl hm
     split at hc
     ·rename_i z hz
      split at hc
      ·rename_i hcond
       simp only [Option.some.injEq] at hc
       subst hc
       obtain ⟨e,g1,g2⟩:=ypr hxe
       exact yjt (m:=Instr.makeSlice t (a.eval l) (a.eval m)) (by simp only [execOp,ho]) (ycox hr ⟨e,xe,g1,g2,⟨z,hz,rfl⟩,hcond.1,by rw [yod]; exact hcond.2.2,rfl,hcond.2.1⟩ (ycf hv hl) (ycf hv hm) h)
      ·cases hc
     ·cases hc
    ·cases hc
  case slice t x lo hi mx=>
    split at hc
    ·rename_i ti X LO HI MX ht hx hlo hhi hmx
     split at hc
     ·rename_i hd
      split at hc
      ·simp only [Option.some.injEq] at hc
       subst hc
       have hm:mx=none:=by
         cases mx with
         | none=>rfl
         | some m=>
           simp only [oopd] at hmx
           split at hmx <;> cases hmx
       subst hm
       exact ydb (m:=Instr.sliceAt t (a.eval x) (lo.map a.eval) (hi.map a.eval) none) hr (by simp only [execOp,ho]; rfl) h fun hg=>ycpb ht hd (ycf hv hx) (yqn hv hlo) (yqn hv hhi) hg
      ·cases hc
     ·rename_i e hd
      split at hc
      ·rename_i xe hxe
       split at hc
       ·rename_i hz
        simp only [Option.some.injEq] at hc
        subst hc
        exact ydb (m:=Instr.sliceAt t (a.eval x) (lo.map a.eval) (hi.map a.eval) (mx.map a.eval)) hr (by simp only [execOp,ho]) h fun hg=>ycpa ht hd hxe hz (ycf hv hx) (yqn hv hlo) (yqn hv hhi) (yqn hv hmx) hg
       ·cases hc
      ·cases hc
     ·cases hc
    ·cases hc
  case fieldAddr t x f=>
    split at hc
    ·rename_i fs _ _ _ X ht hx
     split at hc
     ·rename_i fl hfl
      split at hc
      ·rename_i xf hxf
       split at hc
       ·rename_i hz
        simp only [Option.some.injEq] at hc
        subst hc
        exact ydb (m:=Instr.fieldAt t (a.eval x) f) hr (by simp only [execOp,ho]) h fun hg=>ydnl ht rfl hfl hxf hz (ycf hv hx) hg
       ·cases hc
      ·cases hc
     ·cases hc
    ·cases hc
  case field t x f=>
    split at hc
    ·rename_i fs _ _ _ X ht hx
     split at hc
     ·rename_i fl hfl
      split at hc
      ·rename_i xf hxf
       simp only [Option.some.injEq] at hc
       subst hc
       exact ydb (m:=Instr.field t (a.eval x) f) hr (by simp only [execOp,ho]) h fun hg=>ycos ht rfl hfl hxf (ycf hv hx) hg
      ·cases hc
     ·cases hc
    ·cases hc
  case indexAddr t x i=>
    split at hc
    ·rename_i ti X I ht hx hi
     split at hc
     ·rename_i e hd
      split at hc
      ·rename_i xe hxe
       split at hc
       ·simp only [Option.some.injEq] at hc
        subst hc
        exact ydb (m:=Instr.indexAt t (a.eval x) (a.eval i)) hr (by simp only [execOp,ho]) h fun hg=>ycou ht hd hxe (ycf hv hx) (ycf hv hi) hg
       ·cases hc
      ·cases hc
     ·rename_i n e hd
      split at hc
      ·rename_i xe hxe
       simp only [Option.some.injEq] at hc
       subst hc
       exact ydb (m:=Instr.indexAt t (a.eval x) (a.eval i)) hr (by simp only [execOp,ho]) h fun hg=>ycot ht hd hxe (ycf hv hx) (ycf hv hi) hg
      ·cases hc
     ·cases hc
    ·cases hc
  case index t x i=>
    split at hc
    ·rename_i ti X I ht hx hi
     split at hc
     ·rename_i hd
      simp only [Option.some.injEq] at hc
      subst hc
      exact ydb (m:=Instr.index t (a.eval x) (a.eval i)) hr (by simp only [execOp,ho]) h fun hg=>ycow ht hd (ycf hv hx) (ycf hv hi) hg
     ·rename_i n e hd
      split at hc
      ·rename_i xe hxe
       simp only [Option.some.injEq] at hc
       subst hc
       exact ydb (m:=Instr.index t (a.eval x) (a.eval i)) hr (by simp only [execOp,ho]) h fun hg=>ycov ht hd hxe (ycf hv hx) (ycf hv hi) hg
      ·cases hc
     ·cases hc
    ·cases hc
  case extract x i=>
    split at hc
    ·rename_i X hx
     simp only [Option.some.injEq] at hc
     subst hc
     exact ydb (m:=Instr.extract (a.eval x) i) hr (by simp only [execOp,ho]) h fun hg=>ycor (ycf hv hx) hg
    ·cases hc
  case call cc=>
    obtain ⟨callee,args,ts⟩:=cc
    simp only at hc
    split at hc
    ·rename_i as has
     split at hc
     ·rename_i b
      exact yalx hr hv ho has hc h
     ·simp only [Option.some.injEq] at hc
      subst hc
      simp [yny] at hn
     ·split at hc
      ·simp only [Option.some.injEq] at hc
       subst hc
       simp [yny] at hn
      ·cases hc
     ·cases hc
    ·cases hc
  all_goals (cases hc)
end
end Go.Proofs.YtgoachcogmlhcaaGreat.R
