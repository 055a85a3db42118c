/- One operation, as the program has it. -/
import Derived.Test.YtgoachcogmlhcaaGreatRCpy
set_option linter.unusedVariables false
set_option linter.unusedSectionVars false
set_option linter.unusedSimpArgs false
noncomputable section
namespace Go.Proofs.YtgoachcogmlhcaaGreat.R
open Go
def ysi(P:Program)(A:Nat→Nat→Prop)(ρ:Rho)(s:St)(w:World)(v:AV)(s':St)(o:Oper)(a:Act):Prop:=
  ∀ (K:Act→World→Prop) (Q:Exit→Act→World→Prop),(∀ x w',ydj A ρ s w v s' x w'→K (a.put o.dst x) w')→o.wp P a w K Q
section
variable {P:Program} {w:World} {A:Nat→Nat→Prop} {ρ:Rho} {s s':St} {v:AV} {o:Oper} {a:Act}
theorem yjt{m:Sem Value}(he:execOp a.eval o=(do pure (Next.value (← m))))(h:∃ x w',m.run P w = .ok x w'∧ydj A ρ s w v s' x w'):ysi P A ρ s w v s' o a:=by
  intro K Q hK
  obtain ⟨x,w',h1,h2⟩:=h
  unfold Oper.wp
  rw [he]
  simp only [Sem.run_bind,h1,Result.andThen_ok,Sem.run_pure]
  exact hK x w' h2
theorem yctb{m:Sem Unit}(he:execOp a.eval o=(do m; pure Next.skip))(h:∃ w',m.run P w = .ok () w'∧ydj A ρ s w v s' undef w'):ysi P A ρ s w v s' o a:=by
  intro K Q hK
  obtain ⟨w',h1,h2⟩:=h
  unfold Oper.wp
  rw [he]
  simp only [Sem.run_bind,h1,Result.andThen_ok,Sem.run_pure]
  exact hK undef w' h2
theorem yhb{g:Option AV}(h:keep s g=some (v,s')):g=some v∧s' = s:=by
  cases g with
  | none=>simp [keep] at h
  | some x=>
    simp only [keep,Option.some.injEq,Prod.mk.injEq] at h
    exact ⟨by rw [h.1],h.2.symm⟩
theorem ydb{m:Sem Value}(hr:Rep A ρ s.H s.nx w)(he:execOp a.eval o=(do pure (Next.value (← m)))){g:Option AV}(hg:keep s g=some (v,s'))(h:g=some v→∃ x,m.run P w = .ok x w∧VR w (UU A ρ s.H) ρ v x):ysi P A ρ s w v s' o a:=by
  obtain ⟨hg',rfl⟩:=yhb hg
  obtain ⟨x,h1,h2⟩:=h hg'
  exact yjt he ⟨x,w,h1,ydj.same hr h2⟩
theorem ypr{t:TypeId}{xe:TI}(h:yps P t=some xe):∃ e,P.underlying t=some (.slice e)∧ybj P e=some xe:=by
  unfold yps at h
  split at h
  ·rename_i e _ _ _ ht
   exact ⟨e,(yeu ht).1,h⟩
  ·cases h
theorem yqv(xs:Array Operand):(xs.map a.eval).toList=xs.toList.map a.eval:=by simp
theorem yyj{w:World}{U:Nat→Nat→Prop}{ρ:Rho}{x y:AV}{xs:Array Value}(h:VRs w U ρ [x,y] xs.toList):∃ X Y,xs = #[X,Y]∧VR w U ρ x X∧VR w U ρ y Y:=by
  simp only [VRs] at h
  obtain ⟨X,r,h1,h2,Y,r2,rfl,h3,rfl⟩:=h
  exact ⟨X,Y,by apply Array.ext'; simpa using h1,h2,h3⟩
theorem ybtl{w:World}{U:Nat→Nat→Prop}{ρ:Rho}{x:AV}{xs:Array Value}(h:VRs w U ρ [x] xs.toList):∃ X,xs = #[X]∧VR w U ρ x X:=by
  simp only [VRs] at h
  obtain ⟨X,r,h1,h2,rfl⟩:=h
  exact ⟨X,by apply Array.ext'; simpa using h1,h2⟩
theorem ybgd{α:Type}{xs:Array α}{x:α}(h:xs.toList = [x]):xs = #[x]:=by apply Array.ext'; simpa using h
theorem yvy{α:Type}{xs:Array α}{x y:α}(h:xs.toList = [x,y]):xs = #[x,y]:=by apply Array.ext'; simpa using h
def yny:IP→Bool
  | .call _ _=>true
  | .callv _ _=>true
  | _=>false
theorem yalx{c:Cfg}{cl:Callee}(hr:Rep A ρ s.H s.nx w)(hv:yjl w (UU A ρ s.H) ρ s a){b:Builtin}{args:Array Operand}{ts:Array TypeId}(ho:o.op = .call ⟨.builtin b,args,ts⟩){as:List Opd}(has:ymk args.toList=some as){ip:IP}
    (hc:yhh P b as ts.toList=some ip) (h:ybe c cl s ip=some (v,s')):ysi P A ρ s w v s' o a:=by
  have hvs:=ymv hv has
  rw [← yqv] at hvs
  have hexec:execOp a.eval o=builtin b ts o.type (args.map fun | .const _=>true | _=>false) (args.map a.eval):=by
    simp only [execOp,ho,resolve]
    rfl
  unfold yhh at hc
  split at hc
  ·rename_i x t hts
   obtain ⟨X,hX,h1⟩:=ybtl hvs
   have hts':=ybgd hts
   split at hc
   ·rename_i ti hti
    split at hc
    ·rename_i hd
     simp only [Option.some.injEq] at hc
     subst hc
     refine ydb (m:=Builtin.len_ ts o.type #[X]) hr ?_ h fun hg=>?_
     ·rw [hexec,hX]; rfl
     ·rw [hts']; exact ycbm hti hd h1 hg
    ·rename_i e hd
     simp only [Option.some.injEq] at hc
     subst hc
     refine ydb (m:=Builtin.len_ ts o.type #[X]) hr ?_ h fun hg=>?_
     ·rw [hexec,hX]; rfl
     ·rw [hts']; exact ycbl hti hd h1 hg
    ·cases hc
   ·cases hc
  ·rename_i x y _
   obtain ⟨X,Y,hX,h1,h2⟩:=yyj hvs
   simp only [Option.some.injEq] at hc
   subst hc
   refine ydb (m:=Builtin.max_ ts o.type #[X,Y]) hr ?_ h fun hg=>?_
   ·rw [hexec,hX]; rfl
   ·exact ydnn h1 h2 hg
  ·rename_i x y _
   obtain ⟨X,Y,hX,h1,h2⟩:=yyj hvs
   simp only [Option.some.injEq] at hc
   subst hc
   refine ydb (m:=Builtin.min_ ts o.type #[X,Y]) hr ?_ h fun hg=>?_
   ·rw [hexec,hX]; rfl
   ·exact ydnm h1 h2 hg
  ·rename_i x y t t2 hts
   obtain ⟨X,Y,hX,h1,h2⟩:=yyj hvs
   have hts':=yvy hts
   split at hc
   ·rename_i xe x2 hxe hx2
    split at hc
    ·rename_i z hz
     split at hc
     ·rename_i hcond
      simp only [Option.some.injEq] at hc
      subst hc
      obtain ⟨e,g1,g2⟩:=ypr hxe
      refine yjt (m:=Builtin.append_ ts o.type #[X,Y]) ?_ ?_
      ·rw [hexec,hX]; rfl
      ·rw [hts']
       exact ycok hr ⟨e,xe,x2,z,g1,g2,hx2,hz,hcond.1,hcond.2.1,hcond.2.2.1,hcond.2.2.2,rfl⟩ h1 h2 h
     ·cases hc
    ·cases hc
   ·cases hc
  ·rename_i x y t tr hts
   obtain ⟨X,Y,hX,h1,h2⟩:=yyj hvs
   split at hc
   ·rename_i xe hxe
    split at hc
    ·rename_i hcond
     simp only [Option.some.injEq] at hc
     subst hc
     obtain ⟨e,g1,g2⟩:=ypr hxe
     refine yjt (m:=Builtin.copy_ ts o.type #[X,Y]) ?_ ?_
     ·rw [hexec,hX]; rfl
     ·exact ycon hr hts g1 g2 hcond h1 h2 h
    ·cases hc
   ·cases hc
  ·cases hc
end
end Go.Proofs.YtgoachcogmlhcaaGreat.R
