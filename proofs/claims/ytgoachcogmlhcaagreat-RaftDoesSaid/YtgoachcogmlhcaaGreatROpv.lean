/- Structs that are built; operands. -/
import Derived.Test.YtgoachcogmlhcaaGreatROpu
set_option linter.unusedVariables false
set_option linter.unusedSectionVars false
set_option linter.unusedSimpArgs false
noncomputable section
namespace Go.Proofs.YtgoachcogmlhcaaGreat.R
open Go
section
variable {P:Program} {w:World} {U:Nat→Nat→Prop} {ρ:Rho}
theorem ynv{x:TI}{z:List AV}(h:zeroCells x=some z):∃ v,x.zero=some v∧ycq z=true∧∀ {w:World} {U:Nat→Nat→Prop} {ρ:Rho},VRs w U ρ z v.cells.toList:=by
  unfold zeroCells at h
  split at h
  ·rename_i cs hz
   split at h
   ·rename_i hc
    simp only [Option.some.injEq] at h
    subst h
    exact ⟨_,hz,hc,ysj _⟩
   ·cases h
  ·rename_i v hn hz
   split at h
   ·rename_i hc
    simp only [Option.some.injEq] at h
    subst h
    refine ⟨v,hz,by simp [ycq,hc],?_⟩
    intro w U ρ
    have h1:VR w U ρ (yfd v) v:=yro v
    have h2:=yrs (yyh hc h1)
    rw [h2]
    simp only [VRs]
    exact ⟨v,[],rfl,h1,rfl⟩
   ·cases h
  ·cases h
theorem yod(H:yq):∀ vs:List AV,(yef H vs).length=vs.length
  | []=>rfl
  | v :: r=>by simp [yef,yod H r]
theorem yayv{w:World}{U:Nat→Nat→Prop}{ρ:Rho}(v:Value):VR w U ρ (frz [] (yfd v)) v:=by
  unfold yfd
  split <;> simp [frz,VR,ygp,yca]
theorem yqy{w:World}{U:Nat→Nat→Prop}{ρ:Rho}:∀ vs:List Value,VRs w U ρ (yef [] (vs.map yfd)) vs
  | []=>by simp [yef,VRs]
  | v :: vs=>by
    simp only [List.map_cons,yef,VRs]
    exact ⟨v,vs,rfl,yayv v,yqy vs⟩
theorem yadr{v:Value}(h:yds (yfd v) = true):yds (frz [] (yfd v)) = true:=by
  unfold yfd at h ⊢
  split at h <;> simp_all [frz,yds,yca]
theorem ykr:∀ {vs:List Value},ycq (vs.map yfd) = true→ycq (yef [] (vs.map yfd)) = true
  | [],_=>rfl
  | v :: vs,h=>by
    simp only [List.map_cons,ycq,Bool.and_eq_true] at h
    simp only [List.map_cons,yef,ycq,Bool.and_eq_true]
    exact ⟨yadr h.1,ykr h.2⟩
theorem ysh{x:TI}{z:List AV}(h:zeroCells x=some z):∃ v,x.zero=some v∧ycq (yef [] z) = true∧∀ {w:World} {U:Nat→Nat→Prop} {ρ:Rho},VRs w U ρ (yef [] z) v.cells.toList:=by
  unfold zeroCells at h
  split at h
  ·rename_i cs hz
   split at h
   ·rename_i hc
    simp only [Option.some.injEq] at h
    subst h
    exact ⟨_,hz,ykr hc,yqy _⟩
   ·cases h
  ·rename_i v hn hz
   split at h
   ·rename_i hc
    simp only [Option.some.injEq] at h
    subst h
    refine ⟨v,hz,ykr (vs:=[v]) (by simp [ycq,hc]),?_⟩
    intro w U ρ
    have h1:VR w U ρ (yfd v) v:=yro v
    have h2:=yrs (yyh hc h1)
    rw [h2]
    exact yqy [v]
   ·cases h
  ·cases h
def yjl(w:World)(U:Nat→Nat→Prop)(ρ:Rho)(s:St)(a:Act):Prop:=∀ t,VR w U ρ (s.get t) (a.tmps.getD t undef)
variable {s:St} {a:Act}
theorem ycf(hv:yjl w U ρ s a){x:Operand}{y:Opd}(h:opd x=some y):VR w U ρ (s.ev y) (a.eval x):=by
  cases x with
  | tmp t=>simp only [opd,Option.some.injEq] at h; subst h; exact hv t
  | const v=>simp only [opd,Option.some.injEq] at h; subst h; exact yaxy v
  | global g=>simp [opd] at h
  | func f=>
    simp only [opd,Option.some.injEq] at h
    subst h
    simp only [St.ev,Act.eval,VR]
    exact ⟨_,_,rfl,by simp [VRs],by simp [VRs]⟩
theorem ymv(hv:yjl w U ρ s a):∀ {xs:List Operand} {ys:List Opd},ymk xs=some ys→VRs w U ρ (s.evs ys) (xs.map a.eval)
  | [],ys,h=>by simp only [ymk,Option.some.injEq] at h; subst h; simp [St.evs,VRs]
  | x :: xs,ys,h=>by
    simp only [ymk] at h
    split at h
    ·rename_i y l h1 h2
     simp only [Option.some.injEq] at h
     subst h
     simp only [St.evs,List.map_cons,VRs]
     exact ⟨_,_,rfl,ycf hv h1,ymv hv h2⟩
    ·cases h
theorem yqn(hv:yjl w U ρ s a){x:Option Operand}{y:Option Opd}(h:oopd x=some y):VRo w U ρ (s.evo y) (x.map a.eval):=by
  cases x with
  | none=>simp only [oopd,Option.some.injEq] at h; subst h; trivial
  | some x=>
    simp only [oopd] at h
    split at h
    ·rename_i y' h1
     simp only [Option.some.injEq] at h
     subst h
     exact ycf hv h1
    ·cases h
theorem yacx(hv:yjl w U ρ s a){d:TypeDesc}:∀ {pl:List (Nat × Operand)} {ps:List (Nat × Opd)} {l:List (Nat × Nat × Opd)},yil pl=some ps→yns P d ps=some l →
    VRp w U ρ (s.evq l) (pl.map fun p=>(p.1,a.eval p.2)) (yqj P d)
  | [],ps,l,h1,h2=>by
    simp only [yil,Option.some.injEq] at h1
    subst h1
    simp only [yns,Option.some.injEq] at h2
    subst h2
    simp [St.evq,VRp]
  | (i,x) :: pl,ps,l,h1,h2=>by
    simp only [yil] at h1
    split at h1
    ·rename_i y q e1 e2
     simp only [Option.some.injEq] at h1
     subst h1
     simp only [yns] at h2
     split at h2
     ·rename_i off size l' e3 e4
      simp only [Option.some.injEq] at h2
      subst h2
      simp only [St.evq,List.map_cons,VRp]
      exact ⟨i,_,_,rfl,e3,ycf hv e1,yacx hv e2 e4⟩
     ·cases h2
    ·cases h1
theorem ywj{place place':Nat→Option (Nat × Nat)}(h:∀ i x,place i=some x→place' i=some x):∀ {l:List (Nat × Nat × AV)} {ps:List (Nat × Value)},VRp w U ρ l ps place→VRp w U ρ l ps place'
  | [],ps,hp=>by simpa [VRp] using hp
  | (off,size,a) :: l,ps,hp=>by
    simp only [VRp] at hp ⊢
    obtain ⟨i,x,q,h1,h2,h3,h4⟩:=hp
    exact ⟨i,x,q,h1,h _ _ h2,h3,ywj h h4⟩
theorem yarj{α β:Type}(f:α→Sem β)(g:α→β)(w:World):∀ (l:List α),(∀ x∈l,(f x).run P w = .ok (g x) w)→(l.mapM f).run P w = .ok (l.map g) w
  | [],_=>by simp
  | x :: l,h=>by
    rw [List.mapM_cons]
    simp only [Sem.run_bind,h x (by simp),Result.andThen_ok,yarj f g w l (fun y hy=>h y (by simp [hy])),Sem.run_pure,List.map_cons]
theorem ybfv{fs:Array Field}(h:yqx P (.struct fs) = true):∃ pl:Array (Nat × Nat),(fs.mapM fun f=>do pure (f.offset,← sizeOf f.type):Sem (Array (Nat × Nat))).run P w = .ok pl w∧∀ i x,yqj P (.struct fs) i=some x→pl[i]? = some x:=by
  simp only [yqx,List.all_eq_true] at h
  refine ⟨(fs.toList.map fun f=>(f.offset,((ybj P f.type).map (·.size)).getD 0)).toArray,?_,?_⟩
  ·rw [Array.mapM_eq_mapM_toList]
   rw [Sem.run_map,yarj _ (fun f=>(f.offset,((ybj P f.type).map (·.size)).getD 0)) w fs.toList]
   ·rfl
   ·intro f hf
    obtain ⟨x,hx⟩:=Option.isSome_iff_exists.1 (h f hf)
    simp only [Sem.run_bind,ycz hx,Result.andThen_ok,Sem.run_pure,hx,Option.map_some,Option.getD_some]
  ·intro i x hx
   simp only [yqj] at hx
   split at hx
   ·rename_i f hf
    split at hx
    ·rename_i xf hxf
     simp only [Option.some.injEq] at hx
     subst hx
     have hf':fs.toList[i]? = some f:=by simpa using hf
     simp [hf',hxf]
    ·cases hx
   ·cases hx
theorem ybsu(hv:yjl w U ρ s a){t:TypeId}{ti:TI}(ht:ybj P t=some ti){parts:Array (Nat × Operand)}{ps:List (Nat × Opd)}(hp:yil parts.toList=some ps){z:List AV}(hz:zeroCells ti=some z)
    {l:List (Nat × Nat × Opd)} (hl:yns P ti.desc ps=some l) (hagg:yle ti.desc=true) (hok:yqx P ti.desc=true) {v:AV} (h:ysw z (s.evq l) = some v) :
    ∃ x,(Instr.build t (parts.map fun (i,x)=>(i,a.eval x))).run P w = .ok x w∧VR w U ρ v x:=by
  unfold ysw at h
  split at h
  ·rename_i cs hcs
   simp only [Option.some.injEq] at h
   subst h
   obtain ⟨zv,hzv,_,hz2⟩:=ynv hz
   have h3:=ybt ht w
   have hpl:=yacx (P:=P) hv hp hl
   have hmap:(parts.map fun (i,x)=>(i,a.eval x)).toList=parts.toList.map fun p=>(p.1,a.eval p.2):=by simp
   cases hd:ti.desc with
   | struct fs=>
     rw [hd] at h3 hok hpl
     obtain ⟨pl,hr,hpc⟩:=ybfv (P:=P) (w:=w) hok
     obtain ⟨ys,h1,h2⟩:=ywq (ywj hpc hpl) (hz2 (w:=w) (U:=U) (ρ:=ρ)) hcs
     refine ⟨.agg ys,?_,by simp only [VR]; exact ⟨ys,rfl,h2⟩⟩
     simp only [Instr.build,Sem.run_bind,ysf ht hzv,h3,Result.andThen_ok,hr,hmap,h1,Sem.run_pure]
   | array n e=>
     rw [hd] at h3 hok hpl
     obtain ⟨x,hx⟩:=Option.isSome_iff_exists.1 (by simpa [yqx] using hok)
     have hpc:∀ i y,yqj P (.array n e) i=some y→(fun i=>some (i * x.size,x.size):Nat→Option (Nat × Nat)) i=some y:=by
       intro i y hy
       simpa [yqj,hx] using hy
     obtain ⟨ys,h1,h2⟩:=ywq (ywj hpc hpl) (hz2 (w:=w) (U:=U) (ρ:=ρ)) hcs
     refine ⟨.agg ys,?_,by simp only [VR]; exact ⟨ys,rfl,h2⟩⟩
     simp only [Instr.build,Sem.run_bind,ysf ht hzv,h3,Result.andThen_ok,ycz hx,hmap,h1,Sem.run_pure]
   | _=>rw [hd] at hagg; simp [yle] at hagg
  ·cases h
end
end Go.Proofs.YtgoachcogmlhcaaGreat.R
