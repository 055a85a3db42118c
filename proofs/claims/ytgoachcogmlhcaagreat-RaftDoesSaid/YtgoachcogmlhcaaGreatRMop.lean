/- Operations on memory: new places, reading, writing. -/
import Derived.Test.YtgoachcogmlhcaaGreatRMem
import Derived.Laws.IdiomCopy
set_option linter.unusedVariables false
set_option linter.unusedSectionVars false
set_option linter.unusedSimpArgs false
noncomputable section
namespace Go.Proofs.YtgoachcogmlhcaaGreat.R
open Go
structure yfh (ρ:Rho) (n:Nat) (ρ':Rho) (n':Nat):Prop where
  ext:Ext ρ ρ'
  cl:∀ k,k < n→ρ k=none→ρ' k=none
  le:n≤n'
theorem yfh.refl(ρ:Rho)(n:Nat):yfh ρ n ρ n:=⟨Ext.refl _,fun _ _ h=>h,Nat.le_refl _⟩
theorem yfh.trans{ρ ρ' ρ'':Rho}{n n' n'':Nat}(h:yfh ρ n ρ' n')(h':yfh ρ' n' ρ'' n''):yfh ρ n ρ'' n'':=
  ⟨h.ext.trans h'.ext,fun k hk h0=>h'.cl k (Nat.lt_of_lt_of_le hk h.le) (h.cl k hk h0),Nat.le_trans h.le h'.le⟩
theorem Rep.ext2{A:Nat→Nat→Prop}{ρ:Rho}{H:yq}{nx:Nat}{w:World}(hr:Rep A ρ H nx w)(x:Nat × Nat):yfh ρ nx (ygr ρ nx x) (nx + 1):=
  ⟨hr.ext x,fun k hk h0=>by rw [yep (by omega)]; exact h0,Nat.le_succ _⟩
theorem yfh.more(ρ:Rho)(n:Nat):yfh ρ n ρ (n + 1):=⟨Ext.refl _,fun _ _ h=>h,Nat.le_succ _⟩
def ydj(A:Nat→Nat→Prop)(ρ:Rho)(s:St)(w:World)(v:AV)(s':St)(x:Value)(w':World):Prop:=
  s'.env=s.env∧s'.loc=s.loc∧∃ ρ',Rep A ρ' s'.H s'.nx w'∧VR w' (UU A ρ' s'.H) ρ' v x∧yfh ρ s.nx ρ' s'.nx∧Fr ρ s.H w ρ' s'.H w'
theorem ydj.same{A:Nat→Nat→Prop}{ρ:Rho}{s:St}{w:World}{v:AV}{x:Value}(hr:Rep A ρ s.H s.nx w)(hv:VR w (UU A ρ s.H) ρ v x):ydj A ρ s w v s x w:=
  ⟨rfl,rfl,ρ,hr,hv,yfh.refl _ _,Fr.refl _ _ _⟩
def ykv(C:Array Value):Nat→List Value→Array Value
  | _,[]=>C
  | o,v :: r=>ykv (C.setIfInBounds o v) (o + 1) r
theorem yfv:∀ (vs:List Value) (C:Array Value) (o:Nat),(ykv C o vs).size=C.size
  | [],_,_=>rfl
  | v :: r,C,o=>by simp [ykv,yfv r]
theorem yib:∀ (vs:List Value) (C:Array Value) (o i:Nat),(ykv C o vs)[i]? = if o≤i∧i < o + vs.length∧i < C.size then vs[i - o]? else C[i]?
  | [],C,o,i=>by simp [ykv]; intro h1 h2; omega
  | v :: r,C,o,i=>by
    simp only [ykv,yib r,Array.size_setIfInBounds,List.length_cons]
    by_cases h1:i=o
    ·subst h1
     by_cases h2:i < C.size
     ·rw [if_neg (by omega),if_pos (by omega)]
      simp [h2]
     ·rw [if_neg (by omega),if_neg (by omega)]
      rw [Array.getElem?_eq_none (by simp; omega),Array.getElem?_eq_none (by omega)]
    ·rw [Array.getElem?_setIfInBounds_ne (fun e=>h1 e.symm)]
     by_cases h3:o + 1≤i∧i < o + 1 + r.length∧i < C.size
     ·rw [if_pos h3,if_pos (by omega)]
      rw [show i - o=(i - (o + 1)) + 1 by omega,List.getElem?_cons_succ]
     ·rw [if_neg h3,if_neg (by omega)]
theorem yarl{w:World}{b:Nat}{C:Array Value}{e:TypeId}{fr:Nat × Nat}(h:w.heap[b]? = some (Obj.cells C e fr))(o:Nat)(v:Value) :
    (w.setCell ⟨b,o,none⟩ v).heap[b]? = some (Obj.cells (C.setIfInBounds o v) e fr):=by
  simp [World.setCell,Array.getElem?_modify,h]
theorem yjd(b:Nat)(e:TypeId)(fr:Nat × Nat):∀ (vs:List Value) (o:Nat) (w:World) (C:Array Value),w.heap[b]? = some (Obj.cells C e fr) →
    (w.setCells b o vs).heap[b]? = some (Obj.cells (ykv C o vs) e fr)∧(∀ k,k≠b→(w.setCells b o vs).heap[k]? = w.heap[k]?)∧(w.setCells b o vs).heap.size=w.heap.size ∧
      (w.setCells b o vs).os=w.os∧(w.setCells b o vs).tape=w.tape∧(w.setCells b o vs).output=w.output
  | [],o,w,C,h=>⟨h,fun _ _=>rfl,rfl,rfl,rfl,rfl⟩
  | v :: r,o,w,C,h=>by
    obtain ⟨h1,h2,h3,h4,h5,h6⟩:=yjd b e fr r (o + 1) (w.setCell ⟨b,o,none⟩ v) _ (yarl h o v)
    refine ⟨h1,fun k hk=>(h2 k hk).trans ?_,h3.trans (by simp [World.setCell]),h4,h5,h6⟩
    simp only [World.setCell,Array.getElem?_modify]
    rw [if_neg (by simpa using fun e=>hk e.symm)]
section
variable {P:Program} {w:World} {A:Nat→Nat→Prop} {U:Nat→Nat→Prop} {ρ:Rho}
theorem ybtj{as vs:List AV}{xs:Array Value}{ys:List Value}{off:Nat}(ha:VRs w U ρ as xs.toList)(hv:VRs w U ρ vs ys)(hl:off + vs.length≤as.length) :
    VRs w U ρ (ych as off vs) (ykv xs off ys).toList:=by
  have hlen:=yce ha
  have hlen2:=yce hv
  have hx:xs.toList.length=xs.size:=by simp
  refine ykc ?_ fun i a hi=>?_
  ·rw [yfp,hlen,hx]
   simp [yfv]
  ·rw [yjy] at hi
   have hg:(ykv xs off ys).toList[i]? = if off≤i∧i < off + ys.length∧i < xs.size then ys[i - off]? else xs[i]?:=by
     rw [← yib ys xs off i]; simp
   rw [hg]
   split at hi
   ·rename_i hc
    rw [if_pos (by omega)]
    exact ydp hv hi
   ·rename_i hc
    rw [if_neg (by omega)]
    obtain ⟨x,h1,h2⟩:=ydp ha hi
    exact ⟨x,by simpa using h1,h2⟩
theorem ymj{x:Value}(h:ygp x=true):x.oneCell' = true:=by cases x <;> simp [ygp] at h <;> rfl
def At(w:World)(U:Nat→Nat→Prop)(ρ:Rho)(as:List AV)(b o:Nat):Prop:=∀ (j:Nat) (a:AV),as[j]? = some a→∃ v,w.cell? ⟨b,o + j,none⟩ = some v∧VR w U ρ a v
theorem At.list:∀ {as:List AV} {b o:Nat},At w U ρ as b o→∃ cs,VRs w U ρ as cs∧∀ (j:Nat) (v:Value),cs[j]? = some v→w.cell? ⟨b,o + j,none⟩ = some v
  | [],b,o,h=>⟨[],by simp [VRs],by simp⟩
  | a :: as,b,o,h=>by
    obtain ⟨v,h1,h2⟩:=h 0 a rfl
    have hr:At w U ρ as b (o + 1):=fun j a' hj=>by
      obtain ⟨v,h3,h4⟩:=h (j + 1) a' (by simpa using hj)
      exact ⟨v,by rw [show o + 1 + j=o + (j + 1) by omega]; exact h3,h4⟩
    obtain ⟨cs,h3,h4⟩:=At.list hr
    refine ⟨v :: cs,by simp only [VRs]; exact ⟨v,cs,rfl,h2,h3⟩,fun j v' hj=>?_⟩
    cases j with
    | zero=>simp at hj; subst hj; exact h1
    | succ j=>simp at hj; rw [show o + (j + 1) = o + 1 + j by omega]; exact h4 j v' hj
theorem At.sub{as:List AV}{b o:Nat}(h:At w U ρ as b o)(n m:Nat):At w U ρ ((as.drop n).take m) b (o + n):=by
  intro j a hj
  rw [List.getElem?_take] at hj
  split at hj
  ·rw [List.getElem?_drop] at hj
   obtain ⟨v,h1,h2⟩:=h _ a hj
   exact ⟨v,by rw [Nat.add_assoc]; exact h1,h2⟩
  ·cases hj
theorem ysr{t:TypeId}{x:TI}(ht:ybj P t=some x){as:List AV}{b o off:Nat}{v:AV}(ha:At w U ρ as b o)(h:part (yle x.desc) x.size as off=some v) :
    ∃ z,(loadVar t ⟨b,o + off,none⟩).run P w = .ok z w∧VR w U ρ v z:=by
  unfold part at h
  split at h
  ·rename_i hagg
   split at h
   ·rename_i hle
    simp only [Option.some.injEq] at h
    subst h
    obtain ⟨cs,h1,h2⟩:=(ha.sub off x.size).list
    have hl:=yce h1
    rw [List.length_take,List.length_drop,Nat.min_eq_left (by omega)] at hl
    refine ⟨.agg cs.toArray,?_,by simp only [VR]; exact ⟨_,rfl,by simpa using h1⟩⟩
    have:=run_loadCells_list (P:=P) w ⟨b,o + off,none⟩ cs (fun j v hj=>by rw [yjf]; exact h2 j v hj)
    rw [← hl] at this
    simp only [loadVar,Sem.run_bind,ykl ht,hagg,Result.andThen_ok,if_true,ycz ht,this,Sem.run_pure]
   ·cases h
  ·rename_i hagg
   split at h
   ·rename_i v' hv'
    split at h
    ·simp only [Option.some.injEq] at h
     subst h
     obtain ⟨z,h1,h2⟩:=ha off v' hv'
     refine ⟨z,?_,h2⟩
     have hagg':yle x.desc=false:=by simpa using hagg
     simp [loadVar,ykl ht,hagg',h1]
    ·cases h
   ·cases h
theorem ycpo{H:yq}{nx:Nat}(hr:Rep A ρ H nx w){id b es:Nat}{cells:List AV}(hid:lk H id=some (.box cells))(hρ:ρ id=some (b,es)):At w (UU A ρ H) ρ cells b 0:=by
  obtain ⟨C,e,fr,h1,h2,h3⟩:=hr.ob id _ b es hid hρ
  intro j a hj
  obtain ⟨x,h4,h5⟩:=ydp h3 hj
  exact ⟨x,by rw [yfr h1]; simpa using h4,h5⟩
theorem ycpp{H:yq}{nx:Nat}(hr:Rep A ρ H nx w){id b es es' leak:Nat}{rows:List (List AV)}(hid:lk H id=some (.arr es' rows leak))(hρ:ρ id=some (b,es)){i:Nat}{row:List AV}(hi:rows[i]? = some row) :
    row.length=es∧At w (UU A ρ H) ybz row b (i * es):=by
  obtain ⟨h0,hz,C,e,fr,h1,h2,h3⟩:=hr.ob id _ b es hid hρ
  obtain ⟨g1,g2,g3,_⟩:=ygt h3 hi
  refine ⟨g1,fun j a hj=>?_⟩
  obtain ⟨x,h4,h5⟩:=ydp g3 hj
  rw [List.getElem?_take] at h4
  split at h4
  ·rw [List.getElem?_drop] at h4
   exact ⟨x,by rw [yfr h1]; simpa using h4,h5⟩
  ·cases h4
theorem ycpq(ρ:Rho):Ext ybz ρ:=fun _ _ h=>by simp [ybz] at h
theorem ycce{a:AV}{x:Value}(h:VR w U ybz a x):VR w U ρ a x:=ydo (ydn.refl w U) a x ybz ρ (ycpq ρ) h
theorem At.up{as:List AV}{b o:Nat}(h:At w U ybz as b o):At w U ρ as b o:=fun j a hj=>let ⟨v,h1,h2⟩:=h j a hj; ⟨v,h1,ycce h2⟩
theorem yarn{H:yq}{nx:Nat}(hr:Rep A ρ H nx w){t:TypeId}{x:TI}(ht:ybj P t=some x){X:Value}{p v:AV}(hp:VR w (UU A ρ H) ρ p X)(h:yhd (yle x.desc) x.size H p=some v) :
    ∃ z,(Instr.loadAt t X).run P w = .ok z w∧VR w (UU A ρ H) ρ v z:=by
  unfold yhd at h
  split at h
  ·rename_i id off
   split at h
   ·rename_i cells hid
    simp only [VR] at hp
    obtain ⟨b,es,hρ,rfl⟩:=hp
    have:=ysr (P:=P) ht (ycpo hr hid hρ) h
    simpa [Instr.loadAt,Instr.sureAddr] using this
   ·cases h
  ·rename_i id i f
   split at h
   ·rename_i es' rows leak hid
    split at h
    ·rename_i row hrow
     simp only [VR] at hp
     obtain ⟨b,es,hρ,rfl⟩:=hp
     have:=ysr (P:=P) (ρ:=ρ) ht (ycpp hr hid hρ hrow).2.up h
     simpa [Instr.loadAt,Instr.sureAddr] using this
    ·cases h
   ·cases h
  ·rename_i row f
   simp only [VR] at hp
   obtain ⟨b,o,rfl,hc⟩:=hp
   have hat:At w (UU A ρ H) ρ row b o:=fun j a hj=>let ⟨v,h1,_,_,h3⟩:=yagg hc hj; ⟨v,h1,ycce h3⟩
   have:=ysr (P:=P) ht hat h
   simpa [Instr.loadAt,Instr.sureAddr] using this
  ·cases h
theorem ysg(n:Nat):unfr (0,0) n:=fun o _ h=>by omega
theorem yafy{s:St}(hr:Rep A ρ s.H s.nx w){cs:List AV}{C:Array Value}{e:TypeId}(hc:VRs w (UU A ρ s.H) ρ cs C.toList) :
    ydj A ρ s w (.ptr s.nx 0) (s.add (.box cs)) (.pointer (some ⟨w.heap.size,0,none⟩)) (ygb w (.cells C e)):=by
  have hfr:=yacv hr (.box cs) C e (0,0) 0
  refine ⟨rfl,rfl,ygr ρ s.nx (w.heap.size,0),yasy hr ?_,?_,hr.ext2 _,hfr⟩
  ·refine ⟨C,e,(0,0),?_,ysg _,yel hfr.stay _ _ _ _ (hr.ext _) hc⟩
   simp only [ygb,ynu,if_true]
  ·simp only [VR]
   exact ⟨w.heap.size,0,yfo _ _ _,rfl⟩
theorem ybst{s:St}(hr:Rep A ρ s.H s.nx w){t:TypeId}{ti:TI}(ht:ybj P t=some ti){z:List AV}(hz:zeroCells ti=some z) :
    ∃ x w',(Instr.alloc t true (.tuple #[])).run P w = .ok x w'∧ydj A ρ s w (.ptr s.nx 0) (s.add (.box z)) x w':=by
  obtain ⟨zv,hzv,_,hz2⟩:=ynv hz
  refine ⟨_,_,?_,yafy (e:=t) hr (hz2 (w:=w) (U:=UU A ρ s.H) (ρ:=ρ))⟩
  simp only [Instr.alloc,Sem.run_bind,ysf ht hzv,Result.andThen_ok,newVar,newRow,run_newObj,Sem.run_pure]
  rfl
theorem ycom{s:St}(hr:Rep A ρ s.H s.nx w){t:TypeId}{a:AV}{X:Value}(ha:VR w (UU A ρ s.H) ρ a X){cs:List AV}(hc:cellsOf a=some cs) :
    ∃ x w',(Instr.box t X).run P w = .ok x w'∧ydj A ρ s w (.ptr s.nx 0) (s.add (.box cs)) x w':=by
  refine ⟨_,_,?_,yafy (e:=t) hr (yom hc ha)⟩
  simp only [Instr.box,Sem.run_bind,newVar,newRow,run_newObj,Result.andThen_ok,Sem.run_pure]
  rfl
end
end Go.Proofs.YtgoachcogmlhcaaGreat.R
