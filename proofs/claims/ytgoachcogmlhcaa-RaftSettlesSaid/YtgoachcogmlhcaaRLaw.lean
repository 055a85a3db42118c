import Derived.Test.YtgoachcogmlhcaaRWeak
set_option linter.unusedVariables false
set_option linter.unusedSectionVars false
set_option linter.unusedSimpArgs false
noncomputable section
namespace Go.Proofs.Ytgoachcogmlhcaa.R
open Go Go.ChangeShapes Go.WideShapes Go.ChangeAt Go.RowKit
section
variable {H:Type} {enc:TypeId × Value->H} {P:Program} {w:World} {tys:List TypeId} {U:Nat->Nat->Prop}
theorem law_spec{F:Nat}{fn:Func}{s:ChangeSpec}{fresh handsOn again:Bool}(hT:tysB P tys=true)(hp:∀ t∈fn.params.toList,tys.contains t=true)(hl:laidOutB P=true)(hrd:∀ t∈fn.params.toList,P.readableRec t=true/\t < P.types.size)
    {tb:TypeId} (hr:fn.resultTypes = #[tb]) (htb:P.underlying tb=some .bool) (hvars:s.vars = []) (hs:∀ ds:List (DataW H),ds.length=fn.params.size->s.fn H ds = { results:=[.lit (.bool true)],args:=ds })
    (hev:∀ avs,Args P fn.params.toList avs->∃ H' n',yap P F avs [] 0 (.bool true) H' n')
    {W:World} {base:Nat} {args:Array Value} {ds gs:List (DataW H)} {before:List MemPlace} {apart:Bool}
    (hval:∀ (j:Nat) t v,fn.params[j]? = some t->args[j]? = some v->Value.okWide P W .any base t v)
    (hW:DataW.Whole enc P fn.params.toList s.vars apart W args.toList ds gs before)
    (hz:(DataW.weightsEach P (fn.params.toList++s.plain.varTypes P) (ds++gs)).all (·<= reachBytes) = true) :
    Calls P F args W fun e W'=>∃ v,e = .returned v/\s.post enc P fn apart fresh handsOn again W args v W':=by
  have hW':=hW
  obtain ⟨p,q,hA,hV,_⟩:=hW
  rw [hvars] at hV
  obtain ⟨rfl,rfl⟩:=trodVars_none hV
  have hz:∀ m∈DataW.weightsEach P fn.params.toList ds,m<=reachBytes:=by
    have hv0:s.plain.varTypes P = []:=by simp [DataSpec.varTypes,ChangeSpec.plain,hvars]
    rw [hv0] at hz
    simpa using hz
  let U:Nat->Nat->Prop:=UU (fun _ _=>False) ych []
  have hU:∀ b o,¬ U b o:=by
    rintro b o (h | ⟨id,es,ob,h1,_⟩)
    .exact h
    .simp at h1
  obtain ⟨avs,h1,h2⟩:=yanh hU hT hp (fun j t v h h'=>hval j t v (by simpa using h) (by simpa using h')) hA hz
  obtain ⟨H',n',h3⟩:=hev avs h2
  have hrep:Rep (fun _ _=>False) ych [] 0 W:=yvn fun _ _ h=>h.elim
  have hcall:=h3.2 hrep h1
  have hdl:∀ {ts:List TypeId} {vs:List Value} {ds:List (DataW H)} {ps:List MemPlace},DataW.TrodAll enc P W 0 (fun _=>true) true ts vs ds ps->ds.length=ts.length:=by
    intro ts
    induction ts with
    | nil=>intro vs ds ps h; obtain ⟨_,rfl,_⟩:=trodAll_nil h; rfl
    | cons t ts ih=>
      intro vs ds ps h
      obtain ⟨v,vs',d,ds',p,q,rfl,rfl,rfl,_,h2⟩:=trodAll_cons h
      simp [ih h2]
  have hsd:=hs (ds++[]) (by simpa using hdl hA)
  refine Calls.mono hcall fun e W' he=>?_
  cases e with
  | panicked chain=>exact he.elim
  | outgrown=>exact he.elim
  | returned x=>
    obtain ⟨Z,_,g2,_,g4⟩:=he
    simp only [VR] at g2
    subst g2
    refine ⟨_,rfl,yaoz hvars hl hrd hW' (by rw [hsd]; simp) (by rw [hsd]) (fun b sp hd=>?_) (yavw g4) (ok_one hr rfl (okWide_bool_mk htb true))⟩
    rw [hsd,hr]
    exact trodAll_mk1 (shut_bool htb true)
end
end Go.Proofs.Ytgoachcogmlhcaa.R
