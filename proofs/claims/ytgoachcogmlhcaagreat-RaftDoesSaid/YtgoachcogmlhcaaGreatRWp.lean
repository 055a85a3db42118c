/- What code does, from a state on: rules, one for each kind of code. -/
import Derived.Test.YtgoachcogmlhcaaGreatRRow
set_option linter.unusedVariables false
set_option linter.unusedSectionVars false
set_option linter.unusedSimpArgs false
noncomputable section
namespace Go.Proofs.YtgoachcogmlhcaaGreat.R
open Go
section
variable {P:Program}
theorem ybho{code:Code}{x y:IC}(h:ycp P code=some (.seq x y)):∃ a b,code = .seq a b∧ycp P a=some x∧ycp P b=some y:=by
  cases code <;> simp only [ycp] at h
  case seq a b=>
    split at h
    ·rename_i h1 h2
     simp only [Option.some.injEq,IC.seq.injEq] at h
     obtain ⟨rfl,rfl⟩:=h
     exact ⟨a,b,rfl,h1,h2⟩
    ·cases h
  all_goals (repeat' split at h) <;> cases h
theorem yadf{code:Code}{x:Opd}{y z:IC}(h:ycp P code=some (.cond x y z)):∃ o a b,code = .cond o a b∧opd o=some x∧ycp P a=some y∧ycp P b=some z:=by
  cases code <;> simp only [ycp] at h
  case cond o a b=>
    split at h
    ·rename_i h0 h1 h2
     simp only [Option.some.injEq,IC.cond.injEq] at h
     obtain ⟨rfl,rfl,rfl⟩:=h
     exact ⟨o,a,b,rfl,h0,h1,h2⟩
    ·cases h
  all_goals (repeat' split at h) <;> cases h
theorem yasd{code:Code}{id:Nat}{x:IC}(h:ycp P code=some (.block id x)):∃ a,code = .block id a∧ycp P a=some x:=by
  cases code <;> simp only [ycp] at h
  case block i a=>
    split at h
    ·rename_i h1
     simp only [Option.some.injEq,IC.block.injEq] at h
     obtain ⟨rfl,rfl⟩:=h
     exact ⟨a,rfl,h1⟩
    ·cases h
  all_goals (repeat' split at h) <;> cases h
theorem yayk{code:Code}{x:IC}(h:ycp P code=some (.loop x)):∃ a,code = .loop a∧ycp P a=some x:=by
  cases code <;> simp only [ycp] at h
  case loop a=>
    split at h
    ·rename_i h1
     simp only [Option.some.injEq,IC.loop.injEq] at h
     obtain rfl:=h
     exact ⟨a,rfl,h1⟩
    ·cases h
  all_goals (repeat' split at h) <;> cases h
theorem ybhm{code:Code}{id:Nat}(h:ycp P code=some (.out id)):code = .exit id:=by
  cases code <;> simp only [ycp] at h
  case exit i=>simp only [Option.some.injEq,IC.out.injEq] at h; subst h; rfl
  all_goals (repeat' split at h) <;> cases h
theorem ybhn{code:Code}(h:ycp P code=some .ret):code = .ret:=by
  cases code <;> simp only [ycp] at h
  case ret=>rfl
  all_goals (repeat' split at h) <;> cases h
theorem yayl{code:Code}(h:ycp P code=some .skip):code = .skip∨∃ l,code = .label l:=by
  cases code <;> simp only [ycp] at h
  case skip=>exact .inl rfl
  case label l=>exact .inr ⟨l,rfl⟩
  all_goals (repeat' split at h) <;> cases h
theorem yaik{code:Code}{k:Option (List (Nat × Nat))}{l:List Iop}(h:ycp P code=some (.reg k l)):∃ id ops draw,code = .region id ops draw∧yfq P ops.toList ops.toList=some l∧((draw=false∧k=none)∨(draw=true∧∃ q,k=some q∧yma l ops.toList l [] = some q)):=by
  cases code <;> simp only [ycp] at h
  case region id ops draw=>
    split at h
    ·rename_i l' h1
     split at h
     ·rename_i hd
      split at h
      ·rename_i q hq
       simp only [Option.some.injEq,IC.reg.injEq] at h
       obtain ⟨rfl,rfl⟩:=h
       exact ⟨id,ops,draw,rfl,h1,.inr ⟨hd,q,rfl,hq⟩⟩
      ·cases h
     ·rename_i hd
      simp only [Option.some.injEq,IC.reg.injEq] at h
      obtain ⟨rfl,rfl⟩:=h
      exact ⟨id,ops,draw,rfl,h1,.inl ⟨by simpa using hd,rfl⟩⟩
    ·cases h
  all_goals (repeat' split at h) <;> cases h
end
def Wp(P:Program)(nt m:Nat)(ic:IC)(s:St)(Q:Ex→St→Prop):Prop:=
  ∀ (code:Code),ycp P code=some ic→∀ (A:Nat→Nat→Prop) (E:Entry) (a:Act) (w:World),E.m=m→(∀ i x,E.ρ i=some x→i < E.m)→SR A E nt s a w →
    ∀ K:Exit→Act→World→Prop,(∀ e s' a' w',Q e s'→SR A E nt s' a' w'→K (exOf e) a' w')→code.wp P K a w
def yql(P:Program)(c:Code)(K:Exit→Act→World→Prop)(a:Act)(w:World):Prop:=
  ∀ b k cs,∃ e a' w',K e a' w'∧Arrives P (lone (b.at a (.code c :: .inLoop c :: k)) cs w) b k cs e a' w'
theorem yql.step{P:Program}{c:Code}{K:Exit→Act→World→Prop}{a:Act}{w:World}(h:c.wp P (Exit.then (yql P c K) K) a w):yql P c K a w:=by
  intro b k cs
  obtain ⟨e,a₁,w₁,hq,harr⟩:=h b (.inLoop c :: k) cs
  cases e with
  | normal=>
    obtain ⟨e₂,a₂,w₂,hq₂,harr₂⟩:=hq b k cs
    exact ⟨e₂,a₂,w₂,hq₂,.of_steps (Steps.trans harr (.one step_inLoop)) harr₂⟩
  | exit id=>exact ⟨_,a₁,w₁,hq,.pass (x:=.inLoop c) rfl (fun _ _=>.inl (by simp)) harr⟩
  | goto l=>exact ⟨_,a₁,w₁,hq,.pass (x:=.inLoop c) rfl (fun _ _=>.inl (by simp)) harr⟩
  | ret=>exact ⟨_,a₁,w₁,hq,.pass (x:=.inLoop c) rfl (fun _ _=>.inl (by simp)) harr⟩
  | panic ch=>exact ⟨_,a₁,w₁,hq,.pass (x:=.inLoop c) rfl (fun _ _=>.inl (by simp)) harr⟩
  | outgrown=>exact ⟨_,a₁,w₁,hq,.pass (x:=.inLoop c) rfl (fun _ _=>.inl (by simp)) harr⟩
theorem yql.wp{P:Program}{c:Code}{K:Exit→Act→World→Prop}{a:Act}{w:World}(h:yql P c K a w):(Code.loop c).wp P K a w:=by
  intro b k cs
  obtain ⟨e,a',w',hq,harr⟩:=h b k cs
  exact ⟨e,a',w',hq,.of_steps (.one step_loop) harr⟩
def LWp(P:Program)(nt m:Nat)(b:IC)(s:St)(Q:Ex→St→Prop):Prop:=
  ∀ (c:Code),ycp P c=some b→∀ (A:Nat→Nat→Prop) (E:Entry) (a:Act) (w:World),E.m=m→(∀ i x,E.ρ i=some x→i < E.m)→SR A E nt s a w →
    ∀ K:Exit→Act→World→Prop,(∀ e s' a' w',Q e s'→SR A E nt s' a' w'→K (exOf e) a' w')→yql P c K a w
def yav(P:Program)(nt m:Nat)(b:IC)(Q:Ex→St→Prop):Ex→St→Prop
  | .norm,s=>Wp P nt m b s Q
  | e,s=>Q e s
def ydl(P:Program)(nt m:Nat)(b:IC)(Q:Ex→St→Prop):Ex→St→Prop
  | .norm,s=>LWp P nt m b s Q
  | e,s=>Q e s
def yam(id:Nat)(Q:Ex→St→Prop):Ex→St→Prop
  | .out j,s=>if j=id then Q .norm s else Q (.out j) s
  | e,s=>Q e s
def ylu(m:Nat)(s s':St):Prop:=
  ∀ (nt:Nat) (A:Nat→Nat→Prop) (E:Entry) (a:Act) (w:World),E.m=m→(∀ i x,E.ρ i=some x→i < E.m)→SR A E nt s a w→SR A E nt s' a w
theorem ylu.refl(m:Nat)(s:St):ylu m s s:=fun _ _ _ _ _ _ _ h=>h
theorem ylu.trans{m:Nat}{s s' s'':St}(h:ylu m s s')(h':ylu m s' s''):ylu m s s'':=fun nt A E a w hm hE hs=>h' nt A E a w hm hE (h nt A E a w hm hE hs)
section
variable {P:Program} {nt m:Nat} {s s' s1:St} {Q:Ex→St→Prop}
theorem Wp.seq{a b:IC}(h:Wp P nt m a s (yav P nt m b Q)):Wp P nt m (.seq a b) s Q:=by
  intro code hc A E act w hm hE hs K hK
  obtain ⟨x,y,rfl,h1,h2⟩:=ybho hc
  refine wp_seq (h x h1 A E act w hm hE hs _ ?_)
  intro e s' a' w' hq hs'
  cases e with
  | norm=>exact hq y h2 A E a' w' hm hE hs' K hK
  | out id=>exact hK _ _ a' w' hq hs'
  | ret=>exact hK _ _ a' w' hq hs'
theorem Wp.block{id:Nat}{b:IC}(h:Wp P nt m b s (yam id Q)):Wp P nt m (.block id b) s Q:=by
  intro code hc A E act w hm hE hs K hK
  obtain ⟨x,rfl,h1⟩:=yasd hc
  refine wp_block (h x h1 A E act w hm hE hs _ ?_)
  intro e s' a' w' hq hs'
  cases e with
  | norm=>exact hK _ _ a' w' hq hs'
  | out j=>
    simp only [exOf,Exit.inBlock]
    simp only [yam] at hq
    split at hq
    ·rename_i hj
     rw [if_pos hj]
     exact hK _ _ a' w' hq hs'
    ·rename_i hj
     rw [if_neg hj]
     exact hK _ _ a' w' hq hs'
  | ret=>exact hK _ _ a' w' hq hs'
theorem Wp.loop{b:IC}(h:LWp P nt m b s Q):Wp P nt m (.loop b) s Q:=by
  intro code hc A E act w hm hE hs K hK
  obtain ⟨x,rfl,h1⟩:=yayk hc
  exact (h x h1 A E act w hm hE hs K hK).wp
theorem LWp.step{b:IC}(h:Wp P nt m b s (ydl P nt m b Q)):LWp P nt m b s Q:=by
  intro c hc A E act w hm hE hs K hK
  refine yql.step (h c hc A E act w hm hE hs _ ?_)
  intro e s' a' w' hq hs'
  cases e with
  | norm=>exact hq c hc A E a' w' hm hE hs' K hK
  | out id=>exact hK _ _ a' w' hq hs'
  | ret=>exact hK _ _ a' w' hq hs'
theorem Wp.condT{x:Opd}{a b:IC}(hx:s.ev x = .bool true)(h:Wp P nt m a s Q):Wp P nt m (.cond x a b) s Q:=by
  intro code hc A E act w hm hE hs K hK
  obtain ⟨o,y,z,rfl,h0,h1,h2⟩:=yadf hc
  obtain ⟨ρ,hr,hv,_⟩:=hs.ex
  have hxv:=ycf hv h0
  rw [hx] at hxv
  simp only [VR] at hxv
  exact wp_cond_true hxv (h y h1 A E act w hm hE hs K hK)
theorem Wp.condF{x:Opd}{a b:IC}(hx:s.ev x = .bool false)(h:Wp P nt m b s Q):Wp P nt m (.cond x a b) s Q:=by
  intro code hc A E act w hm hE hs K hK
  obtain ⟨o,y,z,rfl,h0,h1,h2⟩:=yadf hc
  obtain ⟨ρ,hr,hv,_⟩:=hs.ex
  have hxv:=ycf hv h0
  rw [hx] at hxv
  simp only [VR] at hxv
  exact wp_cond_false hxv (h z h2 A E act w hm hE hs K hK)
theorem Wp.skip(h:Q .norm s):Wp P nt m .skip s Q:=by
  intro code hc A E act w hm hE hs K hK
  rcases yayl hc with rfl | ⟨l,rfl⟩
  ·exact wp_skip (hK _ _ act w h hs)
  ·exact wp_label (hK _ _ act w h hs)
theorem Wp.out{id:Nat}(h:Q (.out id) s):Wp P nt m (.out id) s Q:=by
  intro code hc A E act w hm hE hs K hK
  obtain rfl:=ybhm hc
  exact wp_exit (hK _ _ act w h hs)
theorem Wp.ret(h:Q .ret s):Wp P nt m .ret s Q:=by
  intro code hc A E act w hm hE hs K hK
  obtain rfl:=ybhn hc
  exact wp_ret (hK _ _ act w h hs)
theorem Wp.weak{ic:IC}(hw:ylu m s s')(h:Wp P nt m ic s' Q):Wp P nt m ic s Q:=
  fun code hc A E act w hm hE hs K hK=>h code hc A E act w hm hE (hw nt A E act w hm hE hs) K hK
theorem LWp.weak{ic:IC}(hw:ylu m s s')(h:LWp P nt m ic s' Q):LWp P nt m ic s Q:=
  fun code hc A E act w hm hE hs K hK=>h code hc A E act w hm hE (hw nt A E act w hm hE hs) K hK
end
def St.clr(s:St):St:=⟨s.env,[],s.H,s.nx⟩
def yek(P:Program)(nt m:Nat)(l:List Iop)(s:St)(Q:St→Prop):Prop:=
  ∀ (all:Array Oper) (ops:List Oper),yfq P all.toList ops=some l→∀ (A:Nat→Nat→Prop) (E:Entry) (a:Act) (w:World),E.m=m→(∀ i x,E.ρ i=some x→i < E.m)→SR A E nt s a w →
    ∀ K:Exit→Act→World→Prop,(∀ s' a' w',Q s'→SR A E nt s' a' w'→K .normal a' w')→wpList P all K ops a w
section
variable {P:Program} {nt m:Nat} {s s1:St} {Q:Ex→St→Prop} {T:St→Prop} {c:Cfg} {cl:Callee}
theorem yek.nil(h:T s):yek P nt m [] s T:=by
  intro all ops hc A E a w hm hE hs K hK
  cases ops with
  | nil=>exact hK _ _ _ h hs
  | cons o r=>
    simp only [yfq] at hc
    split at hc <;> cases hc
theorem yek.one{o:Iop}{l:List Iop}(hcl:ycx P cl)(h1:ygh c cl nt o s=some s1)(h:yek P nt m l s1 T):yek P nt m (o :: l) s T:=by
  intro all ops hc A E a w hm hE hs K hK
  cases ops with
  | nil=>simp [yfq] at hc
  | cons p r=>
    simp only [yfq] at hc
    split at hc
    ·rename_i io rr h2 h3
     simp only [Option.some.injEq,List.cons.injEq] at hc
     obtain ⟨rfl,rfl⟩:=hc
     refine wpList_step fun K' hK'=>?_
     exact ybsv hcl hs h2 h1 fun a' w' hs'=>hK' a' w' (h all r h3 A E a' w' hm hE hs' K hK)
    ·cases hc
theorem yek.chunk(hcl:ycx P cl):∀ {l1 l2:List Iop} {s s1:St},yis c cl nt l1 s=some s1→yek P nt m l2 s1 T→yek P nt m (l1++l2) s T
  | [],l2,s,s1,h,h2=>by
    rw [yrw] at h
    obtain rfl:=Option.some.inj h
    exact h2
  | o :: l1,l2,s,s1,h,h2=>by
    rw [ypi] at h
    cases h3:ygh c cl nt o s with
    | none=>rw [h3,ylv] at h; cases h
    | some s2=>
      rw [h3,ylw] at h
      exact yek.one hcl h3 (yek.chunk hcl h h2)
theorem yek.end(hcl:ycx P cl){l:List Iop}(h:yis c cl nt l s=some s1)(h2:T s1):yek P nt m l s T:=by
  have:=yek.chunk (l2:=[]) hcl h (yek.nil (P:=P) (nt:=nt) (m:=m) h2)
  rwa [List.append_nil] at this
theorem yek.weak{l:List Iop}{s':St}(hw:ylu m s s')(h:yek P nt m l s' T):yek P nt m l s T:=
  fun all ops hc A E a w hm hE hs K hK=>h all ops hc A E a w hm hE (hw nt A E a w hm hE hs) K hK
theorem Wp.reg{l:List Iop}(h:yek P nt m l s (fun s'=>Q .norm s'.clr)):Wp P nt m (.reg none l) s Q:=by
  intro code hc A E a w hm hE hs K hK
  obtain ⟨id,ops,draw,rfl,h1,h2⟩:=yaik hc
  rcases h2 with ⟨rfl,_⟩ | ⟨_,q,h3,_⟩
  ·exact wp_region_list (h ops ops.toList h1 A E a w hm hE hs K fun s' a' w' hq hs'=>hK .norm _ a' w' hq (yrv (s1:=s') hs'))
  ·cases h3
theorem Wp.regf{l:List Iop}{k:List (Nat × Nat)}(hP:P.follows .mixedOrders=true){c:Cfg}(hcP:c.P=P){cl:Nat→Callee}(hcl:∀ i,ycx P (cl i))(h:yru c cl nt k l s=some s1)(h2:Q .norm s1.clr):Wp P nt m (.reg (some k) l) s Q:=by
  intro code hc A E a w hm hE hs K hK
  subst hcP
  obtain ⟨id,ops,draw,rfl,h1,h3⟩:=yaik hc
  rcases h3 with ⟨_,h4⟩ | ⟨rfl,q,h4,h5⟩
  ·cases h4
  ·obtain rfl:=Option.some.inj h4
   exact yatu hP hcl h1 h5 hs h fun a' w' hs'=>hK .norm _ a' w' h2 (yrv (s1:=s1) hs')
end
end Go.Proofs.YtgoachcogmlhcaaGreat.R
