/- Plain laws: what is handed in, a number and acts. -/
import Derived.Test.YtgoachcogmlhcaaGreatUF
import Derived.Test.YtgoachcogmlhcaaGreatMW0
set_option maxRecDepth 100000
set_option linter.unusedVariables false
set_option linter.unusedSimpArgs false
noncomputable section
namespace Go.Proofs.YtgoachcogmlhcaaGreat.R
open Go
section
variable {P:Program} {n:Nat} {t:TypeId} {av:List AV}
theorem fitI{k:IntKind}(hu:P.underlying t=some (.int k))(h:Fit P n t av):∃ i,av=ci k i∧(Lit.int k i).wf=true:=by
  cases n with
  | zero=>exact h.elim
  | succ n=>
    simp only [Fit,hu] at h
    exact h
theorem yaxa{α:Type}{c:α→List AV}{Q:α→Prop}:∀ {rows:List (List AV)},(∀ r∈rows,∃ x,r=c x∧Q x)→∃ l:List α,rows=l.map c∧∀ x∈l,Q x
  | [],_=>⟨[],rfl,by simp⟩
  | r :: rows,h=>by
    obtain ⟨x,rfl,hx⟩:=h r (by simp)
    obtain ⟨l,rfl,hl⟩:=yaxa (rows:=rows) fun r hr=>h r (by simp [hr])
    exact ⟨x :: l,rfl,by simpa using ⟨hx,hl⟩⟩
theorem fitL{α:Type}{e:TypeId}{c:α→List AV}{Q:α→Prop}(hu:P.underlying t=some (.slice e))(hrow:∀ m r,m < n→Fit P m e r→∃ x,r=c x∧Q x)(h:Fit P n t av):∃ l:List α,av = [sl c l]∧l.length≤maxLen∧∀ x∈l,Q x:=by
  cases n with
  | zero=>exact h.elim
  | succ n=>
    simp only [Fit,hu] at h
    obtain ⟨rows,rfl,h1,h2⟩:=h
    obtain ⟨l,rfl,hl⟩:=yaxa fun r hr=>hrow n r (by omega) (h2 r hr)
    exact ⟨l,rfl,by simpa using h1,hl⟩
end
theorem ydtw{n:Int}(h:(Lit.int .u8 n).wf=true):0≤n∧n≤255:=by
  simp [Lit.wf,IntKind.min,IntKind.max,IntKind.signed,IntKind.bits] at h
  omega
theorem cut4{a:List AV}(h:a.length=4):a=(a.drop 0).take 1++((a.drop 1).take 1++((a.drop 2).take 1++(a.drop 3).take 1)):=by
  match a,h with
  | [w,x,y,z],_=>rfl
theorem ce34:(Pg).cellsOf 34=4:=by kernel_rfl
theorem ce3:(Pg).cellsOf 3=1:=by kernel_rfl
theorem ce32:(Pg).cellsOf 32=1:=by kernel_rfl
theorem ydor(n:Nat)(av:List AV)(h:Fit Pg n 34 av):∃ x:TOp,av=TOp.c x∧True:=by
  match n,h with
  | 0,h=>exact h.elim
  | n + 1,h=>
    simp only [Fit,Go.Proofs.Tryz.underlying34,ce34] at h
    obtain ⟨hl,h⟩:=h
    have h0:=h _ (List.mem_cons_self)
    have h1:=h _ (List.mem_cons_of_mem _ List.mem_cons_self)
    have h2:=h _ (List.mem_cons_of_mem _ (List.mem_cons_of_mem _ List.mem_cons_self))
    have h3:=h _ (List.mem_cons_of_mem _ (List.mem_cons_of_mem _ (List.mem_cons_of_mem _ List.mem_cons_self)))
    simp only [ce3,ce32] at h0 h1 h2 h3
    obtain ⟨a,e0,_⟩:=fitI Go.Proofs.Tryz.underlying3 h0
    obtain ⟨b,e1,_⟩:=fitI Go.Proofs.Tryz.underlying3 h1
    obtain ⟨c,e2,_⟩:=fitI Go.Proofs.Tryz.underlying3 h2
    obtain ⟨d,e3,_,_⟩:=fitL (c:=ci .u8) (Q:=fun i=>(Lit.int .u8 i).wf=true) Go.Proofs.Tryz.underlying32 (fun m r hm hr=>fitI Go.Proofs.Tryz.underlying5 hr) h3
    refine ⟨⟨a,b,c,d⟩,?_,trivial⟩
    rw [cut4 hl,e0,e1,e2,e3]
    rfl
theorem argsNL{avs:List AV}(h:Args Pg [5,22] avs):∃ (n:Int) (l:List TOp),avs = [.int .u8 n,sl TOp.c l]∧0≤n∧n≤255:=by
  match avs,h with
  | [a1,a2],⟨⟨n1,c1,h1,e1⟩,⟨n2,c2,h2,e2⟩,_⟩=>
    obtain ⟨n,rfl,hn⟩:=fitI Go.Proofs.Tryz.underlying5 h1
    obtain ⟨l,rfl,_,_⟩:=fitL (c:=TOp.c) (Q:=fun _=>True) Go.Proofs.Tryz.underlying22 (fun m r hm hr=>ydor m r hr) h2
    simp only [yrq,Go.Proofs.Tryz.underlying5,Go.Proofs.Tryz.underlying22] at e1 e2
    have:=ydtw hn
    exact ⟨n,l,by rw [e1,e2]; rfl,this⟩
end Go.Proofs.YtgoachcogmlhcaaGreat.R
