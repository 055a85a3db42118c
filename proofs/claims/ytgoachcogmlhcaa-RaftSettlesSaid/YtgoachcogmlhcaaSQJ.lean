import Derived.Test.YtgoachcogmlhcaaTF
import Derived.Test.YtgoachcogmlhcaaMW0
set_option maxRecDepth 100000
set_option linter.unusedVariables false
set_option linter.unusedSimpArgs false
noncomputable section
namespace Go.Proofs.Ytgoachcogmlhcaa.R
open Go
section
variable {P:Program} {n:Nat} {t:TypeId} {av:List AV}
theorem fitI{k:IntKind}(hu:P.underlying t=some (.int k))(h:Fit P n t av):∃ i,av=ci k i/\(Lit.int k i).wf=true:=by
  cases n with
  | zero=>exact h.elim
  | succ n=>
    simp only [Fit,hu] at h
    exact h
theorem ybao{α:Type}{c:α->List AV}{Q:α->Prop}:∀ {rows:List (List AV)},(∀ r∈rows,∃ x,r=c x/\Q x)->∃ l:List α,rows=l.map c/\∀ x∈l,Q x
  | [],_=>⟨[],rfl,by simp⟩
  | r :: rows,h=>by
    obtain ⟨x,rfl,hx⟩:=h r (by simp)
    obtain ⟨l,rfl,hl⟩:=ybao (rows:=rows) fun r hr=>h r (by simp [hr])
    exact ⟨x :: l,rfl,by simpa using ⟨hx,hl⟩⟩
theorem fitL{α:Type}{e:TypeId}{c:α->List AV}{Q:α->Prop}(hu:P.underlying t=some (.slice e))(hrow:∀ m r,m < n->Fit P m e r->∃ x,r=c x/\Q x)(h:Fit P n t av):∃ l:List α,av = [sl c l]/\l.length<=reachBytes/\∀ x∈l,Q x:=by
  cases n with
  | zero=>exact h.elim
  | succ n=>
    simp only [Fit,hu] at h
    obtain ⟨rows,rfl,h1,h2⟩:=h
    obtain ⟨l,rfl,hl⟩:=ybao fun r hr=>hrow n r (by omega) (h2 r hr)
    exact ⟨l,rfl,by simpa using h1,hl⟩
end
theorem ydlo{n:Int}(h:(Lit.int .u8 n).wf=true):0<=n/\n<=255:=by
  simp [Lit.wf,IntKind.min,IntKind.max,IntKind.signed,IntKind.bits] at h
  omega
theorem cut4{a:List AV}(h:a.length=4):a=(a.drop 0).take 1++((a.drop 1).take 1++((a.drop 2).take 1++(a.drop 3).take 1)):=by
  match a,h with
  | [w,x,y,z],_=>rfl
theorem ce48:(Pg).cellsOf 48=4:=by kernel_rfl
theorem ce3:(Pg).cellsOf 3=1:=by kernel_rfl
theorem ce25:(Pg).cellsOf 25=1:=by kernel_rfl
theorem ydin(n:Nat)(av:List AV)(h:Fit Pg n 48 av):∃ x:TOp,av=TOp.c x/\True:=by
  match n,h with
  | 0,h=>exact h.elim
  | n + 1,h=>
    simp only [Fit,Go.Proofs.Try.underlying48,ce48] at h
    obtain ⟨hl,h⟩:=h
    have h0:=h _ (qv)
    have h1:=h _ (ql _ qv)
    have h2:=h _ (ql _ (ql _ qv))
    have h3:=h _ (ql _ (ql _ (ql _ qv)))
    simp only [ce3,ce25] at h0 h1 h2 h3
    obtain ⟨a,e0,_⟩:=fitI Go.Proofs.Try.underlying3 h0
    obtain ⟨b,e1,_⟩:=fitI Go.Proofs.Try.underlying3 h1
    obtain ⟨c,e2,_⟩:=fitI Go.Proofs.Try.underlying3 h2
    obtain ⟨d,e3,_,_⟩:=fitL (c:=ci .u8) (Q:=fun i=>(Lit.int .u8 i).wf=true) Go.Proofs.Try.underlying25 (fun m r hm hr=>fitI Go.Proofs.Try.underlying5 hr) h3
    refine ⟨⟨a,b,c,d⟩,?_,trivial⟩
    rw [cut4 hl,e0,e1,e2,e3]
    rfl
theorem argsNL{avs:List AV}(h:Args Pg [5,38] avs):∃ (n:Int) (l:List TOp),avs = [.int .u8 n,sl TOp.c l]/\0<=n/\n<=255:=by
  match avs,h with
  | [a1,a2],⟨⟨n1,c1,h1,e1⟩,⟨n2,c2,h2,e2⟩,_⟩=>
    obtain ⟨n,rfl,hn⟩:=fitI Go.Proofs.Try.underlying5 h1
    obtain ⟨l,rfl,_,_⟩:=fitL (c:=TOp.c) (Q:=fun _=>True) Go.Proofs.Try.underlying38 (fun m r hm hr=>ydin m r hr) h2
    simp only [yvq,Go.Proofs.Try.underlying5,Go.Proofs.Try.underlying38] at e1 e2
    have:=ydlo hn
    exact ⟨n,l,by rw [e1,e2]; rfl,this⟩
end Go.Proofs.Ytgoachcogmlhcaa.R
