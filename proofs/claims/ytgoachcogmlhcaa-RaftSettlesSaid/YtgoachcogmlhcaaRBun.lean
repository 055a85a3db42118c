import Derived.Test.YtgoachcogmlhcaaRLaw
import Derived.Laws.Strings
import Derived.Test.YtgoachcogmlhcaaRWeak
set_option linter.unusedVariables false
set_option linter.unusedSectionVars false
set_option linter.unusedSimpArgs false
set_option linter.defProp false
noncomputable section
namespace Go.Proofs.Ytgoachcogmlhcaa.R
open Go
def bnd{α β:Type}(x:Option α)(f:α->Option β):Option β:=match x with | some a=>f a | none=>none
theorem yah{α β:Type}{x:Option α}{f:α->Option β}{r:β}(h:bnd x f=some r):∃ a,x=some a/\f a=some r:=by
  cases x with
  | none=>cases h
  | some a=>exact ⟨a,rfl,h⟩
theorem yx{α β:Type}(a:α)(f:α->Option β):bnd (some a) f=f a:=rfl
theorem ifS{α:Type}{b:Bool}{x y:Option α}{r:α}(h:(if b=true then x else y) = some r):(b=true/\x=some r)\/(b=false/\y=some r):=by
  cases b
  .exact .inr ⟨rfl,by simpa using h⟩
  .exact .inl ⟨rfl,by simpa using h⟩
theorem ygn{α:Type}{b:Bool}{x:Option α}{r:α}(h:(if b=true then x else none) = some r):b=true/\x=some r:=by
  rcases ifS h with h | ⟨_,h⟩
  .exact h
  .cases h
theorem reqF{α:Type}{b:Bool}{x:Option α}{r:α}(h:(if b=true then none else x) = some r):b=false/\x=some r:=by
  rcases ifS h with ⟨_,h⟩ | h
  .cases h
  .exact h
theorem ybd{α:Type}{a r:α}(h:some a=some r):r=a:=(qd h).symm
def ydd{α:Type}(l:List α)(i:Int):Option α:=if 0<=i then l[i.toNat]? else none
theorem yabm{α:Type}{l:List α}{i:Int}{x:α}(h:ydd l i=some x):0<=i/\i.toNat < l.length/\l[i.toNat]? = some x:=by
  unfold ydd at h
  split at h
  .rename_i h0
   refine ⟨h0,?_,h⟩
   rcases qz i.toNat l.length with h1 | h1
   .exact h1
   .rw [qm h1] at h; cases h
  .cases h
def ycn{α:Type}(l:List α)(lo hi:Int):Option (List α):=if 0<=lo/\lo<=hi/\hi<=(l.length:Int) then some ((l.take hi.toNat).drop lo.toNat) else none
def ykv(s:ByteArray)(lo hi:Int):Option ByteArray:=if 0<=lo/\lo<=hi/\hi<=(s.size:Int) then some (s.extract lo.toNat hi.toNat) else none
def nthS(s:ByteArray)(i:Int):Option Int:=if 0<=i then (s.data.toList[i.toNat]?).map (fun b=>(b.toNat:Int)) else none
def eqS(a b:ByteArray):Bool:=a.toList == b.toList
def ltS(a b:ByteArray):Bool:=Op.bytesLess a.toList b.toList
def yeq(n:Nat):Bool:=decide (n<=yno)
def catB(a b:ByteArray):Bool:=decide (a.size + b.size<=1099511627776)
def yarf(s:ByteArray):List Int:=s.data.toList.map (fun b=>(b.toNat:Int))
def strI(l:List Int):ByteArray:=⟨(l.map fun n=>UInt8.ofNat n.toNat).toArray⟩
class Row {α:Type} (c:α->List AV) (n:outParam Nat):Prop where
  len:∀ x,(c x).length=n
  cell:∀ x,ydk (c x) = true
  free:∀ x,ygk (c x) = true
def ci(k:IntKind)(n:Int):List AV:=[.int k n]
def cb(b:Bool):List AV:=[.bool b]
def cs(s:ByteArray):List AV:=[.str s]
def sl{α:Type}(c:α->List AV)(l:List α):AV:=ycr (l.map c)
def cl{α:Type}(c:α->List AV)(l:List α):List AV:=[sl c l]
instance (k:IntKind):Row (ci k) 1:=⟨fun _=>rfl,fun _=>rfl,fun _=>rfl⟩
instance:Row cb 1:=⟨fun _=>rfl,fun _=>rfl,fun _=>rfl⟩
instance:Row cs 1:=⟨fun _=>rfl,fun _=>rfl,fun _=>rfl⟩
instance {α:Type} (c:α->List AV):Row (cl c) 1:=⟨fun _=>rfl,fun _=>rfl,fun _=>rfl⟩
section
variable {α:Type} {c:α->List AV} {n:Nat}
theorem ynm[h:Row c n]{l:List α}:l = []\/yoo (l.map c) = n:=by
  cases l with
  | nil=>exact .inl rfl
  | cons x r=>exact .inr (h.len x)
theorem ycis(l:List α):ymz (sl c l) = some (.int .i64 l.length):=by simp [sl,ycr,ymz,yqo]
theorem ycpg(H:yr)(l:List α):frz H (sl c l) = sl c l:=rfl
theorem ycir(H:yr)(l:List α):ybv H (sl c l) = H:=rfl
theorem ydfy(f:Nat->Option Nat)(l:List α):ren f (sl c l) = sl c l:=rfl
theorem ycev(l:List α):yfb (sl c l) = true:=rfl
theorem yddw(l:List α):ygf (sl c l) = true:=rfl
theorem ydki(l:List α):ycg (sl c l) = false:=rfl
theorem ybvo(l:List α):cellsOf (sl c l) = some [sl c l]:=rfl
theorem ybzu(H:yr)(k:Nat)(l:List α)(todo:List AV)(acc:List Nat):yba H (k + 1) (sl c l :: todo) acc=yba H k todo acc:=by simp [sl,ycr,yba]
theorem yanb[h:Row c n](H:yr)(l:List α):yei n H (sl c l) = some (l.map c):=by
  have:yip n (yoo (l.map c)) (l.map c) = true:=by
    rcases ynm (c:=c) (l:=l) with h | h
    .subst h; rfl
    .rw [h]; simp [yip]
  simp only [sl,ycr,yei,this,wl]
theorem ydgz[h:Row c n](H:yr)(l:List α):ydc n H (sl c l) = some (l.map c):=yanb H l
theorem yddv[h:Row c n]{l:List α}{k:IntKind}{i:Int}{x:α}(hx:ydd l i=some x):yof n (sl c l) (.int k i) = some (.iptr (c x) 0):=by
  obtain ⟨h0,h1,h2⟩:=yabm hx
  have he:yoo (l.map c) = n:=by
    rcases ynm (c:=c) (l:=l) with h | h
    .subst h; simp at h1
    .exact h
  simp [sl,ycr,yof,he,h0,h2]
theorem yagu[h:Row c n](l:List α)(lo hi:Nat):(.imm (yoo (((l.map c).take hi).drop lo)) (((l.map c).take hi).drop lo) false:AV) = sl c ((l.take hi).drop lo):=by
  simp [sl,ycr,List.map_take,List.map_drop]
theorem ydgs[h:Row c n]{l l':List α}{k k':IntKind}{lo hi:Int}(hl:ycn l lo hi=some l'):yhg n (sl c l) (some (.int k lo)) (some (.int k' hi)) none=some (sl c l'):=by
  unfold ycn at hl
  split at hl
  .rename_i hc
   obtain rfl:=qd hl
   have hf:yip n (yoo (l.map c)) (l.map c) = true:=by
     rcases ynm (c:=c) (l:=l) with h | h
     .subst h; rfl
     .rw [h]; simp [yip]
   have hb:yji (l.map c).length false (some (.int k lo)) (some (.int k' hi)) none=some (lo.toNat,hi.toNat,false):=by
     simp [yji,ykz,asI,hc.1,hc.2.1,hc.2.2]
   have:=yagu (c:=c) l lo.toNat hi.toNat
   simp only [sl,ycr,yhg,hf,wl,hb]
   simp only [sl,ycr] at this
   rw [this]
  .cases hl
theorem ycky[h:Row c n]{l l':List α}{k:IntKind}{lo:Int}(hl:ycn l lo l.length=some l'):yhg n (sl c l) (some (.int k lo)) none none=some (sl c l'):=by
  unfold ycn at hl
  split at hl
  .rename_i hc
   obtain rfl:=qd hl
   have hf:yip n (yoo (l.map c)) (l.map c) = true:=by
     rcases ynm (c:=c) (l:=l) with h | h
     .subst h; rfl
     .rw [h]; simp [yip]
   have hb:yji (l.map c).length false (some (.int k lo)) none none=some (lo.toNat,l.length,false):=by
     simp [yji,ykz,asI,hc.1,hc.2.1]
   have:=yagu (c:=c) l lo.toNat l.length
   simp only [sl,ycr,yhg,hf,wl,hb]
   simp only [sl,ycr] at this
   rw [this]
   simp
  .cases hl
theorem yckx[h:Row c n]{l l':List α}{k:IntKind}{hi:Int}(hl:ycn l 0 hi=some l'):yhg n (sl c l) none (some (.int k hi)) none=some (sl c l'):=by
  unfold ycn at hl
  split at hl
  .rename_i hc
   obtain rfl:=qd hl
   have hf:yip n (yoo (l.map c)) (l.map c) = true:=by
     rcases ynm (c:=c) (l:=l) with h | h
     .subst h; rfl
     .rw [h]; simp [yip]
   have hb:yji (l.map c).length false none (some (.int k hi)) none=some (0,hi.toNat,false):=by
     simp [yji,ykz,asI,hc.2.1,hc.2.2]
   have:=yagu (c:=c) l 0 hi.toNat
   simp only [sl,ycr,yhg,hf,wl,hb]
   simp only [sl,ycr] at this
   rw [this]
   simp
  .cases hl
def slx{α:Type}(c:α->List AV)(l:List α):AV:=.imm (yoo (l.map c)) (l.map c) true
theorem ybyg(l:List α):ymz (slx c l) = some (.int .i64 l.length):=by simp [slx,ymz,yqo]
theorem ycfm(H:yr)(l:List α):frz H (slx c l) = sl c l:=rfl
theorem ybyc(H:yr)(l:List α):ybv H (slx c l) = H:=rfl
theorem yckc(f:Nat->Option Nat)(l:List α):ren f (slx c l) = slx c l:=rfl
theorem ybvm(l:List α):yfb (slx c l) = true:=rfl
theorem ychu(l:List α):ygf (slx c l) = true:=rfl
theorem ydft(l:List α):ycg (slx c l) = false:=rfl
theorem ybke(l:List α):cellsOf (slx c l) = some [slx c l]:=rfl
theorem ybrx(H:yr)(k:Nat)(l:List α)(todo:List AV)(acc:List Nat):yba H (k + 1) (slx c l :: todo) acc=yba H k todo acc:=by simp [slx,yba]
theorem yckz[h:Row c n]{l l':List α}{k k':IntKind}{hi:Int}(hl:ycn l 0 hi=some l'):yhg n (sl c l) none (some (.int k hi)) (some (.int k' hi)) = some (slx c l'):=by
  unfold ycn at hl
  split at hl
  .rename_i hc
   obtain rfl:=qd hl
   have hf:yip n (yoo (l.map c)) (l.map c) = true:=by
     rcases ynm (c:=c) (l:=l) with h | h
     .subst h; rfl
     .rw [h]; simp [yip]
   have hb:yji (l.map c).length false none (some (.int k hi)) (some (.int k' hi)) = some (0,hi.toNat,true):=by
     simp [yji,ykz,asI,hc.2.1,hc.2.2]
   simp only [sl,ycr,yhg,hf,wl,hb]
   simp [slx,List.map_take]
  .cases hl
theorem ybst(H:AV)(l:List α)(size:Nat)[h:Row c size]:yhg size (sl c l) (some (.int .i64 0)) (some (.int .i64 0)) (some (.int .i64 0)) = some (.imm 0 [] true):=by
  have hf:yip size (yoo (l.map c)) (l.map c) = true:=by
    rcases ynm (c:=c) (l:=l) with h | h
    .subst h; rfl
    .rw [h]; simp [yip]
  simp only [sl,ycr,yhg,hf,wl]
  simp [yji,ykz,asI,yoo]
end
theorem ycig{s:ByteArray}{k:IntKind}{i x:Int}(h:nthS s i=some x):yyl (.str s) (.int k i) = some (.int .u8 x):=by
  unfold nthS at h
  split at h
  .rename_i h0
   simp only [Option.map_eq_some_iff] at h
   obtain ⟨b,h1,rfl⟩:=h
   simp [yyl,h0,h1]
  .cases h
theorem ydgt{s s':ByteArray}{k k':IntKind}{lo hi:Int}(h:ykv s lo hi=some s'):ymm (.str s) (some (.int k lo)) (some (.int k' hi)) = some (.str s'):=by
  unfold ykv at h
  split at h
  .rename_i hc
   obtain rfl:=qd h
   simp [ymm,yji,ykz,asI,hc.1,hc.2.1,hc.2.2]
  .cases h
theorem yclb{s s':ByteArray}{k:IntKind}{lo:Int}(h:ykv s lo s.size=some s'):ymm (.str s) (some (.int k lo)) none=some (.str s'):=by
  unfold ykv at h
  split at h
  .rename_i hc
   obtain rfl:=qd h
   simp [ymm,yji,ykz,asI,hc.1,hc.2.1]
  .cases h
theorem ycla{s s':ByteArray}{k:IntKind}{hi:Int}(h:ykv s 0 hi=some s'):ymm (.str s) none (some (.int k hi)) = some (.str s'):=by
  unfold ykv at h
  split at h
  .rename_i hc
   obtain rfl:=qd h
   simp [ymm,yji,ykz,asI,hc.2.1,hc.2.2]
  .cases h
theorem ycni(H:yr)(l:List Int):ytk H (sl (ci .u8) l) = some (.str (strI l)):=by
  have h:∀ l:List Int,bytesOf (l.map (ci .u8)) = some (l.map fun n=>UInt8.ofNat n.toNat):=by
    intro l
    induction l with
    | nil=>rfl
    | cons x r ih=>simp only [wr,ci] at ih ⊢; simp [bytesOf,ih]
  unfold ytk
  rw [yanb]
  simp [h,strI]
theorem yaee(s:ByteArray):yiv s=(yarf s).map (ci .u8):=by
  simp [yiv,yarf,ci,yxc]
theorem ybux(a b:ByteArray):ymt .eql a b=some (.bool (eqS a b)):=yeo _
theorem ybvc(a b:ByteArray):ymt .neq a b=some (.bool (!eqS a b)):=yeo _
theorem ybvb(a b:ByteArray):ymt .lss a b=some (.bool (ltS a b)):=yeo _
theorem ybva(a b:ByteArray):ymt .leq a b=some (.bool (ltS a b || eqS a b)):=yeo _
theorem ybuz(a b:ByteArray):ymt .gtr a b=some (.bool (!(ltS a b || eqS a b))):=yeo _
theorem ybuy(a b:ByteArray):ymt .geq a b=some (.bool (!ltS a b)):=yeo _
def cT(P:Program):Cfg:={ P:=P,fn:=fun _=>none,fz:=fun _=>true }
def cM(P:Program)(lent:List Nat):Cfg:={ P:=P,fn:=fun _=>none,fz:=fun f=>!(yro f lent) }
def cF(P:Program):Cfg:={ P:=P,fn:=fun _=>none,fz:=fun _=>false }
def evR(c:Cfg)(cl:Callee)(nt:Nat)(l:List Iop)(s:St):Option St:=match ymh c cl nt l s with | some s'=>some s'.clr | none=>none
def clrK(x:Option St):Option St:=match x with | some s=>some s.clr | none=>none
theorem ycpb(c:Cfg)(cl:Callee)(nt:Nat)(l:List Iop)(s:St):evR c cl nt l s=clrK (ymh c cl nt l s):=rfl
theorem ybki(e l:List (Nat × AV))(H:yr)(n:Nat):clrK (some ⟨e,l,H,n⟩) = some ⟨e,[],H,n⟩:=rfl
section
variable {P:Program} {nt m:Nat} {s s1:St} {Q:Ex->St->Prop} {c:Cfg} {cl:Callee}
theorem Wp.regE{l:List Iop}(hcl:yeb P cl)(h:evR c cl nt l s=some s1)(h2:Q .norm s1):Wp P nt m (.reg none l) s Q:=by
  unfold evR at h
  split at h
  .rename_i s' he
   obtain rfl:=qd h
   exact Wp.reg (yfz.end hcl he h2)
  .cases h
theorem yfz.many{l:List Iop}{T:St->Prop}(n:Nat)(hcl:yeb P cl)(h:ymh c cl nt (l.take n) s=some s1)(h2:yfz P nt m (l.drop n) s1 T):yfz P nt m l s T:=by
  have:=yfz.chunk (P:=P) (m:=m) hcl h h2
  rwa [List.take_append_drop] at this
theorem yfz.last{l:List Iop}(hcl:yeb P cl)(h:evR c cl nt l s=some s1)(h2:Q .norm s1):yfz P nt m l s (fun s'=>Q .norm s'.clr):=by
  unfold evR at h
  split at h
  .rename_i s' he
   obtain rfl:=qd h
   exact yfz.end hcl he h2
  .cases h
def evRD(c:Cfg)(cl:Nat->Callee)(nt:Nat)(k:List (Nat × Nat))(l:List Iop)(s:St):Option St:=match yvw c cl nt k l s with | some s'=>some s'.clr | none=>none
theorem ycff(c:Cfg)(cl:Nat->Callee)(nt:Nat)(k:List (Nat × Nat))(l:List Iop)(s:St):evRD c cl nt k l s=clrK (yvw c cl nt k l s):=rfl
theorem Wp.regD{l:List Iop}{k:List (Nat × Nat)}(hP:P.follows .mixedOrders=true){c:Cfg}(hcP:c.P=P){cl:Nat->Callee}(hcl:∀ i,yeb P (cl i))(h:evRD c cl nt k l s=some s1)(h2:Q .norm s1):Wp P nt m (.reg (some k) l) s Q:=by
  unfold evRD at h
  split at h
  .rename_i s' he
   obtain rfl:=qd h
   exact Wp.regf hP hcP hcl he h2
  .cases h
theorem LWp.stepC{b b':IC}(hb:b=b')(h:Wp P nt m b' s (ygz P nt m b Q)):LWp P nt m b s Q:=by subst hb; exact LWp.step h
theorem yh{b:IC}(h:Wp P nt m b s Q):ybu P nt m b Q .norm s:=h
theorem yde{b:IC}(h:Q .ret s):ybu P nt m b Q .ret s:=h
theorem yjp{b:IC}{j:Nat}(h:Q (.out j) s):ybu P nt m b Q (.out j) s:=h
theorem yho{b:IC}(h:LWp P nt m b s Q):ygz P nt m b Q .norm s:=h
theorem yadm{b:IC}(h:Q .ret s):ygz P nt m b Q .ret s:=h
theorem yhp{b:IC}{j:Nat}(h:Q (.out j) s):ygz P nt m b Q (.out j) s:=h
theorem ycm{id:Nat}(h:Q .norm s):yay id Q .norm s:=h
theorem yfd{id:Nat}(h:Q .ret s):yay id Q .ret s:=h
theorem yfh{id:Nat}(h:Q .norm s):yay id Q (.out id) s:=by simpa [yay] using h
theorem ycnm{id j:Nat}(hne:Nat.beq j id=false)(h:Q (.out j) s):yay id Q (.out j) s:=by
  have:¬ j=id:=Nat.ne_of_beq_eq_false hne
  simpa [yay,this] using h
theorem Wp.weakE{ic:IC}{l:List WA}{s':St}(hw:evW m l s=some s')(h:Wp P nt m ic s' Q):Wp P nt m ic s Q:=Wp.weak (R.weak hw) h
theorem LWp.weakE{ic:IC}{l:List WA}{s':St}(hw:evW m l s=some s')(h:LWp P nt m ic s' Q):LWp P nt m ic s Q:=LWp.weak (R.weak hw) h
end
def fzK(s:St)(args:List AV):Option (AV × yr × Nat)->Option (AV × St)
  | some (r,H1,_)=>yql s args (frz H1 r)
  | none=>none
theorem ydic(P:Program)(cl:Callee)(s:St)(f:Nat)(args:List AV):yfi (cT P) cl s f args=fzK s args (cl f (ydn s.H args) [] 0):=by
  unfold yfi
  rw [qe (show (cT P).fz f=true from rfl)]
  rfl
theorem ybww(s:St)(args:List AV)(r:AV)(H1:yr)(n:Nat):fzK s args (some (r,H1,n)) = yql s args (frz H1 r):=rfl
theorem ybwx(s:St)(args:List AV)(r:AV):yql s args r=if ycg r=true then some (r,s) else if ygf r=true then some (r,s.setH (yeu s.H args)) else none:=rfl
def locK(s:St)(l:List Nat):Option (AV × yr × Nat)->Option (AV × St)
  | some (r,H1,n1)=>some (ren (yge l l.length n1 s.nx) r,{ s with H:=ycy (yge l l.length n1 s.nx) H1++yem s.H l,nx:=s.nx + (n1 - l.length) })
  | none=>none
def locC(cl:Callee)(s:St)(f:Nat)(args:List AV)(l:List Nat):Option (AV × St):=locK s l (cl f (yjb (pos l) args) (yhs (ycy (pos l) s.H) l.length) l.length)
theorem yciv(cl:Callee)(s:St)(f:Nat)(args:List AV)(l:List Nat):locC cl s f args l=locK s l (cl f (yjb (pos l) args) (yhs (ycy (pos l) s.H) l.length) l.length):=rfl
theorem ydia(P:Program)(cl:Callee)(s:St)(f:Nat)(args:List AV):yfi (cF P) cl s f args=locC cl s f args (yba s.H yfk args []):=by
  unfold yfi
  rw [qc (show ¬ (cF P).fz f=true by simp [cF])]
  rfl
def cmK(cl:Callee)(s:St)(f:Nat)(args:List AV)(b:Bool):Option (AV × St):=if b=true then locC cl s f args (yba s.H yfk args []) else fzK s args (cl f (ydn s.H args) [] 0)
theorem ydii(cl:Callee)(s:St)(f:Nat)(args:List AV):cmK cl s f args true=locC cl s f args (yba s.H yfk args []):=rfl
theorem ydih(cl:Callee)(s:St)(f:Nat)(args:List AV):cmK cl s f args false=fzK s args (cl f (ydn s.H args) [] 0):=rfl
theorem ydib(P:Program)(lent:List Nat)(cl:Callee)(s:St)(f:Nat)(args:List AV):yfi (cM P lent) cl s f args=cmK cl s f args (yro f lent):=by
  unfold yfi cmK
  have:(cM P lent).fz f = !(yro f lent):=rfl
  rw [this]
  cases yro f lent <;> rfl
theorem ydhy(P:Program)(lent:List Nat)(f:Nat):(cM P lent).fz f = !(yro f lent):=rfl
theorem ybqr(e l0:List (Nat × AV))(H:yr)(nx:Nat)(l:List Nat)(r:AV)(H1:yr)(n1:Nat):locK ⟨e,l0,H,nx⟩ l (some (r,H1,n1)) = some (ren (yge l l.length n1 nx) r,⟨e,l0,ycy (yge l l.length n1 nx) H1++yem H l,nx + (n1 - l.length)⟩):=rfl
theorem ybvh(c:Cfg)(cl:Callee)(s:St)(f:Nat)(pre post args:List AV):ypp c cl s (.fn (.func f) pre post) args=yfi c cl s f (pre++(args++post)):=rfl
def yks:AV:=ycr []
theorem ydgr{α:Type}(c:α->List AV):sl c [] = yks:=rfl
theorem ycfl(H:yr):frz H .nil=yks:=rfl
theorem ybwo(H:yr)(es:Nat)(ex:Bool):frz H (.imm es [] ex) = yks:=rfl
theorem ybwp(H:yr):frz H yks=yks:=rfl
theorem ybqk(H:yr):ybv H yks=H:=rfl
theorem ycad(f:Nat->Option Nat):ren f yks=yks:=rfl
theorem ybkb:yfb yks=true:=rfl
theorem ybxm:ygf yks=true:=rfl
theorem ycjt:ycg yks=false:=rfl
theorem ybby:cellsOf yks=some [yks]:=rfl
theorem ybqn:ymz yks=some (.int .i64 0):=rfl
theorem ybsl(n:Nat)(H:yr):yei n H yks=some []:=rfl
theorem ycbc(n:Nat)(H:yr):ydc n H yks=some []:=rfl
theorem ybib(H:yr)(k:Nat)(todo:List AV)(acc:List Nat):yba H (k + 1) (yks :: todo) acc=yba H k todo acc:=by simp [yks,ycr,yba]
theorem ybwn(H:yr)(b:Bool):frz H (.bool b) = .bool b:=rfl
theorem ycfk(H:yr)(k:IntKind)(n:Int):frz H (.int k n) = .int k n:=rfl
theorem ycfn(H:yr)(s:ByteArray):frz H (.str s) = .str s:=rfl
theorem ycfj(H:yr)(cs:List AV):frz H (.agg cs) = .agg (ydn H cs):=rfl
theorem ycfo(H:yr)(cs:List AV):frz H (.tup cs) = .tup (ydn H cs):=rfl
theorem ybwr(H:yr):ydn H [] = []:=rfl
theorem yblf(H:yr)(v:AV)(r:List AV):ydn H (v :: r) = frz H v :: ydn H r:=rfl
theorem ybqj(H:yr)(b:Bool):ybv H (.bool b) = H:=rfl
theorem ybya(H:yr)(k:IntKind)(n:Int):ybv H (.int k n) = H:=rfl
theorem ybyd(H:yr)(s:ByteArray):ybv H (.str s) = H:=rfl
theorem ybyb(H:yr):ybv H .nil=H:=rfl
theorem ybxz(H:yr)(cs:List AV):ybv H (.agg cs) = yeu H cs:=rfl
theorem ybye(H:yr)(cs:List AV):ybv H (.tup cs) = yeu H cs:=rfl
theorem ybqm(H:yr):yeu H [] = H:=rfl
theorem ybhf(H:yr)(v:AV)(r:List AV):yeu H (v :: r) = yeu (ybv H v) r:=rfl
theorem ycab(f:Nat->Option Nat)(b:Bool):ren f (.bool b) = .bool b:=rfl
theorem ycjy(f:Nat->Option Nat)(k:IntKind)(n:Int):ren f (.int k n) = .int k n:=rfl
theorem yckd(f:Nat->Option Nat)(s:ByteArray):ren f (.str s) = .str s:=rfl
theorem ycjz(f:Nat->Option Nat):ren f .nil = .nil:=rfl
theorem ydfz(f:Nat->Option Nat):ren f .un = .un:=rfl
theorem ycjw(f:Nat->Option Nat):ren f .bad = .bad:=rfl
theorem ycjv(f:Nat->Option Nat)(cs:List AV):ren f (.agg cs) = .agg (yjb f cs):=rfl
theorem ycke(f:Nat->Option Nat)(cs:List AV):ren f (.tup cs) = .tup (yjb f cs):=rfl
theorem ydfx(f:Nat->Option Nat)(g:Fn)(a b:List AV):ren f (.fn g a b) = .fn g (yjb f a) (yjb f b):=rfl
theorem ycjx(f:Nat->Option Nat)(es:Nat)(rows:List (List AV))(ex:Bool):ren f (.imm es rows ex) = .imm es rows ex:=rfl
def renK(id:Option Nat)(k:Nat->AV):AV:=match id with | some j=>k j | none=>.bad
theorem ybsd(j:Nat)(k:Nat->AV):renK (some j) k=k j:=rfl
theorem ycka(f:Nat->Option Nat)(es id off len:Nat)(ex:Bool):ren f (.own es id off len ex) = renK (f id) (fun j=>.own es j off len ex):=by simp only [ren,renK]; cases f id <;> rfl
theorem yckb(f:Nat->Option Nat)(id off:Nat):ren f (.ptr id off) = renK (f id) (fun j=>.ptr j off):=by simp only [ren,renK]; cases f id <;> rfl
theorem ycac(f:Nat->Option Nat)(id i g:Nat):ren f (.eptr id i g) = renK (f id) (fun j=>.eptr j i g):=by simp only [ren,renK]; cases f id <;> rfl
theorem ycae(f:Nat->Option Nat):yjb f [] = []:=rfl
theorem ybse(f:Nat->Option Nat)(v:AV)(r:List AV):yjb f (v :: r) = ren f v :: yjb f r:=rfl
theorem ybzy(f:Nat->Option Nat):ynr f [] = []:=rfl
theorem ybsc(f:Nat->Option Nat)(t:Nat)(v:AV)(r:List (Nat × AV)):ynr f ((t,v) :: r) = (t,ren f v) :: ynr f r:=rfl
theorem ycaa(f:Nat->Option Nat)(cells:List AV):ysl f (.box cells) = .box (yjb f cells):=rfl
theorem ybzz(f:Nat->Option Nat)(es:Nat)(rows:List (List AV))(leak:Nat):ysl f (.arr es rows leak) = .arr es rows leak:=rfl
def yapx(id:Option Nat)(o:Ob)(r:yr):yr:=match id with | some j=>(j,o) :: r | none=>r
theorem ybie(j:Nat)(o:Ob)(r:yr):yapx (some j) o r=(j,o) :: r:=rfl
theorem ybid(o:Ob)(r:yr):yapx none o r=r:=rfl
theorem ydkz(f:Nat->Option Nat):ycy f [] = []:=rfl
theorem ydky(f:Nat->Option Nat)(id:Nat)(o:Ob)(r:yr):ycy f ((id,o) :: r) = yapx (f id) (ysl f o) (ycy f r):=by simp only [ycy,yapx]; cases f id <;> rfl
theorem ycbs:ygr [] = []:=rfl
theorem ybtn(t:Nat)(v:AV)(r:List (Nat × AV)):ygr ((t,v) :: r) = v :: ygr r:=rfl
theorem ybrt(H:yr)(k:Nat)(acc:List Nat):yba H (k + 1) [] acc=acc:=rfl
def yxr(H:yr)(k id:Nat)(todo:List AV)(acc:List Nat)(o:Option Ob):List Nat:=
  if id∈acc then yba H k todo acc else match o with | some (.box cells)=>yba H k (cells++todo) (acc++[id]) | some _=>yba H k todo (acc++[id]) | none=>yba H k todo acc
theorem ybhx(H:yr)(k id:Nat)(todo:List AV)(acc:List Nat)(cells:List AV):yxr H k id todo acc (some (.box cells)) = if id∈acc then yba H k todo acc else yba H k (cells++todo) (acc++[id]):=rfl
theorem ybhw(H:yr)(k id:Nat)(todo:List AV)(acc:List Nat)(es:Nat)(rows:List (List AV))(leak:Nat):yxr H k id todo acc (some (.arr es rows leak)) = if id∈acc then yba H k todo acc else yba H k todo (acc++[id]):=rfl
theorem yawq(H:yr)(k id:Nat)(todo:List AV)(acc:List Nat):yxr H k id todo acc none=yba H k todo acc:=by simp [yxr]
def yvc(H:yr)(k id:Nat)(todo:List AV)(acc:List Nat)(o:Option Ob):List Nat:=
  if id∈acc then yba H k todo acc else match o with | some o=>yba H k (yadw o++todo) (acc++[id]) | none=>yba H k todo acc
theorem yawp(H:yr)(k id:Nat)(todo:List AV)(acc:List Nat)(es:Nat)(rows:List (List AV))(leak:Nat):yvc H k id todo acc (some (.arr es rows leak)) = if id∈acc then yba H k todo acc else yba H k todo (acc++[id]):=rfl
theorem yawo(H:yr)(k id:Nat)(todo:List AV)(acc:List Nat):yvc H k id todo acc none=yba H k todo acc:=by simp [yvc]
theorem ybrv(H:yr)(k es id off len:Nat)(ex:Bool)(todo:List AV)(acc:List Nat):yba H (k + 1) (.own es id off len ex :: todo) acc=yvc H k id todo acc (lk H id):=by
  simp only [yba,yvc]
  split
  .rfl
  .cases lk H id <;> rfl
theorem ybhz(H:yr)(k id i f:Nat)(todo:List AV)(acc:List Nat):yba H (k + 1) (.eptr id i f :: todo) acc=yvc H k id todo acc (lk H id):=by
  simp only [yba,yvc]
  split
  .rfl
  .cases lk H id <;> rfl
theorem ybrw(H:yr)(k id off:Nat)(todo:List AV)(acc:List Nat):yba H (k + 1) (.ptr id off :: todo) acc=yxr H k id todo acc (lk H id):=by
  simp only [yba,yxr]
  split
  .rfl
  .cases lk H id with
   | none=>rfl
   | some o=>cases o <;> rfl
theorem ybzt(H:yr)(k:Nat)(g:Fn)(pre post todo:List AV)(acc:List Nat):yba H (k + 1) (.fn g pre post :: todo) acc=yba H k (pre++(post++todo)) acc:=rfl
theorem ybrp(H:yr)(k:Nat)(cs todo:List AV)(acc:List Nat):yba H (k + 1) (.agg cs :: todo) acc=yba H k (cs++todo) acc:=rfl
theorem ybrz(H:yr)(k:Nat)(cs todo:List AV)(acc:List Nat):yba H (k + 1) (.tup cs :: todo) acc=yba H k (cs++todo) acc:=rfl
theorem ybrs(H:yr)(k:Nat)(q:IntKind)(n:Int)(todo:List AV)(acc:List Nat):yba H (k + 1) (.int q n :: todo) acc=yba H k todo acc:=rfl
theorem ybhy(H:yr)(k:Nat)(b:Bool)(todo:List AV)(acc:List Nat):yba H (k + 1) (.bool b :: todo) acc=yba H k todo acc:=rfl
theorem ybry(H:yr)(k:Nat)(b:ByteArray)(todo:List AV)(acc:List Nat):yba H (k + 1) (.str b :: todo) acc=yba H k todo acc:=rfl
theorem ybic(H:yr)(k:Nat)(todo:List AV)(acc:List Nat):yba H (k + 1) (.nil :: todo) acc=yba H k todo acc:=rfl
theorem ybzv(H:yr)(k:Nat)(todo:List AV)(acc:List Nat):yba H (k + 1) (.un :: todo) acc=yba H k todo acc:=rfl
theorem ybrq(H:yr)(k:Nat)(todo:List AV)(acc:List Nat):yba H (k + 1) (.bad :: todo) acc=yba H k todo acc:=rfl
theorem ybru(H:yr)(k:Nat)(v:Value)(todo:List AV)(acc:List Nat):yba H (k + 1) (.oth v :: todo) acc=yba H k todo acc:=rfl
theorem ybrr(H:yr)(k es:Nat)(rows:List (List AV))(ex:Bool)(todo:List AV)(acc:List Nat):yba H (k + 1) (.imm es rows ex :: todo) acc=yba H k todo acc:=rfl
theorem ybia(H:yr)(k:Nat)(row:List AV)(f:Nat)(todo:List AV)(acc:List Nat):yba H (k + 1) (.iptr row f :: todo) acc=yba H k todo acc:=rfl
theorem ybwv:yfk=1999 + 1:=rfl
def boxK:Option Ob->List AV | some (.box cells)=>cells | some (.arx _ rows)=>yatl rows.flatten | _=>[]
theorem ycnn(H:yr)(id:Nat):yui H id=boxK (lk H id):=by
  simp only [yui,boxK]
  cases lk H id with
  | none=>rfl
  | some o=>cases o <;> rfl
theorem ybuu(cells:List AV):boxK (some (.box cells)) = cells:=rfl
theorem ybjt:boxK none = []:=rfl
theorem ybut(es:Nat)(rows:List (List AV))(leak:Nat):boxK (some (.arr es rows leak)) = []:=rfl
theorem ybri(H:yr)(m:Nat)(roots:List AV):ybr H m roots=yba H yfk ((List.range m).flatMap (yui H)++roots) (List.range m):=rfl
def tidK(s:St)(l:List Nat):St:={ env:=ynr (pos l) s.env,loc:=[],H:=ycy (pos l) s.H,nx:=l.length }
theorem ycmb(m:Nat)(s:St):s.tidy m=tidK s (ybr s.H m (ygr s.env)):=rfl
theorem ycma(e l0:List (Nat × AV))(H:yr)(n:Nat)(l:List Nat):tidK ⟨e,l0,H,n⟩ l = ⟨ynr (pos l) e,[],ycy (pos l) H,l.length⟩:=rfl
theorem ycfg(m:Nat)(s:St):evW m [] s=some s:=rfl
def evWK(m:Nat)(r:List WA):Option St->Option St | some s=>evW m r s | none=>none
theorem ybwi(m:Nat)(x:WA)(r:List WA)(s:St):evW m (x :: r) s=evWK m r (yik m x s):=by simp only [evW,evWK] <;> cases yik m x s <;> rfl
theorem ybkz(m:Nat)(r:List WA)(s:St):evWK m r (some s) = evW m r s:=rfl
theorem ybwc(m:Nat)(ts:List Nat)(e l:List (Nat × AV))(H:yr)(n:Nat):yik m (.kill ts) ⟨e,l,H,n⟩ = some ⟨ypd ts e,l,H,n⟩:=rfl
theorem ybxv(ts:List Nat):ypd ts [] = []:=rfl
theorem ybqd(ts:List Nat)(t:Nat)(v:AV)(r:List (Nat × AV)):ypd ts ((t,v) :: r) = (if inB t ts=true then (t,.bad) else (t,v)) :: ypd ts r:=rfl
theorem ycif(t:Nat):inB t [] = false:=rfl
theorem ybxs(t x:Nat)(r:List Nat):inB t (x :: r) = (Nat.beq x t || inB t r):=rfl
def canK:Option St->Option St | some s=>some ⟨s.env,s.loc,yhs s.H s.nx,s.nx⟩ | none=>none
theorem ybwe(m:Nat)(s:St):yik m .tidy s=canK (some (s.tidy m)):=rfl
theorem ybjy(e l:List (Nat × AV))(H:yr)(n:Nat):canK (some ⟨e,l,H,n⟩) = some ⟨e,l,yhs H n,n⟩:=rfl
theorem ybjx(H:yr):yhs H 0 = []:=rfl
def canN(H:yr)(n:Nat):Option Ob->yr | some o=>yhs H n++[(n,o)] | none=>yhs H n
theorem ybjw(H:yr)(n:Nat):yhs H (n + 1) = canN H n (lk H n):=by simp only [yhs,canN] <;> cases lk H n <;> rfl
theorem ybka(H:yr)(n:Nat)(o:Ob):canN H n (some o) = yhs H n++[(n,o)]:=rfl
theorem ybjz(H:yr)(n:Nat):canN H n none=yhs H n:=rfl
def atK(k:AV × yr × Nat)(l:List (Nat × AV)):Option (List (Nat × AV))->Option St | some e=>some ⟨e,l,k.2.1,k.2.2⟩ | none=>none
def atJ(k:WV)(t:Nat)(e l:List (Nat × AV))(H:yr)(n:Nat):Option AV->Option St | some v=>atK (wkV k v H n) l (upd e t (wkV k v H n).1) | none=>none
theorem ycoz(m t:Nat)(k:WV)(e l:List (Nat × AV))(H:yr)(n:Nat):yik m (.at t k) ⟨e,l,H,n⟩ = atJ k t e l H n (lk e t):=by
  simp only [yik,atJ]
  cases lk e t with
  | none=>rfl
  | some v=>simp only [atK] <;> cases upd e t (wkV k v H n).1 <;> rfl
theorem ybul(k:WV)(t:Nat)(e l:List (Nat × AV))(H:yr)(n:Nat)(v:AV):atJ k t e l H n (some v) = atK (wkV k v H n) l (upd e t (wkV k v H n).1):=rfl
theorem ybum(v:AV)(H:yr)(n:Nat)(l e:List (Nat × AV)):atK (v,H,n) l (some e) = some ⟨e,l,H,n⟩:=rfl
def ceL(e l:List (Nat × AV))(n:Nat):Option yr->Option St | some H=>some ⟨e,l,H,n⟩ | none=>none
def ceK(k:AV × yr × Nat)(id o:Nat)(cells:List AV)(e l:List (Nat × AV)):Option St:=ceL e l k.2.2 (upd k.2.1 id (.box (ycp cells o [k.1])))
def ceI(k:WV)(id o:Nat)(cells:List AV)(e l:List (Nat × AV))(H:yr)(n:Nat):Option AV->Option St | some v=>ceK (wkV k v H n) id o cells e l | none=>none
def ceJ(k:WV)(id o:Nat)(e l:List (Nat × AV))(H:yr)(n:Nat):Option Ob->Option St | some (.box cells)=>ceI k id o cells e l H n cells[o]? | _=>none
def ceH(k:WV)(off:Nat)(e l:List (Nat × AV))(H:yr)(n:Nat):Option AV->Option St | some (.ptr id o)=>ceJ k id (o + off) e l H n (lk H id) | _=>none
theorem ybwa(m t off:Nat)(k:WV)(e l:List (Nat × AV))(H:yr)(n:Nat):yik m (.cell t off k) ⟨e,l,H,n⟩ = ceH k off e l H n (lk e t):=by
  simp only [yik,ceH]
  cases h:lk e t with
  | none=>rfl
  | some v=>
    cases v <;> rfl
theorem ycet(k:WV)(off:Nat)(e l:List (Nat × AV))(H:yr)(n id o:Nat):ceH k off e l H n (some (.ptr id o)) = ceJ k id (o + off) e l H n (lk H id):=rfl
theorem yceu(k:WV)(id o:Nat)(e l:List (Nat × AV))(H:yr)(n:Nat)(cells:List AV):ceJ k id o e l H n (some (.box cells)) = ceI k id o cells e l H n cells[o]?:=rfl
theorem ybvk(k:WV)(id o:Nat)(cells:List AV)(e l:List (Nat × AV))(H:yr)(n:Nat)(v:AV):ceI k id o cells e l H n (some v) = ceK (wkV k v H n) id o cells e l:=rfl
theorem ycon(v:AV)(H:yr)(n id o:Nat)(cells:List AV)(e l:List (Nat × AV)):ceK (v,H,n) id o cells e l=ceL e l n (upd H id (.box (ycp cells o [v]))):=rfl
theorem ybvl(e l:List (Nat × AV))(n:Nat)(H:yr):ceL e l n (some H) = some ⟨e,l,H,n⟩:=rfl
def mvK(t es off len:Nat)(ex:Bool)(e l:List (Nat × AV))(H:yr)(n id:Nat):Option Ob->Option St
  | some (.arr es' rows leak)=>(match upd e t (.own es n off len ex) with | some e'=>some ⟨e',l,(n,.arr es' rows leak) :: rmv H id,n + 1⟩ | none=>none)
  | _=>none
def mvH(t:Nat)(e l:List (Nat × AV))(H:yr)(n:Nat):Option AV->Option St
  | some (.own es id off len ex)=>mvK t es off len ex e l H n id (lk H id)
  | _=>none
theorem ycfd(m t:Nat)(e l:List (Nat × AV))(H:yr)(n:Nat):yik m (.mov t) ⟨e,l,H,n⟩ = mvH t e l H n (lk e t):=by
  simp only [yik,mvH]
  cases h:lk e t with
  | none=>rfl
  | some v=>
    cases v
    case own es id off len ex=>
      simp only [mvK]
      cases lk H id with
      | none=>rfl
      | some o=>
        cases o
        .rfl
        .simp only
         cases upd e t (.own es n off len ex) <;> rfl
        .rfl
    all_goals rfl
theorem ycje(t es id off len:Nat)(ex:Bool)(e l:List (Nat × AV))(H:yr)(n:Nat):mvH t e l H n (some (.own es id off len ex)) = mvK t es off len ex e l H n id (lk H id):=rfl
def mvL(l:List (Nat × AV))(H:yr)(n:Nat):Option (List (Nat × AV))->Option St | some e'=>some ⟨e',l,H,n⟩ | none=>none
theorem ybym(e' l:List (Nat × AV))(H:yr)(n:Nat):mvL l H n (some e') = some ⟨e',l,H,n⟩:=rfl
theorem ycjf(t es off len:Nat)(ex:Bool)(e l:List (Nat × AV))(H:yr)(n id es' leak:Nat)(rows:List (List AV)):mvK t es off len ex e l H n id (some (.arr es' rows leak)) = mvL l ((n,.arr es' rows leak) :: rmv H id) (n + 1) (upd e t (.own es n off len ex)):=by
  simp only [mvK,mvL]
def mcL(n j:Nat)(a:Ob)(e l:List (Nat × AV)):Option yr->Option St | some H=>some ⟨e,l,(n,a) :: rmv H j,n + 1⟩ | none=>none
def mcK(es f len:Nat)(ex:Bool)(id o j:Nat)(cells:List AV)(e l:List (Nat × AV))(H:yr)(n:Nat):Option Ob->Option St
  | some (.arr es' rows leak)=>mcL n j (.arr es' rows leak) e l (upd H id (.box (ycp cells o [.own es n f len ex])))
  | _=>none
def mcI(id o:Nat)(cells:List AV)(e l:List (Nat × AV))(H:yr)(n:Nat):Option AV->Option St
  | some (.own es j f len ex)=>mcK es f len ex id o j cells e l H n (lk H j)
  | _=>none
def mcJ(id o:Nat)(e l:List (Nat × AV))(H:yr)(n:Nat):Option Ob->Option St
  | some (.box cells)=>mcI id o cells e l H n cells[o]?
  | _=>none
def mcH(off:Nat)(e l:List (Nat × AV))(H:yr)(n:Nat):Option AV->Option St
  | some (.ptr id o)=>mcJ id (o + off) e l H n (lk H id)
  | _=>none
theorem ybwd(m t off:Nat)(e l:List (Nat × AV))(H:yr)(n:Nat):yik m (.movc t off) ⟨e,l,H,n⟩ = mcH off e l H n (lk e t):=by
  simp only [yik,mcH]
  cases h:lk e t with
  | none=>rfl
  | some v=>
    cases v
    case ptr id o=>
      simp only [mcJ]
      cases h2:lk H id with
      | none=>rfl
      | some ob=>
        cases ob
        case arr=>rfl
        case arx=>rfl
        case box cells=>
          simp only [mcI]
          cases h3:cells[o + off]? with
          | none=>rfl
          | some c=>
            cases c
            case own es j f len ex=>
              simp only [mcK]
              cases lk H j with
              | none=>rfl
              | some ob2=>
                cases ob2
                .rfl
                .simp only [mcL]
                 cases upd H id (.box (ycp cells (o + off) [.own es n f len ex])) <;> rfl
                .rfl
            all_goals rfl
    all_goals rfl
theorem yciz(off id o:Nat)(e l:List (Nat × AV))(H:yr)(n:Nat):mcH off e l H n (some (.ptr id o)) = mcJ id (o + off) e l H n (lk H id):=rfl
theorem ycjb(id o:Nat)(cells:List AV)(e l:List (Nat × AV))(H:yr)(n:Nat):mcJ id o e l H n (some (.box cells)) = mcI id o cells e l H n cells[o]?:=rfl
theorem ycja(id o:Nat)(cells:List AV)(e l:List (Nat × AV))(H:yr)(n es j f len:Nat)(ex:Bool):mcI id o cells e l H n (some (.own es j f len ex)) = mcK es f len ex id o j cells e l H n (lk H j):=rfl
theorem ycjc(es f len:Nat)(ex:Bool)(id o j:Nat)(cells:List AV)(e l:List (Nat × AV))(H:yr)(n es' leak:Nat)(rows:List (List AV)):mcK es f len ex id o j cells e l H n (some (.arr es' rows leak)) = mcL n j (.arr es' rows leak) e l (upd H id (.box (ycp cells o [.own es n f len ex]))):=rfl
theorem ybyl(n j:Nat)(a:Ob)(e l:List (Nat × AV))(H:yr):mcL n j a e l (some H) = some ⟨e,l,(n,a) :: rmv H j,n + 1⟩:=rfl
theorem ybwb(m:Nat)(ids:List Nat)(e l:List (Nat × AV))(H:yr)(n:Nat):yik m (.drop ids) ⟨e,l,H,n⟩ = some ⟨e,l,yem H ids,n⟩:=rfl
def cuL(e l:List (Nat × AV))(n:Nat):Option yr->Option St | some H=>some ⟨e,l,H,n⟩ | none=>none
def cuK(id k:Nat)(e l:List (Nat × AV))(H:yr)(n:Nat):Option Ob->Option St
  | some (.arr es rows leak)=>cuL e l n (upd H id (.arr es (rows.take k) leak))
  | _=>none
theorem ycfc(m id k:Nat)(e l:List (Nat × AV))(H:yr)(n:Nat):yik m (.cut id k) ⟨e,l,H,n⟩ = cuK id k e l H n (lk H id):=by
  simp only [yik,cuK]
  cases lk H id with
  | none=>rfl
  | some o=>
    cases o
    .rfl
    .rename_i es rows leak
     simp only [cuL]
     cases upd H id (.arr es (rows.take k) leak) <;> rfl
    .rfl
theorem ycex(id k:Nat)(e l:List (Nat × AV))(H:yr)(n es leak:Nat)(rows:List (List AV)):cuK id k e l H n (some (.arr es rows leak)) = cuL e l n (upd H id (.arr es (rows.take k) leak)):=rfl
theorem ybvq(e l:List (Nat × AV))(n:Nat)(H:yr):cuL e l n (some H) = some ⟨e,l,H,n⟩:=rfl
theorem ydhe(v:AV)(H:yr)(n:Nat):wkV .frz v H n=(frz H v,ybv H v,n):=rfl
theorem ydhf(es:Nat)(H:yr)(n:Nat):wkV (.virt es) .nil H n=(.own es n 0 0 false,(n,.arr es [] 0) :: H,n + 1):=rfl
theorem ydhg(es es' id off len:Nat)(ex:Bool)(H:yr)(n:Nat):wkV (.virt es) (.own es' id off len ex) H n=(.own es' id off len false,H,n):=rfl
def retQ(m:Nat)(s:St):Option (List AV)->Option (AV × yr × Nat)
  | some vs=>(match ybr s.H m vs with | l=>some (ren (pos l) (one vs),ycy (pos l) s.H,l.length))
  | none=>none
def retL(v:AV)(H:yr)(l:List Nat):Option (AV × yr × Nat):=some (ren (pos l) v,ycy (pos l) H,l.length)
theorem ybsk(m:Nat)(e l:List (Nat × AV))(H:yr)(n:Nat)(vs:List AV):retQ m ⟨e,l,H,n⟩ (some vs) = retL (one vs) H (ybr H m vs):=rfl
theorem ycki(v:AV)(H:yr)(l:List Nat):retL v H l=some (ren (pos l) v,ycy (pos l) H,l.length):=rfl
theorem retR(m:Nat)(res:List IR)(s:St):yns m res (some (.ret,s)) = retQ m s (yfv s res):=by
  have h1:yns m res (some (.ret,s)) = match yfv s res with
   | some vs=>(match ybr s.H m vs with | l=>some (ren (pos l) (one vs),ycy (pos l) s.H,l.length))
   | none=>none:=rfl
  rw [h1]
  cases yfv s res <;> rfl
theorem retN(m:Nat)(res:List IR)(s:St):yns m res (some (.norm,s)) = retQ m s (yfv s res):=by
  have h1:yns m res (some (.norm,s)) = match yfv s res with
   | some vs=>(match ybr s.H m vs with | l=>some (ren (pos l) (one vs),ycy (pos l) s.H,l.length))
   | none=>none:=rfl
  rw [h1]
  cases yfv s res <;> rfl
def resT(v:AV):Option (List AV)->Option (List AV) | some l=>some (v :: l) | none=>none
theorem yckg(s:St):yfv s [] = some []:=rfl
theorem yckh(s:St)(t:Nat)(r:List IR):yfv s (.tmp t :: r) = resT (s.get t) (yfv s r):=by simp only [yfv,resT]; cases yfv s r <;> rfl
def resC:Option AV->Option (List AV)->Option (List AV) | some v,some l=>some (v :: l) | _,_=>none
theorem ycai(s:St)(p size:Nat)(a:Bool)(r:List IR):yfv s (.cell p a size :: r) = resC (yka a size s.H (s.get p)) (yfv s r):=by simp only [yfv,resC]; cases yka a size s.H (s.get p) <;> cases yfv s r <;> rfl
theorem ybsh(v:AV)(l:List AV):resT v (some l) = some (v :: l):=rfl
theorem ybsg(v:AV)(l:List AV):resC (some v) (some l) = some (v :: l):=rfl
theorem ycjm(v:AV):one [v] = v:=rfl
theorem ycjn(v w:AV)(r:List AV):one (v :: w :: r) = .tup (v :: w :: r):=rfl
theorem ycjl:one [] = .tup []:=rfl
section
variable (es:Nat) (e l:List (Nat × AV)) (H:yr) (nx:Nat)
def yyr(b:Bool)(x:Option (AV × St)):Option (AV × St):=if b=true then x else none
theorem ydfe(x:Option (AV × St)):yyr true x=x:=rfl
theorem ybqx(rows:List (List AV)):ycu ⟨e,l,H,nx⟩ es rows=yyr (yeq rows.length) (some (.own es nx 0 rows.length false,⟨e,l,(nx,.arr es rows 0) :: H,nx + 1⟩)):=by
  simp only [ycu,yyr,yeq,St.add]
  by_cases h:rows.length<=yno <;> simp [h]
def appK(s:St)(base:AV):Option (List (List AV))->Option (AV × St)
  | some new=>
    match base with
    | .nil=>ycu s es new
    | .imm es' rows ex=>
      if yip es es' rows=true/\ex=true then
       if rows.length=0 then ycu s es new
       else if 0 < new.length then ycu s es (rows++new) else none
      else none
    | .own es' id off len ex=>
      if es' = es then
       match lk s.H id with
       | some (.arr _ rows leak)=>
         if ex=true then
          if len=0 then ycu s es new
          else if 0 < new.length/\off + len<=rows.length then ycu s es ((rows.drop off).take len++new) else none
         else if off=0/\len<=rows.length/\leak<=len/\len + new.length<=yno then
           some (.own es s.nx 0 (len + new.length) false,(s.setH (rmv s.H id)).add (.arr es (rows.take len++new) leak))
         else none
       | _=>none
      else none
    | _=>none
  | none=>none
theorem ycnf(s:St)(base x:AV):yio es s base x=appK es s base (ydc es s.H x):=by
  unfold yio appK
  cases ydc es s.H x <;> rfl
theorem ybud(s:St)(new:List (List AV)):appK es s .nil (some new) = ycu s es new:=rfl
theorem ybuc(s:St)(new:List (List AV))(es':Nat):appK es s (.imm es' [] true) (some new) = ycu s es new:=by simp [appK,yip]
def appO(id off len:Nat)(ex:Bool)(new:List (List AV)):Option Ob->Option (AV × St)
  | some (.arr _ rows leak)=>
    if ex=true then
     if len=0 then ycu ⟨e,l,H,nx⟩ es new
     else if 0 < new.length/\off + len<=rows.length then ycu ⟨e,l,H,nx⟩ es ((rows.drop off).take len++new) else none
    else if off=0/\len<=rows.length/\leak<=len then
      yyr (yeq (len + new.length)) (some (.own es nx 0 (len + new.length) false,⟨e,l,(nx,.arr es (rows.take len++new) leak) :: rmv H id,nx + 1⟩))
    else none
  | _=>none
theorem ybue(id off len:Nat)(ex:Bool)(new:List (List AV)):appK es ⟨e,l,H,nx⟩ (.own es id off len ex) (some new) = appO es e l H nx id off len ex new (lk H id):=by
  simp only [appK,wl,appO]
  cases lk H id with
  | none=>rfl
  | some o=>
    cases o with
    | box c=>rfl
    | arr es2 rows leak=>
      simp only [yyr,yeq,St.add,St.setH]
      split
      .rfl
      .by_cases h:off=0/\len<=rows.length/\leak<=len
       .rw [qe h]
        by_cases h2:len + new.length<=yno
        .rw [qe ⟨h.1,h.2.1,h.2.2,h2⟩]; simp [h2]
        .rw [qc (fun hh=>h2 hh.2.2.2)]; simp [h2]
       .rw [qc h,qc (fun hh=>h ⟨hh.1,hh.2.1,hh.2.2.1⟩)]
    | arx es2 rows=>rfl
theorem ycnd(id len es2:Nat)(new rows:List (List AV))(leak:Nat):appO es e l H nx id 0 len false new (some (.arr es2 rows leak)) = if len=rows.length then (if leak<=len then yyr (yeq (len + new.length)) (some (.own es nx 0 (len + new.length) false,⟨e,l,(nx,.arr es (rows++new) leak) :: rmv H id,nx + 1⟩)) else none) else if len<=rows.length/\leak<=len then yyr (yeq (len + new.length)) (some (.own es nx 0 (len + new.length) false,⟨e,l,(nx,.arr es (rows.take len++new) leak) :: rmv H id,nx + 1⟩)) else none:=by
  by_cases h:len=rows.length
  .subst h
   simp [appO]
  .rw [qc h]
   simp [appO]
theorem ycne(id len es2:Nat)(new rows:List (List AV))(leak:Nat):appO es e l H nx id 0 len true new (some (.arr es2 rows leak)) = if len=0 then ycu ⟨e,l,H,nx⟩ es new else if 0 < new.length/\len<=rows.length then ycu ⟨e,l,H,nx⟩ es (rows.take len++new) else none:=by
  simp [appO]
end
def yadp(off len:Nat):Option Ob->Option (List (List AV))
  | some (.arr _ rows _)=>if off + len<=rows.length then some ((rows.drop off).take len) else none
  | _=>none
theorem ycbd(n:Nat)(H:yr)(id off len:Nat)(ex:Bool):ydc n H (.own n id off len ex) = yadp off len (lk H id):=by
  simp only [ydc,yei,wl,yadp]
  cases lk H id with
  | none=>rfl
  | some o=>cases o <;> rfl
theorem ybsm(n:Nat)(H:yr)(id off len:Nat)(ex:Bool):yei n H (.own n id off len ex) = yadp off len (lk H id):=by
  simp only [yei,wl,yadp]
  cases lk H id with
  | none=>rfl
  | some o=>cases o <;> rfl
theorem yaha{α:Type}{l:List α}{n:Nat}(h:l.length=n):l.take n=l:=by subst h; simp
theorem ybrf(len es:Nat)(rows:List (List AV))(leak:Nat)(h:rows.length=len):yadp 0 len (some (.arr es rows leak)) = some rows:=by
  simp [yadp,h,yaha]
theorem ycbb(n:Nat)(H:yr):ydc n H .nil=some []:=rfl
theorem yclx(H:yr)(s:ByteArray):ydc 1 H (.str s) = some (yiv s):=rfl
def ywb(off len:Nat):Option Ob->AV
  | some (.arr _ rows _)=>if off + len<=rows.length then ycr ((rows.drop off).take len) else .bad
  | _=>.bad
theorem ybwq(H:yr)(es id off len:Nat)(ex:Bool):frz H (.own es id off len ex) = ywb off len (lk H id):=by
  simp only [frz,ywb]
  cases lk H id with
  | none=>rfl
  | some o=>cases o <;> rfl
theorem ybld{α:Type}{c:α->List AV}(l:List α)(es leak len:Nat)(h:l.length=len):ywb 0 len (some (.arr es (l.map c) leak)) = sl c l:=by
  subst h
  simp [ywb,sl,ycr,yaha]
theorem ybcu(rows:List (List AV))(es leak len:Nat)(h:rows.length=len):ywb 0 len (some (.arr es rows leak)) = ycr rows:=by
  subst h
  simp [ywb,yaha]
theorem ybql(H:yr)(es id off len:Nat)(ex:Bool):ybv H (.own es id off len ex) = ynn H id (off + len):=rfl
theorem ybhb(id n:Nat):ynn [] id n = []:=rfl
theorem yawk(id n k:Nat)(o:Ob)(r:yr):ynn ((k,o) :: r) id n=(k,if k=id then ydh n o else o) :: ynn r id n:=by
  simp only [ynn,wr,List.cons.injEq,and_true]
  split <;> rfl
theorem ybhc(es n leak:Nat)(rows:List (List AV)):ydh n (.arr es rows leak) = .arr es rows (max leak n):=rfl
theorem ybhe(n:Nat)(cells:List AV):ydh n (.box cells) = .box cells:=rfl
theorem ydkb(n:Nat):max 0 n=n:=by omega
theorem ydkc(n:Nat):max n n=n:=by omega
def mkB(n:Int):Bool:=decide (0<=n) && decide (n<=(yno:Int))
theorem ydew(es:Nat)(z:List AV)(e l:List (Nat × AV))(H:yr)(nx:Nat)(n:Int):yts es z ⟨e,l,H,nx⟩ (.int .i64 n) (.int .i64 n) = yyr (mkB n) (some (.own es nx 0 n.toNat true,⟨e,l,(nx,.arr es (List.replicate n.toNat z) 0) :: H,nx + 1⟩)):=by
  simp only [yts,mkB,yyr,qh,true_and]
  by_cases h0:0<=n
  .by_cases h1:n<=(yno:Int)
   .simp [h0,h1,St.add]
   .simp [h0,h1]
  .simp [h0]
def bslK(es len:Nat)(e l:List (Nat × AV))(H:yr)(nx:Nat):Option (List (List AV))->Option (AV × St)
  | some rows=>some (.own es nx 0 len true,⟨e,l,(nx,.arr es rows 0) :: H,nx + 1⟩)
  | none=>none
theorem ycno(es len:Nat)(z:List AV)(e l:List (Nat × AV))(H:yr)(nx:Nat)(ps:List (Nat × AV)):ysd es z len ⟨e,l,H,nx⟩ ps=bslK es len e l (yfl H ps) nx (yfp es H (List.replicate len z) ps):=by
  unfold ysd bslK
  cases yfp es H (List.replicate len z) ps <;> rfl
theorem ybju(es len:Nat)(e l:List (Nat × AV))(H:yr)(nx:Nat)(rows:List (List AV)):bslK es len e l H nx (some rows) = some (.own es nx 0 len true,⟨e,l,(nx,.arr es rows 0) :: H,nx + 1⟩):=rfl
theorem yblb(es:Nat)(H:yr)(rows:List (List AV)):yfp es H rows [] = some rows:=rfl
def yasb(es:Nat)(H:yr)(rows:List (List AV))(i:Nat)(r:List (Nat × AV)):Option (List AV)->Option (List (List AV))
  | some vs=>if vs.length=es/\i < rows.length/\ygk vs=true/\ydk vs=true then yfp es H (rows.set i vs) r else none
  | none=>none
theorem ybcq(es:Nat)(H:yr)(rows:List (List AV))(i:Nat)(v:AV)(r:List (Nat × AV)):yfp es H rows ((i,v) :: r) = yasb es H rows i r (cellsOf (frz H v)):=by
  simp only [yfp,yasb]
  cases cellsOf (frz H v) <;> rfl
theorem yawi(es:Nat)(H:yr)(rows:List (List AV))(i:Nat)(r:List (Nat × AV))(vs:List AV):yasb es H rows i r (some vs) = if vs.length=es/\i < rows.length/\ygk vs=true/\ydk vs=true then yfp es H (rows.set i vs) r else none:=rfl
theorem ybqi(H:yr):yfl H [] = H:=rfl
theorem ybha(H:yr)(i:Nat)(v:AV)(r:List (Nat × AV)):yfl H ((i,v) :: r) = yfl (ybv H v) r:=rfl
theorem ydla{α:Type}(x:α):List.replicate 0 x = []:=rfl
theorem ydlb{α:Type}(n:Nat)(x:α):List.replicate (n + 1) x=x :: List.replicate n x:=rfl
theorem ydlg{α:Type}(a b:α)(l:List α):(a :: l).set 0 b=b :: l:=rfl
theorem ydlh{α:Type}(a b:α)(l:List α)(n:Nat):(a :: l).set (n + 1) b=a :: l.set n b:=rfl
theorem ydgl(e l:List (Nat × AV))(H:yr)(nx:Nat)(s:ByteArray):ytt ⟨e,l,H,nx⟩ (.str s) = some (sl (ci .u8) (yarf s),⟨e,l,(nx,.box []) :: H,nx + 1⟩):=by
  rw [ytt,yaee]
  rfl
theorem yek{α:Type}{l:List α}{i:Int}{x:α}{k:IntKind}{n id len:Nat}{ex:Bool}(hx:ydd l i=some x)(hl:l.length=len):yof n (.own n id 0 len ex) (.int k i) = some (.eptr id i.toNat 0):=by
  obtain ⟨h0,h1,h2⟩:=yabm hx
  subst hl
  have:i < (l.length:Int):=by omega
  simp [yof,h0,this]
def ybl{α:Type}(l:List α)(i:Int)(x:α):List α:=l.set i.toNat x
theorem ycas{α:Type}(l:List α)(k:Int)(x:α):(ybl l k x).length=l.length:=by simp [ybl]
def ldR(a:Bool)(size f:Nat):Option (List AV)->Option AV | some row=>part a size row f | none=>none
def ldE(a:Bool)(size f i:Nat):Option Ob->Option AV | some (.arr _ rows _)=>ldR a size f rows[i]? | some (.arx _ rows)=>ldR a size f rows[i]? | _=>none
theorem ydka(a:Bool)(size:Nat)(H:yr)(id i f:Nat):yka a size H (.eptr id i f) = ldE a size f i (lk H id):=by
  simp only [yka,ldE]
  cases lk H id with
  | none=>rfl
  | some o=>
    cases o
    .rfl
    .rename_i es rows leak
     simp only [ldR]
     cases rows[i]? <;> rfl
    .rename_i es rows
     simp only [ldR]
     cases rows[i]? <;> rfl
theorem yciq(a:Bool)(size f i es leak:Nat)(rows:List (List AV)):ldE a size f i (some (.arr es rows leak)) = ldR a size f rows[i]?:=rfl
theorem ybxy(a:Bool)(size f:Nat)(row:List AV):ldR a size f (some row) = part a size row f:=rfl
theorem ygq{α:Type}{c:α->List AV}{l:List α}{i:Int}{x:α}(hx:ydd l i=some x):(List.map c l)[i.toNat]? = some (c x):=by
  obtain ⟨_,_,g2⟩:=yabm hx
  simp [g2]
theorem ycau{α:Type}{l l':List α}{hi:Int}{k:IntKind}{n id:Nat}(h:ycn l 0 hi=some l'):yhg n (.own n id 0 l.length false) none (some (.int k hi)) none=some (.own n id 0 l'.length false):=by
  unfold ycn at h
  split at h
  .rename_i hc
   obtain rfl:=qd h
   have hb:yji l.length false none (some (.int k hi)) none=some (0,hi.toNat,false):=by
     simp [yji,ykz,asI,hc.2.1,hc.2.2]
   have:min hi.toNat l.length=hi.toNat:=by omega
   simp [yhg,hb,this]
  .cases h
theorem ycey{α:Type}{c:α->List AV}{l l':List α}{hi:Int}(h:ycn l 0 hi=some l'):(List.map c l).take l'.length=List.map c l':=by
  unfold ycn at h
  split at h
  .rename_i hc
   obtain rfl:=qd h
   have:min hi.toNat l.length=hi.toNat:=by omega
   simp [List.map_take,this]
  .cases h
theorem ycav{α:Type}{l l':List α}{lo:Int}{k:IntKind}{n id:Nat}(h:ycn l lo l.length=some l'):yhg n (.own n id 0 l.length false) (some (.int k lo)) none none=some (.own n id lo.toNat l'.length false):=by
  unfold ycn at h
  split at h
  .rename_i hc
   obtain rfl:=qd h
   have hb:yji l.length false (some (.int k lo)) none none=some (lo.toNat,l.length,false):=by
     simp [yji,ykz,asI,hc.1,hc.2.1]
   simp [yhg,hb]
  .cases h
theorem ydil{α:Type}{l l':List α}{lo:Int}(h:ycn l lo l.length=some l'):lo.toNat + l'.length<=l.length:=by
  unfold ycn at h
  split at h
  .rename_i hc
   obtain rfl:=qd h
   simp
   omega
  .cases h
theorem ycou{α:Type}{c:α->List AV}{l l':List α}{lo:Int}(h:ycn l lo l.length=some l'):((List.map c l).drop lo.toNat).take l'.length=List.map c l':=by
  unfold ycn at h
  split at h
  .rename_i hc
   obtain rfl:=qd h
   simp [List.map_drop]
   rw [wm]
   simp
  .cases h
theorem ycfi{α:Type}{c:α->List AV}{l l':List α}{lo:Int}(h:ycn l lo l.length=some l')(es leak:Nat):ywb lo.toNat l'.length (some (.arr es (List.map c l) leak)) = sl c l':=by
  have h1:=ydil h
  have h2:=ycou (c:=c) h
  simp only [ywb,wj]
  rw [qe h1,h2]
  rfl
def stE2(size id i f:Nat)(H:yr)(vs:List AV)(es:Nat)(rows:List (List AV))(leak:Nat):Option (List AV)->Option yr
  | some row=>if vs.length=size/\f + vs.length<=row.length/\leak<=i/\ygk vs=true/\ydk vs=true then upd H id (.arr es (rows.set i (ycp row f vs)) leak) else none
  | none=>none
def stE1(size id i f:Nat)(X:Nat->List (List AV)->Option yr)(H:yr):Option (List AV)->Option Ob->Option yr
  | some vs,some (.arr es rows leak)=>stE2 size id i f H vs es rows leak rows[i]?
  | some _,some (.arx es rows)=>X es rows
  | _,_=>none
theorem ydll(size:Nat)(H:yr)(id i f:Nat)(v:AV):ynv size H (.eptr id i f) v=stE1 size id i f (fun es rows=>yvk size H id i f es rows v) (ybv H v) (cellsOf (frz H v)) (lk (ybv H v) id):=by
  simp only [ynv,stE1]
  cases cellsOf (frz H v) with
  | none=>rfl
  | some vs=>
    cases lk (ybv H v) id with
    | none=>rfl
    | some o=>
      cases o
      .rfl
      .rename_i es rows leak
       simp only [stE2]
       cases rows[i]? <;> rfl
      .rfl
theorem ycbj(size id i f:Nat)(X:Nat->List (List AV)->Option yr)(H:yr)(vs:List AV)(es:Nat)(rows:List (List AV))(leak:Nat):stE1 size id i f X H (some vs) (some (.arr es rows leak)) = stE2 size id i f H vs es rows leak rows[i]?:=rfl
theorem ybsz(size id i f:Nat)(H:yr)(vs:List AV)(es:Nat)(rows:List (List AV))(leak:Nat)(row:List AV):stE2 size id i f H vs es rows leak (some row) = if vs.length=size/\f + vs.length<=row.length/\leak<=i/\ygk vs=true/\ydk vs=true then upd H id (.arr es (rows.set i (ycp row f vs)) leak) else none:=rfl
theorem ylc{α:Type}(c:α->List AV)(l:List α)(i:Int)(y:α):(List.map c l).set i.toNat (c y) = List.map c (ybl l i y):=by rw [ybl,List.map_set]
theorem ycoc:yeq 0=true:=rfl
theorem ycod:yeq 1=true:=rfl
theorem ycoe:yeq 2=true:=rfl
theorem ycof:yeq 3=true:=rfl
theorem ycog:yeq 4=true:=rfl
theorem ycoh:yeq 5=true:=rfl
theorem ycoi:yeq 6=true:=rfl
theorem ycoj:yeq 7=true:=rfl
theorem ycok:yeq 8=true:=rfl
theorem ydez(k:IntKind)(a b:Int):mxAV (.int k a) (.int k b) = some (.int k (if a < b then b else a)):=by simp [mxAV,yfm]
theorem ydex(k:IntKind)(a b:Int):mnAV (.int k a) (.int k b) = some (.int k (if b < a then b else a)):=by simp [mnAV,yfm]
theorem ydfd(id off:Nat):ncAV (.ptr id off) = some (.ptr id off):=rfl
theorem ycjg(id i f:Nat):ncAV (.eptr id i f) = some (.eptr id i f):=rfl
theorem ycjh(row:List AV)(f:Nat):ncAV (.iptr row f) = some (.iptr row f):=rfl
theorem ydkf(f:Nat)(a b:List AV):ncAV (.fn (.func f) a b) = some (.fn (.func f) a b):=rfl
def eqcK(ng:Bool):Option Bool->Option AV | some b=>ymo (if ng then !b else b) | none=>none
theorem ycoy(ng:Bool)(l:List (Nat × Nat))(xs ys:List AV):yyc ng l (.agg xs) (.agg ys) = eqcK ng (yha l xs ys):=by
  simp only [yyc,eqcK]
  cases yha l xs ys <;> rfl
theorem ycow(b:Bool):eqcK false (some b) = some (.bool b):=by simp [eqcK,yeo]
theorem ycox(b:Bool):eqcK true (some b) = some (.bool (!b)):=by simp [eqcK,yeo]
def andO(b:Bool)(x:Option Bool):Option Bool:=match x with | some c=>some (b && c) | none=>if b=true then none else some false
theorem ybji(b c:Bool):andO b (some c) = some (b && c):=rfl
def eqcC(r:List (Nat × Nat))(xs ys:List AV)(q:Nat):Option AV->Option AV->Option Bool
  | some x,some y=>match ysu q x y with | some b=>andO b (yha r xs ys) | none=>none
  | _,_=>none
theorem ybvw(xs ys:List AV):yha [] xs ys=some true:=rfl
theorem ybku(i q:Nat)(r:List (Nat × Nat))(xs ys:List AV):yha ((i,q) :: r) xs ys=eqcC r xs ys q xs[i]? ys[i]?:=by
  simp only [yha,eqcC]
  cases xs[i]? with
  | none=>rfl
  | some x=>
    cases ys[i]? with
    | none=>rfl
    | some y=>
      simp only
      cases ysu q x y with
      | none=>rfl
      | some b=>cases b <;> simp only [andO] <;> cases yha r xs ys <;> simp
theorem ybvx(r:List (Nat × Nat))(xs ys:List AV)(k:IntKind)(a b:Int):eqcC r xs ys 1 (some (.int k a)) (some (.int k b)) = andO (decide (a=b)) (yha r xs ys):=by
  have:(a == b) = decide (a=b):=by by_cases h:a=b <;> simp [h]
  simp [eqcC,ysu,this]
theorem ybkv(r:List (Nat × Nat))(xs ys:List AV)(a b:Bool):eqcC r xs ys 0 (some (.bool a)) (some (.bool b)) = andO (a == b) (yha r xs ys):=rfl
theorem ybvy(r:List (Nat × Nat))(xs ys:List AV)(a b:ByteArray):eqcC r xs ys 2 (some (.str a)) (some (.str b)) = andO (eqS a b) (yha r xs ys):=rfl
theorem i_eq(n:Int):(n=n) = True:=by simp
theorem n_eq(n:Nat):(n=n) = True:=by simp
theorem n_le(n:Nat):(n<=n) = True:=by simp
theorem k_eq(n:IntKind):(n=n) = True:=by simp
theorem ydjs(n:Int):(n == n) = true:=by simp
def yzg(k:IntKind)(b:Bool)(n:Int):Option AV:=if b=true then none else some (.int k n)
theorem ydfv(k:IntKind)(n:Int):yzg k false n=some (.int k n):=rfl
def shrI(k:IntKind)(a b:Int):Int:=a.fdiv (2 ^ (min b.toNat k.bits))
def shlI(k:IntKind)(a b:Int):Int:=k.wrap (a * 2 ^ (min b.toNat k.bits))
theorem ycek(k:IntKind)(a b:Int):yep .shr k a b=yzg k (decide (b < 0)) (shrI k a b):=by
  by_cases h:b < 0 <;> simp [yep,h,yzg,yfm,shrI]
theorem ycej(k:IntKind)(a b:Int):yep .shl k a b=yzg k (decide (b < 0)) (shlI k a b):=by
  by_cases h:b < 0 <;> simp [yep,h,yzg,yfm,shlI]
def clnK(es:Nat)(s:St):Option (List (List AV))->Option (AV × St)
  | some rows=>ycu s es rows
  | none=>none
theorem ycor(es:Nat)(s:St)(x:AV):yme es s x=clnK es s (yei es s.H x):=rfl
theorem ybkf(es:Nat)(s:St)(rows:List (List AV)):clnK es s (some rows) = ycu s es rows:=rfl
theorem ycei(k:IntKind)(a b:Int):yep .and k a b=some (.int k (andI k a b)):=yfm _ _
theorem ycnl(k:IntKind)(a b:Int):yep .or k a b=some (.int k (orI k a b)):=yfm _ _
theorem ycel(k:IntKind)(a b:Int):yep .xor k a b=some (.int k (xorI k a b)):=yfm _ _
theorem ybup(op:BinOp)(k k':IntKind)(a b:Int)(h:shB op=true):yvs op (.int k a) (.int k' b) = yep op k a b:=by simp [yvs,h]
section
variable {α:Type} {c:α->List AV} {n:Nat}
def iasK(c:α->List AV):Option α->Option AV | some x=>some (.iptr (c x) 0) | none=>none
theorem ybqa(x:α):iasK c (some x) = some (.iptr (c x) 0):=rfl
theorem ychs[h:Row c n](l:List α)(k:IntKind)(i:Int):yof n (sl c l) (.int k i) = iasK c (ydd l i):=by
  cases hx:ydd l i with
  | some x=>rw [yddv hx]; rfl
  | none=>
    unfold ydd at hx
    simp only [sl,ycr,yof,iasK]
    split
    .rename_i hc
     rw [qe hc.2] at hx
     rw [jw,hx]
     rfl
    .rfl
theorem ybxj(size:Nat)(k:IntKind)(i:Int):yof size yks (.int k i) = none:=by simp [yks,ycr,yof]
def sllK(c:α->List AV):Option (List α)->Option AV | some x=>some (sl c x) | none=>none
theorem ybsr(x:List α):sllK c (some x) = some (sl c x):=rfl
theorem ypo{m:Nat}{ex:Bool}{lo hi:Option AV}{l h:Int}(hl:ykz lo=some (some l)\/(lo=none/\l=0))(hh:ykz hi=some (some h)\/(hi=none/\h=m))(hc:¬ (0<=l/\l<=h/\h<=(m:Int))):yji m ex lo hi none=none:=by
  have e1:∃ a,ykz lo=some a/\a.getD 0=l:=by
    rcases hl with hl | ⟨rfl,rfl⟩
    .exact ⟨_,hl,rfl⟩
    .exact ⟨none,rfl,rfl⟩
  have e2:∃ a,ykz hi=some a/\a.getD (m:Int) = h:=by
    rcases hh with hh | ⟨rfl,rfl⟩
    .exact ⟨_,hh,rfl⟩
    .exact ⟨none,rfl,rfl⟩
  obtain ⟨a,a1,a2⟩:=e1
  obtain ⟨b,b1,b2⟩:=e2
  have e3:ykz none=some none:=rfl
  simp only [yji,a1,b1,e3]
  rw [qc]
  rintro ⟨h1,h2,h3,_⟩
  rw [a2] at h1 h2
  rw [b2] at h2 h3
  exact hc ⟨h1,h2,by simpa using h3⟩
theorem yaks[h:Row c n](l:List α):yip n (yoo (l.map c)) (l.map c) = true:=by
  rcases ynm (c:=c) (l:=l) with h | h
  .subst h; rfl
  .rw [h]; simp [yip]
theorem yckt[h:Row c n](l:List α)(k k':IntKind)(lo hi:Int):yhg n (sl c l) (some (.int k lo)) (some (.int k' hi)) none=sllK c (ycn l lo hi):=by
  cases hx:ycn l lo hi with
  | some x=>rw [ydgs hx]; rfl
  | none=>
    have hc:¬ (0<=lo/\lo<=hi/\hi<=(l.length:Int)):=by
      unfold ycn at hx
      split at hx
      .cases hx
      .assumption
    simp only [sl,ycr,yhg,yaks,wl,sllK]
    rw [ypo (l:=lo) (h:=hi) (.inl rfl) (.inl rfl) (by simpa using hc)]
theorem ycku[h:Row c n](l:List α)(k:IntKind)(lo:Int):yhg n (sl c l) (some (.int k lo)) none none=sllK c (ycn l lo l.length):=by
  cases hx:ycn l lo l.length with
  | some x=>rw [ycky hx]; rfl
  | none=>
    have hc:¬ (0<=lo/\lo<=(l.length:Int)/\(l.length:Int)<=(l.length:Int)):=by
      unfold ycn at hx
      split at hx
      .cases hx
      .assumption
    simp only [sl,ycr,yhg,yaks,wl,sllK]
    rw [ypo (l:=lo) (h:=l.length) (.inl rfl) (.inr ⟨rfl,by simp⟩) (by simpa using hc)]
theorem yckv[h:Row c n](l:List α)(k:IntKind)(hi:Int):yhg n (sl c l) none (some (.int k hi)) none=sllK c (ycn l 0 hi):=by
  cases hx:ycn l 0 hi with
  | some x=>rw [yckx hx]; rfl
  | none=>
    have hc:¬ ((0:Int)<=0/\0<=hi/\hi<=(l.length:Int)):=by
      unfold ycn at hx
      split at hx
      .cases hx
      .assumption
    simp only [sl,ycr,yhg,yaks,wl,sllK]
    rw [ypo (l:=0) (h:=hi) (.inr ⟨rfl,rfl⟩) (.inl rfl) (by simpa using hc)]
end
section
variable {α:Type} {c:α->List AV} {n:Nat}
def sllX(c:α->List AV):Option (List α)->Option AV | some x=>some (slx c x) | none=>none
theorem ybss(x:List α):sllX c (some x) = some (slx c x):=rfl
theorem yckw[h:Row c n](l:List α)(k k':IntKind)(hi:Int):yhg n (sl c l) none (some (.int k hi)) (some (.int k' hi)) = sllX c (ycn l 0 hi):=by
  cases hx:ycn l 0 hi with
  | some x=>rw [yckz hx]; rfl
  | none=>
    have hc:¬ ((0:Int)<=0/\0<=hi/\hi<=(l.length:Int)):=by
      unfold ycn at hx
      split at hx
      .cases hx
      .assumption
    have hb:yji (l.map c).length false none (some (.int k hi)) (some (.int k' hi)) = none:=by
      simp only [yji,ykz,asI,Option.getD_none,Option.getD_some,wj]
      rw [qc]
      intro hh
      exact hc ⟨qh _,hh.2.1,by have:=hh.2.2.1; have:=hh.2.2.2.1; omega⟩
    simp only [sl,ycr,yhg,yaks,wl,sllX]
    rw [hb]
end
def ixsK:Option Int->Option AV | some x=>some (.int .u8 x) | none=>none
theorem ybqc(x:Int):ixsK (some x) = some (.int .u8 x):=rfl
theorem ydeb(s:ByteArray)(k:IntKind)(i:Int):yyl (.str s) (.int k i) = ixsK (nthS s i):=by
  cases hx:nthS s i with
  | some x=>rw [ycig hx]; rfl
  | none=>
    unfold nthS at hx
    simp only [yyl,ixsK]
    split
    .rename_i hc
     rw [qe hc] at hx
     simp only [Option.map_eq_none_iff] at hx
     rw [hx]
    .rfl
def slsK:Option ByteArray->Option AV | some x=>some (.str x) | none=>none
theorem ybsu(x:ByteArray):slsK (some x) = some (.str x):=rfl
theorem ydli(s:ByteArray)(k k':IntKind)(lo hi:Int):ymm (.str s) (some (.int k lo)) (some (.int k' hi)) = slsK (ykv s lo hi):=by
  cases hx:ykv s lo hi with
  | some x=>rw [ydgt hx]; rfl
  | none=>
    have hc:¬ (0<=lo/\lo<=hi/\hi<=(s.size:Int)):=by
      unfold ykv at hx
      split at hx
      .cases hx
      .assumption
    simp only [ymm,slsK]
    rw [ypo (l:=lo) (h:=hi) (.inl rfl) (.inl rfl) hc]
theorem ydlj(s:ByteArray)(k:IntKind)(lo:Int):ymm (.str s) (some (.int k lo)) none=slsK (ykv s lo s.size):=by
  cases hx:ykv s lo s.size with
  | some x=>rw [yclb hx]; rfl
  | none=>
    have hc:¬ (0<=lo/\lo<=(s.size:Int)/\(s.size:Int)<=(s.size:Int)):=by
      unfold ykv at hx
      split at hx
      .cases hx
      .assumption
    simp only [ymm,slsK]
    rw [ypo (l:=lo) (h:=s.size) (.inl rfl) (.inr ⟨rfl,rfl⟩) hc]
theorem ydlk(s:ByteArray)(k:IntKind)(hi:Int):ymm (.str s) none (some (.int k hi)) = slsK (ykv s 0 hi):=by
  cases hx:ykv s 0 hi with
  | some x=>rw [ycla hx]; rfl
  | none=>
    have hc:¬ ((0:Int)<=0/\0<=hi/\hi<=(s.size:Int)):=by
      unfold ykv at hx
      split at hx
      .cases hx
      .assumption
    simp only [ymm,slsK]
    rw [ypo (l:=0) (h:=hi) (.inr ⟨rfl,rfl⟩) (.inl rfl) hc]
def catK(b:Bool)(s:ByteArray):Option AV:=if b=true then some (.str s) else none
theorem ycom(s:ByteArray):catK true s=some (.str s):=rfl
theorem ybuw(a b:ByteArray):ymt .add a b=catK (catB a b) (a++b):=by
  simp only [ymt,catK,catB]
  by_cases h:a.size + b.size<=1099511627776 <;> simp [h]
theorem ybuq(k:IntKind)(a b:Int):yep .quo k a b=yzg k (decide (b=0)) (k.wrap (a.tdiv b)):=by
  rw [yaxs]
  by_cases h:b=0 <;> simp [h,yzg]
theorem ybur(k:IntKind)(a b:Int):yep .rem k a b=yzg k (decide (b=0)) (a.tmod b):=by
  rw [yaxt]
  by_cases h:b=0 <;> simp [h,yzg]
theorem ybuh(args:List AV):yaz args [] = []:=rfl
theorem ybjl(args:List AV)(t:Nat)(r:List Nat):yaz args (t :: r) = (t,(match args[t]? with | some v=>v | none=>.un)) :: yaz args r:=rfl
theorem ybso(n:Nat)(vs:List AV):ycp [] n vs = []:=rfl
theorem ycaq(c v:AV)(cs vs:List AV):ycp (c :: cs) 0 (v :: vs) = v :: ycp cs 0 vs:=rfl
theorem ycar(c:AV)(cs:List AV):ycp (c :: cs) 0 [] = c :: cs:=rfl
theorem yckq(c:AV)(cs:List AV)(n:Nat)(vs:List AV):ycp (c :: cs) (n + 1) vs=c :: ycp cs n vs:=rfl
theorem ycnq(k:IntKind)(n:Int):yfb (.int k n) = true:=rfl
theorem ycem(b:Bool):yfb (.bool b) = true:=rfl
theorem ycnu(s:ByteArray):yfb (.str s) = true:=rfl
theorem ycnr:yfb .nil=true:=rfl
theorem ycns(es id off len:Nat)(ex:Bool):yfb (.own es id off len ex) = true:=rfl
theorem ycnt(id off:Nat):yfb (.ptr id off) = true:=rfl
theorem ycen(id i f:Nat):yfb (.eptr id i f) = true:=rfl
theorem yceo(row:List AV)(f:Nat):yfb (.iptr row f) = true:=rfl
theorem ydhx(f:Fn)(a b:List AV):yfb (.fn f a b) = true:=rfl
theorem ycnp(es:Nat)(rows:List (List AV))(ex:Bool):yfb (.imm es rows ex) = true:=rfl
theorem ycep:ydk [] = true:=rfl
theorem ybvd(v:AV)(r:List AV):ydk (v :: r) = (yfb v && ydk r):=rfl
theorem ybkd(id off:Nat):cellsOf (.ptr id off) = some [.ptr id off]:=rfl
theorem ybvn(f:Fn)(a b:List AV):cellsOf (.fn f a b) = some [.fn f a b]:=rfl
theorem ydfn(k:IntKind)(n:Int):ycg (.int k n) = true:=rfl
theorem ycjq(b:Bool):ycg (.bool b) = true:=rfl
theorem ydfo(s:ByteArray):ycg (.str s) = true:=rfl
theorem ydfm(cs:List AV):ycg (.agg cs) = yen cs:=rfl
theorem ydfp(cs:List AV):ycg (.tup cs) = yen cs:=rfl
theorem ycjr:yen [] = true:=rfl
theorem ybyw(v:AV)(r:List AV):yen (v :: r) = (ycg v && yen r):=rfl
theorem yddq(k:IntKind)(n:Int):ygf (.int k n) = true:=rfl
theorem ycho(b:Bool):ygf (.bool b) = true:=rfl
theorem yddr(s:ByteArray):ygf (.str s) = true:=rfl
theorem yddp(cs:List AV):ygf (.agg cs) = ygk cs:=rfl
theorem ydds(cs:List AV):ygf (.tup cs) = ygk cs:=rfl
theorem ychp:ygk [] = true:=rfl
theorem ybxh(v:AV)(r:List AV):ygk (v :: r) = (ygf v && ygk r):=rfl
theorem ydif(k:IntKind)(n:Int):ci k n = [.int k n]:=rfl
theorem ydid(b:Bool):cb b = [.bool b]:=rfl
theorem ydij(s:ByteArray):cs s = [.str s]:=rfl
theorem ydig{α:Type}(c:α->List AV)(l:List α):cl c l = [sl c l]:=rfl
theorem yciu:yno=549755813888:=rfl
theorem ybkr(H:yr):yem H [] = H:=rfl
theorem ybcm(H:yr)(id:Nat)(r:List Nat):yem H (id :: r) = yem (rmv H id) r:=rfl
theorem ybjq(l:List Nat)(m n1 nx j:Nat):yge l m n1 nx j=if j < m then l[j]? else if j < n1 then some (nx + (j - m)) else none:=rfl
theorem ctfz(P:Program)(f:Nat):(cT P).fz f=true:=rfl
section
variable {α β:Type}
theorem ydeg(a:α)(l:List α):(a :: l)[0]? = some a:=rfl
theorem ydej(a:α)(l:List α)(n:Nat):(a :: l)[n + 1]? = l[n]?:=rfl
theorem ydei(n:Nat):([]:List α)[n]? = none:=rfl
theorem ydel(a:α)(l:List α):(a :: l).length=l.length + 1:=rfl
theorem yden:([]:List α).length=0:=rfl
theorem yded(l:List α):[]++l=l:=rfl
theorem ydec(a:α)(l l':List α):(a :: l)++l' = a :: (l++l'):=rfl
theorem ydee(l:List α):l++[] = l:=jh l
theorem ydeq(f:α->β)(a:α)(l:List α):(a :: l).map f=f a :: l.map f:=rfl
theorem yder(f:α->β):([]:List α).map f = []:=rfl
theorem ycij(l:List α):l.drop 0=l:=rfl
theorem ycii(a:α)(l:List α)(n:Nat):(a :: l).drop (n + 1) = l.drop n:=rfl
theorem ycih(n:Nat):([]:List α).drop n = []:=List.drop_nil
theorem ycip(l:List α):l.take 0 = []:=rfl
theorem ycio(a:α)(l:List α)(n:Nat):(a :: l).take (n + 1) = a :: l.take n:=rfl
theorem ycin(n:Nat):([]:List α).take n = []:=List.take_nil
theorem ydem(f:α->β)(l:List α):(l.map f).length=l.length:=wj f
theorem ydek(l l':List α):(l++l').length=l.length + l'.length:=wk
theorem ydep(f:α->β)(l l':List α):(l++l').map f=l.map f++l'.map f:=ke
theorem ydeh(a b:α):(some a).getD b=a:=rfl
theorem ycil(b:α):(none:Option α).getD b=b:=rfl
theorem ydeu(f:α->β)(a:α):(some a).map f=some (f a):=rfl
theorem ycim(f:α->β):(none:Option α).map f=none:=rfl
theorem ydjy(a:α)(b:Option α):(some a).or b=some a:=rfl
theorem ydjz(b:Option α):(none:Option α).or b=b:=rfl
theorem ydef(f:α->List β)(a:α)(l:List α):(a :: l).flatMap f=f a++l.flatMap f:=List.flatMap_cons
theorem ycik(f:α->List β):([]:List α).flatMap f = []:=rfl
end
theorem ybxw:List.range 0 = []:=rfl
theorem ybxx(n:Nat):List.range (n + 1) = List.range n++[n]:=List.range_succ
theorem ydjx(a b:Nat)(l:List Nat):(a∈b :: l) = (a=b\/a∈l):=by simp
theorem ydet(a:Nat):(a∈([]:List Nat)) = False:=by simp
theorem ydhu(a b:Bool):((a && b) = true) = (a=true/\b=true):=by simp
theorem b_or(a b:Bool):((a || b) = true) = (a=true\/b=true):=by simp
theorem ydhv(a b:Nat):(Nat.beq a b=true) = (a=b):=by simp
theorem b_ff:(false=true) = False:=by simp
theorem b_tt:(true=true) = True:=by simp
theorem ydhw(a b:Nat):(Nat.blt a b=true) = (a < b):=by simp
theorem ycnj{α:Type}(b:Bool)(x y:α):(bif b then x else y) = if b=true then x else y:=by cases b <;> rfl
theorem p_ta(p:Prop):(True/\p) = p:=by simp
theorem p_at(p:Prop):(p/\True) = p:=by simp
theorem p_fa(p:Prop):(False/\p) = False:=by simp
theorem p_af(p:Prop):(p/\False) = False:=by simp
theorem p_to(p:Prop):(True\/p) = True:=by simp
theorem p_ot(p:Prop):(p\/True) = True:=by simp
theorem p_fo(p:Prop):(False\/p) = p:=by simp
theorem p_of(p:Prop):(p\/False) = p:=by simp
theorem p_nt:(¬ True) = False:=by simp
theorem p_nf:(¬ False) = True:=by simp
theorem b_nt:(!true) = false:=rfl
theorem b_nf:(!false) = true:=rfl
theorem b_bb(b:Bool):(b == true) = b:=by cases b <;> rfl
theorem b_bc(b:Bool):(b == false) = !b:=by cases b <;> rfl
theorem b_ot(b:Bool):(b || true) = true:=by cases b <;> rfl
theorem b_of(b:Bool):(b || false) = b:=by cases b <;> rfl
theorem b_to(b:Bool):(true || b) = true:=rfl
theorem b_fo(b:Bool):(false || b) = b:=rfl
theorem b_ta(b:Bool):(true && b) = b:=rfl
theorem b_fa(b:Bool):(false && b) = false:=rfl
theorem b_at(b:Bool):(b && true) = b:=by cases b <;> rfl
theorem b_af(b:Bool):(b && false) = false:=by cases b <;> rfl
theorem z_le(n:Nat):(0<=n) = True:=by simp
theorem ydfb(n:Nat):n + 0=n:=rfl
theorem ydfa(n:Nat):0 + n=n:=Nat.zero_add n
theorem ydfc(n:Nat):n - 0=n:=rfl
def EVa:=qb @yatr (qb @ybx (qb @ybbe (qb @yvl (qb @yban (qb @yagq (qb @yamw (qb @yyv (qb @yqb (qb @yqa (qb @yaol (qb @ypu (qb @yamq (qb @yamp (qb @yamo (qb @yfm (qb @yeo (qb @yvy (qb @yto (qb @yaim (qb @yain (qb @yaer (qb @yail (qb @yaem (qb @yasf (qb @yaci (qb @yach (qb @yaug (qb @yabs (qb @yabr (qb @ev_t (qb @ev_c (qb @yaoc (qb @yaob (qb @yaxn (@yaxu)))))))))))))))))))))))))))))))))))
def EVb:=qb @yale (qb @yald (qb @yalf (qb @yavq (qb @yarp (qb @ybad (qb @ybac (qb @yaxz (qb @yaoj (qb @yaxj (qb @yaxv (qb @yaxq (((qb @yaxk (qb @yaxr (qb @yaxp (qb @yaxo (qb @yaxm (qb @yaxl (qb @yayj (qb @yaym (qb @yaud (qb @yaue (qb @yake (qb @ybla (qb @yayk (qb @yayl (qb @yazz (qb @ybqe (qb @yazy (qb @yatm (qb @yatn (qb @yato (qb @yayi (qb @yasa (qb @yayg (qb @yary (qb @yayh (qb @yarz (qb @yarw (qb @yarx (qb @yare (qb @yani (qb @yanw (qb @yaip (qb @yaiq (qb @yanm (qb @yann (qb @yaia (qb @yanq (qb @yano (qb @yanp (qb @ybjh (qb @ybaq (qb @ybta (qb @yagx (@yagx)))))))))))))))))))))))))))))))))))))))))))))))))))))))))
def EVc:=qb @ycis (qb @ycpg (qb @ycir (qb @ydfy (qb @ycev (qb @yddw (qb @ydki (qb @ybvo (qb @ybzu (qb @ybux (qb @ybvc (qb @ybvb (qb @ybva (qb @ybuz (qb @ybuy (qb @ycni (qb @ybww (qb @ybwx (qb @yciv (qb @ybqr (qb @ycfl (qb @ybwo (qb @ybwp (qb @ybqk (qb @ycad (qb @ybkb (qb @ybxm (qb @ycjt (qb @ybby (qb @ybqn (qb @ybsl (qb @ycbc (qb @ybib (qb @ybwn (qb @ycfk (qb @ycfn (qb @ycfj (qb @ycfo (qb @ybwr (qb @yblf (qb @ybqj (qb @ybya (qb @ybyd (qb @ybyb (qb @ybxz (qb @ybye (qb @ybqm (qb @ybhf (qb @ycab (qb @ycjy (qb @yckd (qb @ycjz (qb @ydfz (qb @ycjw (qb @ycjv (qb @ycke (qb @ydfx (qb @ycjx (qb @ybsd (qb @ycka (qb @yckb (qb @ycac (qb @ycae (qb @ybse (qb @ybzy (qb @ybsc (qb @ycaa (qb @ybzz (qb @ybie (qb @ybid (qb @ydkz (qb @ydky (qb @ycbs (qb @ybtn (qb @ybrt (qb @ybhx (qb @ybhw (qb @yawq (qb @yawp (qb @yawo (qb @ybrv (qb @ybhz (qb @ybrw (qb @ybzt (qb @ybrp (qb @ybrz (qb @ybrs (qb @ybhy (qb @ybry (qb @ybic (qb @ybzv (qb @ybrq (qb @ybru (qb @ybrr (qb @ybia (qb @ybwv (qb @ycnn (qb @ybuu (qb @ybut (qb @ybri (qb @ycmb (qb @ycma (qb @ycfg (qb @ybwi (qb @ybkz (qb @ybwc (qb @ybxv (qb @ybqd (qb @ycif (qb @ybxs (qb @ybwe (qb @ybjy (qb @ybjx (qb @ybjw (qb @ybka (qb @ybjz (qb @ycoz (qb @ybul (qb @ybum (qb @ybwa (qb @ycet (qb @yceu (qb @ybvk (qb @ycon (qb @ybvl (qb @ydhe (qb @ydhf (qb @ydhg (qb @ybsk (qb @ycki (qb @retR (qb @retN (qb @yckg (qb @yckh (qb @ycai (qb @ybsh (qb @ybsg (qb @ycjm (qb @ycjn (qb @ycjl (qb @ycpb (qb @ycff (qb @ybki (qb @ydic (qb @ydia (qb @ybvh (qb @ydgr (@yatp)))))))))))))))))))))))))))))))))))))))))))))))))))))))))))))))))))))))))))))))))))))))))))))))))))))))))))))))))))))))))))))))))))))))))))))))))))
def EVd:=qb @ybuh (qb @ybjl (qb @ybso (qb @ycaq (qb @ycar (qb @yckq (qb @ycnq (qb @ycem (qb @ycnu (qb @ycnr (qb @ycns (qb @ycnt (qb @ycen (qb @yceo (qb @ydhx (qb @ycnp (qb @ycep (qb @ybvd (qb @ybkd (qb @ybvn (qb @ydfn (qb @ycjq (qb @ydfo (qb @ydfm (qb @ydfp (qb @ycjr (qb @ybyw (qb @yddq (qb @ycho (qb @yddr (qb @yddp (qb @ydds (qb @ychp (qb @ybxh (qb @ydif (qb @ydid (qb @ydij (qb @ydig (qb @yciu (qb @ybkr (qb @ybcm (qb @ybjq (@ctfz))))))))))))))))))))))))))))))))))))))))))
def EVl:=qb @ydeg (qb @ydej (qb @ydei (qb @ydel (qb @yden (qb @yded (qb @ydec (qb @ydee (qb @ydeq (qb @yder (qb @ycij (qb @ycii (qb @ycih (qb @ycip (qb @ycio (qb @ycin (qb @ydem (qb @ydek (qb @ydep (qb @ydeh (qb @ycil (qb @ydeu (qb @ycim (qb @ydjy (qb @ydjz (qb @ydef (qb @ycik (qb @ybxw (qb @ybxx (qb @ydjx (qb @ydet (qb @ydhu (qb @b_or (qb @ydhv (qb @b_ff (qb @b_tt (qb @ydhw (@ycnj)))))))))))))))))))))))))))))))))))))
def EVp:=qb @p_ta (qb @p_at (qb @p_fa (qb @p_af (qb @p_to (qb @p_ot (qb @p_fo (qb @p_of (qb @p_nt (qb @p_nf (qb @b_nt (qb @b_nf (qb @b_bb (qb @b_bc (qb @b_ot (qb @b_of (qb @b_to (qb @b_fo (qb @b_ta (qb @b_fa (qb @b_at (qb @b_af (qb @z_le (qb @ydfb (qb @ydfa (@ydfc)))))))))))))))))))))))))
theorem b_tb(b:Bool):(true == b) = b:=by cases b <;> rfl
theorem b_fb(b:Bool):(false == b) = !b:=by cases b <;> rfl
theorem ydgp:shB .shr=true:=rfl
theorem ydjt(size id off:Nat)(k:IntKind)(i:Int):ysh size 2 (.ptr id off) (.int k i) = if decide (i=0) = true then some (.ptr id off) else if decide (i=1) = true then some (.ptr id (off + size)) else none:=by
  rw [yamh]
  by_cases h0:i=0
  .subst h0; simp
  .by_cases h1:i=1
   .subst h1; simp
   .have:¬ (0<=i/\i < ((2:Nat):Int)):=by omega
    rw [qc this]; simp [h0,h1]
theorem ydju(size id off:Nat)(k:IntKind)(i:Int):ysh size 3 (.ptr id off) (.int k i) = if decide (i=0) = true then some (.ptr id off) else if decide (i=1) = true then some (.ptr id (off + size)) else if decide (i=2) = true then some (.ptr id (off + 2 * size)) else none:=by
  rw [yamh]
  by_cases h0:i=0
  .subst h0; simp
  .by_cases h1:i=1
   .subst h1; simp
   .by_cases h2:i=2
    .subst h2; simp
    .have:¬ (0<=i/\i < ((3:Nat):Int)):=by omega
     rw [qc this]; simp [h0,h1,h2]
theorem ydjv(size:Nat)(a:Bool)(cs:List AV)(k:IntKind)(i:Int):yadl a size 2 (.agg cs) (.int k i) = if decide (i=0) = true then part a size cs 0 else if decide (i=1) = true then part a size cs size else none:=by
  rw [yami]
  by_cases h0:i=0
  .subst h0; simp
  .by_cases h1:i=1
   .subst h1; simp
   .have:¬ (0<=i/\i < ((2:Nat):Int)):=by omega
    rw [qc this]; simp [h0,h1]
theorem ydjw(size:Nat)(a:Bool)(cs:List AV)(k:IntKind)(i:Int):yadl a size 3 (.agg cs) (.int k i) = if decide (i=0) = true then part a size cs 0 else if decide (i=1) = true then part a size cs size else if decide (i=2) = true then part a size cs (2 * size) else none:=by
  rw [yami]
  by_cases h0:i=0
  .subst h0; simp
  .by_cases h1:i=1
   .subst h1; simp
   .by_cases h2:i=2
    .subst h2; simp
    .have:¬ (0<=i/\i < ((3:Nat):Int)):=by omega
     rw [qc this]; simp [h0,h1,h2]
theorem yddt(size:Nat)(row:List AV)(f:Nat)(k:IntKind)(i:Int):ysh size 2 (.iptr row f) (.int k i) = if decide (i=0) = true then some (.iptr row f) else if decide (i=1) = true then some (.iptr row (f + size)) else none:=by
  simp only [ysh]
  by_cases h0:i=0
  .subst h0; simp
  .by_cases h1:i=1
   .subst h1; simp
   .have:¬ (0<=i/\i < ((2:Nat):Int)):=by omega
    rw [qc this]; simp [h0,h1]
theorem yddu(size:Nat)(row:List AV)(f:Nat)(k:IntKind)(i:Int):ysh size 3 (.iptr row f) (.int k i) = if decide (i=0) = true then some (.iptr row f) else if decide (i=1) = true then some (.iptr row (f + size)) else if decide (i=2) = true then some (.iptr row (f + 2 * size)) else none:=by
  simp only [ysh]
  by_cases h0:i=0
  .subst h0; simp
  .by_cases h1:i=1
   .subst h1; simp
   .by_cases h2:i=2
    .subst h2; simp
    .have:¬ (0<=i/\i < ((3:Nat):Int)):=by omega
     rw [qc this]; simp [h0,h1,h2]
theorem ydgq{α:Type}(c:α->List AV)(l l':List α):sl c (l++l') = ycr (l.map c++l'.map c):=by simp [sl,ke]
theorem ycks{α:Type}(c:α->List AV)(x:α)(l:List α):sl c (x :: l) = ycr (c x :: l.map c):=rfl
theorem ybvi:ycr [] = yks:=rfl
theorem ycnv(H:yr)(rows:List (List AV)):frz H (ycr rows) = ycr rows:=rfl
theorem ycer(H:yr)(rows:List (List AV)):ybv H (ycr rows) = H:=rfl
theorem ycnz(f:Nat->Option Nat)(rows:List (List AV)):ren f (ycr rows) = ycr rows:=rfl
theorem yceq(rows:List (List AV)):yfb (ycr rows) = true:=rfl
theorem ycnw(rows:List (List AV)):ygf (ycr rows) = true:=rfl
theorem ydhz(rows:List (List AV)):ycg (ycr rows) = false:=rfl
theorem ybve(rows:List (List AV)):cellsOf (ycr rows) = some [ycr rows]:=rfl
theorem ycnx(rows:List (List AV)):ymz (ycr rows) = some (.int .i64 rows.length):=rfl
theorem ybvf(H:yr)(k:Nat)(rows:List (List AV))(todo:List AV)(acc:List Nat):yba H (k + 1) (ycr rows :: todo) acc=yba H k todo acc:=by simp [ycr,yba]
theorem yaxw(n:Nat)(H:yr)(r:List AV)(rs:List (List AV)):yei n H (ycr (r :: rs)) = if r.length=n then some (r :: rs) else none:=by
  simp only [ycr,yei,yoo,yip,List.isEmpty_cons,Bool.false_or]
  by_cases h:r.length=n
  .subst h; simp
  .have:Nat.beq n r.length=false:=by
     cases hb:Nat.beq n r.length with
     | false=>rfl
     | true=>exact absurd (qy hb).symm h
   simp [h,this]
theorem ycoa(n:Nat)(H:yr)(r:List AV)(rs:List (List AV)):ydc n H (ycr (r :: rs)) = if r.length=n then some (r :: rs) else none:=yaxw n H r rs
theorem ycny{α:Type}(c:α->List AV)(l:List α):ycr (l.map c) = sl c l:=rfl
theorem b_dt(h:Decidable True) : @decide True h=true:=by simp
theorem b_df(h:Decidable False) : @decide False h=false:=by simp
theorem ycly(l:List (Nat × List AV × yr × Nat × (AV × yr × Nat)))(f g m m':Nat)(args args':List AV)(H H':yr)(x:AV × yr × Nat)(h:¬ g=f):tab ((f,args,H,m,x) :: l) g args' H' m' = tab l g args' H' m':=ydha l f g m m' args args' H H' x (by cases hb:Nat.beq g f with | false=>rfl | true=>exact absurd (qy hb) h)
theorem ydeo{α:Type}(n:Nat)(a:α):(List.replicate n a).length=n:=jy
theorem ydes{α β:Type}(f:α->β)(n:Nat)(a:α):List.map f (List.replicate n a) = List.replicate n (f a):=List.map_replicate
def EVx:=qb @ydll <| qb @ycbj <| qb @ybsz <| qb @ycas <| qb @ycfc <| qb @ycex <| qb @ybvq <| qb @ybwb <| qb @ydka <| qb @yciq <| qb @ybxy <| qb @ybwd <| qb @yciz <| qb @ycjb <| qb @ycja <| qb @ycjc <| qb @ybyl <| qb @ydew <| qb @ydeo <| qb @ydes <| qb @ybjt <| qb @ycfd <| qb @ycje <| qb @ycjf <| qb @ybym <| qb @ybss <| qb @yckw <| qb @ybyg <| qb @ycfm <| qb @ybyc <| qb @yckc <| qb @ybvm <| qb @ychu <| qb @ydft <| qb @ybke <| @ybrx
theorem ydht(P:Program):(cT P).ax=0:=rfl
theorem ydhr(P:Program):(cF P).ax=0:=rfl
theorem ydhs(P:Program)(l:List Nat):(cM P l).ax=0:=rfl
theorem ycoq(es:Nat)(s:St)(x:AV):yxz 0 es s x=yme es s x:=rfl
def EVw:=qb EVx <| qb @ydht <| qb @ydhr <| qb @ydhs <| qb @ycoq <| qb @ycor <| qb @ybkf <| qb @ycei <| qb @ycnl <| qb @ycel <| qb @ydgq <| qb @ydjt <| qb @ydju <| qb @ydjv <| qb @ydjw <| qb @yddt <| qb @yddu <| qb @ybst <| qb @yaee <| qb @ycek <| qb @ycej <| qb @ybup <| qb @ybsq <| qb @ydgp <| qb @ycny <| qb @b_dt <| qb @b_df <| qb @yanb <| qb @ydgz <| qb @ycks <| qb @ybvi <| qb @ycnv <| qb @ycer <| qb @ycnz <| qb @yceq <| qb @ycnw <| qb @ydhz <| qb @ybve <| qb @ycnx <| qb @ybvf <| qb @yaxw <| qb @ycoa <| qb @ycbl <| qb @ycly <| qb @b_tb (qb @b_fb (qb @ydfe (qb @ybqx (qb @ycnf (qb @ybud (qb @ybuc (qb @ybue (qb @ycnd (qb @ycne (qb @ycbd (qb @ybsm (qb @ybrf (qb @ycbb (qb @yclx (qb @ybwq (qb @ybld (qb @ybcu (qb @ybql (qb @ybhb (qb @yawk (qb @ybhc (qb @ybhe (qb @ydkb (qb @ydkc (qb @ycno (qb @ybju (qb @yblb (qb @ybcq (qb @yawi (qb @ybqi (qb @ybha (qb @ydla (qb @ydlb (qb @ydlg (qb @ydlh (qb @ydgl (qb @ycoc (qb @ycod (qb @ycoe (qb @ycof (qb @ycog (qb @ycoh (qb @ycoi (qb @ycoj (qb @ycok (qb @ydez (qb @ydex (qb @ydfd (qb @ycjg (qb @ycjh (qb @ydkf (qb @ycoy (qb @ycow (qb @ycox (qb @ybji (qb @ybvw (qb @ybku (qb @ybvx (qb @ybkv (qb @ybvy (qb @i_eq (qb @n_eq (qb @n_le (qb @k_eq (qb @ydjs (qb @ybqa (qb @ychs (qb @ybxj (qb @ybsr (qb @yckt (qb @ycku (qb @yckv (qb @ybqc (qb @ydeb (qb @ybsu (qb @ydli (qb @ydlj (qb @ydlk (qb @ycom (qb @ybuw (qb @ydfv (qb @ybuq (@ybur)))))))))))))))))))))))))))))))))))))))))))))))))))))))))))))))))))))))))))))))))))
def EV:=qb EVw <| qb EVp <| qb EVl (qb EVa (qb EVb (qb EVc EVd)))
theorem ydit(c:Cfg)(s:St)(x:Opd):ybz c s (.mv x) = some ycf:=rfl
theorem ycfs(c:Cfg)(s:St)(x y z:Opd):ybz c s (.pick x y z) = some ycf:=rfl
theorem ycpj(c:Cfg)(s:St)(o:BinOp)(x y:Opd):ybz c s (.bin o x y) = some ycf:=rfl
theorem ycpr(c:Cfg)(s:St)(g:Bool)(x y:Opd):ybz c s (.eqb g x y) = some ycf:=rfl
theorem ycpt(c:Cfg)(s:St)(g:Bool)(x:Opd):ybz c s (.eqn g x) = some ycf:=rfl
theorem ycps(c:Cfg)(s:St)(g:Bool)(l:List (Nat × Nat))(x y:Opd):ybz c s (.eqc g l x y) = some ycf:=rfl
theorem ycqc(c:Cfg)(s:St)(x:Opd):ybz c s (.ngt x) = some ycf:=rfl
theorem ydiw(c:Cfg)(s:St)(x:Opd):ybz c s (.nt x) = some ycf:=rfl
theorem ycpq(c:Cfg)(s:St)(q:IntKind)(x:Opd):ybz c s (.cvt q x) = some ycf:=rfl
theorem ycpp(c:Cfg)(s:St)(x:Opd):ybz c s (.cst x) = some ycf:=rfl
theorem ybwt(c:Cfg)(s:St)(z:List AV)(ps:List (Nat × Nat × Opd)):ybz c s (.build z ps) = some ycf:=rfl
theorem ycpv(c:Cfg)(s:St)(a:Bool)(z o:Nat)(x:Opd):ybz c s (.fld a z o x) = some ycf:=rfl
theorem ycpu(c:Cfg)(s:St)(j:Nat)(x:Opd):ybz c s (.ext j x) = some ycf:=rfl
theorem ydiq(c:Cfg)(s:St)(o:Nat)(x:Opd):ybz c s (.fa o x) = some ycf:=rfl
theorem ycpx(c:Cfg)(s:St)(z:Nat)(x y:Opd):ybz c s (.ias z x y) = some ycf:=rfl
theorem ycpw(c:Cfg)(s:St)(z l:Nat)(x y:Opd):ybz c s (.iaa z l x y) = some ycf:=rfl
theorem ycpz(c:Cfg)(s:St)(x y:Opd):ybz c s (.ixs x y) = some ycf:=rfl
theorem ycpy(c:Cfg)(s:St)(a:Bool)(z l:Nat)(x y:Opd):ybz c s (.ixa a z l x y) = some ycf:=rfl
theorem ycqf(c:Cfg)(s:St)(x:Opd)(lo hi:Option Opd):ybz c s (.sls x lo hi) = some ycf:=rfl
theorem ycqe(c:Cfg)(s:St)(z:Nat)(x:Opd)(lo hi mx:Option Opd):ybz c s (.sll z x lo hi mx) = some ycf:=rfl
theorem ycqa(c:Cfg)(s:St)(f:Nat)(a b:List Opd):ybz c s (.mkf f a b) = some ycf:=rfl
theorem ydiv(c:Cfg)(s:St)(x:Opd):ybz c s (.nc x) = some ycf:=rfl
theorem ycfr(c:Cfg)(s:St)(x:Opd):ybz c s (.lens x) = some ycf:=rfl
theorem ycfq(c:Cfg)(s:St)(x:Opd):ybz c s (.lenl x) = some ycf:=rfl
theorem ydiu(c:Cfg)(s:St)(x y:Opd):ybz c s (.mx x y) = some ycf:=rfl
theorem ydis(c:Cfg)(s:St)(x y:Opd):ybz c s (.mn x y) = some ycf:=rfl
theorem ybws(c:Cfg)(s:St)(z:List AV):ybz c s (.alloc z) = some ycf:=rfl
theorem ycpk(c:Cfg)(s:St)(x:Opd):ybz c s (.box x) = some ycf:=rfl
theorem ycqb(c:Cfg)(s:St)(es:Nat)(z:List AV)(l m:Opd):ybz c s (.mks es z l m) = some ycf:=rfl
theorem ycqd(c:Cfg)(s:St)(x:Opd):ybz c s (.s2b x) = some ycf:=rfl
theorem ydir(c:Cfg)(s:St)(a:Bool)(z:Nat)(p:Opd):ybz c s (.ld a z p) = some ⟨idL (s.ev p),[],[]⟩:=rfl
theorem ydix(c:Cfg)(s:St)(z:Nat)(p x:Opd):ybz c s (.st z p x) = some ⟨[],[],idL (s.ev p)++ybk (s.ev x)⟩:=rfl
theorem ycpl(c:Cfg)(s:St)(es:Nat)(z:List AV)(n:Nat)(ps:List (Nat × Opd)):ybz c s (.bsl es z n ps) = some ⟨[],yfs (ygr (s.evp ps)),[]⟩:=rfl
theorem ycph(c:Cfg)(s:St)(z:Nat)(x y:Opd):ybz c s (.app z x y) = some ⟨ybk (s.ev y),[],ybk (s.ev x)⟩:=rfl
theorem ycpo(c:Cfg)(s:St)(z:Nat)(x y:Opd):ybz c s (.cpy z x y) = some ⟨ybk (s.ev y),[],ybk (s.ev x)⟩:=rfl
theorem ycpm(c:Cfg)(s:St)(z:Nat)(x:Opd):ybz c s (.cln z x) = some ⟨ybk (s.ev x),[],[]⟩:=rfl
theorem ycpi(c:Cfg)(s:St)(x:Opd):ybz c s (.b2s x) = some ⟨ybk (s.ev x),[],[]⟩:=rfl
def fcL:Option (List Nat)->Option yds
  | some l=>some ⟨[],[],l⟩
  | none=>none
theorem ybwj(l:List Nat):fcL (some l) = some ⟨[],[],l⟩:=rfl
theorem ybwl(c:Cfg)(s:St)(f:Nat)(L:List AV):yln c s f L=if c.fz f=true then some ⟨[],yfs L,[]⟩ else fcL (ybg s.H yfk L []):=by
  unfold yln fcL
  split
  .rfl
  .cases ybg s.H yfk L [] <;> rfl
theorem ycfp(c:Cfg)(s:St)(f:Nat)(as:List Opd):ybz c s (.call f as) = yln c s f (s.evs as):=rfl
def fcV(c:Cfg)(s:St)(as:List AV):AV->Option yds
  | .fn (.func f) pre post=>yln c s f (pre++(as++post))
  | _=>none
theorem ybwu(c:Cfg)(s:St)(g:Opd)(as:List Opd):ybz c s (.callv g as) = fcV c s (s.evs as) (s.ev g):=by
  simp only [ybz,fcV]
  cases s.ev g <;> first | rfl | (rename_i f _ _; cases f <;> rfl)
theorem ycpe(c:Cfg)(s:St)(as pre post:List AV)(f:Nat):fcV c s as (.fn (.func f) pre post) = yln c s f (pre++(as++post)):=rfl
theorem ybra:ycf = ⟨[],[],[]⟩:=rfl
theorem ycht(id o:Nat):idL (.ptr id o) = [id]:=rfl
theorem ybxk(id i f:Nat):idL (.eptr id i f) = [id]:=rfl
theorem ybxl(r:List AV)(f:Nat):idL (.iptr r f) = []:=rfl
theorem ycib(es id off len:Nat)(ex:Bool):ybk (.own es id off len ex) = [id]:=rfl
theorem ychv(cs:List AV):ybk (.agg cs) = yfs cs:=by simp only [ybk]
theorem ycie(cs:List AV):ybk (.tup cs) = yfs cs:=by simp only [ybk]
theorem ychy(k:IntKind)(n:Int):ybk (.int k n) = []:=rfl
theorem ybxn(b:Bool):ybk (.bool b) = []:=rfl
theorem ycid(b:ByteArray):ybk (.str b) = []:=rfl
theorem ychz:ybk .nil = []:=rfl
theorem ybxq:ybk yks = []:=rfl
theorem yddx(rows:List (List AV)):ybk (ycr rows) = []:=rfl
theorem yddz{α:Type}(f:α->List AV)(l:List α):ybk (sl f l) = []:=rfl
theorem ychx(es:Nat)(rows:List (List AV))(ex:Bool):ybk (.imm es rows ex) = []:=rfl
theorem ycic(id o:Nat):ybk (.ptr id o) = []:=rfl
theorem ybxo(id i f:Nat):ybk (.eptr id i f) = []:=rfl
theorem ybxp(r:List AV)(f:Nat):ybk (.iptr r f) = []:=rfl
theorem yddy(g:Fn)(a b:List AV):ybk (.fn g a b) = []:=rfl
theorem ycia(v:Value):ybk (.oth v) = []:=rfl
theorem ydea:ybk .un = []:=rfl
theorem ychw:ybk .bad = []:=rfl
theorem ybxr:yfs [] = []:=rfl
theorem ybqb(v:AV)(r:List AV):yfs (v :: r) = ybk v++yfs r:=by simp only [yfs]
theorem ydhd:ygr [] = []:=rfl
theorem ycmg(i:Nat)(v:AV)(r:List (Nat × AV)):ygr ((i,v) :: r) = v :: ygr r:=rfl
theorem ydey(x:Nat):yro x [] = false:=rfl
theorem ycjd(x y:Nat)(r:List Nat):yro x (y :: r) = (Nat.beq y x || yro x r):=rfl
theorem ycot(b:List Nat):djB [] b=true:=rfl
theorem ycez(x:Nat)(r b:List Nat):djB (x :: r) b=(!(yro x b) && djB r b):=rfl
theorem ydfi(q:Nat):yuz q [] = true:=rfl
theorem ycjj(q x:Nat)(r:List Nat):yuz q (x :: r) = ((decide (x < q) || decide (q + 64<=x)) && yuz q r):=by
  have h1:Nat.blt x q=decide (x < q):=by rw [Bool.eq_iff_iff,Nat.blt_eq]; simp
  have h2:Nat.ble (q + 64) x=decide (q + 64<=x):=by rw [Bool.eq_iff_iff,Nat.ble_eq]; simp
  simp only [yuz,h1,h2]
theorem ydfq(base:Nat)(fs:List yds):yqt base fs [] = true:=rfl
theorem ycjs(base:Nat)(fs:List yds)(i j:Nat)(r:List (Nat × Nat)):yqt base fs ((i,j) :: r) = (yadq base i j fs[i]? fs[j]? && yqt base fs r):=rfl
theorem ycju(base i j:Nat)(a b d x y z:List Nat):yadq base i j (some ⟨a,b,d⟩) (some ⟨x,y,z⟩) = (djB d (x++(y++z)) && (djB z (a++b) && (yuz (base + i * 64) (x++(y++z)) && yuz (base + j * 64) (a++(b++d))))):=rfl
def rmJ(H:yr)(k id:Nat)(todo:List AV)(acc:List Nat):Option Ob->Option (List Nat)
  | some o=>if id∈acc then ybg H k todo acc else ybg H k (yadw o++todo) (acc++[id])
  | none=>if id∈acc then ybg H k todo acc else none
def rmK(H:yr)(k id:Nat)(todo:List AV)(acc:List Nat):Option Ob->Option (List Nat)
  | some (.box cells)=>if id∈acc then ybg H k todo acc else ybg H k (cells++todo) (acc++[id])
  | some _=>if id∈acc then ybg H k todo acc else ybg H k todo (acc++[id])
  | none=>if id∈acc then ybg H k todo acc else none
theorem ycao(H:yr)(k id:Nat)(todo:List AV)(acc:List Nat)(es:Nat)(rows:List (List AV))(leak:Nat):rmJ H k id todo acc (some (.arr es rows leak)) = if id∈acc then ybg H k todo acc else ybg H k todo (acc++[id]):=rfl
theorem yckk(H:yr)(k id:Nat)(todo:List AV)(acc:List Nat)(cells:List AV):rmK H k id todo acc (some (.box cells)) = if id∈acc then ybg H k todo acc else ybg H k (cells++todo) (acc++[id]):=rfl
theorem yckj(H:yr)(k id:Nat)(todo:List AV)(acc:List Nat)(es:Nat)(rows:List (List AV))(leak:Nat):rmK H k id todo acc (some (.arr es rows leak)) = if id∈acc then ybg H k todo acc else ybg H k todo (acc++[id]):=rfl
theorem ydgf(H:yr)(k:Nat)(acc:List Nat):ybg H (k + 1) [] acc=some acc:=rfl
theorem ydgh(H:yr)(k es id off len:Nat)(ex:Bool)(todo:List AV)(acc:List Nat):ybg H (k + 1) (.own es id off len ex :: todo) acc=rmJ H k id todo acc (lk H id):=by
  simp only [ybg,rmJ]
  cases lk H id <;> rfl
theorem yckm(H:yr)(k id i f:Nat)(todo:List AV)(acc:List Nat):ybg H (k + 1) (.eptr id i f :: todo) acc=rmJ H k id todo acc (lk H id):=by
  simp only [ybg,rmJ]
  cases lk H id <;> rfl
theorem ydgi(H:yr)(k id off:Nat)(todo:List AV)(acc:List Nat):ybg H (k + 1) (.ptr id off :: todo) acc=rmK H k id todo acc (lk H id):=by
  simp only [ybg,rmK]
  cases lk H id with
  | none=>rfl
  | some o=>cases o <;> rfl
theorem ydld(H:yr)(k:Nat)(g:Fn)(pre post todo:List AV)(acc:List Nat):ybg H (k + 1) (.fn g pre post :: todo) acc=ybg H k (pre++(post++todo)) acc:=rfl
theorem ydgb(H:yr)(k:Nat)(cs todo:List AV)(acc:List Nat):ybg H (k + 1) (.agg cs :: todo) acc=ybg H k (cs++todo) acc:=rfl
theorem ydgk(H:yr)(k:Nat)(cs todo:List AV)(acc:List Nat):ybg H (k + 1) (.tup cs :: todo) acc=ybg H k (cs++todo) acc:=rfl
theorem ydge(H:yr)(k:Nat)(q:IntKind)(n:Int)(todo:List AV)(acc:List Nat):ybg H (k + 1) (.int q n :: todo) acc=ybg H k todo acc:=rfl
theorem yckl(H:yr)(k:Nat)(b:Bool)(todo:List AV)(acc:List Nat):ybg H (k + 1) (.bool b :: todo) acc=ybg H k todo acc:=rfl
theorem ydgj(H:yr)(k:Nat)(b:ByteArray)(todo:List AV)(acc:List Nat):ybg H (k + 1) (.str b :: todo) acc=ybg H k todo acc:=rfl
theorem yckp(H:yr)(k:Nat)(todo:List AV)(acc:List Nat):ybg H (k + 1) (.nil :: todo) acc=ybg H k todo acc:=rfl
theorem ycko(H:yr)(k:Nat)(todo:List AV)(acc:List Nat):ybg H (k + 1) (yks :: todo) acc=ybg H k todo acc:=rfl
theorem ydle{α:Type}(f:α->List AV)(l:List α)(H:yr)(k:Nat)(todo:List AV)(acc:List Nat):ybg H (k + 1) (sl f l :: todo) acc=ybg H k todo acc:=rfl
theorem ydlc(rows:List (List AV))(H:yr)(k:Nat)(todo:List AV)(acc:List Nat):ybg H (k + 1) (ycr rows :: todo) acc=ybg H k todo acc:=rfl
theorem ydlf(H:yr)(k:Nat)(todo:List AV)(acc:List Nat):ybg H (k + 1) (.un :: todo) acc=ybg H k todo acc:=rfl
theorem ydgc(H:yr)(k:Nat)(todo:List AV)(acc:List Nat):ybg H (k + 1) (.bad :: todo) acc=ybg H k todo acc:=rfl
theorem ydgg(H:yr)(k:Nat)(v:Value)(todo:List AV)(acc:List Nat):ybg H (k + 1) (.oth v :: todo) acc=ybg H k todo acc:=rfl
theorem ydgd(H:yr)(k es:Nat)(rows:List (List AV))(ex:Bool)(todo:List AV)(acc:List Nat):ybg H (k + 1) (.imm es rows ex :: todo) acc=ybg H k todo acc:=rfl
theorem yckn(H:yr)(k:Nat)(row:List AV)(f:Nat)(todo:List AV)(acc:List Nat):ybg H (k + 1) (.iptr row f :: todo) acc=ybg H k todo acc:=rfl
theorem ydke(a b:Nat)(h:¬ a=b):Nat.beq a b=false:=by
  cases hb:Nat.beq a b with
  | false=>rfl
  | true=>exact absurd (qy hb) h
theorem ydkd(a:Nat):Nat.beq a a=true:=Nat.beq_refl a
theorem ycpn(c:Cfg)(s:St)(n:Nat)(z:List AV)(x:Opd):ybz c s (.clr n z x) = some ⟨[],[],ybk (s.ev x)⟩:=rfl
def EVg:=qb @ycpn <| qb @ydit <| qb @ycfs <| qb @ycpj <| qb @ycpr <| qb @ycpt <| qb @ycps <| qb @ycqc <| qb @ydiw <| qb @ycpq <| qb @ycpp <| qb @ybwt <| qb @ycpv <| qb @ycpu <| qb @ydiq <| qb @ycpx <| qb @ycpw <| qb @ycpz <| qb @ycpy <| qb @ycqf <| qb @ycqe <| qb @ycqa <| qb @ydiv <| qb @ycfr <| qb @ycfq <| qb @ydiu <| qb @ydis <| qb @ybws <| qb @ycpk <| qb @ycqb <| qb @ycqd <| qb @ydir <| qb @ydix <| qb @ycpl <| qb @ycph <| qb @ycpo <| qb @ycpm <| qb @ycpi <| qb @ybwj <| qb @ybwl <| qb @ycfp <| qb @ybwu <| qb @ycpe <| qb @ybra <| qb @ycht <| qb @ybxk <| qb @ybxl <| qb @ycib <| qb @ychv <| qb @ycie <| qb @ychy <| qb @ybxn <| qb @ycid <| qb @ychz <| qb @ybxq <| qb @yddx <| qb @yddz <| qb @ychx <| qb @ycic <| qb @ybxo <| qb @ybxp <| qb @yddy <| qb @ycia <| qb @ydea <| qb @ychw <| qb @ybxr <| qb @ybqb <| qb @ydhd <| qb @ycmg <| qb @ydey <| qb @ycjd <| qb @ycot <| qb @ycez <| qb @ydfi <| qb @ycjj <| qb @ydfq <| qb @ycjs <| qb @ycju <| qb @ycao <| qb @yckk <| qb @yckj <| qb @ydgf <| qb @ydgh <| qb @yckm <| qb @ydgi <| qb @ydld <| qb @ydgb <| qb @ydgk <| qb @ydge <| qb @yckl <| qb @ydgj <| qb @yckp <| qb @ycko <| qb @ydle <| qb @ydlc <| qb @ydlf <| qb @ydgc <| qb @ydgg <| qb @ydgd <| qb @yckn <| qb @ydke <| qb @ydkd <| qb @ycew <| qb @ydii <| qb @ydih <| qb @ydib <| qb @ydhy <| qb @ybkj <| qb @ybyr <| qb @ybyq <| qb @ybwg <| qb @ybky <| qb @ybys <| qb @ycpa <| qb @ybvs <| qb @ybvt <| qb @ydip <| qb @ydio <| qb @ybcr <| @ybcs
end Go.Proofs.Ytgoachcogmlhcaa.R
