/- The evaluator's equations, bundled for simp. -/
import Derived.Test.YtgoachcogmlhcaaGreatREnc
import Derived.Test.YtgoachcogmlhcaaGreatREqs
set_option linter.unusedVariables false
set_option linter.unusedSectionVars false
set_option linter.unusedSimpArgs false
noncomputable section
namespace Go.Proofs.YtgoachcogmlhcaaGreat.R
open Go
def cT(P:Program):Cfg:={ P:=P,fn:=fun _=>none,fz:=fun _=>true }
def cM(P:Program)(lent:List Nat):Cfg:={ P:=P,fn:=fun _=>none,fz:=fun f=>!(yno f lent) }
def cF(P:Program):Cfg:={ P:=P,fn:=fun _=>none,fz:=fun _=>false }
def evR(c:Cfg)(cl:Callee)(nt:Nat)(l:List Iop)(s:St):Option St:=match yis c cl nt l s with | some s'=>some s'.clr | none=>none
def clrK(x:Option St):Option St:=match x with | some s=>some s.clr | none=>none
theorem ycrx(c:Cfg)(cl:Callee)(nt:Nat)(l:List Iop)(s:St):evR c cl nt l s=clrK (yis c cl nt l s):=rfl
theorem ybhh(e l:List (Nat × AV))(H:yq)(n:Nat):clrK (some ⟨e,l,H,n⟩) = some ⟨e,[],H,n⟩:=rfl
section
variable {P:Program} {nt m:Nat} {s s1:St} {Q:Ex→St→Prop} {c:Cfg} {cl:Callee}
theorem Wp.regE{l:List Iop}(hcl:ycx P cl)(h:evR c cl nt l s=some s1)(h2:Q .norm s1):Wp P nt m (.reg none l) s Q:=by
  unfold evR at h
  split at h
  ·rename_i s' he
   obtain rfl:=Option.some.inj h
   exact Wp.reg (yek.end hcl he h2)
  ·cases h
theorem yek.many{l:List Iop}{T:St→Prop}(n:Nat)(hcl:ycx P cl)(h:yis c cl nt (l.take n) s=some s1)(h2:yek P nt m (l.drop n) s1 T):yek P nt m l s T:=by
  have:=yek.chunk (P:=P) (m:=m) hcl h h2
  rwa [List.take_append_drop] at this
theorem yek.last{l:List Iop}(hcl:ycx P cl)(h:evR c cl nt l s=some s1)(h2:Q .norm s1):yek P nt m l s (fun s'=>Q .norm s'.clr):=by
  unfold evR at h
  split at h
  ·rename_i s' he
   obtain rfl:=Option.some.inj h
   exact yek.end hcl he h2
  ·cases h
def evRD(c:Cfg)(cl:Nat→Callee)(nt:Nat)(k:List (Nat × Nat))(l:List Iop)(s:St):Option St:=match yru c cl nt k l s with | some s'=>some s'.clr | none=>none
theorem ycfa(c:Cfg)(cl:Nat→Callee)(nt:Nat)(k:List (Nat × Nat))(l:List Iop)(s:St):evRD c cl nt k l s=clrK (yru c cl nt k l s):=rfl
theorem Wp.regD{l:List Iop}{k:List (Nat × Nat)}(hP:P.follows .mixedOrders=true){c:Cfg}(hcP:c.P=P){cl:Nat→Callee}(hcl:∀ i,ycx P (cl i))(h:evRD c cl nt k l s=some s1)(h2:Q .norm s1):Wp P nt m (.reg (some k) l) s Q:=by
  unfold evRD at h
  split at h
  ·rename_i s' he
   obtain rfl:=Option.some.inj h
   exact Wp.regf hP hcP hcl he h2
  ·cases h
theorem LWp.stepC{b b':IC}(hb:b=b')(h:Wp P nt m b' s (ydl P nt m b Q)):LWp P nt m b s Q:=by subst hb; exact LWp.step h
theorem yb{b:IC}(h:Wp P nt m b s Q):yav P nt m b Q .norm s:=h
theorem yax{b:IC}(h:Q .ret s):yav P nt m b Q .ret s:=h
theorem ydy{b:IC}{j:Nat}(h:Q (.out j) s):yav P nt m b Q (.out j) s:=h
theorem ydk{b:IC}(h:LWp P nt m b s Q):ydl P nt m b Q .norm s:=h
theorem ymi{b:IC}(h:Q .ret s):ydl P nt m b Q .ret s:=h
theorem ydi{b:IC}{j:Nat}(h:Q (.out j) s):ydl P nt m b Q (.out j) s:=h
theorem ybh{id:Nat}(h:Q .norm s):yam id Q .norm s:=h
theorem ybn{id:Nat}(h:Q .ret s):yam id Q .ret s:=h
theorem ycn{id:Nat}(h:Q .norm s):yam id Q (.out id) s:=by simpa [yam] using h
theorem ybgr{id j:Nat}(hne:Nat.beq j id=false)(h:Q (.out j) s):yam id Q (.out j) s:=by
  have:¬ j=id:=Nat.ne_of_beq_eq_false hne
  simpa [yam,this] using h
theorem Wp.weakE{ic:IC}{l:List WA}{s':St}(hw:evW m l s=some s')(h:Wp P nt m ic s' Q):Wp P nt m ic s Q:=Wp.weak (R.weak hw) h
theorem LWp.weakE{ic:IC}{l:List WA}{s':St}(hw:evW m l s=some s')(h:LWp P nt m ic s' Q):LWp P nt m ic s Q:=LWp.weak (R.weak hw) h
end
def fzK(s:St)(args:List AV):Option (AV × yq × Nat)→Option (AV × St)
  | some (r,H1,_)=>ymd s args (frz H1 r)
  | none=>none
theorem ydoh(P:Program)(cl:Callee)(s:St)(f:Nat)(args:List AV):ydv (cT P) cl s f args=fzK s args (cl f (yef s.H args) [] 0):=by
  unfold ydv
  rw [if_pos (show (cT P).fz f=true from rfl)]
  rfl
theorem ybwd(s:St)(args:List AV)(r:AV)(H1:yq)(n:Nat):fzK s args (some (r,H1,n)) = ymd s args (frz H1 r):=rfl
theorem ybwe(s:St)(args:List AV)(r:AV):ymd s args r=if ybw r=true then some (r,s) else if yen r=true then some (r,s.setH (yei s.H args)) else none:=rfl
def locK(s:St)(l:List Nat):Option (AV × yq × Nat)→Option (AV × St)
  | some (r,H1,n1)=>some (ren (yem l l.length n1 s.nx) r,{ s with H:=ycd (yem l l.length n1 s.nx) H1++ydd s.H l,nx:=s.nx + (n1 - l.length) })
  | none=>none
def locC(cl:Callee)(s:St)(f:Nat)(args:List AV)(l:List Nat):Option (AV × St):=locK s l (cl f (yhr (pos l) args) (yff (ycd (pos l) s.H) l.length) l.length)
theorem yclz(cl:Callee)(s:St)(f:Nat)(args:List AV)(l:List Nat):locC cl s f args l=locK s l (cl f (yhr (pos l) args) (yff (ycd (pos l) s.H) l.length) l.length):=rfl
theorem ydof(P:Program)(cl:Callee)(s:St)(f:Nat)(args:List AV):ydv (cF P) cl s f args=locC cl s f args (yaw s.H yea args []):=by
  unfold ydv
  rw [if_neg (show ¬ (cF P).fz f=true by simp [cF])]
  rfl
def cmK(cl:Callee)(s:St)(f:Nat)(args:List AV)(b:Bool):Option (AV × St):=if b=true then locC cl s f args (yaw s.H yea args []) else fzK s args (cl f (yef s.H args) [] 0)
theorem ydon(cl:Callee)(s:St)(f:Nat)(args:List AV):cmK cl s f args true=locC cl s f args (yaw s.H yea args []):=rfl
theorem ydom(cl:Callee)(s:St)(f:Nat)(args:List AV):cmK cl s f args false=fzK s args (cl f (yef s.H args) [] 0):=rfl
theorem ydog(P:Program)(lent:List Nat)(cl:Callee)(s:St)(f:Nat)(args:List AV):ydv (cM P lent) cl s f args=cmK cl s f args (yno f lent):=by
  unfold ydv cmK
  have:(cM P lent).fz f = !(yno f lent):=rfl
  rw [this]
  cases yno f lent <;> rfl
theorem ydod(P:Program)(lent:List Nat)(f:Nat):(cM P lent).fz f = !(yno f lent):=rfl
theorem ybqs(e l0:List (Nat × AV))(H:yq)(nx:Nat)(l:List Nat)(r:AV)(H1:yq)(n1:Nat):locK ⟨e,l0,H,nx⟩ l (some (r,H1,n1)) = some (ren (yem l l.length n1 nx) r,⟨e,l0,ycd (yem l l.length n1 nx) H1++ydd H l,nx + (n1 - l.length)⟩):=rfl
theorem ybur(c:Cfg)(cl:Callee)(s:St)(f:Nat)(pre post args:List AV):ylk c cl s (.fn (.func f) pre post) args=ydv c cl s f (pre++(args++post)):=rfl
def yhq:AV:=yca []
theorem ydni{α:Type}(c:α→List AV):sl c [] = yhq:=rfl
theorem ycfg(H:yq):frz H .nil=yhq:=rfl
theorem ybvv(H:yq)(es:Nat)(ex:Bool):frz H (.imm es [] ex) = yhq:=rfl
theorem ybvw(H:yq):frz H yhq=yhq:=rfl
theorem ybql(H:yq):ybm H yhq=H:=rfl
theorem ycap(f:Nat→Option Nat):ren f yhq=yhq:=rfl
theorem ybha:yds yhq=true:=rfl
theorem ybxz:yen yhq=true:=rfl
theorem ycmt:ybw yhq=false:=rfl
theorem yaye:cellsOf yhq=some [yhq]:=rfl
theorem ybqo:yjb yhq=some (.int .i64 0):=rfl
theorem ybsl(n:Nat)(H:yq):ydt n H yhq=some []:=rfl
theorem ycbp(n:Nat)(H:yq):yci n H yhq=some []:=rfl
theorem ybfi(H:yq)(k:Nat)(todo:List AV)(acc:List Nat):yaw H (k + 1) (yhq :: todo) acc=yaw H k todo acc:=by simp [yhq,yca,yaw]
theorem ybvu(H:yq)(b:Bool):frz H (.bool b) = .bool b:=rfl
theorem ycff(H:yq)(k:IntKind)(n:Int):frz H (.int k n) = .int k n:=rfl
theorem ycfi(H:yq)(s:ByteArray):frz H (.str s) = .str s:=rfl
theorem ycfe(H:yq)(cs:List AV):frz H (.agg cs) = .agg (yef H cs):=rfl
theorem ycfj(H:yq)(cs:List AV):frz H (.tup cs) = .tup (yef H cs):=rfl
theorem ybvy(H:yq):yef H [] = []:=rfl
theorem ybib(H:yq)(v:AV)(r:List AV):yef H (v :: r) = frz H v :: yef H r:=rfl
theorem ybqk(H:yq)(b:Bool):ybm H (.bool b) = H:=rfl
theorem ybyn(H:yq)(k:IntKind)(n:Int):ybm H (.int k n) = H:=rfl
theorem ybyq(H:yq)(s:ByteArray):ybm H (.str s) = H:=rfl
theorem ybyo(H:yq):ybm H .nil=H:=rfl
theorem ybym(H:yq)(cs:List AV):ybm H (.agg cs) = yei H cs:=rfl
theorem ybyr(H:yq)(cs:List AV):ybm H (.tup cs) = yei H cs:=rfl
theorem ybqn(H:yq):yei H [] = H:=rfl
theorem ybel(H:yq)(v:AV)(r:List AV):yei H (v :: r) = yei (ybm H v) r:=rfl
theorem ycan(f:Nat→Option Nat)(b:Bool):ren f (.bool b) = .bool b:=rfl
theorem ycmz(f:Nat→Option Nat)(k:IntKind)(n:Int):ren f (.int k n) = .int k n:=rfl
theorem ycne(f:Nat→Option Nat)(s:ByteArray):ren f (.str s) = .str s:=rfl
theorem ycna(f:Nat→Option Nat):ren f .nil = .nil:=rfl
theorem ydmm(f:Nat→Option Nat):ren f .un = .un:=rfl
theorem ycmx(f:Nat→Option Nat):ren f .bad = .bad:=rfl
theorem ycmw(f:Nat→Option Nat)(cs:List AV):ren f (.agg cs) = .agg (yhr f cs):=rfl
theorem ycnf(f:Nat→Option Nat)(cs:List AV):ren f (.tup cs) = .tup (yhr f cs):=rfl
theorem ydmk(f:Nat→Option Nat)(g:Fn)(a b:List AV):ren f (.fn g a b) = .fn g (yhr f a) (yhr f b):=rfl
theorem ycmy(f:Nat→Option Nat)(es:Nat)(rows:List (List AV))(ex:Bool):ren f (.imm es rows ex) = .imm es rows ex:=rfl
def renK(id:Option Nat)(k:Nat→AV):AV:=match id with | some j=>k j | none=>.bad
theorem ybry(j:Nat)(k:Nat→AV):renK (some j) k=k j:=rfl
theorem ycnb(f:Nat→Option Nat)(es id off len:Nat)(ex:Bool):ren f (.own es id off len ex) = renK (f id) (fun j=>.own es j off len ex):=by simp only [ren,renK]; cases f id <;> rfl
theorem ycnc(f:Nat→Option Nat)(id off:Nat):ren f (.ptr id off) = renK (f id) (fun j=>.ptr j off):=by simp only [ren,renK]; cases f id <;> rfl
theorem ycao(f:Nat→Option Nat)(id i g:Nat):ren f (.eptr id i g) = renK (f id) (fun j=>.eptr j i g):=by simp only [ren,renK]; cases f id <;> rfl
theorem ycaq(f:Nat→Option Nat):yhr f [] = []:=rfl
theorem ybrz(f:Nat→Option Nat)(v:AV)(r:List AV):yhr f (v :: r) = ren f v :: yhr f r:=rfl
theorem ycak(f:Nat→Option Nat):yjw f [] = []:=rfl
theorem ybrx(f:Nat→Option Nat)(t:Nat)(v:AV)(r:List (Nat × AV)):yjw f ((t,v) :: r) = (t,ren f v) :: yjw f r:=rfl
theorem ycam(f:Nat→Option Nat)(cells:List AV):yoi f (.box cells) = .box (yhr f cells):=rfl
theorem ycal(f:Nat→Option Nat)(es:Nat)(rows:List (List AV))(leak:Nat):yoi f (.arr es rows leak) = .arr es rows leak:=rfl
def yakf(id:Option Nat)(o:Ob)(r:yq):yq:=match id with | some j=>(j,o) :: r | none=>r
theorem ybfm(j:Nat)(o:Ob)(r:yq):yakf (some j) o r=(j,o) :: r:=rfl
theorem ybfl(o:Ob)(r:yq):yakf none o r=r:=rfl
theorem ydth(f:Nat→Option Nat):ycd f [] = []:=rfl
theorem ydtg(f:Nat→Option Nat)(id:Nat)(o:Ob)(r:yq):ycd f ((id,o) :: r) = yakf (f id) (yoi f o) (ycd f r):=by simp only [ycd,yakf]; cases f id <;> rfl
theorem ycbw:yeq [] = []:=rfl
theorem ybtc(t:Nat)(v:AV)(r:List (Nat × AV)):yeq ((t,v) :: r) = v :: yeq r:=rfl
theorem ybrq(H:yq)(k:Nat)(acc:List Nat):yaw H (k + 1) [] acc=acc:=rfl
def yuc(H:yq)(k id:Nat)(todo:List AV)(acc:List Nat)(o:Option Ob):List Nat:=
  if id∈acc then yaw H k todo acc else match o with | some (.box cells)=>yaw H k (cells++todo) (acc++[id]) | some _=>yaw H k todo (acc++[id]) | none=>yaw H k todo acc
theorem ybfe(H:yq)(k id:Nat)(todo:List AV)(acc:List Nat)(cells:List AV):yuc H k id todo acc (some (.box cells)) = if id∈acc then yaw H k todo acc else yaw H k (cells++todo) (acc++[id]):=rfl
theorem ybfd(H:yq)(k id:Nat)(todo:List AV)(acc:List Nat)(es:Nat)(rows:List (List AV))(leak:Nat):yuc H k id todo acc (some (.arr es rows leak)) = if id∈acc then yaw H k todo acc else yaw H k todo (acc++[id]):=rfl
theorem yasm(H:yq)(k id:Nat)(todo:List AV)(acc:List Nat):yuc H k id todo acc none=yaw H k todo acc:=by simp [yuc]
def yrh(H:yq)(k id:Nat)(todo:List AV)(acc:List Nat)(o:Option Ob):List Nat:=
  if id∈acc then yaw H k todo acc else match o with | some _=>yaw H k todo (acc++[id]) | none=>yaw H k todo acc
theorem yasl(H:yq)(k id:Nat)(todo:List AV)(acc:List Nat)(o:Ob):yrh H k id todo acc (some o) = if id∈acc then yaw H k todo acc else yaw H k todo (acc++[id]):=rfl
theorem yask(H:yq)(k id:Nat)(todo:List AV)(acc:List Nat):yrh H k id todo acc none=yaw H k todo acc:=by simp [yrh]
theorem ybrs(H:yq)(k es id off len:Nat)(ex:Bool)(todo:List AV)(acc:List Nat):yaw H (k + 1) (.own es id off len ex :: todo) acc=yrh H k id todo acc (lk H id):=by
  simp only [yaw,yrh]
  split
  ·rfl
  ·cases lk H id <;> rfl
theorem ybfg(H:yq)(k id i f:Nat)(todo:List AV)(acc:List Nat):yaw H (k + 1) (.eptr id i f :: todo) acc=yrh H k id todo acc (lk H id):=by
  simp only [yaw,yrh]
  split
  ·rfl
  ·cases lk H id <;> rfl
theorem ybrt(H:yq)(k id off:Nat)(todo:List AV)(acc:List Nat):yaw H (k + 1) (.ptr id off :: todo) acc=yuc H k id todo acc (lk H id):=by
  simp only [yaw,yuc]
  split
  ·rfl
  ·cases lk H id with
   | none=>rfl
   | some o=>cases o <;> rfl
theorem ycag(H:yq)(k:Nat)(g:Fn)(pre post todo:List AV)(acc:List Nat):yaw H (k + 1) (.fn g pre post :: todo) acc=yaw H k (pre++(post++todo)) acc:=rfl
theorem ybrm(H:yq)(k:Nat)(cs todo:List AV)(acc:List Nat):yaw H (k + 1) (.agg cs :: todo) acc=yaw H k (cs++todo) acc:=rfl
theorem ybrw(H:yq)(k:Nat)(cs todo:List AV)(acc:List Nat):yaw H (k + 1) (.tup cs :: todo) acc=yaw H k (cs++todo) acc:=rfl
theorem ybrp(H:yq)(k:Nat)(q:IntKind)(n:Int)(todo:List AV)(acc:List Nat):yaw H (k + 1) (.int q n :: todo) acc=yaw H k todo acc:=rfl
theorem ybff(H:yq)(k:Nat)(b:Bool)(todo:List AV)(acc:List Nat):yaw H (k + 1) (.bool b :: todo) acc=yaw H k todo acc:=rfl
theorem ybrv(H:yq)(k:Nat)(b:ByteArray)(todo:List AV)(acc:List Nat):yaw H (k + 1) (.str b :: todo) acc=yaw H k todo acc:=rfl
theorem ybfj(H:yq)(k:Nat)(todo:List AV)(acc:List Nat):yaw H (k + 1) (.nil :: todo) acc=yaw H k todo acc:=rfl
theorem ycai(H:yq)(k:Nat)(todo:List AV)(acc:List Nat):yaw H (k + 1) (.un :: todo) acc=yaw H k todo acc:=rfl
theorem ybrn(H:yq)(k:Nat)(todo:List AV)(acc:List Nat):yaw H (k + 1) (.bad :: todo) acc=yaw H k todo acc:=rfl
theorem ybrr(H:yq)(k:Nat)(v:Value)(todo:List AV)(acc:List Nat):yaw H (k + 1) (.oth v :: todo) acc=yaw H k todo acc:=rfl
theorem ybro(H:yq)(k es:Nat)(rows:List (List AV))(ex:Bool)(todo:List AV)(acc:List Nat):yaw H (k + 1) (.imm es rows ex :: todo) acc=yaw H k todo acc:=rfl
theorem ybfh(H:yq)(k:Nat)(row:List AV)(f:Nat)(todo:List AV)(acc:List Nat):yaw H (k + 1) (.iptr row f :: todo) acc=yaw H k todo acc:=rfl
theorem ybwc:yea=1999 + 1:=rfl
def boxK:Option Ob→List AV | some (.box cells)=>cells | _=>[]
theorem ycql(H:yq)(id:Nat):yqr H id=boxK (lk H id):=by
  simp only [yqr,boxK]
  cases lk H id with
  | none=>rfl
  | some o=>cases o <;> rfl
theorem ybue(cells:List AV):boxK (some (.box cells)) = cells:=rfl
theorem ybgs:boxK none = []:=rfl
theorem ybud(es:Nat)(rows:List (List AV))(leak:Nat):boxK (some (.arr es rows leak)) = []:=rfl
theorem ybrc(H:yq)(m:Nat)(roots:List AV):ybs H m roots=yaw H yea ((List.range m).flatMap (yqr H)++roots) (List.range m):=rfl
def tidK(s:St)(l:List Nat):St:={ env:=yjw (pos l) s.env,loc:=[],H:=ycd (pos l) s.H,nx:=l.length }
theorem ycpi(m:Nat)(s:St):s.tidy m=tidK s (ybs s.H m (yeq s.env)):=rfl
theorem ycph(e l0:List (Nat × AV))(H:yq)(n:Nat)(l:List Nat):tidK ⟨e,l0,H,n⟩ l = ⟨yjw (pos l) e,[],ycd (pos l) H,l.length⟩:=rfl
theorem ycfb(m:Nat)(s:St):evW m [] s=some s:=rfl
def evWK(m:Nat)(r:List WA):Option St→Option St | some s=>evW m r s | none=>none
theorem ybvp(m:Nat)(x:WA)(r:List WA)(s:St):evW m (x :: r) s=evWK m r (yha m x s):=by simp only [evW,evWK] <;> cases yha m x s <;> rfl
theorem ybhw(m:Nat)(r:List WA)(s:St):evWK m r (some s) = evW m r s:=rfl
theorem ybvj(m:Nat)(ts:List Nat)(e l:List (Nat × AV))(H:yq)(n:Nat):yha m (.kill ts) ⟨e,l,H,n⟩ = some ⟨ylb ts e,l,H,n⟩:=rfl
theorem ybyi(ts:List Nat):ylb ts [] = []:=rfl
theorem ybqe(ts:List Nat)(t:Nat)(v:AV)(r:List (Nat × AV)):ylb ts ((t,v) :: r) = (if inB t ts=true then (t,.bad) else (t,v)) :: ylb ts r:=rfl
theorem yclj(t:Nat):inB t [] = false:=rfl
theorem ybyf(t x:Nat)(r:List Nat):inB t (x :: r) = (Nat.beq x t || inB t r):=rfl
def canK:Option St→Option St | some s=>some ⟨s.env,s.loc,yff s.H s.nx,s.nx⟩ | none=>none
theorem ybvl(m:Nat)(s:St):yha m .tidy s=canK (some (s.tidy m)):=rfl
theorem ybgx(e l:List (Nat × AV))(H:yq)(n:Nat):canK (some ⟨e,l,H,n⟩) = some ⟨e,l,yff H n,n⟩:=rfl
theorem ybgw(H:yq):yff H 0 = []:=rfl
def canN(H:yq)(n:Nat):Option Ob→yq | some o=>yff H n++[(n,o)] | none=>yff H n
theorem ybgv(H:yq)(n:Nat):yff H (n + 1) = canN H n (lk H n):=by simp only [yff,canN] <;> cases lk H n <;> rfl
theorem ybgz(H:yq)(n:Nat)(o:Ob):canN H n (some o) = yff H n++[(n,o)]:=rfl
theorem ybgy(H:yq)(n:Nat):canN H n none=yff H n:=rfl
def atK(k:AV × yq × Nat)(l:List (Nat × AV)):Option (List (Nat × AV))→Option St | some e=>some ⟨e,l,k.2.1,k.2.2⟩ | none=>none
def atJ(k:WV)(t:Nat)(e l:List (Nat × AV))(H:yq)(n:Nat):Option AV→Option St | some v=>atK (wkV k v H n) l (upd e t (wkV k v H n).1) | none=>none
theorem ycrv(m t:Nat)(k:WV)(e l:List (Nat × AV))(H:yq)(n:Nat):yha m (.at t k) ⟨e,l,H,n⟩ = atJ k t e l H n (lk e t):=by
  simp only [yha,atJ]
  cases lk e t with
  | none=>rfl
  | some v=>simp only [atK] <;> cases upd e t (wkV k v H n).1 <;> rfl
theorem ybtv(k:WV)(t:Nat)(e l:List (Nat × AV))(H:yq)(n:Nat)(v:AV):atJ k t e l H n (some v) = atK (wkV k v H n) l (upd e t (wkV k v H n).1):=rfl
theorem ybtw(v:AV)(H:yq)(n:Nat)(l e:List (Nat × AV)):atK (v,H,n) l (some e) = some ⟨e,l,H,n⟩:=rfl
def ceL(e l:List (Nat × AV))(n:Nat):Option yq→Option St | some H=>some ⟨e,l,H,n⟩ | none=>none
def ceK(k:AV × yq × Nat)(id o:Nat)(cells:List AV)(e l:List (Nat × AV)):Option St:=ceL e l k.2.2 (upd k.2.1 id (.box (ych cells o [k.1])))
def ceI(k:WV)(id o:Nat)(cells:List AV)(e l:List (Nat × AV))(H:yq)(n:Nat):Option AV→Option St | some v=>ceK (wkV k v H n) id o cells e l | none=>none
def ceJ(k:WV)(id o:Nat)(e l:List (Nat × AV))(H:yq)(n:Nat):Option Ob→Option St | some (.box cells)=>ceI k id o cells e l H n cells[o]? | _=>none
def ceH(k:WV)(off:Nat)(e l:List (Nat × AV))(H:yq)(n:Nat):Option AV→Option St | some (.ptr id o)=>ceJ k id (o + off) e l H n (lk H id) | _=>none
theorem ybvh(m t off:Nat)(k:WV)(e l:List (Nat × AV))(H:yq)(n:Nat):yha m (.cell t off k) ⟨e,l,H,n⟩ = ceH k off e l H n (lk e t):=by
  simp only [yha,ceH]
  cases h:lk e t with
  | none=>rfl
  | some v=>
    cases v <;> rfl
theorem yceo(k:WV)(off:Nat)(e l:List (Nat × AV))(H:yq)(n id o:Nat):ceH k off e l H n (some (.ptr id o)) = ceJ k id (o + off) e l H n (lk H id):=rfl
theorem ycep(k:WV)(id o:Nat)(e l:List (Nat × AV))(H:yq)(n:Nat)(cells:List AV):ceJ k id o e l H n (some (.box cells)) = ceI k id o cells e l H n cells[o]?:=rfl
theorem ybuu(k:WV)(id o:Nat)(cells:List AV)(e l:List (Nat × AV))(H:yq)(n:Nat)(v:AV):ceI k id o cells e l H n (some v) = ceK (wkV k v H n) id o cells e l:=rfl
theorem ycrl(v:AV)(H:yq)(n id o:Nat)(cells:List AV)(e l:List (Nat × AV)):ceK (v,H,n) id o cells e l=ceL e l n (upd H id (.box (ych cells o [v]))):=rfl
theorem ybuv(e l:List (Nat × AV))(n:Nat)(H:yq):ceL e l n (some H) = some ⟨e,l,H,n⟩:=rfl
def mvK(t es off len:Nat)(ex:Bool)(e l:List (Nat × AV))(H:yq)(n id:Nat):Option Ob→Option St
  | some (.arr es' rows leak)=>(match upd e t (.own es n off len ex) with | some e'=>some ⟨e',l,(n,.arr es' rows leak) :: rmv H id,n + 1⟩ | none=>none)
  | _=>none
def mvH(t:Nat)(e l:List (Nat × AV))(H:yq)(n:Nat):Option AV→Option St
  | some (.own es id off len ex)=>mvK t es off len ex e l H n id (lk H id)
  | _=>none
theorem ycey(m t:Nat)(e l:List (Nat × AV))(H:yq)(n:Nat):yha m (.mov t) ⟨e,l,H,n⟩ = mvH t e l H n (lk e t):=by
  simp only [yha,mvH]
  cases h:lk e t with
  | none=>rfl
  | some v=>
    cases v
    case own es id off len ex=>
      simp only [mvK]
      cases lk H id with
      | none=>rfl
      | some o=>
        cases o
        ·rfl
        ·simp only
         cases upd e t (.own es n off len ex) <;> rfl
    all_goals rfl
theorem ycmh(t es id off len:Nat)(ex:Bool)(e l:List (Nat × AV))(H:yq)(n:Nat):mvH t e l H n (some (.own es id off len ex)) = mvK t es off len ex e l H n id (lk H id):=rfl
def mvL(l:List (Nat × AV))(H:yq)(n:Nat):Option (List (Nat × AV))→Option St | some e'=>some ⟨e',l,H,n⟩ | none=>none
theorem ybyz(e' l:List (Nat × AV))(H:yq)(n:Nat):mvL l H n (some e') = some ⟨e',l,H,n⟩:=rfl
theorem ycmi(t es off len:Nat)(ex:Bool)(e l:List (Nat × AV))(H:yq)(n id es' leak:Nat)(rows:List (List AV)):mvK t es off len ex e l H n id (some (.arr es' rows leak)) = mvL l ((n,.arr es' rows leak) :: rmv H id) (n + 1) (upd e t (.own es n off len ex)):=by
  simp only [mvK,mvL]
def mcL(n j:Nat)(a:Ob)(e l:List (Nat × AV)):Option yq→Option St | some H=>some ⟨e,l,(n,a) :: rmv H j,n + 1⟩ | none=>none
def mcK(es f len:Nat)(ex:Bool)(id o j:Nat)(cells:List AV)(e l:List (Nat × AV))(H:yq)(n:Nat):Option Ob→Option St
  | some (.arr es' rows leak)=>mcL n j (.arr es' rows leak) e l (upd H id (.box (ych cells o [.own es n f len ex])))
  | _=>none
def mcI(id o:Nat)(cells:List AV)(e l:List (Nat × AV))(H:yq)(n:Nat):Option AV→Option St
  | some (.own es j f len ex)=>mcK es f len ex id o j cells e l H n (lk H j)
  | _=>none
def mcJ(id o:Nat)(e l:List (Nat × AV))(H:yq)(n:Nat):Option Ob→Option St
  | some (.box cells)=>mcI id o cells e l H n cells[o]?
  | _=>none
def mcH(off:Nat)(e l:List (Nat × AV))(H:yq)(n:Nat):Option AV→Option St
  | some (.ptr id o)=>mcJ id (o + off) e l H n (lk H id)
  | _=>none
theorem ybvk(m t off:Nat)(e l:List (Nat × AV))(H:yq)(n:Nat):yha m (.movc t off) ⟨e,l,H,n⟩ = mcH off e l H n (lk e t):=by
  simp only [yha,mcH]
  cases h:lk e t with
  | none=>rfl
  | some v=>
    cases v
    case ptr id o=>
      simp only [mcJ]
      cases h2:lk H id with
      | none=>rfl
      | some ob=>
        cases ob
        case arr=>rfl
        case box cells=>
          simp only [mcI]
          cases h3:cells[o + off]? with
          | none=>rfl
          | some c=>
            cases c
            case own es j f len ex=>
              simp only [mcK]
              cases lk H j with
              | none=>rfl
              | some ob2=>
                cases ob2
                ·rfl
                ·simp only [mcL]
                 cases upd H id (.box (ych cells (o + off) [.own es n f len ex])) <;> rfl
            all_goals rfl
    all_goals rfl
theorem ycmc(off id o:Nat)(e l:List (Nat × AV))(H:yq)(n:Nat):mcH off e l H n (some (.ptr id o)) = mcJ id (o + off) e l H n (lk H id):=rfl
theorem ycme(id o:Nat)(cells:List AV)(e l:List (Nat × AV))(H:yq)(n:Nat):mcJ id o e l H n (some (.box cells)) = mcI id o cells e l H n cells[o]?:=rfl
theorem ycmd(id o:Nat)(cells:List AV)(e l:List (Nat × AV))(H:yq)(n es j f len:Nat)(ex:Bool):mcI id o cells e l H n (some (.own es j f len ex)) = mcK es f len ex id o j cells e l H n (lk H j):=rfl
theorem ycmf(es f len:Nat)(ex:Bool)(id o j:Nat)(cells:List AV)(e l:List (Nat × AV))(H:yq)(n es' leak:Nat)(rows:List (List AV)):mcK es f len ex id o j cells e l H n (some (.arr es' rows leak)) = mcL n j (.arr es' rows leak) e l (upd H id (.box (ych cells o [.own es n f len ex]))):=rfl
theorem ybyy(n j:Nat)(a:Ob)(e l:List (Nat × AV))(H:yq):mcL n j a e l (some H) = some ⟨e,l,(n,a) :: rmv H j,n + 1⟩:=rfl
theorem ybvi(m:Nat)(ids:List Nat)(e l:List (Nat × AV))(H:yq)(n:Nat):yha m (.drop ids) ⟨e,l,H,n⟩ = some ⟨e,l,ydd H ids,n⟩:=rfl
def cuL(e l:List (Nat × AV))(n:Nat):Option yq→Option St | some H=>some ⟨e,l,H,n⟩ | none=>none
def cuK(id k:Nat)(e l:List (Nat × AV))(H:yq)(n:Nat):Option Ob→Option St
  | some (.arr es rows leak)=>cuL e l n (upd H id (.arr es (rows.take k) leak))
  | _=>none
theorem ycex(m id k:Nat)(e l:List (Nat × AV))(H:yq)(n:Nat):yha m (.cut id k) ⟨e,l,H,n⟩ = cuK id k e l H n (lk H id):=by
  simp only [yha,cuK]
  cases lk H id with
  | none=>rfl
  | some o=>
    cases o
    ·rfl
    ·rename_i es rows leak
     simp only [cuL]
     cases upd H id (.arr es (rows.take k) leak) <;> rfl
theorem yces(id k:Nat)(e l:List (Nat × AV))(H:yq)(n es leak:Nat)(rows:List (List AV)):cuK id k e l H n (some (.arr es rows leak)) = cuL e l n (upd H id (.arr es (rows.take k) leak)):=rfl
theorem ybva(e l:List (Nat × AV))(n:Nat)(H:yq):cuL e l n (some H) = some ⟨e,l,H,n⟩:=rfl
theorem ydnv(v:AV)(H:yq)(n:Nat):wkV .frz v H n=(frz H v,ybm H v,n):=rfl
theorem ydnw(es:Nat)(H:yq)(n:Nat):wkV (.virt es) .nil H n=(.own es n 0 0 false,(n,.arr es [] 0) :: H,n + 1):=rfl
theorem ydnx(es es' id off len:Nat)(ex:Bool)(H:yq)(n:Nat):wkV (.virt es) (.own es' id off len ex) H n=(.own es' id off len false,H,n):=rfl
def retQ(m:Nat)(s:St):Option (List AV)→Option (AV × yq × Nat)
  | some vs=>(match ybs s.H m vs with | l=>some (ren (pos l) (one vs),ycd (pos l) s.H,l.length))
  | none=>none
def retL(v:AV)(H:yq)(l:List Nat):Option (AV × yq × Nat):=some (ren (pos l) v,ycd (pos l) H,l.length)
theorem ybsf(m:Nat)(e l:List (Nat × AV))(H:yq)(n:Nat)(vs:List AV):retQ m ⟨e,l,H,n⟩ (some vs) = retL (one vs) H (ybs H m vs):=rfl
theorem ycnj(v:AV)(H:yq)(l:List Nat):retL v H l=some (ren (pos l) v,ycd (pos l) H,l.length):=rfl
theorem retR(m:Nat)(res:List IR)(s:St):yjx m res (some (.ret,s)) = retQ m s (yej s res):=by
  have h1:yjx m res (some (.ret,s)) = match yej s res with
   | some vs=>(match ybs s.H m vs with | l=>some (ren (pos l) (one vs),ycd (pos l) s.H,l.length))
   | none=>none:=rfl
  rw [h1]
  cases yej s res <;> rfl
theorem retN(m:Nat)(res:List IR)(s:St):yjx m res (some (.norm,s)) = retQ m s (yej s res):=by
  have h1:yjx m res (some (.norm,s)) = match yej s res with
   | some vs=>(match ybs s.H m vs with | l=>some (ren (pos l) (one vs),ycd (pos l) s.H,l.length))
   | none=>none:=rfl
  rw [h1]
  cases yej s res <;> rfl
def resT(v:AV):Option (List AV)→Option (List AV) | some l=>some (v :: l) | none=>none
theorem ycnh(s:St):yej s [] = some []:=rfl
theorem ycni(s:St)(t:Nat)(r:List IR):yej s (.tmp t :: r) = resT (s.get t) (yej s r):=by simp only [yej,resT]; cases yej s r <;> rfl
def resC:Option AV→Option (List AV)→Option (List AV) | some v,some l=>some (v :: l) | _,_=>none
theorem ycat(s:St)(p size:Nat)(a:Bool)(r:List IR):yej s (.cell p a size :: r) = resC (yhd a size s.H (s.get p)) (yej s r):=by simp only [yej,resC]; cases yhd a size s.H (s.get p) <;> cases yej s r <;> rfl
theorem ybsc(v:AV)(l:List AV):resT v (some l) = some (v :: l):=rfl
theorem ybsb(v:AV)(l:List AV):resC (some v) (some l) = some (v :: l):=rfl
theorem ycmn(v:AV):one [v] = v:=rfl
theorem ycmo(v w:AV)(r:List AV):one (v :: w :: r) = .tup (v :: w :: r):=rfl
theorem ycmm:one [] = .tup []:=rfl
end Go.Proofs.YtgoachcogmlhcaaGreat.R
