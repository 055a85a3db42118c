/- Equations of the evaluator, for simp. -/
import Derived.Test.YtgoachcogmlhcaaGreatRDefs
set_option linter.unusedVariables false
noncomputable section
namespace Go.Proofs.YtgoachcogmlhcaaGreat.R
open Go
section
variable {α:Type}
theorem yaqd(t:Nat):lk ([]:List (Nat × α)) t=none:=rfl
theorem ybo(k:Nat)(v:α)(r:List (Nat × α))(t:Nat):lk ((k,v) :: r) t=if k=t then some v else lk r t:=by
  change Bool.rec (motive:=fun _=>Option α) (lk r t) (some v) (Nat.beq k t) = _
  cases h:Nat.beq k t
  ·have:=Nat.ne_of_beq_eq_false h; simp [this]
  ·have:=Nat.eq_of_beq_eq_true h; simp [this]
theorem yaxs(t:Nat)(x:α):upd ([]:List (Nat × α)) t x=none:=rfl
theorem yrm(k:Nat)(v x:α)(r:List (Nat × α))(t:Nat):upd ((k,v) :: r) t x=if k=t then some ((k,x) :: r) else (upd r t x).map ((k,v) :: ·):=by
  change Bool.rec (motive:=fun _=>Option (List (Nat × α))) (Option.rec (motive:=fun _=>Option (List (Nat × α))) none (fun r'=>some ((k,v) :: r')) (upd r t x)) (some ((k,x) :: r)) (Nat.beq k t) = _
  cases h:Nat.beq k t
  ·have:=Nat.ne_of_beq_eq_false h; simp only [this,if_false]; cases upd r t x <;> rfl
  ·have:=Nat.eq_of_beq_eq_true h; simp [this]
theorem yawz(t:Nat):rmv ([]:List (Nat × α)) t = []:=rfl
theorem yabz(k:Nat)(v:α)(r:List (Nat × α))(t:Nat):rmv ((k,v) :: r) t=if k=t then rmv r t else (k,v) :: rmv r t:=by
  change Bool.rec (motive:=fun _=>List (Nat × α)) ((k,v) :: rmv r t) (rmv r t) (Nat.beq k t) = _
  cases h:Nat.beq k t
  ·have:=Nat.ne_of_beq_eq_false h; simp [this]
  ·have:=Nat.eq_of_beq_eq_true h; simp [this]
theorem yahq(t:Nat):pos [] t=none:=rfl
theorem yvc(x:Nat)(r:List Nat)(t:Nat):pos (x :: r) t=if x=t then some 0 else (pos r t).map (·+ 1):=by
  change Bool.rec (motive:=fun _=>Option Nat) (Option.rec (motive:=fun _=>Option Nat) none (fun n=>some (n + 1)) (pos r t)) (some 0) (Nat.beq x t) = _
  cases h:Nat.beq x t
  ·have:=Nat.ne_of_beq_eq_false h; simp only [this,if_false]; cases pos r t <;> rfl
  ·have:=Nat.eq_of_beq_eq_true h; simp [this]
end
def andThen(x:Option St)(f:St→Option St):Option St:=
  match x with
  | some s=>f s
  | none=>none
theorem ylw(s:St)(f:St→Option St):andThen (some s) f=f s:=rfl
theorem ylv(f:St→Option St):andThen none f=none:=rfl
theorem yarz(p:Prop)[Decidable p](a b:Option St)(f:St→Option St):andThen (if p then a else b) f=if p then andThen a f else andThen b f:=by split <;> rfl
def yve(d:Option Nat)(x:Option (AV × St)):Option St:=
  match x with
  | some (v,s)=>some (s.putO d v)
  | none=>none
theorem yaiz(d:Option Nat)(v:AV)(s:St):yve d (some (v,s)) = some (s.putO d v):=rfl
theorem ybre(d:Option Nat):yve d none=none:=rfl
theorem ybzh(d:Option Nat)(p:Prop)[Decidable p](a b:Option (AV × St)):yve d (if p then a else b) = if p then yve d a else yve d b:=by split <;> rfl
theorem ylr(s:St):nowS s=some s:=rfl
theorem yahn{α:Type}(n:Nat)(k:Nat→α):nowN n k=k n:=by cases n <;> rfl
theorem yahm{α:Type}(n:Int)(k:Int→α):nowI n k=k n:=by cases n <;> simp [nowI,yahn]
theorem yahl{α:Type}(n:Bool)(k:Bool→α):nowB n k=k n:=by cases n <;> rfl
theorem yed(k:IntKind)(n:Int):ykt k n=some (.int k n):=by simp [ykt,yahm]
theorem ydf(b:Bool):yix b=some (.bool b):=by simp [yix,yahl]
theorem yrw(c:Cfg)(cl:Callee)(nt:Nat)(s:St):yis c cl nt [] s=some s:=rfl
theorem ypi(c:Cfg)(cl:Callee)(nt:Nat)(o:Iop)(r:List Iop)(s:St):yis c cl nt (o :: r) s=andThen (ygh c cl nt o s) (yis c cl nt r):=by
  change Option.rec (motive:=fun _=>Option St) none (yis c cl nt r) (ygh c cl nt o s) = _
  cases ygh c cl nt o s <;> rfl
theorem yadl(c:Cfg)(cl:Callee)(nt:Nat)(d:Nat)(op:IP)(s:St)(h:Nat.blt d nt=true):ygh c cl nt ⟨some d,none,op⟩ s=yve (some d) (ybe c cl s op):=by
  simp only [ygh,yla,h,ygc,cond_true]
  cases ybe c cl s op <;> rfl
theorem yadm(c:Cfg)(cl:Callee)(nt:Nat)(op:IP)(s:St):ygh c cl nt ⟨none,none,op⟩ s=yve none (ybe c cl s op):=by
  simp only [ygh,yla,ygc,cond_true]
  cases ybe c cl s op <;> rfl
def ywr(g:Option Bool)(x y:Option St):Option St:=
  match g with
  | some b=>if b=true then x else y
  | none=>none
theorem yaaq(b:Bool)(x y:Option St):ywr (some b) x y=if b=true then x else y:=rfl
theorem yadk(c:Cfg)(cl:Callee)(nt:Nat)(d:Nat)(g:Nat × Bool)(op:IP)(s:St)(h:Nat.blt d nt=true) :
    ygh c cl nt ⟨some d,some g,op⟩ s=ywr (ygc s (some g)) (yve (some d) (ybe c cl s op)) (some (s.put d .un)):=by
  simp only [ygh,yla,h,cond_true]
  cases ygc s (some g) with
  | none=>rfl
  | some b=>cases b <;> simp only [ywr,cond_true,cond_false] <;> first | rfl | (cases ybe c cl s op <;> rfl)
theorem yaam(c:Cfg)(cl:Callee)(nt:Nat)(g:Nat × Bool)(op:IP)(s:St) :
    ygh c cl nt ⟨none,some g,op⟩ s=ywr (ygc s (some g)) (yve none (ybe c cl s op)) (some s):=by
  simp only [ygh,yla,cond_true]
  cases ygc s (some g) with
  | none=>rfl
  | some b=>cases b <;> simp only [ywr,cond_true,cond_false] <;> first | rfl | (cases ybe c cl s op <;> rfl)
theorem yaao(m:Nat)(body:St→Run)(n0:Nat)(s:St):yta m body 0 n0 s=none:=rfl
theorem yaan(m:Nat)(body:St→Run)(n n0:Nat)(s:St):yta m body (n + 1) n0 s=yrk (body (s.head m n0)) (yta m body n (s.head m n0).nx):=rfl
section
variable (c:Cfg) (cl:Callee) (rg:List (Nat × Nat)→List Iop→St→Option St) (nt m n:Nat) (s:St)
theorem yabi:evC c cl rg nt m n .skip s=some (.norm,s):=rfl
theorem yatw(ops:List Iop):evC c cl rg nt m n (.reg none ops) s=yxo (yis c cl nt ops s):=rfl
theorem yalj(k:List (Nat × Nat))(ops:List Iop):evC c cl rg nt m n (.reg (some k) ops) s=yxo (rg k ops s):=rfl
theorem yaty(a b:IC):evC c cl rg nt m n (.seq a b) s=yrk (evC c cl rg nt m n a s) (evC c cl rg nt m n b):=rfl
theorem yalh(x:Opd)(a b:IC):evC c cl rg nt m n (.cond x a b) s=yajn (s.ev x) (evC c cl rg nt m n a s) (evC c cl rg nt m n b s):=rfl
theorem yail(id:Nat)(b:IC):evC c cl rg nt m n (.block id b) s=ylx id (evC c cl rg nt m n b s):=rfl
theorem yali(b:IC):evC c cl rg nt m n (.loop b) s=yta m (evC c cl rg nt m n b) n 0 s:=rfl
theorem yatv(id:Nat):evC c cl rg nt m n (.out id) s=some (.out id,s):=rfl
theorem yatx:evC c cl rg nt m n .ret s=some (.ret,s):=rfl
end
theorem yxv(s:St)(f:St→Run):yrk (some (.norm,s)) f=f s:=rfl
theorem yacc(id:Nat)(s:St)(f:St→Run):yrk (some (.out id,s)) f=some (.out id,s):=rfl
theorem yacd(s:St)(f:St→Run):yrk (some (.ret,s)) f=some (.ret,s):=rfl
theorem yxu(f:St→Run):yrk none f=none:=rfl
theorem ycbc(p:Prop)[Decidable p](a b:Run)(f:St→Run):yrk (if p then a else b) f=if p then yrk a f else yrk b f:=by split <;> rfl
theorem yaac(id:Nat)(s:St):ylx id (some (.norm,s)) = some (.norm,s):=rfl
theorem yada(id:Nat)(s:St):ylx id (some (.ret,s)) = some (.ret,s):=rfl
theorem yacz(id j:Nat)(s:St):ylx id (some (.out j,s)) = if j=id then some (.norm,s) else some (.out j,s):=rfl
theorem yaab(id:Nat):ylx id none=none:=rfl
theorem yayc(id:Nat)(p:Prop)[Decidable p](a b:Run):ylx id (if p then a else b) = if p then ylx id a else ylx id b:=by split <;> rfl
theorem yxq(s:St):yxo (some s) = some (.norm,⟨s.env,[],s.H,s.nx⟩):=rfl
theorem yxp:yxo none=none:=rfl
theorem ycaj(p:Prop)[Decidable p](a b:Option St):yxo (if p then a else b) = if p then yxo a else yxo b:=by split <;> rfl
theorem yadg(t:Bool)(a b:Run):yajn (.bool t) a b=if t=true then a else b:=by cases t <;> rfl
theorem yalu(e l:List (Nat × AV))(H:yq)(nx t:Nat):St.get ⟨e,l,H,nx⟩ t=((lk l t).getD ((lk e t).getD .bad)):=by
  change getL l e t=_
  unfold getL
  cases lk l t <;> cases lk e t <;> rfl
def updD(e l:List (Nat × AV))(H:yq)(nx d:Nat)(v:AV)(x:Option (List (Nat × AV))):St:=
  match x with
  | some e'=>⟨e',l,H,nx⟩
  | none=>⟨e,(d,v) :: l,H,nx⟩
theorem yxy(e l:List (Nat × AV))(H:yq)(nx d:Nat)(v:AV)(e':List (Nat × AV)):updD e l H nx d v (some e') = ⟨e',l,H,nx⟩:=rfl
theorem yxx(e l:List (Nat × AV))(H:yq)(nx d:Nat)(v:AV):updD e l H nx d v none = ⟨e,(d,v) :: l,H,nx⟩:=rfl
theorem yaqp(e l:List (Nat × AV))(H:yq)(nx d:Nat)(v:AV):St.put ⟨e,l,H,nx⟩ d v=updD e l H nx d v (upd e d v):=by
  change Option.rec (motive:=fun _=>St) ⟨e,(d,v) :: l,H,nx⟩ (fun e'=>⟨e',l,H,nx⟩) (upd e d v) = _
  cases upd e d v <;> rfl
theorem yxh(s:St)(d:Nat)(v:AV):s.putO (some d) v=s.put d v:=rfl
theorem yxg(s:St)(v:AV):s.putO none v=s:=rfl
theorem ev_t(s:St)(n:Nat):s.ev (.t n) = s.get n:=rfl
theorem ev_c(s:St)(v:AV):s.ev (.c v) = v:=rfl
theorem yais(s:St)(v:AV):keep s (some v) = some (v,s):=rfl
theorem yair(s:St):keep s none=none:=rfl
theorem ybyh(s:St)(p:Prop)[Decidable p](a b:Option AV):keep s (if p then a else b) = if p then keep s a else keep s b:=by split <;> rfl
theorem ybso:shB .shl=true:=rfl
theorem yati(op:BinOp)(k:IntKind)(a b:Int):yrr op (.int k a) (.int k b) = ydg op k a b:=by simp [yrr]
theorem yatp(op:BinOp)(a b:ByteArray):yrr op (.str a) (.str b) = yiz op a b:=rfl
theorem ybsa(s:St):yej s [] = some []:=rfl
attribute [simp] yaqd ybo yaxs yrm yawz yabz yahq yvc ylw ylv yarz yaiz ybre ybzh ylr yahn yahm yahl yed ydf yrw ypi yadl yadm yaaq yadk yaam yaao yaan yabi yatw yalj yaty yalh yail yali yatv yatx yxv yacc yacd yxu ycbc yaac yada yacz yaab yayc yxq yxp ycaj yadg yalu yxy yxx yaqp yxh yxg ev_t ev_c yais yair ybyh ybso yati yatp ybsa ybe
end Go.Proofs.YtgoachcogmlhcaaGreat.R
