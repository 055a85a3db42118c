/- The abstract evaluator: values, heap, operations, code. Definitions alone. -/
import Derived.Calls
import Derived.Orders
import Derived.LoopN
set_option linter.unusedVariables false
noncomputable section
namespace Go.Proofs.YtgoachcogmlhcaaGreat.R
open Go
inductive AV where
  | bad
  | un
  | bool (b:Bool)
  | int (k:IntKind) (n:Int)
  | str (s:ByteArray)
  | nil
  | oth (v:Value)
  | imm (es:Nat) (rows:List (List AV)) (ex:Bool)
  | own (es id off len:Nat) (ex:Bool)
  | ptr (id off:Nat)
  | eptr (id i f:Nat)
  | iptr (row:List AV) (f:Nat)
  | fn (f:Fn) (pre post:List AV)
  | agg (cs:List AV)
  | tup (vs:List AV)
  deriving Inhabited
inductive Ob where
  | box (cells:List AV)
  | arr (es:Nat) (rows:List (List AV)) (leak:Nat)
  deriving Inhabited
def lk{α:Type}(l:List (Nat × α))(t:Nat):Option α:=
  List.rec none (fun p _ ih=>Bool.rec ih (some p.2) (Nat.beq p.1 t)) l
def upd{α:Type}(l:List (Nat × α))(t:Nat)(x:α):Option (List (Nat × α)):=
  List.rec none (fun p r ih=>Bool.rec (Option.rec none (fun r'=>some (p :: r')) ih) (some ((p.1,x) :: r)) (Nat.beq p.1 t)) l
def rmv{α:Type}(l:List (Nat × α))(t:Nat):List (Nat × α):=
  List.rec [] (fun p _ ih=>Bool.rec (p :: ih) ih (Nat.beq p.1 t)) l
def pos(l:List Nat)(t:Nat):Option Nat:=
  List.rec none (fun x _ ih=>Bool.rec (Option.rec none (fun n=>some (n + 1)) ih) (some 0) (Nat.beq x t)) l
def yfd(v:Value):AV:=
  match v with
  | .bool b=>.bool b
  | .int k n=>.int k n
  | .string s=>.str s
  | .slice none 0 0=>.nil
  | .pointer none=>.oth (.pointer none)
  | .map none=>.oth (.map none)
  | .nilFunc=>.oth .nilFunc
  | .nilIface=>.oth .nilIface
  | _=>.bad
def ytz(v:Value):AV:=
  match v with
  | .agg cs=>.agg (cs.toList.map yfd)
  | v=>yfd v
def yds:AV→Bool
  | .bad | .un | .agg _ | .tup _=>false
  | _=>true
def ycq:List AV→Bool
  | []=>true
  | v :: r=>yds v && ycq r
def cellsOf:AV→Option (List AV)
  | .agg cs=>some cs
  | v=>if yds v then some [v] else none
mutual
def yen:AV→Bool
  | .bool _=>true
  | .int _ _=>true
  | .str _=>true
  | .nil=>true
  | .oth _=>true
  | .imm _ _ _=>true
  | .iptr _ _=>false
  | .agg cs=>yfc cs
  | .tup cs=>yfc cs
  | _=>false
def yfc:List AV→Bool
  | []=>true
  | v :: r=>yen v && yfc r
end
mutual
def ybw:AV→Bool
  | .bool _=>true
  | .int _ _=>true
  | .str _=>true
  | .oth _=>true
  | .agg cs=>yde cs
  | .tup cs=>yde cs
  | _=>false
def yde:List AV→Bool
  | []=>true
  | v :: r=>ybw v && yde r
end
abbrev yq:=List (Nat × Ob)
def ykq:List (List AV)→Nat
  | []=>0
  | r :: _=>r.length
def yca(rows:List (List AV)):AV:=.imm (ykq rows) rows false
def yfz(size es:Nat)(rows:List (List AV)):Bool:=rows.isEmpty || Nat.beq es size
def ydt(es:Nat)(H:yq):AV→Option (List (List AV))
  | .nil=>some []
  | .imm es' rows _=>if yfz es es' rows=true then some rows else none
  | .own es' id off len _=>
    if es' = es then
     match lk H id with
     | some (.arr _ rows _)=>if off + len≤rows.length then some ((rows.drop off).take len) else none
     | _=>none
    else none
  | _=>none
mutual
def frz(H:yq):AV→AV
  | .own es id off len _=>
    match lk H id with
    | some (.arr _ rows _)=>if off + len≤rows.length then yca ((rows.drop off).take len) else .bad
    | _=>.bad
  | .imm _ rows _=>yca rows
  | .nil=>yca []
  | .agg cs=>.agg (yef H cs)
  | .tup cs=>.tup (yef H cs)
  | .ptr _ _=>.bad
  | .eptr _ _ _=>.bad
  | .fn _ _ _=>.bad
  | v=>v
def yef(H:yq):List AV→List AV
  | []=>[]
  | v :: r=>frz H v :: yef H r
end
def ycu(n:Nat):Ob→Ob
  | .arr es rows leak=>.arr es rows (max leak n)
  | o=>o
def yju(H:yq)(id n:Nat):yq:=H.map fun p=>if p.1=id then (p.1,ycu n p.2) else p
mutual
def ybm(H:yq):AV→yq
  | .own _ id off len _=>yju H id (off + len)
  | .agg cs=>yei H cs
  | .tup cs=>yei H cs
  | _=>H
def yei(H:yq):List AV→yq
  | []=>H
  | v :: r=>yei (ybm H v) r
end
mutual
def ren(f:Nat→Option Nat):AV→AV
  | .own es id off len ex=>match f id with | some j=>.own es j off len ex | none=>.bad
  | .ptr id off=>match f id with | some j=>.ptr j off | none=>.bad
  | .eptr id i g=>match f id with | some j=>.eptr j i g | none=>.bad
  | .fn g pre post=>.fn g (yhr f pre) (yhr f post)
  | .agg cs=>.agg (yhr f cs)
  | .tup cs=>.tup (yhr f cs)
  | v=>v
def yhr(f:Nat→Option Nat):List AV→List AV
  | []=>[]
  | v :: r=>ren f v :: yhr f r
end
def yoi(f:Nat→Option Nat):Ob→Ob
  | .box cells=>.box (yhr f cells)
  | o=>o
def ycd(f:Nat→Option Nat):yq→yq
  | []=>[]
  | (id,o) :: r=>
    match f id with
    | some j=>(j,yoi f o) :: ycd f r
    | none=>ycd f r
def yaw(H:yq):Nat→List AV→List Nat→List Nat
  | 0,_,acc=>acc
  | _ + 1,[],acc=>acc
  | n + 1,v :: todo,acc=>
    match v with
    | .own _ id _ _ _=>
      if id∈acc then yaw H n todo acc else
      match lk H id with
      | some _=>yaw H n todo (acc++[id])
      | none=>yaw H n todo acc
    | .eptr id _ _=>
      if id∈acc then yaw H n todo acc else
      match lk H id with
      | some _=>yaw H n todo (acc++[id])
      | none=>yaw H n todo acc
    | .ptr id _=>
      if id∈acc then yaw H n todo acc else
      match lk H id with
      | some (.box cells)=>yaw H n (cells++todo) (acc++[id])
      | some _=>yaw H n todo (acc++[id])
      | none=>yaw H n todo acc
    | .fn _ pre post=>yaw H n (pre++(post++todo)) acc
    | .agg cs=>yaw H n (cs++todo) acc
    | .tup cs=>yaw H n (cs++todo) acc
    | _=>yaw H n todo acc
def yea:Nat:=2000
def yqr:yq→Nat→List AV
  | H,id=>match lk H id with | some (.box cells)=>cells | _=>[]
def ybs(H:yq)(m:Nat)(roots:List AV):List Nat:=
  yaw H yea ((List.range m).flatMap (yqr H)++roots) (List.range m)
inductive Opd where
  | t (n:Nat)
  | c (v:AV)
  deriving Inhabited
inductive IP where
  | mv (x:Opd)
  | pick (b x y:Opd)
  | bin (op:BinOp) (x y:Opd)
  | eqb (ng:Bool) (x y:Opd)
  | eqc (ng:Bool) (cells:List (Nat × Nat)) (x y:Opd)
  | eqn (ng:Bool) (x:Opd)
  | ngt (x:Opd)
  | nt (x:Opd)
  | cvt (k:IntKind) (x:Opd)
  | cst (x:Opd)
  | build (zero:List AV) (parts:List (Nat × Nat × Opd))
  | fld (a:Bool) (size off:Nat) (x:Opd)
  | ext (i:Nat) (x:Opd)
  | fa (off:Nat) (x:Opd)
  | ias (size:Nat) (x i:Opd)
  | iaa (size len:Nat) (x i:Opd)
  | ixs (x i:Opd)
  | ixa (a:Bool) (size len:Nat) (x i:Opd)
  | sls (x:Opd) (lo hi:Option Opd)
  | sll (size:Nat) (x:Opd) (lo hi mx:Option Opd)
  | mkf (f:Nat) (pre post:List Opd)
  | nc (x:Opd)
  | lens (x:Opd)
  | lenl (x:Opd)
  | mx (x y:Opd)
  | mn (x y:Opd)
  | alloc (zero:List AV)
  | box (x:Opd)
  | ld (a:Bool) (size:Nat) (p:Opd)
  | st (size:Nat) (p x:Opd)
  | mks (es:Nat) (zero:List AV) (l m:Opd)
  | bsl (es:Nat) (zero:List AV) (len:Nat) (parts:List (Nat × Opd))
  | s2b (x:Opd)
  | b2s (x:Opd)
  | app (es:Nat) (x y:Opd)
  | cpy (es:Nat) (x y:Opd)
  | cln (es:Nat) (x:Opd)
  | call (f:Nat) (args:List Opd)
  | callv (g:Opd) (args:List Opd)
  deriving Inhabited
structure Iop where
  dst:Option Nat
  guard:Option (Nat × Bool)
  op:IP
  deriving Inhabited
abbrev oo(n:Nat)(p:IP):Iop:=⟨some n,none,p⟩
abbrev oe(p:IP):Iop:=⟨none,none,p⟩
abbrev og(n a:Nat)(b:Bool)(p:IP):Iop:=⟨some n,some (a,b),p⟩
abbrev kI(n:Int):Opd:=.c (.int .i64 n)
abbrev zI:AV:=.int .i64 0
abbrev mT(n:Nat):IP:=.mv (.t n)
abbrev bB(o:BinOp)(a b:Nat):IP:=.bin o (.t a) (.t b)
abbrev bK(o:BinOp)(a:Nat)(n:Int):IP:=.bin o (.t a) (kI n)
abbrev sT(k a b:Nat):IP:=.st k (.t a) (.t b)
abbrev iA(k a b:Nat):IP:=.ias k (.t a) (.t b)
abbrev xT(k n:Nat):IP:=.ext k (.t n)
abbrev nT(n:Nat):IP:=.nc (.t n)
abbrev lL(n:Nat):IP:=.lenl (.t n)
abbrev kF:Opd:=.c (.bool false)
abbrev kT:Opd:=.c (.bool true)
abbrev lF(n:Nat):IP:=.ld false 1 (.t n)
abbrev lT(k n:Nat):IP:=.ld true k (.t n)
abbrev fA(k n:Nat):IP:=.fa k (.t n)
inductive IC where
  | skip
  | reg (draw:Option (List (Nat × Nat))) (ops:List Iop)
  | seq (a b:IC)
  | cond (x:Opd) (a b:IC)
  | block (id:Nat) (b:IC)
  | loop (b:IC)
  | out (id:Nat)
  | ret
  deriving Inhabited
inductive IR where
  | tmp (t:Nat)
  | cell (a:Nat) (agg:Bool) (size:Nat)
  deriving Inhabited
structure IFn where
  nt:Nat
  live:List Nat
  res:List IR
  body:IC
structure TI where
  desc:TypeDesc
  size:Nat
  bytes:Nat
  zero:Option Value
def ybj(P:Program)(t:TypeId):Option TI:=
  match P.underlying t,P.info? t with
  | some d,some i=>some ⟨d,i.size,i.bytes,i.zero⟩
  | _,_=>none
def yle:TypeDesc→Bool
  | .struct _=>true
  | .array _ _=>true
  | _=>false
def intB:TypeDesc→Bool
  | .int _=>true
  | _=>false
def zeroCells(x:TI):Option (List AV):=
  match x.zero with
  | some (.agg cs)=>if ycq (cs.toList.map yfd) = true then some (cs.toList.map yfd) else none
  | some v=>if yds (yfd v) = true then some [yfd v] else none
  | none=>none
def opd:Operand→Option Opd
  | .tmp t=>some (.t t)
  | .const v=>some (.c (ytz v))
  | .func f=>some (.c (.fn (.func f) [] []))
  | .global _=>none
def ymk:List Operand→Option (List Opd)
  | []=>some []
  | x :: r=>
    match opd x,ymk r with
    | some y,some l=>some (y :: l)
    | _,_=>none
def oopd:Option Operand→Option (Option Opd)
  | none=>some none
  | some x=>match opd x with | some y=>some (some y) | none=>none
def yil:List (Nat × Operand)→Option (List (Nat × Opd))
  | []=>some []
  | (i,x) :: r=>
    match opd x,yil r with
    | some y,some l=>some ((i,y) :: l)
    | _,_=>none
def yqj(P:Program)(d:TypeDesc)(i:Nat):Option (Nat × Nat):=
  match d with
  | .struct fs=>
    match fs[i]? with
    | some f=>match ybj P f.type with | some x=>some (f.offset,x.size) | none=>none
    | none=>none
  | .array _ e=>match ybj P e with | some x=>some (i * x.size,x.size) | none=>none
  | _=>none
def yqx(P:Program):TypeDesc→Bool
  | .struct fs=>fs.toList.all fun f=>(ybj P f.type).isSome
  | .array _ e=>(ybj P e).isSome
  | _=>true
def yns(P:Program)(d:TypeDesc):List (Nat × Opd)→Option (List (Nat × Nat × Opd))
  | []=>some []
  | (i,x) :: r=>
    match yqj P d i,yns P d r with
    | some (off,size),some l=>some ((off,size,x) :: l)
    | _,_=>none
def ymp:TypeDesc→Option Nat
  | .bool=>some 0
  | .int _=>some 1
  | .string=>some 2
  | _=>none
def eqFields(P:Program):List Field→Option (List (Nat × Nat))
  | []=>some []
  | f :: r=>
    match ybj P f.type,eqFields P r with
    | some x,some l=>
      match ymp x.desc with
      | some q=>if f.name != "_" then some ((f.offset,q) :: l) else none
      | none=>none
    | _,_=>none
def yqt(q:Nat):Nat→Nat→List (Nat × Nat)
  | 0,_=>[]
  | n + 1,i=>(i,q) :: yqt q n (i + 1)
def nilC:Opd→Bool
  | .c .nil=>true
  | _=>false
def ylm(P:Program)(op:BinOp)(t:TypeId)(x y:Opd):Option IP:=
  match ybj P t with
  | some ti=>
    match ti.desc with
    | .int _=>some (.bin op x y)
    | .string=>some (.bin op x y)
    | .bool=>match op with | .eql=>some (.eqb false x y) | .neq=>some (.eqb true x y) | _=>none
    | .struct fs=>
      if P.stoodInHeld t || P.eqGuardType P.depth t then none else
      match eqFields P fs.toList with
      | some l=>match op with | .eql=>some (.eqc false l x y) | .neq=>some (.eqc true l x y) | _=>none
      | none=>none
    | .array n e=>
      if P.eqGuardType P.depth t then none else
      match ybj P e with
      | some te=>
        match ymp te.desc with
        | some q=>if Nat.beq te.size 1 then (match op with | .eql=>some (.eqc false (yqt q n 0) x y) | .neq=>some (.eqc true (yqt q n 0) x y) | _=>none) else none
        | none=>none
      | none=>none
    | .slice _=>if nilC y=true then (match op with | .eql=>some (.eqn false x) | .neq=>some (.eqn true x) | _=>none) else none
    | _=>none
  | none=>none
def yjo(P:Program)(s d:TypeId)(x:Opd):Option IP:=
  match ybj P s,ybj P d with
  | some xs,some xd=>
    match xs.desc,xd.desc with
    | .int _,.int k=>some (.cvt k x)
    | .string,.string=>some (.cst x)
    | .string,.slice e=>match ybj P e with | some ⟨.int .u8,_,_,_⟩=>some (.s2b x) | _=>none
    | .slice e,.string=>match ybj P e with | some ⟨.int .u8,_,_,_⟩=>some (.b2s x) | _=>none
    | _,_=>none
  | _,_=>none
def yps(P:Program)(t:TypeId):Option TI:=
  match ybj P t with
  | some ⟨.slice e,_,_,_⟩=>ybj P e
  | _=>none
def yhh(P:Program)(b:Builtin)(args:List Opd)(ts:List TypeId):Option IP:=
  match b,args,ts with
  | .len,[x],[t]=>
    match ybj P t with
    | some ti=>match ti.desc with | .string=>some (.lens x) | .slice _=>some (.lenl x) | _=>none
    | none=>none
  | .max,[x,y],_=>some (.mx x y)
  | .min,[x,y],_=>some (.mn x y)
  | .append,[x,y],[t,t2]=>
    match yps P t,ybj P t2 with
    | some xe,some x2=>
      match zeroCells xe with
      | some z=>if 0 < xe.size∧xe.bytes≤256∧z.length=xe.size∧intB x2.desc=false then some (.app xe.size x y) else none
      | none=>none
    | _,_=>none
  | .copy,[x,y],t :: _=>match yps P t with | some xe=>if 0 < xe.size then some (.cpy xe.size x y) else none | none=>none
  | _,_,_=>none
def yhu(P:Program)(o:Op):Option IP:=
  match o with
  | .move x=>match opd x with | some x=>some (.mv x) | none=>none
  | .assign x=>match opd x with | some x=>some (.mv x) | none=>none
  | .pick b x y=>match opd b,opd x,opd y with | some b,some x,some y=>some (.pick b x y) | _,_,_=>none
  | .binOp op t x y _=>match opd x,opd y with | some x,some y=>ylm P op t x y | _,_=>none
  | .unOp op _ x=>
    match op,opd x with
    | .neg,some x=>some (.ngt x)
    | .not,some x=>some (.nt x)
    | _,_=>none
  | .convert s d x=>match opd x with | some x=>yjo P s d x | none=>none
  | .build t parts=>
    match ybj P t,yil parts.toList with
    | some ti,some ps=>
      match zeroCells ti,yns P ti.desc ps with
      | some z,some l=>if yle ti.desc && yqx P ti.desc then some (.build z l) else none
      | _,_=>none
    | _,_=>none
  | .field t x f=>
    match ybj P t,opd x with
    | some ⟨.struct fs,_,_,_⟩,some x=>
      match fs[f]? with
      | some fl=>match ybj P fl.type with | some xf=>some (.fld (yle xf.desc) xf.size fl.offset x) | none=>none
      | none=>none
    | _,_=>none
  | .extract x i=>match opd x with | some x=>some (.ext i x) | none=>none
  | .fieldAddr t x f=>
    match ybj P t,opd x with
    | some ⟨.struct fs,_,_,_⟩,some x=>
      match fs[f]? with
      | some fl=>match ybj P fl.type with | some xf=>if 0 < xf.size then some (.fa fl.offset x) else none | none=>none
      | none=>none
    | _,_=>none
  | .indexAddr t x i=>
    match ybj P t,opd x,opd i with
    | some ti,some x,some i=>
      match ti.desc with
      | .slice e=>match ybj P e with | some xe=>if 0 < xe.size then some (.ias xe.size x i) else none | none=>none
      | .array len e=>match ybj P e with | some xe=>some (.iaa xe.size len x i) | none=>none
      | _=>none
    | _,_,_=>none
  | .index t x i=>
    match ybj P t,opd x,opd i with
    | some ti,some x,some i=>
      match ti.desc with
      | .string=>some (.ixs x i)
      | .array len e=>match ybj P e with | some xe=>some (.ixa (yle xe.desc) xe.size len x i) | none=>none
      | _=>none
    | _,_,_=>none
  | .slice t x lo hi mx=>
    match ybj P t,opd x,oopd lo,oopd hi,oopd mx with
    | some ti,some x,some lo,some hi,some mx=>
      match ti.desc with
      | .string=>match mx with | none=>some (.sls x lo hi) | some _=>none
      | .slice e=>match ybj P e with | some xe=>if 0 < xe.size then some (.sll xe.size x lo hi mx) else none | none=>none
      | _=>none
    | _,_,_,_,_=>none
  | .makeFunc (.func f) pre post=>match ymk pre.toList,ymk post.toList with | some a,some b=>some (.mkf f a b) | _,_=>none
  | .nilCheck x=>match opd x with | some x=>some (.nc x) | none=>none
  | .alloc t=>match ybj P t with | some x=>(match zeroCells x with | some z=>some (.alloc z) | none=>none) | none=>none
  | .box _ x=>match opd x with | some x=>some (.box x) | none=>none
  | .load t p=>match ybj P t,opd p with | some x,some p=>some (.ld (yle x.desc) x.size p) | _,_=>none
  | .store t p x=>match ybj P t,opd p,opd x with | some ti,some p,some x=>some (.st ti.size p x) | _,_,_=>none
  | .makeSlice t l m=>
    match yps P t,opd l,opd m with
    | some xe,some l,some m=>match zeroCells xe with | some z=>if 0 < xe.size∧xe.bytes≤256∧z.length=xe.size then some (.mks xe.size (yef [] z) l m) else none | none=>none
    | _,_,_=>none
  | .buildSlice t len parts=>
    match yps P t,yil parts.toList with
    | some xe,some ps=>match zeroCells xe with | some z=>if 0 < xe.size∧xe.bytes≤256∧z.length=xe.size∧len * xe.size≤16777216 then some (.bsl xe.size (yef [] z) len ps) else none | none=>none
    | _,_=>none
  | .call { callee,args,argTypes }=>
    match ymk args.toList with
    | some as=>
      match callee with
      | .builtin b=>yhh P b as argTypes.toList
      | .value (.func f)=>some (.call f as)
      | .value x=>match opd x with | some g=>some (.callv g as) | none=>none
      | _=>none
    | none=>none
  | _=>none
def yym(P:Program)(all:List Oper)(o:Oper):Option Iop:=
  match yhu P o.op with
  | some ip=>
    match o.guard with
    | none=>some ⟨o.dst,none,ip⟩
    | some (j,want)=>
      match all[j]? with
      | some q=>match q.dst with | some d=>some ⟨o.dst,some (d,want),ip⟩ | none=>none
      | none=>none
  | none=>none
def yir(P:Program)(all:List Oper):List Oper→Option (List Iop)
  | []=>some []
  | o :: r=>
    match yym P all o,yir P all r with
    | some a,some l=>some (a :: l)
    | _,_=>none
def yfm(P:Program):Code→Option IC
  | .skip=>some .skip
  | .region _ ops draw=>
    match yir P ops.toList ops.toList with
    | some l=>if draw=true then none else some (.reg none l)
    | none=>none
  | .seq a b=>match yfm P a,yfm P b with | some x,some y=>some (.seq x y) | _,_=>none
  | .cond x a b=>match opd x,yfm P a,yfm P b with | some x,some a,some b=>some (.cond x a b) | _,_,_=>none
  | .ret=>some .ret
  | _=>none
def ybhf(es:Nat)(z:List AV):IC:=
  .seq (.reg none [⟨some 2,none,.mv (.c .nil)⟩])
    (.seq (.seq (.reg none [⟨some 3,none,.mv (.t 0)⟩,⟨some 4,none,.eqn false (.t 3)⟩]) (.cond (.t 4) (.seq (.reg none [⟨some 2,none,.mv (.c .nil)⟩]) .ret) .skip))
      (.seq (.reg none [⟨some 5,none,.bsl es z 0 []⟩,⟨some 6,none,.mv (.t 0)⟩,⟨some 7,none,.app es (.t 5) (.t 6)⟩,⟨some 2,none,.mv (.t 7)⟩]) .ret))
def mvB(d n:Nat):Iop→Bool
  | ⟨some e,none,.mv (.t k)⟩=>Nat.beq d e && Nat.beq n k
  | _=>false
def mvN(d:Nat):Iop→Bool
  | ⟨some e,none,.mv (.c .nil)⟩=>Nat.beq d e
  | _=>false
def eqnB(d n:Nat):Iop→Bool
  | ⟨some e,none,.eqn false (.t k)⟩=>Nat.beq d e && Nat.beq n k
  | _=>false
def appB(d a b es:Nat):Iop→Bool
  | ⟨some e,none,.app es' (.t i) (.t j)⟩=>Nat.beq d e && (Nat.beq a i && (Nat.beq b j && Nat.beq es es'))
  | _=>false
def yalc:IC→Option Nat
  | .seq (.reg none [o1]) (.seq (.seq (.reg none [o2,o3]) (.cond (.t x) (.seq (.reg none [o4]) .ret) .skip)) (.seq (.reg none [⟨some d,none,.bsl es _ 0 []⟩,o6,o7,o8]) .ret))=>
    if (mvN 2 o1 && (mvB 3 0 o2 && (eqnB 4 3 o3 && (Nat.beq x 4 && (mvN 2 o4 && (Nat.beq d 5 && (mvB 6 0 o6 && (appB 7 5 6 es o7 && mvB 2 7 o8)))))))) = true then some es else none
  | _=>none
def ycdj:List ResultVar→Bool
  | [.tmp t]=>Nat.beq t 2
  | _=>false
def ywm(P:Program)(f:Nat):Option Nat:=
  match P.funcs[f]? with
  | some fn=>
    if fn.origin == "slices.Clone" then
     match fn.body with
     | some body=>
       match yfm P body with
       | some ic=>if (Nat.beq fn.ntmps 8 && (ycdj fn.results.toList && !(fn.name == "runtime.NumGoroutine"))) = true then yalc ic else none
       | none=>none
     | none=>none
    else none
  | none=>none
def yagl(P:Program):Op→Option IP
  | .call { callee:=.value (.func f),args:=args,argTypes:=_ }=>
    match args.toList with
    | [x]=>match ywm P f,opd x with | some es,some x=>some (.cln es x) | _,_=>none
    | _=>none
  | _=>none
def comp(P:Program)(o:Op):Option IP:=
  match yagl P o with
  | some ip=>some ip
  | none=>yhu P o
def ysz(P:Program)(all:List Oper)(o:Oper):Option Iop:=
  match comp P o.op with
  | some ip=>
    match o.guard with
    | none=>some ⟨o.dst,none,ip⟩
    | some (j,want)=>
      match all[j]? with
      | some q=>match q.dst with | some d=>some ⟨o.dst,some (d,want),ip⟩ | none=>none
      | none=>none
  | none=>none
def yfq(P:Program)(all:List Oper):List Oper→Option (List Iop)
  | []=>some []
  | o :: r=>
    match ysz P all o,yfq P all r with
    | some a,some l=>some (a :: l)
    | _,_=>none
def ycg:IP→List Opd
  | .mv x=>[x]
  | .pick b x y=>[b,x,y]
  | .bin _ x y=>[x,y]
  | .eqb _ x y=>[x,y]
  | .eqc _ _ x y=>[x,y]
  | .eqn _ x=>[x]
  | .ngt x=>[x]
  | .nt x=>[x]
  | .cvt _ x=>[x]
  | .cst x=>[x]
  | .build _ ps=>ps.map fun p=>p.2.2
  | .fld _ _ _ x=>[x]
  | .ext _ x=>[x]
  | .fa _ x=>[x]
  | .ias _ x i=>[x,i]
  | .iaa _ _ x i=>[x,i]
  | .ixs x i=>[x,i]
  | .ixa _ _ _ x i=>[x,i]
  | .sls x lo hi=>x :: (lo.toList++hi.toList)
  | .sll _ x lo hi mx=>x :: (lo.toList++(hi.toList++mx.toList))
  | .mkf _ pre post=>pre++post
  | .nc x=>[x]
  | .lens x=>[x]
  | .lenl x=>[x]
  | .mx x y=>[x,y]
  | .mn x y=>[x,y]
  | .alloc _=>[]
  | .box x=>[x]
  | .ld _ _ p=>[p]
  | .st _ p x=>[p,x]
  | .mks _ _ l m=>[l,m]
  | .bsl _ _ _ ps=>ps.map fun p=>p.2
  | .s2b x=>[x]
  | .b2s x=>[x]
  | .app _ x y=>[x,y]
  | .cpy _ x y=>[x,y]
  | .cln _ x=>[x]
  | .call _ args=>args
  | .callv g args=>g :: args
def yfx:IP→Bool
  | .ld _ _ _=>false
  | .st _ _ _=>false
  | .alloc _=>false
  | .box _=>false
  | .mks _ _ _ _=>false
  | .bsl _ _ _ _=>false
  | .s2b _=>false
  | .b2s _=>false
  | .app _ _ _=>false
  | .cpy _ _ _=>false
  | .cln _ _=>false
  | .call _ _=>false
  | .callv _ _=>false
  | _=>true
def ldB:IP→Bool
  | .ld _ _ _=>true
  | _=>false
def yzs(t:Nat):List Opd→Bool
  | []=>false
  | .t n :: r=>Nat.beq n t || yzs t r
  | .c _ :: r=>yzs t r
def yuw(t:Nat)(o:Iop):Bool:=
  yzs t (ycg o.op) || match o.guard with | some (d,_)=>Nat.beq d t | none=>false
def yakw(x y:Iop):Bool:=
  (match x.dst with | some d=>!(yuw d y) && (match y.dst with | some e=>!(Nat.beq d e) | none=>true) | none=>true) &&
  (match y.dst with | some e=>!(yuw e x) | none=>true)
def yqh(i j:Nat)(x y:Iop):Option (List (Nat × Nat)):=
  if yakw x y=true then (if (yfx x.op || (yfx y.op || (ldB x.op && ldB y.op))) = true then some [] else some [(i,j)]) else none
def yafw(j a:Nat)(y:Iop):Nat→List Iop→Option (List (Nat × Nat))
  | _,[]=>some []
  | i,x :: r=>
    match yafw j a y (i + 1) r with
    | some l=>if Nat.testBit a i=true then some l else match yqh i j x y with | some k=>some (k++l) | none=>none
    | none=>none
def yyk(acc:List Nat):List Edge→Option Nat
  | []=>some 0
  | e :: r=>
    if Region.binds .any e=true then
     match acc[e.on]?,yyk acc r with
     | some a,some m=>some (m ||| (a ||| 1 <<< e.on))
     | _,_=>none
    else yyk acc r
def yma(ios:List Iop):List Oper→List Iop→List Nat→Option (List (Nat × Nat))
  | [],[],_=>some []
  | o :: r,y :: q,acc=>
    match yyk acc o.after.toList with
    | some a=>
      match yafw acc.length a y 0 (ios.take acc.length),yma ios r q (acc++[a]) with
      | some k,some l=>some (k++l)
      | _,_=>none
    | none=>none
  | _,_,_=>none
def ycp(P:Program):Code→Option IC
  | .skip=>some .skip
  | .label _=>some .skip
  | .region _ ops draw=>
    match yfq P ops.toList ops.toList with
    | some l=>if draw=true then (match yma l ops.toList l [] with | some k=>some (.reg (some k) l) | none=>none) else some (.reg none l)
    | none=>none
  | .seq a b=>match ycp P a,ycp P b with | some x,some y=>some (.seq x y) | _,_=>none
  | .cond x a b=>match opd x,ycp P a,ycp P b with | some x,some a,some b=>some (.cond x a b) | _,_,_=>none
  | .block id b=>match ycp P b with | some b=>some (.block id b) | none=>none
  | .loop b=>match ycp P b with | some b=>some (.loop b) | none=>none
  | .exit id=>some (.out id)
  | .ret=>some .ret
  | _=>none
def yln(P:Program):List ResultVar→Option (List IR)
  | []=>some []
  | .tmp t :: r=>match yln P r with | some l=>some (.tmp t :: l) | none=>none
  | .cell a t :: r=>match ybj P t,yln P r with | some x,some l=>some (.cell a (yle x.desc) x.size :: l) | _,_=>none
def yat(P:Program)(live:List Nat)(fn:Func):Option IFn:=
  if fn.name == "runtime.NumGoroutine" then none else
  match fn.body with
  | some body=>
    match ycp P body,yln P fn.results.toList with
    | some b,some r=>some ⟨fn.ntmps,live,r,b⟩
    | _,_=>none
  | none=>none
def nowN{α:Type}(n:Nat)(k:Nat→α):α:=
  match n with
  | 0=>k 0
  | p + 1=>k (p + 1)
def nowI{α:Type}(n:Int)(k:Int→α):α:=
  match n with
  | .ofNat m=>nowN m fun m=>k (.ofNat m)
  | .negSucc m=>nowN m fun m=>k (.negSucc m)
def nowB{α:Type}(b:Bool)(k:Bool→α):α:=
  match b with
  | true=>k true
  | false=>k false
def asI:AV→Option Int
  | .int _ n=>some n
  | _=>none
def ykt(k:IntKind)(n:Int):Option AV:=nowI n fun n=>some (.int k n)
def yix(b:Bool):Option AV:=nowB b fun b=>some (.bool b)
def ymg(n:Int):AV:=.int .i64 n
def andI(k:IntKind)(a b:Int):Int:=k.wrap (BitVec.ofInt k.bits a &&& BitVec.ofInt k.bits b).toNat
def orI(k:IntKind)(a b:Int):Int:=k.wrap (BitVec.ofInt k.bits a ||| BitVec.ofInt k.bits b).toNat
def xorI(k:IntKind)(a b:Int):Int:=k.wrap (BitVec.ofInt k.bits a ^^^ BitVec.ofInt k.bits b).toNat
def ydg(op:BinOp)(k:IntKind)(a b:Int):Option AV:=
  match op with
  | .add=>ykt k (k.wrap (a + b))
  | .sub=>ykt k (k.wrap (a - b))
  | .mul=>ykt k (k.wrap (a * b))
  | .quo=>if b=0 then none else ykt k (k.wrap (a.tdiv b))
  | .rem=>if b=0 then none else ykt k (a.tmod b)
  | .eql=>yix (a == b)
  | .neq=>yix (a != b)
  | .lss=>yix (decide (a < b))
  | .leq=>yix (decide (a≤b))
  | .gtr=>yix (decide (b < a))
  | .geq=>yix (decide (b≤a))
  | .shl=>if b < 0 then none else ykt k (k.wrap (a * 2 ^ (min b.toNat k.bits)))
  | .shr=>if b < 0 then none else ykt k (a.fdiv (2 ^ (min b.toNat k.bits)))
  | .and=>ykt k (andI k a b)
  | .or=>ykt k (orI k a b)
  | .xor=>ykt k (xorI k a b)
  | _=>none
def yiz(op:BinOp)(a b:ByteArray):Option AV:=
  match op with
  | .add=>if a.size + b.size≤1099511627776 then some (.str (a++b)) else none
  | .eql=>yix (a.toList == b.toList)
  | .neq=>yix (!(a.toList == b.toList))
  | .lss=>yix (Op.bytesLess a.toList b.toList)
  | .leq=>yix (Op.bytesLess a.toList b.toList || a.toList == b.toList)
  | .gtr=>yix (!(Op.bytesLess a.toList b.toList || a.toList == b.toList))
  | .geq=>yix (!(Op.bytesLess a.toList b.toList))
  | _=>none
def shB:BinOp→Bool
  | .shl=>true
  | .shr=>true
  | _=>false
def yrr(op:BinOp)(x y:AV):Option AV:=
  match x,y with
  | .int k a,.int k' b=>if shB op=true∨k=k' then ydg op k a b else none
  | .str a,.str b=>yiz op a b
  | _,_=>none
def yos(q:Nat)(x y:AV):Option Bool:=
  match q,x,y with
  | 0,.bool a,.bool b=>some (a == b)
  | 1,.int k a,.int k' b=>if k=k' then some (a == b) else none
  | 2,.str a,.str b=>some (a.toList == b.toList)
  | _,_,_=>none
def yev:List (Nat × Nat)→List AV→List AV→Option Bool
  | [],_,_=>some true
  | (i,q) :: r,xs,ys=>
    match xs[i]?,ys[i]? with
    | some x,some y=>
      match yos q x y with
      | some true=>yev r xs ys
      | some false=>some false
      | none=>none
    | _,_=>none
def yadj(ng:Bool)(x y:AV):Option AV:=
  match x,y with
  | .bool a,.bool b=>yix (if ng then !(a == b) else a == b)
  | _,_=>none
def yui(ng:Bool)(l:List (Nat × Nat))(x y:AV):Option AV:=
  match x,y with
  | .agg xs,.agg ys=>match yev l xs ys with | some b=>yix (if ng then !b else b) | none=>none
  | _,_=>none
def yber:AV→Option Bool
  | .nil=>some true
  | .imm _ rows _=>if rows.isEmpty=true then none else some false
  | .own _ _ _ len _=>if len=0 then none else some false
  | _=>none
def yayp(ng:Bool)(x:AV):Option AV:=
  match yber x with
  | some b=>yix (if ng then !b else b)
  | none=>none
def yafc(x:AV):Option AV:=
  match x with
  | .int k n=>ykt k (k.wrap (0 - n))
  | _=>none
def ntAV(x:AV):Option AV:=
  match x with
  | .bool b=>yix (!b)
  | _=>none
def yadi(k:IntKind)(x:AV):Option AV:=
  match x with
  | .int _ n=>ykt k (k.wrap n)
  | _=>none
def yaym(x:AV):Option AV:=
  match x with
  | .str b=>some (.str b)
  | _=>none
def yafg(b x y:AV):Option AV:=
  match b with
  | .bool b=>some (if b=true then x else y)
  | _=>none
def part(a:Bool)(size:Nat)(cs:List AV)(off:Nat):Option AV:=
  if a=true then
   if off + size≤cs.length then some (.agg ((cs.drop off).take size)) else none
  else
    match cs[off]? with
    | some v=>if yds v=true then some v else none
    | none=>none
def ych:List AV→Nat→List AV→List AV
  | [],_,_=>[]
  | c :: cs,0,v :: vs=>v :: ych cs 0 vs
  | c :: cs,0,[]=>c :: cs
  | c :: cs,n + 1,vs=>c :: ych cs n vs
def yob(cells:List AV):List (Nat × Nat × AV)→Option (List AV)
  | []=>some cells
  | (off,size,v) :: r=>
    match cellsOf v with
    | some vs=>if vs.length=size∧off + size≤cells.length then yob (ych cells off vs) r else none
    | none=>none
def ysw(z:List AV)(parts:List (Nat × Nat × AV)):Option AV:=
  match yob z parts with
  | some cs=>some (.agg cs)
  | none=>none
def yajp(a:Bool)(size off:Nat)(x:AV):Option AV:=
  match x with
  | .agg cs=>part a size cs off
  | _=>none
def yajo(i:Nat)(x:AV):Option AV:=
  match x with
  | .tup vs=>vs[i]?
  | _=>none
def faAV(off:Nat)(x:AV):Option AV:=
  match x with
  | .ptr id o=>some (.ptr id (o + off))
  | .eptr id i g=>some (.eptr id i (g + off))
  | .iptr row g=>some (.iptr row (g + off))
  | _=>none
def ykh(size:Nat)(x i:AV):Option AV:=
  match x,i with
  | .imm es rows _,.int _ n=>
    if es=size∧0≤n then
     match rows[n.toNat]? with
     | some row=>some (.iptr row 0)
     | none=>none
    else none
  | .own es id off len _,.int _ n=>if es=size∧0≤n∧n < len then some (.eptr id (off + n.toNat) 0) else none
  | _,_=>none
def yoe(size len:Nat)(x i:AV):Option AV:=
  match x,i with
  | .ptr id off,.int _ n=>if 0≤n∧n < len then some (.ptr id (off + n.toNat * size)) else none
  | .eptr id j f,.int _ n=>if 0≤n∧n < len then some (.eptr id j (f + n.toNat * size)) else none
  | .iptr row f,.int _ n=>if 0≤n∧n < len then some (.iptr row (f + n.toNat * size)) else none
  | _,_=>none
def yur(x i:AV):Option AV:=
  match x,i with
  | .str s,.int _ n=>
    if 0≤n then
     match s.data.toList[n.toNat]? with
     | some b=>some (.int .u8 b.toNat)
     | none=>none
    else none
  | _,_=>none
def yzo(a:Bool)(size len:Nat)(x i:AV):Option AV:=
  match x,i with
  | .agg cs,.int _ n=>if 0≤n∧n < len then part a size cs (n.toNat * size) else none
  | _,_=>none
def yhx:Option AV→Option (Option Int)
  | none=>some none
  | some v=>match asI v with | some n=>some (some n) | none=>none
def ygm(n:Nat)(ex:Bool)(lo hi mx:Option AV):Option (Nat × Nat × Bool):=
  match yhx lo,yhx hi,yhx mx with
  | some l,some h,some m=>
    if (0:Int)≤l.getD 0∧l.getD 0≤h.getD n∧h.getD n≤m.getD n∧m.getD n≤(n:Int)∧(m.isSome=true→h.isSome=true) then
     some ((l.getD 0).toNat,(h.getD n).toNat,(m.isSome || ex) && h.getD n == m.getD n)
    else none
  | _,_,_=>none
def yiw(x:AV)(lo hi:Option AV):Option AV:=
  match x with
  | .str s=>
    match ygm s.size false lo hi none with
    | some (l,h,_)=>some (.str (s.extract l h))
    | none=>none
  | _=>none
def yfa(size:Nat)(x:AV)(lo hi mx:Option AV):Option AV:=
  match x with
  | .nil=>
    match ygm 0 true lo hi mx with
    | some _=>some .nil
    | none=>none
  | .imm es rows ex=>
    if yfz size es rows=true then
     match ygm rows.length ex lo hi mx with
     | some (l,h,ex')=>some (.imm (ykq ((rows.take h).drop l)) ((rows.take h).drop l) ex')
     | none=>none
    else none
  | .own es id off len ex=>
    if es=size then
     match ygm len ex lo hi mx with
     | some (l,h,ex')=>some (.own es id (off + l) (h - l) ex')
     | none=>none
    else none
  | _=>none
def ncAV(x:AV):Option AV:=
  match x with
  | .ptr id off=>some (.ptr id off)
  | .eptr id i f=>some (.eptr id i f)
  | .iptr row f=>some (.iptr row f)
  | .fn (.func f) pre post=>some (.fn (.func f) pre post)
  | _=>none
def yaex(x:AV):Option AV:=
  match x with
  | .str s=>some (ymg s.size)
  | _=>none
def yjb(x:AV):Option AV:=
  match x with
  | .nil=>some (ymg 0)
  | .imm _ rows _=>some (ymg rows.length)
  | .own _ _ _ len _=>some (ymg len)
  | _=>none
def mxAV(x y:AV):Option AV:=
  match x,y with
  | .int k a,.int k' b=>if k=k' then ykt k (if a < b then b else a) else none
  | _,_=>none
def mnAV(x y:AV):Option AV:=
  match x,y with
  | .int k a,.int k' b=>if k=k' then ykt k (if b < a then b else a) else none
  | _,_=>none
structure St where
  env:List (Nat × AV)
  loc:List (Nat × AV)
  H:yq
  nx:Nat
def getL(loc env:List (Nat × AV))(t:Nat):AV:=
  Option.rec (Option.rec .bad (fun v=>v) (lk env t)) (fun v=>v) (lk loc t)
def St.get(s:St)(t:Nat):AV:=getL s.loc s.env t
def St.put(s:St)(d:Nat)(v:AV):St:=
  Option.rec ⟨s.env,(d,v) :: s.loc,s.H,s.nx⟩ (fun e=>⟨e,s.loc,s.H,s.nx⟩) (upd s.env d v)
def St.putO(s:St)(d:Option Nat)(v:AV):St:=
  match d with
  | none=>s
  | some d=>s.put d v
def St.ev(s:St):Opd→AV
  | .t n=>s.get n
  | .c v=>v
def St.evs(s:St):List Opd→List AV
  | []=>[]
  | x :: r=>s.ev x :: s.evs r
def St.evo(s:St):Option Opd→Option AV
  | none=>none
  | some x=>some (s.ev x)
def St.evp(s:St):List (Nat × Opd)→List (Nat × AV)
  | []=>[]
  | (i,x) :: r=>(i,s.ev x) :: s.evp r
def St.evq(s:St):List (Nat × Nat × Opd)→List (Nat × Nat × AV)
  | []=>[]
  | (i,j,x) :: r=>(i,j,s.ev x) :: s.evq r
def St.add(s:St)(o:Ob):St:={ s with H:=(s.nx,o) :: s.H,nx:=s.nx + 1 }
def St.setH(s:St)(H:yq):St:={ s with H:=H }
def yhd(a:Bool)(size:Nat)(H:yq)(p:AV):Option AV:=
  match p with
  | .ptr id off=>match lk H id with | some (.box cells)=>part a size cells off | _=>none
  | .eptr id i f=>
    match lk H id with
    | some (.arr _ rows _)=>match rows[i]? with | some row=>part a size row f | none=>none
    | _=>none
  | .iptr row f=>part a size row f
  | _=>none
def yka(size:Nat)(H:yq)(p v:AV):Option yq:=
  match p with
  | .ptr id off=>
    match lk H id,cellsOf v with
    | some (.box cells),some vs=>
      if vs.length=size∧off + vs.length≤cells.length∧ycq vs=true then upd H id (.box (ych cells off vs)) else none
    | _,_=>none
  | .eptr id i f=>
    match cellsOf (frz H v),lk (ybm H v) id with
    | some vs,some (.arr es rows leak)=>
      match rows[i]? with
      | some row=>
        if vs.length=size∧f + vs.length≤row.length∧leak≤i∧yfc vs=true∧ycq vs=true then
         upd (ybm H v) id (.arr es (rows.set i (ych row f vs)) leak)
        else none
      | none=>none
    | _,_=>none
  | _=>none
def yee(es:Nat)(H:yq):List (List AV)→List (Nat × AV)→Option (List (List AV))
  | rows,[]=>some rows
  | rows,(i,v) :: r=>
    match cellsOf (frz H v) with
    | some vs=>if vs.length=es∧i < rows.length∧yfc vs=true∧ycq vs=true then yee es H (rows.set i vs) r else none
    | none=>none
def yec(H:yq):List (Nat × AV)→yq
  | []=>H
  | (_,v) :: r=>yec (ybm H v) r
def yks:Nat:=549755813888
def ysx(b:UInt8):List AV:=[.int .u8 b.toNat]
def ygf(s:ByteArray):List (List AV):=s.data.toList.map ysx
def ymz:List (List AV)→Option (List UInt8)
  | []=>some []
  | [.int .u8 n] :: r=>match ymz r with | some l=>some (UInt8.ofNat n.toNat :: l) | none=>none
  | _ :: _=>none
def yci(es:Nat)(H:yq)(v:AV):Option (List (List AV)):=
  match v with
  | .str s=>if es=1 then some (ygf s) else none
  | v=>ydt es H v
def yck(s:St)(es:Nat)(rows:List (List AV)):Option (AV × St):=
  if rows.length≤yks then some (.own es s.nx 0 rows.length false,s.add (.arr es rows 0)) else none
def yfy(es:Nat)(s:St)(base x:AV):Option (AV × St):=
  match yci es s.H x with
  | some new=>
    match base with
    | .nil=>yck s es new
    | .imm es' rows ex=>
      if yfz es es' rows=true∧ex=true then
       if rows.length=0 then yck s es new
       else if 0 < new.length then yck s es (rows++new) else none
      else none
    | .own es' id off len ex=>
      if es' = es then
       match lk s.H id with
       | some (.arr _ rows leak)=>
         if ex=true then
          if len=0 then yck s es new
          else if 0 < new.length∧off + len≤rows.length then yck s es ((rows.drop off).take len++new) else none
         else if off=0∧len≤rows.length∧leak≤len∧len + new.length≤yks then
           some (.own es s.nx 0 (len + new.length) false,(s.setH (rmv s.H id)).add (.arr es (rows.take len++new) leak))
         else none
       | _=>none
      else none
    | _=>none
  | none=>none
def yhn:List (List AV)→Nat→List (List AV)→List (List AV)
  | [],_,_=>[]
  | r :: rs,0,n :: ns=>n :: yhn rs 0 ns
  | r :: rs,0,[]=>r :: rs
  | r :: rs,k + 1,ns=>r :: yhn rs k ns
def ykf(es:Nat)(s:St)(dst x:AV):Option (AV × St):=
  match yci es s.H x,dst with
  | some src,.own es' id off len _=>
    if es' = es then
     match lk s.H id with
     | some (.arr es2 rows leak)=>
       if leak≤off∧off + (src.take len).length≤rows.length then
        match upd s.H id (.arr es2 (yhn rows off (src.take len)) leak) with
        | some H=>some (ymg (src.take len).length,s.setH H)
        | none=>none
       else none
     | _=>none
    else none
  | some _,.nil=>some (ymg 0,s)
  | _,_=>none
def ypm(es:Nat)(z:List AV)(s:St)(l m:AV):Option (AV × St):=
  match l,m with
  | .int .i64 n,.int .i64 c=>
    if 0≤n∧n≤c∧c≤(yks:Int) then
     some (.own es s.nx 0 n.toNat (n == c),s.add (.arr es (List.replicate n.toNat z) 0))
    else none
  | _,_=>none
def ynx(es:Nat)(z:List AV)(len:Nat)(s:St)(parts:List (Nat × AV)):Option (AV × St):=
  match yee es s.H (List.replicate len z) parts with
  | some rows=>some (.own es s.nx 0 len true,(s.setH (yec s.H parts)).add (.arr es rows 0))
  | none=>none
def ypo(s:St)(x:AV):Option (AV × St):=
  match x with
  | .str str=>some (yca (ygf str),s.add (.box []))
  | _=>none
def ypf(es:Nat)(s:St)(x:AV):Option (AV × St):=
  match ydt es s.H x with
  | some rows=>yck s es rows
  | none=>none
def ypc(H:yq)(x:AV):Option AV:=
  match ydt 1 H x with
  | some rows=>match ymz rows with | some l=>some (.str ⟨l.toArray⟩) | none=>none
  | none=>none
abbrev Callee:=Nat→List AV→yq→Nat→Option (AV × yq × Nat)
structure Cfg where
  P:Program
  fn:Nat→Option IFn
  pr:Callee:=fun _ _ _ _=>none
  fz:Nat→Bool
def yem(l:List Nat)(m n1 nx:Nat)(j:Nat):Option Nat:=if j < m then l[j]? else if j < n1 then some (nx + (j - m)) else none
def yff(H:yq):Nat→yq
  | 0=>[]
  | n + 1=>match lk H n with | some o=>yff H n++[(n,o)] | none=>yff H n
def ydd:yq→List Nat→yq
  | H,[]=>H
  | H,id :: r=>ydd (rmv H id) r
def ymd(s:St)(args:List AV)(r:AV):Option (AV × St):=
  if ybw r=true then some (r,s) else if yen r=true then some (r,s.setH (yei s.H args)) else none
def ydv(c:Cfg)(cl:Callee)(s:St)(f:Nat)(args:List AV):Option (AV × St):=
  if c.fz f=true then
   match cl f (yef s.H args) [] 0 with
   | some (r,H1,_)=>ymd s args (frz H1 r)
   | none=>none
  else
    match yaw s.H yea args [] with
    | l=>
      match cl f (yhr (pos l) args) (yff (ycd (pos l) s.H) l.length) l.length with
      | some (r,H1,n1)=>
        some (ren (yem l l.length n1 s.nx) r,{ s with H:=ycd (yem l l.length n1 s.nx) H1++ydd s.H l,nx:=s.nx + (n1 - l.length) })
      | none=>none
def ylk(c:Cfg)(cl:Callee)(s:St)(g:AV)(args:List AV):Option (AV × St):=
  match g with
  | .fn (.func f) pre post=>ydv c cl s f (pre++(args++post))
  | _=>none
def keep(s:St)(v:Option AV):Option (AV × St):=
  match v with
  | some v=>some (v,s)
  | none=>none
def ybe(c:Cfg)(cl:Callee)(s:St):IP→Option (AV × St)
  | .mv x=>some (s.ev x,s)
  | .pick b x y=>keep s (yafg (s.ev b) (s.ev x) (s.ev y))
  | .bin op x y=>keep s (yrr op (s.ev x) (s.ev y))
  | .eqb ng x y=>keep s (yadj ng (s.ev x) (s.ev y))
  | .eqc ng l x y=>keep s (yui ng l (s.ev x) (s.ev y))
  | .eqn ng x=>keep s (yayp ng (s.ev x))
  | .ngt x=>keep s (yafc (s.ev x))
  | .nt x=>keep s (ntAV (s.ev x))
  | .cvt k x=>keep s (yadi k (s.ev x))
  | .cst x=>keep s (yaym (s.ev x))
  | .build z ps=>keep s (ysw z (s.evq ps))
  | .fld a size off x=>keep s (yajp a size off (s.ev x))
  | .ext i x=>keep s (yajo i (s.ev x))
  | .fa off x=>keep s (faAV off (s.ev x))
  | .ias size x i=>keep s (ykh size (s.ev x) (s.ev i))
  | .iaa size len x i=>keep s (yoe size len (s.ev x) (s.ev i))
  | .ixs x i=>keep s (yur (s.ev x) (s.ev i))
  | .ixa a size len x i=>keep s (yzo a size len (s.ev x) (s.ev i))
  | .sls x lo hi=>keep s (yiw (s.ev x) (s.evo lo) (s.evo hi))
  | .sll size x lo hi mx=>keep s (yfa size (s.ev x) (s.evo lo) (s.evo hi) (s.evo mx))
  | .mkf f pre post=>some (.fn (.func f) (s.evs pre) (s.evs post),s)
  | .nc x=>keep s (ncAV (s.ev x))
  | .lens x=>keep s (yaex (s.ev x))
  | .lenl x=>keep s (yjb (s.ev x))
  | .mx x y=>keep s (mxAV (s.ev x) (s.ev y))
  | .mn x y=>keep s (mnAV (s.ev x) (s.ev y))
  | .alloc z=>some (.ptr s.nx 0,s.add (.box z))
  | .box x=>
    match cellsOf (s.ev x) with
    | some cs=>if ycq cs=true then some (.ptr s.nx 0,s.add (.box cs)) else none
    | none=>none
  | .ld a size p=>keep s (yhd a size s.H (s.ev p))
  | .st size p x=>match yka size s.H (s.ev p) (s.ev x) with | some H=>some (.un,s.setH H) | none=>none
  | .mks es z l m=>ypm es z s (s.ev l) (s.ev m)
  | .bsl es z len ps=>ynx es z len s (s.evp ps)
  | .s2b x=>ypo s (s.ev x)
  | .b2s x=>keep s (ypc s.H (s.ev x))
  | .app es x y=>yfy es s (s.ev x) (s.ev y)
  | .cpy es x y=>ykf es s (s.ev x) (s.ev y)
  | .cln es x=>ypf es s (s.ev x)
  | .call f args=>ydv c cl s f (s.evs args)
  | .callv g args=>ylk c cl s (s.ev g) (s.evs args)
def ygc(s:St)(g:Option (Nat × Bool)):Option Bool:=
  match g with
  | none=>some true
  | some (d,want)=>
    match s.get d with
    | .bool b=>some (b == want)
    | .un=>some false
    | _=>none
def yla(nt:Nat):Option Nat→Bool
  | none=>true
  | some d=>Nat.blt d nt
def nowS(s:St):Option St:=
  match s with
  | ⟨e,l,H,n⟩=>some ⟨e,l,H,n⟩
def ygh(c:Cfg)(cl:Callee)(nt:Nat)(o:Iop)(s:St):Option St:=
  bif yla nt o.dst then
    match ygc s o.guard with
    | some b=>
      bif b then
        match ybe c cl s o.op with
        | some (v,s')=>nowS (s'.putO o.dst v)
        | none=>none
      else nowS (s.putO o.dst .un)
    | none=>none
  else none
def yis(c:Cfg)(cl:Callee)(nt:Nat)(l:List Iop):St→Option St:=
  List.rec (fun s=>some s) (fun o _ ih s=>Option.rec none ih (ygh c cl nt o s)) l
inductive Ex where
  | norm
  | out (id:Nat)
  | ret
  deriving DecidableEq,Inhabited
def yeq:List (Nat × AV)→List AV
  | []=>[]
  | (_,v) :: r=>v :: yeq r
def yjw(f:Nat→Option Nat):List (Nat × AV)→List (Nat × AV)
  | []=>[]
  | (t,v) :: r=>(t,ren f v) :: yjw f r
def St.tidy(m:Nat)(s:St):St:=
  match ybs s.H m (yeq s.env) with
  | l=>{ env:=yjw (pos l) s.env,loc:=[],H:=ycd (pos l) s.H,nx:=l.length }
abbrev Run:=Option (Ex × St)
def yrk(x:Run)(f:St→Run):Run:=
  match x with
  | some (.norm,s)=>f s
  | r=>r
def ylx(id:Nat)(x:Run):Run:=
  match x with
  | some (.out j,s)=>if j=id then some (.norm,s) else some (.out j,s)
  | r=>r
def yxo(x:Option St):Run:=
  match x with
  | some s=>some (.norm,{ s with loc:=[] })
  | none=>none
def yajn(v:AV)(a b:Run):Run:=
  match v with
  | .bool t=>bif t then a else b
  | _=>none
def St.head(m n0:Nat)(s:St):St:=bif Nat.beq s.nx n0 then s else s.tidy m
def yta(m:Nat)(body:St→Run)(n:Nat):Nat→St→Run:=
  Nat.rec (fun _ _=>none) (fun _ ih n0 s=>yrk (body (s.head m n0)) (ih (s.head m n0).nx)) n
def evC(c:Cfg)(cl:Callee)(rg:List (Nat × Nat)→List Iop→St→Option St)(nt m n:Nat)(code:IC):St→Run:=
  IC.rec (fun s=>some (.norm,s))
    (fun draw ops s=>yxo (Option.rec (yis c cl nt ops s) (fun k=>rg k ops s) draw))
    (fun _ _ a b s=>yrk (a s) b)
    (fun x _ _ a b s=>yajn (s.ev x) (a s) (b s))
    (fun id _ b s=>ylx id (b s))
    (fun _ b s=>yta m b n 0 s)
    (fun id s=>some (.out id,s))
    (fun s=>some (.ret,s))
    code
mutual
def ybf:AV→List Nat
  | .own _ id _ _ _=>[id]
  | .agg cs=>yeh cs
  | .tup cs=>yeh cs
  | _=>[]
def yeh:List AV→List Nat
  | []=>[]
  | v :: r=>ybf v++yeh r
end
def idL:AV→List Nat
  | .ptr id _=>[id]
  | .eptr id _ _=>[id]
  | _=>[]
structure ycs where
  r:List Nat
  l:List Nat
  w:List Nat
def ybv:ycs:=⟨[],[],[]⟩
def yno(x:Nat):List Nat→Bool
  | []=>false
  | y :: r=>Nat.beq y x || yno x r
def yba(H:yq):Nat→List AV→List Nat→Option (List Nat)
  | 0,_,_=>none
  | _ + 1,[],acc=>some acc
  | n + 1,v :: todo,acc=>
    match v with
    | .own _ id _ _ _=>
      if id∈acc then yba H n todo acc else
      match lk H id with
      | some _=>yba H n todo (acc++[id])
      | none=>none
    | .eptr id _ _=>
      if id∈acc then yba H n todo acc else
      match lk H id with
      | some _=>yba H n todo (acc++[id])
      | none=>none
    | .ptr id _=>
      if id∈acc then yba H n todo acc else
      match lk H id with
      | some (.box cells)=>yba H n (cells++todo) (acc++[id])
      | some _=>yba H n todo (acc++[id])
      | none=>none
    | .fn _ pre post=>yba H n (pre++(post++todo)) acc
    | .agg cs=>yba H n (cs++todo) acc
    | .tup cs=>yba H n (cs++todo) acc
    | _=>yba H n todo acc
def yid(c:Cfg)(s:St)(f:Nat)(L:List AV):Option ycs:=
  if c.fz f=true then some ⟨[],yeh L,[]⟩ else
  match yba s.H yea L [] with
  | some l=>some ⟨[],[],l⟩
  | none=>none
def ybr(c:Cfg)(s:St):IP→Option ycs
  | .ld _ _ p=>some ⟨idL (s.ev p),[],[]⟩
  | .st _ p x=>some ⟨[],[],idL (s.ev p)++ybf (s.ev x)⟩
  | .bsl _ _ _ ps=>some ⟨[],yeh (yeq (s.evp ps)),[]⟩
  | .app _ x y=>some ⟨ybf (s.ev y),[],ybf (s.ev x)⟩
  | .cpy _ x y=>some ⟨ybf (s.ev y),[],ybf (s.ev x)⟩
  | .cln _ x=>some ⟨ybf (s.ev x),[],[]⟩
  | .b2s x=>some ⟨ybf (s.ev x),[],[]⟩
  | .call f args=>yid c s f (s.evs args)
  | .callv g args=>
    match s.ev g with
    | .fn (.func f) pre post=>yid c s f (pre++(s.evs args++post))
    | _=>none
  | _=>some ybv
def yga(c:Cfg)(s:St)(o:Iop):Option ycs:=
  match ygc s o.guard with
  | some true=>ybr c s o.op
  | _=>some ybv
def atN(s:St)(q:Nat):St:=⟨s.env,s.loc,s.H,q⟩
def evN(c:Cfg)(cl:Callee)(nt base i:Nat)(o:Iop)(s:St):Option St:=
  match ygh c cl nt o (atN s (base + i * 64)) with
  | some s'=>if s'.nx≤base + i * 64 + 64 then some s' else none
  | none=>none
def ymb(c:Cfg)(cl:Nat→Callee)(nt base:Nat):List Iop→Nat→St→Option (St × List ycs)
  | [],_,s=>some (s,[])
  | o :: r,i,s=>
    match yga c s o,evN c (cl i) nt base i o s with
    | some f,some s'=>
      match ymb c cl nt base r (i + 1) s' with
      | some (sF,l)=>some (sF,f :: l)
      | none=>none
    | _,_=>none
def djB:List Nat→List Nat→Bool
  | [],_=>true
  | x :: r,b=>!(yno x b) && djB r b
def yrf(q:Nat):List Nat→Bool
  | []=>true
  | x :: r=>(Nat.blt x q || Nat.ble (q + 64) x) && yrf q r
def ybes(base i j:Nat)(x y:ycs):Bool:=
  djB x.w (y.r++(y.l++y.w)) && (djB y.w (x.r++x.l) && (yrf (base + i * 64) (y.r++(y.l++y.w)) && yrf (base + j * 64) (x.r++(x.l++x.w))))
def yzq(base i j:Nat):Option ycs→Option ycs→Bool
  | some x,some y=>ybes base i j x y
  | _,_=>false
def yml(base:Nat)(fs:List ycs):List (Nat × Nat)→Bool
  | []=>true
  | (i,j) :: r=>yzq base i j fs[i]? fs[j]? && yml base fs r
def yru(c:Cfg)(cl:Nat→Callee)(nt:Nat)(k:List (Nat × Nat))(ios:List Iop)(s:St):Option St:=
  match ymb c cl nt s.nx ios 0 s with
  | some (s',fs)=>if yml s.nx fs k=true then some ⟨s'.env,s'.loc,s'.H,s.nx + 65 * ios.length⟩ else none
  | none=>none
def yccf(c:Cfg)(cl:Callee)(nt:Nat)(k:List (Nat × Nat))(ios:List Iop)(s:St):Option St:=yru c (fun _=>cl) nt k ios s
def yej(s:St):List IR→Option (List AV)
  | []=>some []
  | .tmp t :: r=>match yej s r with | some l=>some (s.get t :: l) | none=>none
  | .cell p a size :: r=>
    match yhd a size s.H (s.get p),yej s r with
    | some v,some l=>some (v :: l)
    | _,_=>none
def one:List AV→AV
  | [v]=>v
  | l=>.tup l
def yal(args:List AV):List Nat→List (Nat × AV)
  | []=>[]
  | t :: r=>(t,match args[t]? with | some v=>v | none=>.un) :: yal args r
def yjx(m:Nat)(res:List IR)(x:Run):Option (AV × yq × Nat):=
  match x with
  | some (.out _,_)=>none
  | some (_,s)=>
    match yej s res with
    | some vs=>
      match ybs s.H m vs with
      | l=>some (ren (pos l) (one vs),ycd (pos l) s.H,l.length)
    | none=>none
  | none=>none
abbrev yacu:=Cfg→Callee→Nat→List (Nat × Nat)→List Iop→St→Option St
def ype(c:Cfg)(dr:yacu):Nat→Callee
  | 0,_,_,_,_=>none
  | k + 1,f,args,H,m=>
    match c.fn f with
    | some fn=>
      if args.length≤fn.nt then
       yjx m fn.res (evC c (ype c dr k) (dr c (ype c dr k) fn.nt) fn.nt m k fn.body ⟨yal args fn.live,[],H,m⟩)
      else none
    | none=>c.pr f args H m
end Go.Proofs.YtgoachcogmlhcaaGreat.R
