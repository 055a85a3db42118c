import Derived.Calls
import Derived.Orders
import Derived.LoopN
import Derived.Below
import Derived.Laws.StructEq
import Derived.Laws.Slices
import Derived.Laws.Cells
import Derived.Laws.Append
import Derived.Laws.IdiomCopy
import Derived.Laws.Bits
set_option linter.unusedVariables false
set_option linter.unusedSectionVars false
set_option linter.unusedSimpArgs false
noncomputable section
namespace Go.Proofs.Ytgoachcogmlhcaa.R
open Go
set_option linter.defProp false
def qa:=@Option.some.injEq
def qb:=@And.intro
def qc:=@if_neg
def qd:=@Option.some.inj
def qe:=@if_pos
def qf:=@decide_eq_false
def qg:=@decide_eq_true
def qh:=@Int.le_refl
def qi:=@Prod.mk.injEq
def qj:=@List.getElem?_eq_getElem
def qk:=@Nat.le_refl
def ql:=@List.mem_cons_of_mem
def qm:=@List.getElem?_eq_none
def qn:=@List.getElem?_take
def qo:=@List.getElem?_drop
def qp:=@List.length_take
def qq:=@Bool.and_eq_true
def qr:=@Bool.false_eq_true
def qt:=@List.mem_append
def qu:=@Array.getElem?_toList
def qv:=@List.mem_cons_self
def qw:=@Bool.false_ne_true
def qx:=@Nat.mul_le_mul_right
def qy:=@Nat.eq_of_beq_eq_true
def qz:=@Nat.lt_or_ge
def wa:=@List.mem_of_getElem?
def wb:=@List.mem_singleton
def wc:=@List.mem_append_left
def we:=@Nat.succ_mul
def wg:=@List.eq_nil_of_length_eq_zero
def wh:=@List.mem_map
def wi:=@Nat.min_eq_left
def wj:=@List.length_map
def wk:=@List.length_append
def wl:=@if_true
def wm:=@List.take_of_length_le
def wn:=@if_false
def wo:=@List.mem_append_right
def wq:=@List.length_drop
def wr:=@List.map_cons
def ws:=@List.length_cons
def wt:=@List.mem_cons
def wu:=@List.getElem?_set_self
def wv:=@decide_eq_true_eq
def ww:=@Nat.le_trans
def wz:=@List.not_mem_nil
def ja:=@List.getElem?_set_ne
def jb:=@Nat.zero_le
def jc:=@List.getElem?_append_right
def jd:=@List.getElem_mem
def je:=@List.getElem?_cons_succ
def jf:=@Nat.eq_zero_or_pos
def jg:=@List.mem_of_mem_drop
def jh:=@List.append_nil
def ji:=@Nat.lt_of_lt_of_le
def jk:=@decide_eq_false_iff_not
def jl:=@List.getElem?_append_left
def jn:=@List.cons_append
def jo:=@Nat.add_mul
def jp:=@List.drop_drop
def jq:=@Classical.not_not
def jr:=@List.append_assoc
def js:=@Bool.or_eq_false_iff
def ju:=@Bool.or_eq_true
def jv:=@List.drop_eq_nil_of_le
def jw:=@List.getElem?_map
def jx:=@List.ext_getElem?
def jy:=@List.length_replicate
def jz:=@Int.lt_or_le
def ka:=@Nat.add_zero
def kb:=@Option.map_some
def kc:=@Nat.le_add_right
def kd:=@Int.le_trans
def ke:=@List.map_append
def kg:=@List.getElem?_eq_none_iff
def kh:=@List.getElem?_replicate
def ki:=@of_decide_eq_true
def kj:=@List.nodup_append
def kl:=@List.length_set
def km:=@Int.toNat_natCast
def kn:=@Nat.le_of_lt
def ko:=@Int.emod_nonneg
inductive AV where
  | bad
  | un
  | bool (b:Bool)
  | int (k:IntKind) (n:Int)
  | str (s:ByteArray)
  | nil
  | oth (v:Value)
  | imm (es:Nat) (rows:List (List AV)) (ex:Bool)
  | own (es id off len:Nat) (ex:Bool)
  | ptr (id off:Nat)
  | eptr (id i f:Nat)
  | iptr (row:List AV) (f:Nat)
  | fn (f:Fn) (pre post:List AV)
  | agg (cs:List AV)
  | tup (vs:List AV)
  deriving Inhabited
inductive Ob where
  | box (cells:List AV)
  | arr (es:Nat) (rows:List (List AV)) (leak:Nat)
  | arx (es:Nat) (rows:List (List AV))
  deriving Inhabited
def lk{α:Type}(l:List (Nat × α))(t:Nat):Option α:=
  List.rec none (fun p _ ih=>Bool.rec ih (some p.2) (Nat.beq p.1 t)) l
def upd{α:Type}(l:List (Nat × α))(t:Nat)(x:α):Option (List (Nat × α)):=
  List.rec none (fun p r ih=>Bool.rec (Option.rec none (fun r'=>some (p :: r')) ih) (some ((p.1,x) :: r)) (Nat.beq p.1 t)) l
def rmv{α:Type}(l:List (Nat × α))(t:Nat):List (Nat × α):=
  List.rec [] (fun p _ ih=>Bool.rec (p :: ih) ih (Nat.beq p.1 t)) l
def pos(l:List Nat)(t:Nat):Option Nat:=
  List.rec none (fun x _ ih=>Bool.rec (Option.rec none (fun n=>some (n + 1)) ih) (some 0) (Nat.beq x t)) l
def yhl(v:Value):AV:=
  match v with
  | .bool b=>.bool b
  | .int k n=>.int k n
  | .string s=>.str s
  | .slice none 0 0=>.nil
  | .pointer none=>.oth (.pointer none)
  | .map none=>.oth (.map none)
  | .nilFunc=>.oth .nilFunc
  | .nilIface=>.oth .nilIface
  | _=>.bad
def yxq(v:Value):AV:=
  match v with
  | .agg cs=>.agg (cs.toList.map yhl)
  | v=>yhl v
def yfb:AV->Bool
  | .bad | .un | .agg _ | .tup _=>false
  | _=>true
def ydk:List AV->Bool
  | []=>true
  | v :: r=>yfb v && ydk r
def cellsOf:AV->Option (List AV)
  | .agg cs=>some cs
  | v=>if yfb v then some [v] else none
mutual
def ygf:AV->Bool
  | .bool _=>true
  | .int _ _=>true
  | .str _=>true
  | .nil=>true
  | .oth _=>true
  | .imm _ _ _=>true
  | .iptr _ _=>false
  | .agg cs=>ygk cs
  | .tup cs=>ygk cs
  | _=>false
def ygk:List AV->Bool
  | []=>true
  | v :: r=>ygf v && ygk r
end
mutual
def ycg:AV->Bool
  | .bool _=>true
  | .int _ _=>true
  | .str _=>true
  | .oth _=>true
  | .agg cs=>yen cs
  | .tup cs=>yen cs
  | _=>false
def yen:List AV->Bool
  | []=>true
  | v :: r=>ycg v && yen r
end
abbrev yr:=List (Nat × Ob)
def yoo:List (List AV)->Nat
  | []=>0
  | r :: _=>r.length
def ycr(rows:List (List AV)):AV:=.imm (yoo rows) rows false
def yip(size es:Nat)(rows:List (List AV)):Bool:=rows.isEmpty || Nat.beq es size
def yei(es:Nat)(H:yr):AV->Option (List (List AV))
  | .nil=>some []
  | .imm es' rows _=>if yip es es' rows=true then some rows else none
  | .own es' id off len _=>
    if es' = es then
     match lk H id with
     | some (.arr _ rows _)=>if off + len<=rows.length then some ((rows.drop off).take len) else none
     | _=>none
    else none
  | _=>none
mutual
def frz(H:yr):AV->AV
  | .own es id off len _=>
    match lk H id with
    | some (.arr _ rows _)=>if off + len<=rows.length then ycr ((rows.drop off).take len) else .bad
    | _=>.bad
  | .imm _ rows _=>ycr rows
  | .nil=>ycr []
  | .agg cs=>.agg (ydn H cs)
  | .tup cs=>.tup (ydn H cs)
  | .ptr _ _=>.bad
  | .eptr _ _ _=>.bad
  | .fn _ _ _=>.bad
  | v=>v
def ydn(H:yr):List AV->List AV
  | []=>[]
  | v :: r=>frz H v :: ydn H r
end
def ydh(n:Nat):Ob->Ob
  | .arr es rows leak=>.arr es rows (max leak n)
  | o=>o
def ynn(H:yr)(id n:Nat):yr:=H.map fun p=>if p.1=id then (p.1,ydh n p.2) else p
mutual
def ybv(H:yr):AV->yr
  | .own _ id off len _=>ynn H id (off + len)
  | .agg cs=>yeu H cs
  | .tup cs=>yeu H cs
  | _=>H
def yeu(H:yr):List AV->yr
  | []=>H
  | v :: r=>yeu (ybv H v) r
end
mutual
def ren(f:Nat->Option Nat):AV->AV
  | .own es id off len ex=>match f id with | some j=>.own es j off len ex | none=>.bad
  | .ptr id off=>match f id with | some j=>.ptr j off | none=>.bad
  | .eptr id i g=>match f id with | some j=>.eptr j i g | none=>.bad
  | .fn g pre post=>.fn g (yjb f pre) (yjb f post)
  | .agg cs=>.agg (yjb f cs)
  | .tup cs=>.tup (yjb f cs)
  | v=>v
def yjb(f:Nat->Option Nat):List AV->List AV
  | []=>[]
  | v :: r=>ren f v :: yjb f r
end
def ysl(f:Nat->Option Nat):Ob->Ob
  | .box cells=>.box (yjb f cells)
  | .arx es rows=>.arx es (rows.map (yjb f))
  | o=>o
def ycy(f:Nat->Option Nat):yr->yr
  | []=>[]
  | (id,o) :: r=>
    match f id with
    | some j=>(j,ysl f o) :: ycy f r
    | none=>ycy f r
def yatl(l:List AV):List AV:=l.filter fun v=>!ygf v
def yadw:Ob->List AV
  | .arx _ rows=>yatl rows.flatten
  | _=>[]
def yba(H:yr):Nat->List AV->List Nat->List Nat
  | 0,_,acc=>acc
  | _ + 1,[],acc=>acc
  | n + 1,v :: todo,acc=>
    match v with
    | .own _ id _ _ _=>
      if id∈acc then yba H n todo acc else
      match lk H id with
      | some o=>yba H n (yadw o++todo) (acc++[id])
      | none=>yba H n todo acc
    | .eptr id _ _=>
      if id∈acc then yba H n todo acc else
      match lk H id with
      | some o=>yba H n (yadw o++todo) (acc++[id])
      | none=>yba H n todo acc
    | .ptr id _=>
      if id∈acc then yba H n todo acc else
      match lk H id with
      | some (.box cells)=>yba H n (cells++todo) (acc++[id])
      | some _=>yba H n todo (acc++[id])
      | none=>yba H n todo acc
    | .fn _ pre post=>yba H n (pre++(post++todo)) acc
    | .agg cs=>yba H n (cs++todo) acc
    | .tup cs=>yba H n (cs++todo) acc
    | _=>yba H n todo acc
def yfk:Nat:=2000
def yui:yr->Nat->List AV
  | H,id=>match lk H id with | some (.box cells)=>cells | some (.arx _ rows)=>yatl rows.flatten | _=>[]
def ybr(H:yr)(m:Nat)(roots:List AV):List Nat:=
  yba H yfk ((List.range m).flatMap (yui H)++roots) (List.range m)
inductive Opd where
  | t (n:Nat)
  | c (v:AV)
  deriving Inhabited
inductive IP where
  | mv (x:Opd)
  | pick (b x y:Opd)
  | bin (op:BinOp) (x y:Opd)
  | eqb (ng:Bool) (x y:Opd)
  | eqc (ng:Bool) (cells:List (Nat × Nat)) (x y:Opd)
  | eqn (ng:Bool) (x:Opd)
  | ngt (x:Opd)
  | nt (x:Opd)
  | cvt (k:IntKind) (x:Opd)
  | cst (x:Opd)
  | build (zero:List AV) (parts:List (Nat × Nat × Opd))
  | fld (a:Bool) (size off:Nat) (x:Opd)
  | ext (i:Nat) (x:Opd)
  | fa (off:Nat) (x:Opd)
  | ias (size:Nat) (x i:Opd)
  | iaa (size len:Nat) (x i:Opd)
  | ixs (x i:Opd)
  | ixa (a:Bool) (size len:Nat) (x i:Opd)
  | sls (x:Opd) (lo hi:Option Opd)
  | sll (size:Nat) (x:Opd) (lo hi mx:Option Opd)
  | mkf (f:Nat) (pre post:List Opd)
  | nc (x:Opd)
  | lens (x:Opd)
  | lenl (x:Opd)
  | mx (x y:Opd)
  | mn (x y:Opd)
  | alloc (zero:List AV)
  | box (x:Opd)
  | ld (a:Bool) (size:Nat) (p:Opd)
  | st (size:Nat) (p x:Opd)
  | mks (es:Nat) (zero:List AV) (l m:Opd)
  | bsl (es:Nat) (zero:List AV) (len:Nat) (parts:List (Nat × Opd))
  | s2b (x:Opd)
  | b2s (x:Opd)
  | app (es:Nat) (x y:Opd)
  | cpy (es:Nat) (x y:Opd)
  | cln (es:Nat) (x:Opd)
  | clr (es:Nat) (zero:List AV) (x:Opd)
  | no
  | call (f:Nat) (args:List Opd)
  | callv (g:Opd) (args:List Opd)
  deriving Inhabited
structure Iop where
  dst:Option Nat
  guard:Option (Nat × Bool)
  op:IP
  deriving Inhabited
abbrev oo(n:Nat)(p:IP):Iop:=⟨some n,none,p⟩
abbrev oe(p:IP):Iop:=⟨none,none,p⟩
abbrev og(n a:Nat)(b:Bool)(p:IP):Iop:=⟨some n,some (a,b),p⟩
abbrev kI(n:Int):Opd:=.c (.int .i64 n)
abbrev zI:AV:=.int .i64 0
abbrev mT(n:Nat):IP:=.mv (.t n)
abbrev bB(o:BinOp)(a b:Nat):IP:=.bin o (.t a) (.t b)
abbrev bK(o:BinOp)(a:Nat)(n:Int):IP:=.bin o (.t a) (kI n)
abbrev sT(k a b:Nat):IP:=.st k (.t a) (.t b)
abbrev iA(k a b:Nat):IP:=.ias k (.t a) (.t b)
abbrev xT(k n:Nat):IP:=.ext k (.t n)
abbrev nT(n:Nat):IP:=.nc (.t n)
abbrev lL(n:Nat):IP:=.lenl (.t n)
abbrev kF:Opd:=.c (.bool false)
abbrev kT:Opd:=.c (.bool true)
abbrev lF(n:Nat):IP:=.ld false 1 (.t n)
abbrev lT(k n:Nat):IP:=.ld true k (.t n)
abbrev fA(k n:Nat):IP:=.fa k (.t n)
inductive IC where
  | skip
  | reg (draw:Option (List (Nat × Nat))) (ops:List Iop)
  | seq (a b:IC)
  | cond (x:Opd) (a b:IC)
  | block (id:Nat) (b:IC)
  | loop (b:IC)
  | out (id:Nat)
  | ret
  deriving Inhabited
inductive IR where
  | tmp (t:Nat)
  | cell (a:Nat) (agg:Bool) (size:Nat)
  deriving Inhabited
structure IFn where
  nt:Nat
  live:List Nat
  res:List IR
  body:IC
structure TI where
  desc:TypeDesc
  size:Nat
  bytes:Nat
  zero:Option Value
def ybt(P:Program)(t:TypeId):Option TI:=
  match P.underlying t,P.info? t with
  | some d,some i=>some ⟨d,i.size,i.bytes,i.zero⟩
  | _,_=>none
def ypg:TypeDesc->Bool
  | .struct _=>true
  | .array _ _=>true
  | _=>false
def intB:TypeDesc->Bool
  | .int _=>true
  | _=>false
def zeroCells(x:TI):Option (List AV):=
  match x.zero with
  | some (.agg cs)=>if ydk (cs.toList.map yhl) = true then some (cs.toList.map yhl) else none
  | some v=>if yfb (yhl v) = true then some [yhl v] else none
  | none=>none
def opd:Operand->Option Opd
  | .tmp t=>some (.t t)
  | .const v=>some (.c (yxq v))
  | .func f=>some (.c (.fn (.func f) [] []))
  | .global _=>none
def yqr:List Operand->Option (List Opd)
  | []=>some []
  | x :: r=>
    match opd x,yqr r with
    | some y,some l=>some (y :: l)
    | _,_=>none
def oopd:Option Operand->Option (Option Opd)
  | none=>some none
  | some x=>match opd x with | some y=>some (some y) | none=>none
def ylu:List (Nat × Operand)->Option (List (Nat × Opd))
  | []=>some []
  | (i,x) :: r=>
    match opd x,ylu r with
    | some y,some l=>some ((i,y) :: l)
    | _,_=>none
def yue(P:Program)(d:TypeDesc)(i:Nat):Option (Nat × Nat):=
  match d with
  | .struct fs=>
    match fs[i]? with
    | some f=>match ybt P f.type with | some x=>some (f.offset,x.size) | none=>none
    | none=>none
  | .array _ e=>match ybt P e with | some x=>some (i * x.size,x.size) | none=>none
  | _=>none
def yup(P:Program):TypeDesc->Bool
  | .struct fs=>fs.toList.all fun f=>(ybt P f.type).isSome
  | .array _ e=>(ybt P e).isSome
  | _=>true
def yrq(P:Program)(d:TypeDesc):List (Nat × Opd)->Option (List (Nat × Nat × Opd))
  | []=>some []
  | (i,x) :: r=>
    match yue P d i,yrq P d r with
    | some (off,size),some l=>some ((off,size,x) :: l)
    | _,_=>none
def yqx:TypeDesc->Option Nat
  | .bool=>some 0
  | .int _=>some 1
  | .string=>some 2
  | _=>none
def eqFields(P:Program):List Field->Option (List (Nat × Nat))
  | []=>some []
  | f :: r=>
    match ybt P f.type,eqFields P r with
    | some x,some l=>
      match yqx x.desc with
      | some q=>if f.name != "_" then some ((f.offset,q) :: l) else none
      | none=>none
    | _,_=>none
def yul(q:Nat):Nat->Nat->List (Nat × Nat)
  | 0,_=>[]
  | n + 1,i=>(i,q) :: yul q n (i + 1)
def nilC:Opd->Bool
  | .c .nil=>true
  | _=>false
def ypq(P:Program)(op:BinOp)(t:TypeId)(x y:Opd):Option IP:=
  match ybt P t with
  | some ti=>
    match ti.desc with
    | .int _=>some (.bin op x y)
    | .string=>some (.bin op x y)
    | .bool=>match op with | .eql=>some (.eqb false x y) | .neq=>some (.eqb true x y) | _=>none
    | .struct fs=>
      if P.stoodInHeld t || P.eqGuardType P.depth t then none else
      match eqFields P fs.toList with
      | some l=>match op with | .eql=>some (.eqc false l x y) | .neq=>some (.eqc true l x y) | _=>none
      | none=>none
    | .array n e=>
      if P.eqGuardType P.depth t then none else
      match ybt P e with
      | some te=>
        match yqx te.desc with
        | some q=>if Nat.beq te.size 1 then (match op with | .eql=>some (.eqc false (yul q n 0) x y) | .neq=>some (.eqc true (yul q n 0) x y) | _=>none) else none
        | none=>none
      | none=>none
    | .slice _=>if nilC y=true then (match op with | .eql=>some (.eqn false x) | .neq=>some (.eqn true x) | _=>none) else none
    | _=>none
  | none=>none
def ynj(P:Program)(s d:TypeId)(x:Opd):Option IP:=
  match ybt P s,ybt P d with
  | some xs,some xd=>
    match xs.desc,xd.desc with
    | .int _,.int k=>some (.cvt k x)
    | .string,.string=>some (.cst x)
    | .string,.slice e=>match ybt P e with | some ⟨.int .u8,_,_,_⟩=>some (.s2b x) | _=>none
    | .slice e,.string=>match ybt P e with | some ⟨.int .u8,_,_,_⟩=>some (.b2s x) | _=>none
    | _,_=>none
  | _,_=>none
def yrk(P:Program)(t:TypeId):Option TI:=
  match ybt P t with
  | some ⟨.slice e,_,_,_⟩=>ybt P e
  | _=>none
def yki(P:Program)(b:Builtin)(args:List Opd)(ts:List TypeId):Option IP:=
  match b,args,ts with
  | .len,[x],[t]=>
    match ybt P t with
    | some ti=>match ti.desc with | .string=>some (.lens x) | .slice _=>some (.lenl x) | _=>none
    | none=>none
  | .max,[x,y],_=>some (.mx x y)
  | .min,[x,y],_=>some (.mn x y)
  | .append,[x,y],[t,t2]=>
    match yrk P t,ybt P t2 with
    | some xe,some x2=>
      match zeroCells xe with
      | some z=>if 0 < xe.size/\xe.bytes<=256/\z.length=xe.size/\intB x2.desc=false then some (.app xe.size x y) else none
      | none=>none
    | _,_=>none
  | .copy,[x,y],t :: _=>match yrk P t with | some xe=>if 0 < xe.size then some (.cpy xe.size x y) else none | none=>none
  | .clear,[x],t :: _=>
    match yrk P t with
    | some xe=>match zeroCells xe with | some z=>if 0 < xe.size/\z.length=xe.size then some (.clr xe.size (ydn [] z) x) else none | none=>none
    | none=>none
  | _,_,_=>none
def ykx(P:Program)(o:Op):Option IP:=
  match o with
  | .move x=>match opd x with | some x=>some (.mv x) | none=>none
  | .assign x=>match opd x with | some x=>some (.mv x) | none=>none
  | .pick b x y=>match opd b,opd x,opd y with | some b,some x,some y=>some (.pick b x y) | _,_,_=>none
  | .binOp op t x y _=>match opd x,opd y with | some x,some y=>ypq P op t x y | _,_=>none
  | .unOp op _ x=>
    match op,opd x with
    | .neg,some x=>some (.ngt x)
    | .not,some x=>some (.nt x)
    | _,_=>none
  | .convert s d x=>match opd x with | some x=>ynj P s d x | none=>none
  | .build t parts=>
    match ybt P t,ylu parts.toList with
    | some ti,some ps=>
      match zeroCells ti,yrq P ti.desc ps with
      | some z,some l=>if ypg ti.desc && yup P ti.desc then some (.build z l) else none
      | _,_=>none
    | _,_=>none
  | .field t x f=>
    match ybt P t,opd x with
    | some ⟨.struct fs,_,_,_⟩,some x=>
      match fs[f]? with
      | some fl=>match ybt P fl.type with | some xf=>some (.fld (ypg xf.desc) xf.size fl.offset x) | none=>none
      | none=>none
    | _,_=>none
  | .extract x i=>match opd x with | some x=>some (.ext i x) | none=>none
  | .fieldAddr t x f=>
    match ybt P t,opd x with
    | some ⟨.struct fs,_,_,_⟩,some x=>
      match fs[f]? with
      | some fl=>match ybt P fl.type with | some xf=>if 0 < xf.size then some (.fa fl.offset x) else none | none=>none
      | none=>none
    | _,_=>none
  | .indexAddr t x i=>
    match ybt P t,opd x,opd i with
    | some ti,some x,some i=>
      match ti.desc with
      | .slice e=>match ybt P e with | some xe=>if 0 < xe.size then some (.ias xe.size x i) else none | none=>none
      | .array len e=>match ybt P e with | some xe=>some (.iaa xe.size len x i) | none=>none
      | _=>none
    | _,_,_=>none
  | .index t x i=>
    match ybt P t,opd x,opd i with
    | some ti,some x,some i=>
      match ti.desc with
      | .string=>some (.ixs x i)
      | .array len e=>match ybt P e with | some xe=>some (.ixa (ypg xe.desc) xe.size len x i) | none=>none
      | _=>none
    | _,_,_=>none
  | .slice t x lo hi mx=>
    match ybt P t,opd x,oopd lo,oopd hi,oopd mx with
    | some ti,some x,some lo,some hi,some mx=>
      match ti.desc with
      | .string=>match mx with | none=>some (.sls x lo hi) | some _=>none
      | .slice e=>match ybt P e with | some xe=>if 0 < xe.size then some (.sll xe.size x lo hi mx) else none | none=>none
      | _=>none
    | _,_,_,_,_=>none
  | .makeFunc (.func f) pre post=>match yqr pre.toList,yqr post.toList with | some a,some b=>some (.mkf f a b) | _,_=>none
  | .nilCheck x=>match opd x with | some x=>some (.nc x) | none=>none
  | .alloc t=>match ybt P t with | some x=>(match zeroCells x with | some z=>some (.alloc z) | none=>none) | none=>none
  | .box _ x=>match opd x with | some x=>some (.box x) | none=>none
  | .load t p=>match ybt P t,opd p with | some x,some p=>some (.ld (ypg x.desc) x.size p) | _,_=>none
  | .store t p x=>match ybt P t,opd p,opd x with | some ti,some p,some x=>some (.st ti.size p x) | _,_,_=>none
  | .makeSlice t l m=>
    match yrk P t,opd l,opd m with
    | some xe,some l,some m=>match zeroCells xe with | some z=>if 0 < xe.size/\xe.bytes<=256/\z.length=xe.size then some (.mks xe.size (ydn [] z) l m) else none | none=>none
    | _,_,_=>none
  | .buildSlice t len parts=>
    match yrk P t,ylu parts.toList with
    | some xe,some ps=>match zeroCells xe with | some z=>if 0 < xe.size/\xe.bytes<=256/\z.length=xe.size/\len * xe.size<=16777216 then some (.bsl xe.size (ydn [] z) len ps) else none | none=>none
    | _,_=>none
  | .call { callee,args,argTypes }=>
    match yqr args.toList with
    | some as=>
      match callee with
      | .builtin b=>yki P b as argTypes.toList
      | .value (.func f)=>some (.call f as)
      | .value x=>match opd x with | some g=>some (.callv g as) | none=>none
      | _=>none
    | none=>none
  | _=>none
def yacv(P:Program)(all:List Oper)(o:Oper):Option Iop:=
  match ykx P o.op with
  | some ip=>
    match o.guard with
    | none=>some ⟨o.dst,none,ip⟩
    | some (j,want)=>
      match all[j]? with
      | some q=>match q.dst with | some d=>some ⟨o.dst,some (d,want),ip⟩ | none=>none
      | none=>none
  | none=>none
def ymg(P:Program)(all:List Oper):List Oper->Option (List Iop)
  | []=>some []
  | o :: r=>
    match yacv P all o,ymg P all r with
    | some a,some l=>some (a :: l)
    | _,_=>none
def yhy(P:Program):Code->Option IC
  | .skip=>some .skip
  | .region _ ops draw=>
    match ymg P ops.toList ops.toList with
    | some l=>if draw=true then none else some (.reg none l)
    | none=>none
  | .seq a b=>match yhy P a,yhy P b with | some x,some y=>some (.seq x y) | _,_=>none
  | .cond x a b=>match opd x,yhy P a,yhy P b with | some x,some a,some b=>some (.cond x a b) | _,_,_=>none
  | .ret=>some .ret
  | _=>none
def ybkg(es:Nat)(z:List AV):IC:=
  .seq (.reg none [⟨some 2,none,.mv (.c .nil)⟩])
    (.seq (.seq (.reg none [⟨some 3,none,.mv (.t 0)⟩,⟨some 4,none,.eqn false (.t 3)⟩]) (.cond (.t 4) (.seq (.reg none [⟨some 2,none,.mv (.c .nil)⟩]) .ret) .skip))
      (.seq (.reg none [⟨some 5,none,.bsl es z 0 []⟩,⟨some 6,none,.mv (.t 0)⟩,⟨some 7,none,.app es (.t 5) (.t 6)⟩,⟨some 2,none,.mv (.t 7)⟩]) .ret))
def mvB(d n:Nat):Iop->Bool
  | ⟨some e,none,.mv (.t k)⟩=>Nat.beq d e && Nat.beq n k
  | _=>false
def mvN(d:Nat):Iop->Bool
  | ⟨some e,none,.mv (.c .nil)⟩=>Nat.beq d e
  | _=>false
def eqnB(d n:Nat):Iop->Bool
  | ⟨some e,none,.eqn false (.t k)⟩=>Nat.beq d e && Nat.beq n k
  | _=>false
def appB(d a b es:Nat):Iop->Bool
  | ⟨some e,none,.app es' (.t i) (.t j)⟩=>Nat.beq d e && (Nat.beq a i && (Nat.beq b j && Nat.beq es es'))
  | _=>false
def yari:IC->Option Nat
  | .seq (.reg none [o1]) (.seq (.seq (.reg none [o2,o3]) (.cond (.t x) (.seq (.reg none [o4]) .ret) .skip)) (.seq (.reg none [⟨some d,none,.bsl es _ 0 []⟩,o6,o7,o8]) .ret))=>
    if (mvN 2 o1 && (mvB 3 0 o2 && (eqnB 4 3 o3 && (Nat.beq x 4 && (mvN 2 o4 && (Nat.beq d 5 && (mvB 6 0 o6 && (appB 7 5 6 es o7 && mvB 2 7 o8)))))))) = true then some es else none
  | _=>none
def ycde:List ResultVar->Bool
  | [.tmp t]=>Nat.beq t 2
  | _=>false
def yaav(P:Program)(f:Nat):Option Nat:=
  match P.funcs[f]? with
  | some fn=>
    if fn.origin == "slices.Clone" then
     match fn.body with
     | some body=>
       match yhy P body with
       | some ic=>if (Nat.beq fn.ntmps 8 && (ycde fn.results.toList && !(fn.name == "runtime.NumGoroutine"))) = true then yari ic else none
       | none=>none
     | none=>none
    else none
  | none=>none
def yalp(P:Program):Op->Option IP
  | .call { callee:=.value (.func f),args:=args,argTypes:=_ }=>
    match args.toList with
    | [x]=>match yaav P f,opd x with | some es,some x=>some (.cln es x) | _,_=>none
    | _=>none
  | _=>none
def comp(P:Program)(o:Op):Option IP:=
  match yalp P o with
  | some ip=>some ip
  | none=>match ykx P o with | some ip=>some ip | none=>some .no
def yxd(P:Program)(all:List Oper)(o:Oper):Option Iop:=
  match comp P o.op with
  | some ip=>
    match o.guard with
    | none=>some ⟨o.dst,none,ip⟩
    | some (j,want)=>
      match all[j]? with
      | some q=>match q.dst with | some d=>some ⟨o.dst,some (d,want),ip⟩ | none=>none
      | none=>none
  | none=>none
def yie(P:Program)(all:List Oper):List Oper->Option (List Iop)
  | []=>some []
  | o :: r=>
    match yxd P all o,yie P all r with
    | some a,some l=>some (a :: l)
    | _,_=>none
def ycq:IP->List Opd
  | .mv x=>[x]
  | .pick b x y=>[b,x,y]
  | .bin _ x y=>[x,y]
  | .eqb _ x y=>[x,y]
  | .eqc _ _ x y=>[x,y]
  | .eqn _ x=>[x]
  | .ngt x=>[x]
  | .nt x=>[x]
  | .cvt _ x=>[x]
  | .cst x=>[x]
  | .build _ ps=>ps.map fun p=>p.2.2
  | .fld _ _ _ x=>[x]
  | .ext _ x=>[x]
  | .fa _ x=>[x]
  | .ias _ x i=>[x,i]
  | .iaa _ _ x i=>[x,i]
  | .ixs x i=>[x,i]
  | .ixa _ _ _ x i=>[x,i]
  | .sls x lo hi=>x :: (lo.toList++hi.toList)
  | .sll _ x lo hi mx=>x :: (lo.toList++(hi.toList++mx.toList))
  | .mkf _ pre post=>pre++post
  | .nc x=>[x]
  | .lens x=>[x]
  | .lenl x=>[x]
  | .mx x y=>[x,y]
  | .mn x y=>[x,y]
  | .alloc _=>[]
  | .box x=>[x]
  | .ld _ _ p=>[p]
  | .st _ p x=>[p,x]
  | .mks _ _ l m=>[l,m]
  | .bsl _ _ _ ps=>ps.map fun p=>p.2
  | .s2b x=>[x]
  | .b2s x=>[x]
  | .app _ x y=>[x,y]
  | .cpy _ x y=>[x,y]
  | .cln _ x=>[x]
  | .clr _ _ x=>[x]
  | .no=>[]
  | .call _ args=>args
  | .callv g args=>g :: args
def yht:IP->Bool
  | .ld _ _ _=>false
  | .st _ _ _=>false
  | .alloc _=>false
  | .box _=>false
  | .mks _ _ _ _=>false
  | .bsl _ _ _ _=>false
  | .s2b _=>false
  | .b2s _=>false
  | .app _ _ _=>false
  | .cpy _ _ _=>false
  | .cln _ _=>false
  | .clr _ _ _=>false
  | .no=>false
  | .call _ _=>false
  | .callv _ _=>false
  | _=>true
def ldB:IP->Bool
  | .ld _ _ _=>true
  | _=>false
def yads(t:Nat):List Opd->Bool
  | []=>false
  | .t n :: r=>Nat.beq n t || yads t r
  | .c _ :: r=>yads t r
def yyp(t:Nat)(o:Iop):Bool:=
  yads t (ycq o.op) || match o.guard with | some (d,_)=>Nat.beq d t | none=>false
def yaqx(x y:Iop):Bool:=
  (match x.dst with | some d=>!(yyp d y) && (match y.dst with | some e=>!(Nat.beq d e) | none=>true) | none=>true) &&
  (match y.dst with | some e=>!(yyp e x) | none=>true)
def yuc(i j:Nat)(x y:Iop):Option (List (Nat × Nat)):=
  if yaqx x y=true then (if (yht x.op || (yht y.op || (ldB x.op && ldB y.op))) = true then some [] else some [(i,j)]) else none
def yakm(j a:Nat)(y:Iop):Nat->List Iop->Option (List (Nat × Nat))
  | _,[]=>some []
  | i,x :: r=>
    match yakm j a y (i + 1) r with
    | some l=>if Nat.testBit a i=true then some l else match yuc i j x y with | some k=>some (k++l) | none=>none
    | none=>none
def yacu(acc:List Nat):List Edge->Option Nat
  | []=>some 0
  | e :: r=>
    if Region.binds .any e=true then
     match acc[e.on]?,yacu acc r with
     | some a,some m=>some (m ||| (a ||| 1 <<< e.on))
     | _,_=>none
    else yacu acc r
def yqj(ios:List Iop):List Oper->List Iop->List Nat->Option (List (Nat × Nat))
  | [],[],_=>some []
  | o :: r,y :: q,acc=>
    match yacu acc o.after.toList with
    | some a=>
      match yakm acc.length a y 0 (ios.take acc.length),yqj ios r q (acc++[a]) with
      | some k,some l=>some (k++l)
      | _,_=>none
    | none=>none
  | _,_,_=>none
def ydm(P:Program):Code->Option IC
  | .skip=>some .skip
  | .label _=>some .skip
  | .region _ ops draw=>
    match yie P ops.toList ops.toList with
    | some l=>if draw=true then (match yqj l ops.toList l [] with | some k=>some (.reg (some k) l) | none=>none) else some (.reg none l)
    | none=>none
  | .seq a b=>match ydm P a,ydm P b with | some x,some y=>some (.seq x y) | _,_=>none
  | .cond x a b=>match opd x,ydm P a,ydm P b with | some x,some a,some b=>some (.cond x a b) | _,_,_=>none
  | .block id b=>match ydm P b with | some b=>some (.block id b) | none=>none
  | .loop b=>match ydm P b with | some b=>some (.loop b) | none=>none
  | .exit id=>some (.out id)
  | .ret=>some .ret
  | _=>none
def ypr(P:Program):List ResultVar->Option (List IR)
  | []=>some []
  | .tmp t :: r=>match ypr P r with | some l=>some (.tmp t :: l) | none=>none
  | .cell a t :: r=>match ybt P t,ypr P r with | some x,some l=>some (.cell a (ypg x.desc) x.size :: l) | _,_=>none
def ybq(P:Program)(live:List Nat)(fn:Func):Option IFn:=
  if fn.name == "runtime.NumGoroutine" then none else
  match fn.body with
  | some body=>
    match ydm P body,ypr P fn.results.toList with
    | some b,some r=>some ⟨fn.ntmps,live,r,b⟩
    | _,_=>none
  | none=>none
def nowN{α:Type}(n:Nat)(k:Nat->α):α:=
  match n with
  | 0=>k 0
  | p + 1=>k (p + 1)
def nowI{α:Type}(n:Int)(k:Int->α):α:=
  match n with
  | .ofNat m=>nowN m fun m=>k (.ofNat m)
  | .negSucc m=>nowN m fun m=>k (.negSucc m)
def nowB{α:Type}(b:Bool)(k:Bool->α):α:=
  match b with
  | true=>k true
  | false=>k false
def asI:AV->Option Int
  | .int _ n=>some n
  | _=>none
def yoq(k:IntKind)(n:Int):Option AV:=nowI n fun n=>some (.int k n)
def ymo(b:Bool):Option AV:=nowB b fun b=>some (.bool b)
def yqo(n:Int):AV:=.int .i64 n
def andI(k:IntKind)(a b:Int):Int:=k.wrap (BitVec.ofInt k.bits a &&& BitVec.ofInt k.bits b).toNat
def orI(k:IntKind)(a b:Int):Int:=k.wrap (BitVec.ofInt k.bits a ||| BitVec.ofInt k.bits b).toNat
def xorI(k:IntKind)(a b:Int):Int:=k.wrap (BitVec.ofInt k.bits a ^^^ BitVec.ofInt k.bits b).toNat
def yep(op:BinOp)(k:IntKind)(a b:Int):Option AV:=
  match op with
  | .add=>yoq k (k.wrap (a + b))
  | .sub=>yoq k (k.wrap (a - b))
  | .mul=>yoq k (k.wrap (a * b))
  | .quo=>if b=0 then none else yoq k (k.wrap (a.tdiv b))
  | .rem=>if b=0 then none else yoq k (a.tmod b)
  | .eql=>ymo (a == b)
  | .neq=>ymo (a != b)
  | .lss=>ymo (decide (a < b))
  | .leq=>ymo (decide (a<=b))
  | .gtr=>ymo (decide (b < a))
  | .geq=>ymo (decide (b<=a))
  | .shl=>if b < 0 then none else yoq k (k.wrap (a * 2 ^ (min b.toNat k.bits)))
  | .shr=>if b < 0 then none else yoq k (a.fdiv (2 ^ (min b.toNat k.bits)))
  | .and=>yoq k (andI k a b)
  | .or=>yoq k (orI k a b)
  | .xor=>yoq k (xorI k a b)
  | _=>none
def ymt(op:BinOp)(a b:ByteArray):Option AV:=
  match op with
  | .add=>if a.size + b.size<=1099511627776 then some (.str (a++b)) else none
  | .eql=>ymo (a.toList == b.toList)
  | .neq=>ymo (!(a.toList == b.toList))
  | .lss=>ymo (Op.bytesLess a.toList b.toList)
  | .leq=>ymo (Op.bytesLess a.toList b.toList || a.toList == b.toList)
  | .gtr=>ymo (!(Op.bytesLess a.toList b.toList || a.toList == b.toList))
  | .geq=>ymo (!(Op.bytesLess a.toList b.toList))
  | _=>none
def shB:BinOp->Bool
  | .shl=>true
  | .shr=>true
  | _=>false
def yvs(op:BinOp)(x y:AV):Option AV:=
  match x,y with
  | .int k a,.int k' b=>if shB op=true\/k=k' then yep op k a b else none
  | .str a,.str b=>ymt op a b
  | _,_=>none
def ysu(q:Nat)(x y:AV):Option Bool:=
  match q,x,y with
  | 0,.bool a,.bool b=>some (a == b)
  | 1,.int k a,.int k' b=>if k=k' then some (a == b) else none
  | 2,.str a,.str b=>some (a.toList == b.toList)
  | _,_,_=>none
def yha:List (Nat × Nat)->List AV->List AV->Option Bool
  | [],_,_=>some true
  | (i,q) :: r,xs,ys=>
    match xs[i]?,ys[i]? with
    | some x,some y=>
      match ysu q x y with
      | some true=>yha r xs ys
      | some false=>some false
      | none=>none
    | _,_=>none
def yaik(ng:Bool)(x y:AV):Option AV:=
  match x,y with
  | .bool a,.bool b=>ymo (if ng then !(a == b) else a == b)
  | _,_=>none
def yyc(ng:Bool)(l:List (Nat × Nat))(x y:AV):Option AV:=
  match x,y with
  | .agg xs,.agg ys=>match yha l xs ys with | some b=>ymo (if ng then !b else b) | none=>none
  | _,_=>none
def ybhn:AV->Option Bool
  | .nil=>some true
  | .imm _ rows _=>if rows.isEmpty=true then none else some false
  | .own _ _ _ len _=>if len=0 then none else some false
  | _=>none
def ybco(ng:Bool)(x:AV):Option AV:=
  match ybhn x with
  | some b=>ymo (if ng then !b else b)
  | none=>none
def yakb(x:AV):Option AV:=
  match x with
  | .int k n=>yoq k (k.wrap (0 - n))
  | _=>none
def ntAV(x:AV):Option AV:=
  match x with
  | .bool b=>ymo (!b)
  | _=>none
def yaii(k:IntKind)(x:AV):Option AV:=
  match x with
  | .int _ n=>yoq k (k.wrap n)
  | _=>none
def ybcj(x:AV):Option AV:=
  match x with
  | .str b=>some (.str b)
  | _=>none
def yakf(b x y:AV):Option AV:=
  match b with
  | .bool b=>some (if b=true then x else y)
  | _=>none
def part(a:Bool)(size:Nat)(cs:List AV)(off:Nat):Option AV:=
  if a=true then
   if off + size<=cs.length then some (.agg ((cs.drop off).take size)) else none
  else
    match cs[off]? with
    | some v=>if yfb v=true then some v else none
    | none=>none
def ycp:List AV->Nat->List AV->List AV
  | [],_,_=>[]
  | c :: cs,0,v :: vs=>v :: ycp cs 0 vs
  | c :: cs,0,[]=>c :: cs
  | c :: cs,n + 1,vs=>c :: ycp cs n vs
def ysf(cells:List AV):List (Nat × Nat × AV)->Option (List AV)
  | []=>some cells
  | (off,size,v) :: r=>
    match cellsOf v with
    | some vs=>if vs.length=size/\off + size<=cells.length then ysf (ycp cells off vs) r else none
    | none=>none
def yxb(z:List AV)(parts:List (Nat × Nat × AV)):Option AV:=
  match ysf z parts with
  | some cs=>some (.agg cs)
  | none=>none
def yapj(a:Bool)(size off:Nat)(x:AV):Option AV:=
  match x with
  | .agg cs=>part a size cs off
  | _=>none
def yapi(i:Nat)(x:AV):Option AV:=
  match x with
  | .tup vs=>vs[i]?
  | _=>none
def faAV(off:Nat)(x:AV):Option AV:=
  match x with
  | .ptr id o=>some (.ptr id (o + off))
  | .eptr id i g=>some (.eptr id i (g + off))
  | .iptr row g=>some (.iptr row (g + off))
  | _=>none
def yof(size:Nat)(x i:AV):Option AV:=
  match x,i with
  | .imm es rows _,.int _ n=>
    if es=size/\0<=n then
     match rows[n.toNat]? with
     | some row=>some (.iptr row 0)
     | none=>none
    else none
  | .own es id off len _,.int _ n=>if es=size/\0<=n/\n < len then some (.eptr id (off + n.toNat) 0) else none
  | _,_=>none
def ysh(size len:Nat)(x i:AV):Option AV:=
  match x,i with
  | .ptr id off,.int _ n=>if 0<=n/\n < len then some (.ptr id (off + n.toNat * size)) else none
  | .eptr id j f,.int _ n=>if 0<=n/\n < len then some (.eptr id j (f + n.toNat * size)) else none
  | .iptr row f,.int _ n=>if 0<=n/\n < len then some (.iptr row (f + n.toNat * size)) else none
  | _,_=>none
def yyl(x i:AV):Option AV:=
  match x,i with
  | .str s,.int _ n=>
    if 0<=n then
     match s.data.toList[n.toNat]? with
     | some b=>some (.int .u8 b.toNat)
     | none=>none
    else none
  | _,_=>none
def yadl(a:Bool)(size len:Nat)(x i:AV):Option AV:=
  match x,i with
  | .agg cs,.int _ n=>if 0<=n/\n < len then part a size cs (n.toNat * size) else none
  | _,_=>none
def ykz:Option AV->Option (Option Int)
  | none=>some none
  | some v=>match asI v with | some n=>some (some n) | none=>none
def yji(n:Nat)(ex:Bool)(lo hi mx:Option AV):Option (Nat × Nat × Bool):=
  match ykz lo,ykz hi,ykz mx with
  | some l,some h,some m=>
    if (0:Int)<=l.getD 0/\l.getD 0<=h.getD n/\h.getD n<=m.getD n/\m.getD n<=(n:Int)/\(m.isSome=true->h.isSome=true) then
     some ((l.getD 0).toNat,(h.getD n).toNat,(m.isSome || ex) && h.getD n == m.getD n)
    else none
  | _,_,_=>none
def ymm(x:AV)(lo hi:Option AV):Option AV:=
  match x with
  | .str s=>
    match yji s.size false lo hi none with
    | some (l,h,_)=>some (.str (s.extract l h))
    | none=>none
  | _=>none
def yhg(size:Nat)(x:AV)(lo hi mx:Option AV):Option AV:=
  match x with
  | .nil=>
    match yji 0 true lo hi mx with
    | some _=>some .nil
    | none=>none
  | .imm es rows ex=>
    if yip size es rows=true then
     match yji rows.length ex lo hi mx with
     | some (l,h,ex')=>some (.imm (yoo ((rows.take h).drop l)) ((rows.take h).drop l) ex')
     | none=>none
    else none
  | .own es id off len ex=>
    if es=size then
     match yji len ex lo hi mx with
     | some (l,h,ex')=>some (.own es id (off + l) (h - l) ex')
     | none=>none
    else none
  | _=>none
def ncAV(x:AV):Option AV:=
  match x with
  | .ptr id off=>some (.ptr id off)
  | .eptr id i f=>some (.eptr id i f)
  | .iptr row f=>some (.iptr row f)
  | .fn (.func f) pre post=>some (.fn (.func f) pre post)
  | _=>none
def yajv(x:AV):Option AV:=
  match x with
  | .str s=>some (yqo s.size)
  | _=>none
def ymz(x:AV):Option AV:=
  match x with
  | .nil=>some (yqo 0)
  | .imm _ rows _=>some (yqo rows.length)
  | .own _ _ _ len _=>some (yqo len)
  | _=>none
def mxAV(x y:AV):Option AV:=
  match x,y with
  | .int k a,.int k' b=>if k=k' then yoq k (if a < b then b else a) else none
  | _,_=>none
def mnAV(x y:AV):Option AV:=
  match x,y with
  | .int k a,.int k' b=>if k=k' then yoq k (if b < a then b else a) else none
  | _,_=>none
structure St where
  env:List (Nat × AV)
  loc:List (Nat × AV)
  H:yr
  nx:Nat
def getL(loc env:List (Nat × AV))(t:Nat):AV:=
  Option.rec (Option.rec .bad (fun v=>v) (lk env t)) (fun v=>v) (lk loc t)
def St.get(s:St)(t:Nat):AV:=getL s.loc s.env t
def St.put(s:St)(d:Nat)(v:AV):St:=
  Option.rec ⟨s.env,(d,v) :: s.loc,s.H,s.nx⟩ (fun e=>⟨e,s.loc,s.H,s.nx⟩) (upd s.env d v)
def St.putO(s:St)(d:Option Nat)(v:AV):St:=
  match d with
  | none=>s
  | some d=>s.put d v
def St.ev(s:St):Opd->AV
  | .t n=>s.get n
  | .c v=>v
def St.evs(s:St):List Opd->List AV
  | []=>[]
  | x :: r=>s.ev x :: s.evs r
def St.evo(s:St):Option Opd->Option AV
  | none=>none
  | some x=>some (s.ev x)
def St.evp(s:St):List (Nat × Opd)->List (Nat × AV)
  | []=>[]
  | (i,x) :: r=>(i,s.ev x) :: s.evp r
def St.evq(s:St):List (Nat × Nat × Opd)->List (Nat × Nat × AV)
  | []=>[]
  | (i,j,x) :: r=>(i,j,s.ev x) :: s.evq r
def St.add(s:St)(o:Ob):St:={ s with H:=(s.nx,o) :: s.H,nx:=s.nx + 1 }
def St.setH(s:St)(H:yr):St:={ s with H:=H }
def yka(a:Bool)(size:Nat)(H:yr)(p:AV):Option AV:=
  match p with
  | .ptr id off=>match lk H id with | some (.box cells)=>part a size cells off | _=>none
  | .eptr id i f=>
    match lk H id with
    | some (.arr _ rows _)=>match rows[i]? with | some row=>part a size row f | none=>none
    | some (.arx _ rows)=>match rows[i]? with | some row=>part a size row f | none=>none
    | _=>none
  | .iptr row f=>part a size row f
  | _=>none
def yvk(size:Nat)(H:yr)(id i f es:Nat)(rows:List (List AV))(v:AV):Option yr:=
  match cellsOf v,rows[i]? with
  | some vs,some row=>if vs.length=size/\f + vs.length<=row.length/\ydk vs=true then upd H id (.arx es (rows.set i (ycp row f vs))) else none
  | _,_=>none
def ynv(size:Nat)(H:yr)(p v:AV):Option yr:=
  match p with
  | .ptr id off=>
    match lk H id,cellsOf v with
    | some (.box cells),some vs=>
      if vs.length=size/\off + vs.length<=cells.length/\ydk vs=true then upd H id (.box (ycp cells off vs)) else none
    | _,_=>none
  | .eptr id i f=>
    match cellsOf (frz H v),lk (ybv H v) id with
    | some vs,some (.arr es rows leak)=>
      match rows[i]? with
      | some row=>
        if vs.length=size/\f + vs.length<=row.length/\leak<=i/\ygk vs=true/\ydk vs=true then
         upd (ybv H v) id (.arr es (rows.set i (ycp row f vs)) leak)
        else none
      | none=>none
    | some _,some (.arx es rows)=>yvk size H id i f es rows v
    | _,_=>none
  | _=>none
def yfp(es:Nat)(H:yr):List (List AV)->List (Nat × AV)->Option (List (List AV))
  | rows,[]=>some rows
  | rows,(i,v) :: r=>
    match cellsOf (frz H v) with
    | some vs=>if vs.length=es/\i < rows.length/\ygk vs=true/\ydk vs=true then yfp es H (rows.set i vs) r else none
    | none=>none
def yfl(H:yr):List (Nat × AV)->yr
  | []=>H
  | (_,v) :: r=>yfl (ybv H v) r
def yno:Nat:=549755813888
def yxc(b:UInt8):List AV:=[.int .u8 b.toNat]
def yiv(s:ByteArray):List (List AV):=s.data.toList.map yxc
def bytesOf:List (List AV)->Option (List UInt8)
  | []=>some []
  | [.int .u8 n] :: r=>match bytesOf r with | some l=>some (UInt8.ofNat n.toNat :: l) | none=>none
  | _ :: _=>none
def ydc(es:Nat)(H:yr)(v:AV):Option (List (List AV)):=
  match v with
  | .str s=>if es=1 then some (yiv s) else none
  | v=>yei es H v
def ycu(s:St)(es:Nat)(rows:List (List AV)):Option (AV × St):=
  if rows.length<=yno then some (.own es s.nx 0 rows.length false,s.add (.arr es rows 0)) else none
def yio(es:Nat)(s:St)(base x:AV):Option (AV × St):=
  match ydc es s.H x with
  | some new=>
    match base with
    | .nil=>ycu s es new
    | .imm es' rows ex=>
      if yip es es' rows=true/\ex=true then
       if rows.length=0 then ycu s es new
       else if 0 < new.length then ycu s es (rows++new) else none
      else none
    | .own es' id off len ex=>
      if es' = es then
       match lk s.H id with
       | some (.arr _ rows leak)=>
         if ex=true then
          if len=0 then ycu s es new
          else if 0 < new.length/\off + len<=rows.length then ycu s es ((rows.drop off).take len++new) else none
         else if off=0/\len<=rows.length/\leak<=len/\len + new.length<=yno then
           some (.own es s.nx 0 (len + new.length) false,(s.setH (rmv s.H id)).add (.arr es (rows.take len++new) leak))
         else none
       | _=>none
      else none
    | _=>none
  | none=>none
def ygw:List (List AV)->Nat->List (List AV)->List (List AV)
  | [],_,_=>[]
  | r :: rs,0,n :: ns=>n :: ygw rs 0 ns
  | r :: rs,0,[]=>r :: rs
  | r :: rs,k + 1,ns=>r :: ygw rs k ns
def yoe(es:Nat)(s:St)(dst x:AV):Option (AV × St):=
  match ydc es s.H x,dst with
  | some src,.own es' id off len _=>
    if es' = es then
     match lk s.H id with
     | some (.arr es2 rows leak)=>
       if leak<=off/\off + (src.take len).length<=rows.length then
        match upd s.H id (.arr es2 (ygw rows off (src.take len)) leak) with
        | some H=>some (yqo (src.take len).length,s.setH H)
        | none=>none
       else none
     | _=>none
    else none
  | some _,.nil=>some (yqo 0,s)
  | _,_=>none
def yts(es:Nat)(z:List AV)(s:St)(l m:AV):Option (AV × St):=
  match l,m with
  | .int .i64 n,.int .i64 c=>
    if 0<=n/\n<=c/\c<=(yno:Int) then
     some (.own es s.nx 0 n.toNat (n == c),s.add (.arr es (List.replicate n.toNat z) 0))
    else none
  | _,_=>none
def ysd(es:Nat)(z:List AV)(len:Nat)(s:St)(parts:List (Nat × AV)):Option (AV × St):=
  match yfp es s.H (List.replicate len z) parts with
  | some rows=>some (.own es s.nx 0 len true,(s.setH (yfl s.H parts)).add (.arr es rows 0))
  | none=>none
def ytt(s:St)(x:AV):Option (AV × St):=
  match x with
  | .str str=>some (ycr (yiv str),s.add (.box []))
  | _=>none
def yme(es:Nat)(s:St)(x:AV):Option (AV × St):=
  match yei es s.H x with
  | some rows=>ycu s es rows
  | none=>none
def clnY(es:Nat)(s:St)(x:AV):Option (AV × St):=
  match yei es s.H x with
  | some rows=>if rows.length<=yno then some (.own es s.nx 0 rows.length false,s.add (bif rows.isEmpty then .arr es rows 0 else .arx es rows)) else none
  | none=>none
def yxz(ax es:Nat)(s:St)(x:AV):Option (AV × St):=
  match ax with
  | 0=>yme es s x
  | k + 1=>bif Nat.beq es (k + 1) then clnY es s x else yme es s x
def ymf(es:Nat)(z:List AV)(s:St)(x:AV):Option (AV × St):=
  match x with
  | .own es' id off len _=>
    if es' = es then
     match lk s.H id with
     | some (.arr es2 rows leak)=>
       if leak<=off/\off + len<=rows.length then
        match upd s.H id (.arr es2 (ygw rows off (List.replicate len z)) leak) with
        | some H=>some (.tup [],s.setH H)
        | none=>none
       else none
     | some (.arx es2 rows)=>
       if off + len<=rows.length then
        match upd s.H id (.arx es2 (ygw rows off (List.replicate len z))) with
        | some H=>some (.tup [],s.setH H)
        | none=>none
       else none
     | _=>none
    else none
  | .nil=>some (.tup [],s)
  | _=>none
def ytk(H:yr)(x:AV):Option AV:=
  match yei 1 H x with
  | some rows=>match bytesOf rows with | some l=>some (.str ⟨l.toArray⟩) | none=>none
  | none=>none
abbrev Callee:=Nat->List AV->yr->Nat->Option (AV × yr × Nat)
structure Cfg where
  P:Program
  fn:Nat->Option IFn
  pr:Callee:=fun _ _ _ _=>none
  fz:Nat->Bool
  ax:Nat:=0
def yge(l:List Nat)(m n1 nx:Nat)(j:Nat):Option Nat:=if j < m then l[j]? else if j < n1 then some (nx + (j - m)) else none
def yhs(H:yr):Nat->yr
  | 0=>[]
  | n + 1=>match lk H n with | some o=>yhs H n++[(n,o)] | none=>yhs H n
def yem:yr->List Nat->yr
  | H,[]=>H
  | H,id :: r=>yem (rmv H id) r
def yql(s:St)(args:List AV)(r:AV):Option (AV × St):=
  if ycg r=true then some (r,s) else if ygf r=true then some (r,s.setH (yeu s.H args)) else none
def yfi(c:Cfg)(cl:Callee)(s:St)(f:Nat)(args:List AV):Option (AV × St):=
  if c.fz f=true then
   match cl f (ydn s.H args) [] 0 with
   | some (r,H1,_)=>yql s args (frz H1 r)
   | none=>none
  else
    match yba s.H yfk args [] with
    | l=>
      match cl f (yjb (pos l) args) (yhs (ycy (pos l) s.H) l.length) l.length with
      | some (r,H1,n1)=>
        some (ren (yge l l.length n1 s.nx) r,{ s with H:=ycy (yge l l.length n1 s.nx) H1++yem s.H l,nx:=s.nx + (n1 - l.length) })
      | none=>none
def ypp(c:Cfg)(cl:Callee)(s:St)(g:AV)(args:List AV):Option (AV × St):=
  match g with
  | .fn (.func f) pre post=>yfi c cl s f (pre++(args++post))
  | _=>none
def keep(s:St)(v:Option AV):Option (AV × St):=
  match v with
  | some v=>some (v,s)
  | none=>none
def ybi(c:Cfg)(cl:Callee)(s:St):IP->Option (AV × St)
  | .mv x=>some (s.ev x,s)
  | .pick b x y=>keep s (yakf (s.ev b) (s.ev x) (s.ev y))
  | .bin op x y=>keep s (yvs op (s.ev x) (s.ev y))
  | .eqb ng x y=>keep s (yaik ng (s.ev x) (s.ev y))
  | .eqc ng l x y=>keep s (yyc ng l (s.ev x) (s.ev y))
  | .eqn ng x=>keep s (ybco ng (s.ev x))
  | .ngt x=>keep s (yakb (s.ev x))
  | .nt x=>keep s (ntAV (s.ev x))
  | .cvt k x=>keep s (yaii k (s.ev x))
  | .cst x=>keep s (ybcj (s.ev x))
  | .build z ps=>keep s (yxb z (s.evq ps))
  | .fld a size off x=>keep s (yapj a size off (s.ev x))
  | .ext i x=>keep s (yapi i (s.ev x))
  | .fa off x=>keep s (faAV off (s.ev x))
  | .ias size x i=>keep s (yof size (s.ev x) (s.ev i))
  | .iaa size len x i=>keep s (ysh size len (s.ev x) (s.ev i))
  | .ixs x i=>keep s (yyl (s.ev x) (s.ev i))
  | .ixa a size len x i=>keep s (yadl a size len (s.ev x) (s.ev i))
  | .sls x lo hi=>keep s (ymm (s.ev x) (s.evo lo) (s.evo hi))
  | .sll size x lo hi mx=>keep s (yhg size (s.ev x) (s.evo lo) (s.evo hi) (s.evo mx))
  | .mkf f pre post=>some (.fn (.func f) (s.evs pre) (s.evs post),s)
  | .nc x=>keep s (ncAV (s.ev x))
  | .lens x=>keep s (yajv (s.ev x))
  | .lenl x=>keep s (ymz (s.ev x))
  | .mx x y=>keep s (mxAV (s.ev x) (s.ev y))
  | .mn x y=>keep s (mnAV (s.ev x) (s.ev y))
  | .alloc z=>some (.ptr s.nx 0,s.add (.box z))
  | .box x=>
    match cellsOf (s.ev x) with
    | some cs=>if ydk cs=true then some (.ptr s.nx 0,s.add (.box cs)) else none
    | none=>none
  | .ld a size p=>keep s (yka a size s.H (s.ev p))
  | .st size p x=>match ynv size s.H (s.ev p) (s.ev x) with | some H=>some (.un,s.setH H) | none=>none
  | .mks es z l m=>yts es z s (s.ev l) (s.ev m)
  | .bsl es z len ps=>ysd es z len s (s.evp ps)
  | .s2b x=>ytt s (s.ev x)
  | .b2s x=>keep s (ytk s.H (s.ev x))
  | .app es x y=>yio es s (s.ev x) (s.ev y)
  | .cpy es x y=>yoe es s (s.ev x) (s.ev y)
  | .cln es x=>yxz c.ax es s (s.ev x)
  | .clr es z x=>ymf es z s (s.ev x)
  | .no=>none
  | .call f args=>yfi c cl s f (s.evs args)
  | .callv g args=>ypp c cl s (s.ev g) (s.evs args)
def yis(s:St)(g:Option (Nat × Bool)):Option Bool:=
  match g with
  | none=>some true
  | some (d,want)=>
    match s.get d with
    | .bool b=>some (b == want)
    | .un=>some false
    | _=>none
def ypa(nt:Nat):Option Nat->Bool
  | none=>true
  | some d=>Nat.blt d nt
def nowS(s:St):Option St:=
  match s with
  | ⟨e,l,H,n⟩=>some ⟨e,l,H,n⟩
def yiy(c:Cfg)(cl:Callee)(nt:Nat)(o:Iop)(s:St):Option St:=
  bif ypa nt o.dst then
    match yis s o.guard with
    | some b=>
      bif b then
        match ybi c cl s o.op with
        | some (v,s')=>nowS (s'.putO o.dst v)
        | none=>none
      else nowS (s.putO o.dst .un)
    | none=>none
  else none
def ymh(c:Cfg)(cl:Callee)(nt:Nat)(l:List Iop):St->Option St:=
  List.rec (fun s=>some s) (fun o _ ih s=>Option.rec none ih (yiy c cl nt o s)) l
inductive Ex where
  | norm
  | out (id:Nat)
  | ret
  deriving DecidableEq,Inhabited
def ygr:List (Nat × AV)->List AV
  | []=>[]
  | (_,v) :: r=>v :: ygr r
def ynr(f:Nat->Option Nat):List (Nat × AV)->List (Nat × AV)
  | []=>[]
  | (t,v) :: r=>(t,ren f v) :: ynr f r
def St.tidy(m:Nat)(s:St):St:=
  match ybr s.H m (ygr s.env) with
  | l=>{ env:=ynr (pos l) s.env,loc:=[],H:=ycy (pos l) s.H,nx:=l.length }
abbrev Run:=Option (Ex × St)
def yvh(x:Run)(f:St->Run):Run:=
  match x with
  | some (.norm,s)=>f s
  | r=>r
def yqc(id:Nat)(x:Run):Run:=
  match x with
  | some (.out j,s)=>if j=id then some (.norm,s) else some (.out j,s)
  | r=>r
def regK(x:Option St):Run:=
  match x with
  | some s=>some (.norm,{ s with loc:=[] })
  | none=>none
def yaph(v:AV)(a b:Run):Run:=
  match v with
  | .bool t=>bif t then a else b
  | _=>none
def St.head(m n0:Nat)(s:St):St:=bif Nat.beq s.nx n0 then s else s.tidy m
def yxe(m:Nat)(body:St->Run)(n:Nat):Nat->St->Run:=
  Nat.rec (fun _ _=>none) (fun _ ih n0 s=>yvh (body (s.head m n0)) (ih (s.head m n0).nx)) n
def evC(c:Cfg)(cl:Callee)(rg:List (Nat × Nat)->List Iop->St->Option St)(nt m n:Nat)(code:IC):St->Run:=
  IC.rec (fun s=>some (.norm,s))
    (fun draw ops s=>regK (Option.rec (ymh c cl nt ops s) (fun k=>rg k ops s) draw))
    (fun _ _ a b s=>yvh (a s) b)
    (fun x _ _ a b s=>yaph (s.ev x) (a s) (b s))
    (fun id _ b s=>yqc id (b s))
    (fun _ b s=>yxe m b n 0 s)
    (fun id s=>some (.out id,s))
    (fun s=>some (.ret,s))
    code
mutual
def ybk:AV->List Nat
  | .own _ id _ _ _=>[id]
  | .agg cs=>yfs cs
  | .tup cs=>yfs cs
  | _=>[]
def yfs:List AV->List Nat
  | []=>[]
  | v :: r=>ybk v++yfs r
end
def idL:AV->List Nat
  | .ptr id _=>[id]
  | .eptr id _ _=>[id]
  | _=>[]
structure yds where
  r:List Nat
  l:List Nat
  w:List Nat
def ycf:yds:=⟨[],[],[]⟩
def yro(x:Nat):List Nat->Bool
  | []=>false
  | y :: r=>Nat.beq y x || yro x r
def ybg(H:yr):Nat->List AV->List Nat->Option (List Nat)
  | 0,_,_=>none
  | _ + 1,[],acc=>some acc
  | n + 1,v :: todo,acc=>
    match v with
    | .own _ id _ _ _=>
      if id∈acc then ybg H n todo acc else
      match lk H id with
      | some o=>ybg H n (yadw o++todo) (acc++[id])
      | none=>none
    | .eptr id _ _=>
      if id∈acc then ybg H n todo acc else
      match lk H id with
      | some o=>ybg H n (yadw o++todo) (acc++[id])
      | none=>none
    | .ptr id _=>
      if id∈acc then ybg H n todo acc else
      match lk H id with
      | some (.box cells)=>ybg H n (cells++todo) (acc++[id])
      | some _=>ybg H n todo (acc++[id])
      | none=>none
    | .fn _ pre post=>ybg H n (pre++(post++todo)) acc
    | .agg cs=>ybg H n (cs++todo) acc
    | .tup cs=>ybg H n (cs++todo) acc
    | _=>ybg H n todo acc
def yln(c:Cfg)(s:St)(f:Nat)(L:List AV):Option yds:=
  if c.fz f=true then some ⟨[],yfs L,[]⟩ else
  match ybg s.H yfk L [] with
  | some l=>some ⟨[],[],l⟩
  | none=>none
def ybz(c:Cfg)(s:St):IP->Option yds
  | .ld _ _ p=>some ⟨idL (s.ev p),[],[]⟩
  | .st _ p x=>some ⟨[],[],idL (s.ev p)++ybk (s.ev x)⟩
  | .bsl _ _ _ ps=>some ⟨[],yfs (ygr (s.evp ps)),[]⟩
  | .app _ x y=>some ⟨ybk (s.ev y),[],ybk (s.ev x)⟩
  | .cpy _ x y=>some ⟨ybk (s.ev y),[],ybk (s.ev x)⟩
  | .cln _ x=>some ⟨ybk (s.ev x),[],[]⟩
  | .clr _ _ x=>some ⟨[],[],ybk (s.ev x)⟩
  | .b2s x=>some ⟨ybk (s.ev x),[],[]⟩
  | .call f args=>yln c s f (s.evs args)
  | .callv g args=>
    match s.ev g with
    | .fn (.func f) pre post=>yln c s f (pre++(s.evs args++post))
    | _=>none
  | _=>some ycf
def yiq(c:Cfg)(s:St)(o:Iop):Option yds:=
  match yis s o.guard with
  | some true=>ybz c s o.op
  | _=>some ycf
def atN(s:St)(q:Nat):St:=⟨s.env,s.loc,s.H,q⟩
def evN(c:Cfg)(cl:Callee)(nt base i:Nat)(o:Iop)(s:St):Option St:=
  match yiy c cl nt o (atN s (base + i * 64)) with
  | some s'=>if s'.nx<=base + i * 64 + 64 then some s' else none
  | none=>none
def yqk(c:Cfg)(cl:Nat->Callee)(nt base:Nat):List Iop->Nat->St->Option (St × List yds)
  | [],_,s=>some (s,[])
  | o :: r,i,s=>
    match yiq c s o,evN c (cl i) nt base i o s with
    | some f,some s'=>
      match yqk c cl nt base r (i + 1) s' with
      | some (sF,l)=>some (sF,f :: l)
      | none=>none
    | _,_=>none
def djB:List Nat->List Nat->Bool
  | [],_=>true
  | x :: r,b=>!(yro x b) && djB r b
def yuz(q:Nat):List Nat->Bool
  | []=>true
  | x :: r=>(Nat.blt x q || Nat.ble (q + 64) x) && yuz q r
def ybho(base i j:Nat)(x y:yds):Bool:=
  djB x.w (y.r++(y.l++y.w)) && (djB y.w (x.r++x.l) && (yuz (base + i * 64) (y.r++(y.l++y.w)) && yuz (base + j * 64) (x.r++(x.l++x.w))))
def yadq(base i j:Nat):Option yds->Option yds->Bool
  | some x,some y=>ybho base i j x y
  | _,_=>false
def yqt(base:Nat)(fs:List yds):List (Nat × Nat)->Bool
  | []=>true
  | (i,j) :: r=>yadq base i j fs[i]? fs[j]? && yqt base fs r
def yvw(c:Cfg)(cl:Nat->Callee)(nt:Nat)(k:List (Nat × Nat))(ios:List Iop)(s:St):Option St:=
  match yqk c cl nt s.nx ios 0 s with
  | some (s',fs)=>if yqt s.nx fs k=true then some ⟨s'.env,s'.loc,s'.H,s.nx + 65 * ios.length⟩ else none
  | none=>none
def yccd(c:Cfg)(cl:Callee)(nt:Nat)(k:List (Nat × Nat))(ios:List Iop)(s:St):Option St:=yvw c (fun _=>cl) nt k ios s
def yfv(s:St):List IR->Option (List AV)
  | []=>some []
  | .tmp t :: r=>match yfv s r with | some l=>some (s.get t :: l) | none=>none
  | .cell p a size :: r=>
    match yka a size s.H (s.get p),yfv s r with
    | some v,some l=>some (v :: l)
    | _,_=>none
def one:List AV->AV
  | [v]=>v
  | l=>.tup l
def yaz(args:List AV):List Nat->List (Nat × AV)
  | []=>[]
  | t :: r=>(t,match args[t]? with | some v=>v | none=>.un) :: yaz args r
def yns(m:Nat)(res:List IR)(x:Run):Option (AV × yr × Nat):=
  match x with
  | some (.out _,_)=>none
  | some (_,s)=>
    match yfv s res with
    | some vs=>
      match ybr s.H m vs with
      | l=>some (ren (pos l) (one vs),ycy (pos l) s.H,l.length)
    | none=>none
  | none=>none
mutual
def frzX(H:yr):AV->AV
  | .own es id off len ex=>
    match lk H id with
    | some (.arx _ rows)=>if off + len<=rows.length then ycr (((rows.drop off).take len).map (ydn H)) else .bad
    | _=>frz H (.own es id off len ex)
  | .agg cs=>.agg (yacw H cs)
  | .tup cs=>.tup (yacw H cs)
  | v=>frz H v
def yacw(H:yr):List AV->List AV
  | []=>[]
  | v :: r=>frzX H v :: yacw H r
end
def outX(b:Bool)(x:Option (AV × yr × Nat)):Option (AV × yr × Nat):=
  bif b then (match x with | some (r,H,n)=>some (frzX H r,[],n) | none=>none) else x
abbrev yahp:=Cfg->Callee->Nat->List (Nat × Nat)->List Iop->St->Option St
def ytl(c:Cfg)(dr:yahp):Nat->Callee
  | 0,_,_,_,_=>none
  | k + 1,f,args,H,m=>
    match c.fn f with
    | some fn=>
      if args.length<=fn.nt then
       outX (!(Nat.beq c.ax 0) && (Nat.beq m 0 && c.fz f)) (yns m fn.res (evC c (ytl c dr k) (dr c (ytl c dr k) fn.nt) fn.nt m k fn.body ⟨yaz args fn.live,[],H,m⟩))
      else none
    | none=>c.pr f args H m
section
variable {α:Type}
theorem yatr(t:Nat):lk ([]:List (Nat × α)) t=none:=rfl
theorem ybx(k:Nat)(v:α)(r:List (Nat × α))(t:Nat):lk ((k,v) :: r) t=if k=t then some v else lk r t:=by
  change Bool.rec (motive:=fun _=>Option α) (lk r t) (some v) (Nat.beq k t) = _
  cases h:Nat.beq k t
  .have:=Nat.ne_of_beq_eq_false h; simp [this]
  .have:=qy h; simp [this]
theorem ybbe(t:Nat)(x:α):upd ([]:List (Nat × α)) t x=none:=rfl
theorem yvl(k:Nat)(v x:α)(r:List (Nat × α))(t:Nat):upd ((k,v) :: r) t x=if k=t then some ((k,x) :: r) else (upd r t x).map ((k,v) :: ·):=by
  change Bool.rec (motive:=fun _=>Option (List (Nat × α))) (Option.rec (motive:=fun _=>Option (List (Nat × α))) none (fun r'=>some ((k,v) :: r')) (upd r t x)) (some ((k,x) :: r)) (Nat.beq k t) = _
  cases h:Nat.beq k t
  .have:=Nat.ne_of_beq_eq_false h; simp only [this,wn]; cases upd r t x <;> rfl
  .have:=qy h; simp [this]
theorem yban(t:Nat):rmv ([]:List (Nat × α)) t = []:=rfl
theorem yagq(k:Nat)(v:α)(r:List (Nat × α))(t:Nat):rmv ((k,v) :: r) t=if k=t then rmv r t else (k,v) :: rmv r t:=by
  change Bool.rec (motive:=fun _=>List (Nat × α)) ((k,v) :: rmv r t) (rmv r t) (Nat.beq k t) = _
  cases h:Nat.beq k t
  .have:=Nat.ne_of_beq_eq_false h; simp [this]
  .have:=qy h; simp [this]
theorem yamw(t:Nat):pos [] t=none:=rfl
theorem yyv(x:Nat)(r:List Nat)(t:Nat):pos (x :: r) t=if x=t then some 0 else (pos r t).map (·+ 1):=by
  change Bool.rec (motive:=fun _=>Option Nat) (Option.rec (motive:=fun _=>Option Nat) none (fun n=>some (n + 1)) (pos r t)) (some 0) (Nat.beq x t) = _
  cases h:Nat.beq x t
  .have:=Nat.ne_of_beq_eq_false h; simp only [this,wn]; cases pos r t <;> rfl
  .have:=qy h; simp [this]
end
def andThen(x:Option St)(f:St->Option St):Option St:=
  match x with
  | some s=>f s
  | none=>none
theorem yqb(s:St)(f:St->Option St):andThen (some s) f=f s:=rfl
theorem yqa(f:St->Option St):andThen none f=none:=rfl
theorem yavx(p:Prop)[Decidable p](a b:Option St)(f:St->Option St):andThen (if p then a else b) f=if p then andThen a f else andThen b f:=by split <;> rfl
def yyw(d:Option Nat)(x:Option (AV × St)):Option St:=
  match x with
  | some (v,s)=>some (s.putO d v)
  | none=>none
theorem yaol(d:Option Nat)(v:AV)(s:St):yyw d (some (v,s)) = some (s.putO d v):=rfl
theorem ybrn(d:Option Nat):yyw d none=none:=rfl
theorem ybyx(d:Option Nat)(p:Prop)[Decidable p](a b:Option (AV × St)):yyw d (if p then a else b) = if p then yyw d a else yyw d b:=by split <;> rfl
theorem ypu(s:St):nowS s=some s:=rfl
theorem yamq{α:Type}(n:Nat)(k:Nat->α):nowN n k=k n:=by cases n <;> rfl
theorem yamp{α:Type}(n:Int)(k:Int->α):nowI n k=k n:=by cases n <;> simp [nowI,yamq]
theorem yamo{α:Type}(n:Bool)(k:Bool->α):nowB n k=k n:=by cases n <;> rfl
theorem yfm(k:IntKind)(n:Int):yoq k n=some (.int k n):=by simp [yoq,yamp]
theorem yeo(b:Bool):ymo b=some (.bool b):=by simp [ymo,yamo]
theorem yvy(c:Cfg)(cl:Callee)(nt:Nat)(s:St):ymh c cl nt [] s=some s:=rfl
theorem yto(c:Cfg)(cl:Callee)(nt:Nat)(o:Iop)(r:List Iop)(s:St):ymh c cl nt (o :: r) s=andThen (yiy c cl nt o s) (ymh c cl nt r):=by
  change Option.rec (motive:=fun _=>Option St) none (ymh c cl nt r) (yiy c cl nt o s) = _
  cases yiy c cl nt o s <;> rfl
theorem yaim(c:Cfg)(cl:Callee)(nt:Nat)(d:Nat)(op:IP)(s:St)(h:Nat.blt d nt=true):yiy c cl nt ⟨some d,none,op⟩ s=yyw (some d) (ybi c cl s op):=by
  simp only [yiy,ypa,h,yis,cond_true]
  cases ybi c cl s op <;> rfl
theorem yain(c:Cfg)(cl:Callee)(nt:Nat)(op:IP)(s:St):yiy c cl nt ⟨none,none,op⟩ s=yyw none (ybi c cl s op):=by
  simp only [yiy,ypa,yis,cond_true]
  cases ybi c cl s op <;> rfl
def yabd(g:Option Bool)(x y:Option St):Option St:=
  match g with
  | some b=>if b=true then x else y
  | none=>none
theorem yaer(b:Bool)(x y:Option St):yabd (some b) x y=if b=true then x else y:=rfl
theorem yail(c:Cfg)(cl:Callee)(nt:Nat)(d:Nat)(g:Nat × Bool)(op:IP)(s:St)(h:Nat.blt d nt=true) :
    yiy c cl nt ⟨some d,some g,op⟩ s=yabd (yis s (some g)) (yyw (some d) (ybi c cl s op)) (some (s.put d .un)):=by
  simp only [yiy,ypa,h,cond_true]
  cases yis s (some g) with
  | none=>rfl
  | some b=>cases b <;> simp only [yabd,cond_true,cond_false] <;> first | rfl | (cases ybi c cl s op <;> rfl)
theorem yaem(c:Cfg)(cl:Callee)(nt:Nat)(g:Nat × Bool)(op:IP)(s:St) :
    yiy c cl nt ⟨none,some g,op⟩ s=yabd (yis s (some g)) (yyw none (ybi c cl s op)) (some s):=by
  simp only [yiy,ypa,cond_true]
  cases yis s (some g) with
  | none=>rfl
  | some b=>cases b <;> simp only [yabd,cond_true,cond_false] <;> first | rfl | (cases ybi c cl s op <;> rfl)
theorem yaeo(m:Nat)(body:St->Run)(n0:Nat)(s:St):yxe m body 0 n0 s=none:=rfl
theorem yaen(m:Nat)(body:St->Run)(n n0:Nat)(s:St):yxe m body (n + 1) n0 s=yvh (body (s.head m n0)) (yxe m body n (s.head m n0).nx):=rfl
section
variable (c:Cfg) (cl:Callee) (rg:List (Nat × Nat)->List Iop->St->Option St) (nt m n:Nat) (s:St)
theorem yafr:evC c cl rg nt m n .skip s=some (.norm,s):=rfl
theorem yayc(ops:List Iop):evC c cl rg nt m n (.reg none ops) s=regK (ymh c cl nt ops s):=rfl
theorem yart(k:List (Nat × Nat))(ops:List Iop):evC c cl rg nt m n (.reg (some k) ops) s=regK (rg k ops s):=rfl
theorem yaye(a b:IC):evC c cl rg nt m n (.seq a b) s=yvh (evC c cl rg nt m n a s) (evC c cl rg nt m n b):=rfl
theorem yarr(x:Opd)(a b:IC):evC c cl rg nt m n (.cond x a b) s=yaph (s.ev x) (evC c cl rg nt m n a s) (evC c cl rg nt m n b s):=rfl
theorem yanu(id:Nat)(b:IC):evC c cl rg nt m n (.block id b) s=yqc id (evC c cl rg nt m n b s):=rfl
theorem yars(b:IC):evC c cl rg nt m n (.loop b) s=yxe m (evC c cl rg nt m n b) n 0 s:=rfl
theorem yayb(id:Nat):evC c cl rg nt m n (.out id) s=some (.out id,s):=rfl
theorem yayd:evC c cl rg nt m n .ret s=some (.ret,s):=rfl
end
theorem yacc(s:St)(f:St->Run):yvh (some (.norm,s)) f=f s:=rfl
theorem yags(id:Nat)(s:St)(f:St->Run):yvh (some (.out id,s)) f=some (.out id,s):=rfl
theorem yagt(s:St)(f:St->Run):yvh (some (.ret,s)) f=some (.ret,s):=rfl
theorem yacb(f:St->Run):yvh none f=none:=rfl
theorem ycap(p:Prop)[Decidable p](a b:Run)(f:St->Run):yvh (if p then a else b) f=if p then yvh a f else yvh b f:=by split <;> rfl
theorem yaed(id:Nat)(s:St):yqc id (some (.norm,s)) = some (.norm,s):=rfl
theorem yahz(id:Nat)(s:St):yqc id (some (.ret,s)) = some (.ret,s):=rfl
theorem yahy(id j:Nat)(s:St):yqc id (some (.out j,s)) = if j=id then some (.norm,s) else some (.out j,s):=rfl
theorem yaec(id:Nat):yqc id none=none:=rfl
theorem ybbw(id:Nat)(p:Prop)[Decidable p](a b:Run):yqc id (if p then a else b) = if p then yqc id a else yqc id b:=by split <;> rfl
theorem yaca(s:St):regK (some s) = some (.norm,⟨s.env,[],s.H,s.nx⟩):=rfl
theorem yabz:regK none=none:=rfl
theorem ybzx(p:Prop)[Decidable p](a b:Option St):regK (if p then a else b) = if p then regK a else regK b:=by split <;> rfl
theorem yaih(t:Bool)(a b:Run):yaph (.bool t) a b=if t=true then a else b:=by cases t <;> rfl
theorem yasf(e l:List (Nat × AV))(H:yr)(nx t:Nat):St.get ⟨e,l,H,nx⟩ t=((lk l t).getD ((lk e t).getD .bad)):=by
  change getL l e t=_
  unfold getL
  cases lk l t <;> cases lk e t <;> rfl
def updD(e l:List (Nat × AV))(H:yr)(nx d:Nat)(v:AV)(x:Option (List (Nat × AV))):St:=
  match x with
  | some e'=>⟨e',l,H,nx⟩
  | none=>⟨e,(d,v) :: l,H,nx⟩
theorem yaci(e l:List (Nat × AV))(H:yr)(nx d:Nat)(v:AV)(e':List (Nat × AV)):updD e l H nx d v (some e') = ⟨e',l,H,nx⟩:=rfl
theorem yach(e l:List (Nat × AV))(H:yr)(nx d:Nat)(v:AV):updD e l H nx d v none = ⟨e,(d,v) :: l,H,nx⟩:=rfl
theorem yaug(e l:List (Nat × AV))(H:yr)(nx d:Nat)(v:AV):St.put ⟨e,l,H,nx⟩ d v=updD e l H nx d v (upd e d v):=by
  change Option.rec (motive:=fun _=>St) ⟨e,(d,v) :: l,H,nx⟩ (fun e'=>⟨e',l,H,nx⟩) (upd e d v) = _
  cases upd e d v <;> rfl
theorem yabs(s:St)(d:Nat)(v:AV):s.putO (some d) v=s.put d v:=rfl
theorem yabr(s:St)(v:AV):s.putO none v=s:=rfl
theorem ev_t(s:St)(n:Nat):s.ev (.t n) = s.get n:=rfl
theorem ev_c(s:St)(v:AV):s.ev (.c v) = v:=rfl
theorem yaoc(s:St)(v:AV):keep s (some v) = some (v,s):=rfl
theorem yaob(s:St):keep s none=none:=rfl
theorem ybxu(s:St)(p:Prop)[Decidable p](a b:Option AV):keep s (if p then a else b) = if p then keep s a else keep s b:=by split <;> rfl
theorem ybsq:shB .shl=true:=rfl
theorem yaxn(op:BinOp)(k:IntKind)(a b:Int):yvs op (.int k a) (.int k b) = yep op k a b:=by simp [yvs]
theorem yaxu(op:BinOp)(a b:ByteArray):yvs op (.str a) (.str b) = ymt op a b:=rfl
theorem ybsf(s:St):yfv s [] = some []:=rfl
attribute [simp] yatr ybx ybbe yvl yban yagq yamw yyv yqb yqa yavx yaol ybrn ybyx ypu yamq yamp yamo yfm yeo yvy yto yaim yain yaer yail yaem yaeo yaen yafr yayc yart yaye yarr yanu yars yayb yayd yacc yags yagt yacb ycap yaed yahz yahy yaec ybbw yaca yabz ybzx yaih yasf yaci yach yaug yabs yabr ev_t ev_c yaoc yaob ybxu ybsq yaxn yaxu ybsf ybi
abbrev Rho:=Nat->Option (Nat × Nat)
def ych:Rho:=fun _=>none
def yib:Value->Bool
  | .agg _=>false
  | .tuple _=>false
  | _=>true
mutual
def VR(w:World)(U:Nat->Nat->Prop)(O:Rho):AV->Value->Prop
  | .bad,_=>True
  | .un,x=>x=undef
  | .bool b,x=>x = .bool b
  | .int k n,x=>x = .int k n
  | .str s,x=>x = .string s
  | .nil,x=>x = .slice none 0 0
  | .oth v,x=>x=v/\yib v=true
  | .imm es rows ex,x=>∃ A c,x = .slice A rows.length c/\rows.length<=c/\(ex=true->c=rows.length) /\
      (rows = []\/∃ b o,A=some ⟨b,o,none⟩/\RWs w U rows b o es)
  | .own es id off len ex,x=>∃ A c,x = .slice A len c/\len<=c/\(ex=true->c=len) /\
      ((len=0/\c=0)\/∃ b C e fr,O id=some (b,es)/\A=some ⟨b,off * es,none⟩/\w.heap[b]? = some (Obj.cells C e fr)/\(off + c) * es<=C.size)
  | .ptr id off,x=>∃ b es,O id=some (b,es)/\x = .pointer (some ⟨b,off,none⟩)
  | .eptr id i f,x=>∃ b es,O id=some (b,es)/\x = .pointer (some ⟨b,i * es + f,none⟩)
  | .iptr row f,x=>∃ b o,x = .pointer (some ⟨b,o + f,none⟩)/\CLs w U row b o
  | .fn g pre post,x=>∃ xs ys,x = .func g xs ys/\VRs w U O pre xs.toList/\VRs w U O post ys.toList
  | .agg cs,x=>∃ xs,x = .agg xs/\VRs w U O cs xs.toList
  | .tup cs,x=>∃ xs,x = .tuple xs/\VRs w U O cs xs.toList
def VRs(w:World)(U:Nat->Nat->Prop)(O:Rho):List AV->List Value->Prop
  | [],xs=>xs = []
  | a :: as,xs=>∃ x r,xs=x :: r/\VR w U O a x/\VRs w U O as r
def CLs(w:World)(U:Nat->Nat->Prop):List AV->Nat->Nat->Prop
  | [],_,_=>True
  | a :: as,b,o=>(∃ v,w.cell? ⟨b,o,none⟩ = some v/\¬ U b o/\yib v=true/\VR w U ych a v)/\CLs w U as b (o + 1)
def RWs(w:World)(U:Nat->Nat->Prop):List (List AV)->Nat->Nat->Nat->Prop
  | [],_,_,_=>True
  | r :: rs,b,o,es=>r.length=es/\CLs w U r b o/\RWs w U rs b (o + es) es
end
structure ydo (w:World) (U:Nat->Nat->Prop) (w':World) (U':Nat->Nat->Prop):Prop where
  cell:∀ b o v,¬ U b o->w.cell? ⟨b,o,none⟩ = some v->w'.cell? ⟨b,o,none⟩ = some v/\¬ U' b o
  size:∀ (b:Nat) (C:Array Value) (e:TypeId) (fr:Nat × Nat),w.heap[b]? = some (Obj.cells C e fr)->∃ C' fr',w'.heap[b]? = some (Obj.cells C' e fr')/\C'.size=C.size
def Ext(O Z:Rho):Prop:=∀ id x,O id=some x->Z id=some x
theorem Ext.refl(O:Rho):Ext O O:=fun _ _ h=>h
theorem Ext.trans{O Z AA:Rho}(h:Ext O Z)(h':Ext Z AA):Ext O AA:=fun i x hx=>h' i x (h i x hx)
theorem ydo.refl(w:World)(U:Nat->Nat->Prop):ydo w U w U:=⟨fun _ _ _ h c=>⟨c,h⟩,fun b C e fr h=>⟨C,fr,h,rfl⟩⟩
theorem ydo.trans{w w' w'':World}{U U' U'':Nat->Nat->Prop}(h:ydo w U w' U')(h':ydo w' U' w'' U''):ydo w U w'' U'':=
  ⟨fun b o v hu hc=>let ⟨c1,u1⟩:=h.cell b o v hu hc; h'.cell b o v u1 c1,
   fun b C e fr hb=>let ⟨C1,f1,h1,s1⟩:=h.size b C e fr hb; let ⟨C2,f2,h2,s2⟩:=h'.size b C1 e f1 h1; ⟨C2,f2,h2,s2.trans s1⟩⟩
section mono
variable {w w':World} {U U':Nat->Nat->Prop} (hs:ydo w U w' U')
include hs
mutual
theorem ydw:∀ (a:AV) (x:Value) (O Z:Rho),Ext O Z->VR w U O a x->VR w' U' Z a x
  | .bad,_,_,_,_,_=>by simp [VR]
  | .un,_,_,_,_,h=>by simpa [VR] using h
  | .bool _,_,_,_,_,h=>by simpa [VR] using h
  | .int _ _,_,_,_,_,h=>by simpa [VR] using h
  | .str _,_,_,_,_,h=>by simpa [VR] using h
  | .nil,_,_,_,_,h=>by simpa [VR] using h
  | .oth _,_,_,_,_,h=>by simpa [VR] using h
  | .imm es rows ex,x,O,Z,hρ,h=>by
    simp only [VR] at h ⊢
    obtain ⟨A,c,h1,h2,h3,h4⟩:=h
    refine ⟨A,c,h1,h2,h3,?_⟩
    rcases h4 with h4 | ⟨b,o,h5,h7⟩
    .exact .inl h4
    .exact .inr ⟨b,o,h5,yaqg rows b o es h7⟩
  | .own es id off len ex,x,O,Z,hρ,h=>by
    simp only [VR] at h ⊢
    obtain ⟨A,c,h1,h2,h3,h4⟩:=h
    refine ⟨A,c,h1,h2,h3,?_⟩
    rcases h4 with h4 | ⟨b,C,e,fr,h5,h6,h7,h8⟩
    .exact .inl h4
    .obtain ⟨C',fr',h9,h10⟩:=hs.size b C e fr h7
     exact .inr ⟨b,C',e,fr',hρ _ _ h5,h6,h9,by rw [h10]; exact h8⟩
  | .ptr id off,x,O,Z,hρ,h=>by
    simp only [VR] at h ⊢
    obtain ⟨b,es,h1,h2⟩:=h
    exact ⟨b,es,hρ _ _ h1,h2⟩
  | .eptr id i f,x,O,Z,hρ,h=>by
    simp only [VR] at h ⊢
    obtain ⟨b,es,h1,h2⟩:=h
    exact ⟨b,es,hρ _ _ h1,h2⟩
  | .iptr row f,x,O,Z,hρ,h=>by
    simp only [VR] at h ⊢
    obtain ⟨b,o,h1,h2⟩:=h
    exact ⟨b,o,h1,yafj row b o h2⟩
  | .fn g pre post,x,O,Z,hρ,h=>by
    simp only [VR] at h ⊢
    obtain ⟨xs,ys,h1,h2,h3⟩:=h
    exact ⟨xs,ys,h1,ydp pre _ O Z hρ h2,ydp post _ O Z hρ h3⟩
  | .agg cs,x,O,Z,hρ,h=>by
    simp only [VR] at h ⊢
    obtain ⟨xs,h1,h2⟩:=h
    exact ⟨xs,h1,ydp cs _ O Z hρ h2⟩
  | .tup cs,x,O,Z,hρ,h=>by
    simp only [VR] at h ⊢
    obtain ⟨xs,h1,h2⟩:=h
    exact ⟨xs,h1,ydp cs _ O Z hρ h2⟩
theorem ydp:∀ (as:List AV) (xs:List Value) (O Z:Rho),Ext O Z->VRs w U O as xs->VRs w' U' Z as xs
  | [],_,_,_,_,h=>by simpa [VRs] using h
  | a :: as,xs,O,Z,hρ,h=>by
    simp only [VRs] at h ⊢
    obtain ⟨x,r,h1,h2,h3⟩:=h
    exact ⟨x,r,h1,ydw a x O Z hρ h2,ydp as r O Z hρ h3⟩
theorem yafj:∀ (as:List AV) (b o:Nat),CLs w U as b o->CLs w' U' as b o
  | [],_,_,_=>by simp [CLs]
  | a :: as,b,o,h=>by
    simp only [CLs] at h ⊢
    obtain ⟨⟨v,h1,h2,h0,h3⟩,h4⟩:=h
    obtain ⟨c1,c2⟩:=hs.cell b o v h2 h1
    exact ⟨⟨v,c1,c2,h0,ydw a v ych ych (Ext.refl _) h3⟩,yafj as b (o + 1) h4⟩
theorem yaqg:∀ (rs:List (List AV)) (b o es:Nat),RWs w U rs b o es->RWs w' U' rs b o es
  | [],_,_,_,_=>by simp [RWs]
  | r :: rs,b,o,es,h=>by
    simp only [RWs] at h ⊢
    exact ⟨h.1,yafj r b o h.2.1,yaqg rs b (o + es) es h.2.2⟩
end
end mono
section rename
variable {w:World} {U:Nat->Nat->Prop} {O Z:Rho} {f:Nat->Option Nat} (hf:∀ id j x,f id=some j->O id=some x->Z j=some x)
include hf
mutual
theorem yaqn:∀ (a:AV) (x:Value),VR w U O a x->VR w U Z (ren f a) x
  | .bad,_,_=>by simp [ren,VR]
  | .un,_,h=>by simpa [ren,VR] using h
  | .bool _,_,h=>by simpa [ren,VR] using h
  | .int _ _,_,h=>by simpa [ren,VR] using h
  | .str _,_,h=>by simpa [ren,VR] using h
  | .nil,_,h=>by simpa [ren,VR] using h
  | .oth _,_,h=>by simpa [ren,VR] using h
  | .imm es rows ex,x,h=>by simpa [ren,VR] using h
  | .own es id off len ex,x,h=>by
    simp only [ren]
    cases hj:f id with
    | none=>simp [VR]
    | some j=>
      simp only [VR] at h ⊢
      obtain ⟨A,c,h1,h2,h3,h4⟩:=h
      refine ⟨A,c,h1,h2,h3,?_⟩
      rcases h4 with h4 | ⟨b,C,e,fr,h5,h6⟩
      .exact .inl h4
      .exact .inr ⟨b,C,e,fr,hf _ _ _ hj h5,h6⟩
  | .ptr id off,x,h=>by
    simp only [ren]
    cases hj:f id with
    | none=>simp [VR]
    | some j=>
      simp only [VR] at h ⊢
      obtain ⟨b,es,h1,h2⟩:=h
      exact ⟨b,es,hf _ _ _ hj h1,h2⟩
  | .eptr id i g,x,h=>by
    simp only [ren]
    cases hj:f id with
    | none=>simp [VR]
    | some j=>
      simp only [VR] at h ⊢
      obtain ⟨b,es,h1,h2⟩:=h
      exact ⟨b,es,hf _ _ _ hj h1,h2⟩
  | .iptr row g,x,h=>by simpa [ren,VR] using h
  | .fn g pre post,x,h=>by
    simp only [VR,ren] at h ⊢
    obtain ⟨xs,ys,h1,h2,h3⟩:=h
    exact ⟨xs,ys,h1,ynz pre _ h2,ynz post _ h3⟩
  | .agg cs,x,h=>by
    simp only [VR,ren] at h ⊢
    obtain ⟨xs,h1,h2⟩:=h
    exact ⟨xs,h1,ynz cs _ h2⟩
  | .tup cs,x,h=>by
    simp only [VR,ren] at h ⊢
    obtain ⟨xs,h1,h2⟩:=h
    exact ⟨xs,h1,ynz cs _ h2⟩
theorem ynz:∀ (as:List AV) (xs:List Value),VRs w U O as xs->VRs w U Z (yjb f as) xs
  | [],_,h=>by simpa [yjb,VRs] using h
  | a :: as,xs,h=>by
    simp only [VRs,yjb] at h ⊢
    obtain ⟨x,r,h1,h2,h3⟩:=h
    exact ⟨x,r,h1,yaqn a x h2,ynz as r h3⟩
end
end rename
section
variable {w:World} {U:Nat->Nat->Prop} {O:Rho}
theorem ycd:∀ {as:List AV} {xs:List Value},VRs w U O as xs->as.length=xs.length
  | [],_,h=>by simp only [VRs] at h; subst h; rfl
  | a :: as,xs,h=>by
    simp only [VRs] at h
    obtain ⟨x,r,rfl,h2,h3⟩:=h
    simp [ycd h3]
theorem ydz:∀ {as:List AV} {xs:List Value},VRs w U O as xs->∀ {i:Nat} {a:AV},as[i]? = some a->∃ x,xs[i]? = some x/\VR w U O a x
  | [],_,h,i,a,hi=>by simp at hi
  | b :: as,xs,h,i,a,hi=>by
    simp only [VRs] at h
    obtain ⟨x,r,rfl,h2,h3⟩:=h
    cases i with
    | zero=>simp at hi; subst hi; exact ⟨x,rfl,h2⟩
    | succ i=>simp at hi; simpa using ydz h3 hi
theorem yny:∀ {as bs:List AV} {xs ys:List Value},VRs w U O as xs->VRs w U O bs ys->VRs w U O (as++bs) (xs++ys)
  | [],bs,xs,ys,h,h'=>by simp only [VRs] at h; subst h; simpa using h'
  | a :: as,bs,xs,ys,h,h'=>by
    simp only [VRs] at h
    obtain ⟨x,r,rfl,h2,h3⟩:=h
    simp only [jn,VRs]
    exact ⟨x,r++ys,rfl,h2,yny h3 h'⟩
theorem yaqo:∀ {as:List AV} {xs:List Value} (n:Nat),VRs w U O as xs->VRs w U O (as.drop n) (xs.drop n)
  | [],_,n,h=>by simp only [VRs] at h; subst h; simp [VRs]
  | a :: as,xs,0,h=>by simpa using h
  | a :: as,xs,n + 1,h=>by
    simp only [VRs] at h
    obtain ⟨x,r,rfl,h2,h3⟩:=h
    simpa using yaqo n h3
theorem yaqr:∀ {as:List AV} {xs:List Value} (n:Nat),VRs w U O as xs->VRs w U O (as.take n) (xs.take n)
  | [],_,n,h=>by simp only [VRs] at h; subst h; simp [VRs]
  | a :: as,xs,0,h=>by simp [VRs]
  | a :: as,xs,n + 1,h=>by
    simp only [VRs] at h
    obtain ⟨x,r,rfl,h2,h3⟩:=h
    simp only [List.take_succ_cons,VRs]
    exact ⟨x,r.take n,rfl,h2,yaqr n h3⟩
theorem yalj:∀ {as:List AV} {b o:Nat},CLs w U as b o->∀ {i:Nat} {a:AV},as[i]? = some a->∃ v,w.cell? ⟨b,o + i,none⟩ = some v/\¬ U b (o + i)/\yib v=true/\VR w U ych a v
  | [],_,_,h,i,a,hi=>by simp at hi
  | c :: as,b,o,h,i,a,hi=>by
    simp only [CLs] at h
    obtain ⟨⟨v,h1,h2,h0,h3⟩,h4⟩:=h
    cases i with
    | zero=>simp at hi; subst hi; exact ⟨v,h1,h2,h0,h3⟩
    | succ i=>
      simp at hi
      obtain ⟨v,g1,g2,g3⟩:=yalj h4 hi
      exact ⟨v,by rw [show o + (i + 1) = o + 1 + i by omega]; exact g1,by rw [show o + (i + 1) = o + 1 + i by omega]; exact g2,g3⟩
theorem yaaj:∀ {as:List AV} {b o:Nat},(∀ i a,as[i]? = some a->∃ v,w.cell? ⟨b,o + i,none⟩ = some v/\¬ U b (o + i)/\yib v=true/\VR w U ych a v)->CLs w U as b o
  | [],_,_,_=>by simp [CLs]
  | a :: as,b,o,h=>by
    simp only [CLs]
    refine ⟨by simpa using h 0 a rfl,yaaj fun i a' hi=>?_⟩
    have:=h (i + 1) a' (by simpa using hi)
    rwa [show o + (i + 1) = o + 1 + i by omega] at this
theorem yaco:∀ {rs:List (List AV)} {b o es:Nat},RWs w U rs b o es->∀ {i:Nat} {r:List AV},rs[i]? = some r->r.length=es/\CLs w U r b (o + i * es)
  | [],_,_,_,h,i,r,hi=>by simp at hi
  | r' :: rs,b,o,es,h,i,r,hi=>by
    simp only [RWs] at h
    cases i with
    | zero=>simp at hi; subst hi; simpa using ⟨h.1,h.2.1⟩
    | succ i=>
      simp at hi
      have:=yaco h.2.2 hi
      rwa [show o + es + i * es=o + (i + 1) * es by rw [we]; omega] at this
theorem ywv:∀ {rs:List (List AV)} {b o es:Nat},(∀ i r,rs[i]? = some r->r.length=es/\CLs w U r b (o + i * es))->RWs w U rs b o es
  | [],_,_,_,_=>by simp [RWs]
  | r :: rs,b,o,es,h=>by
    simp only [RWs]
    have h0:=h 0 r rfl
    refine ⟨h0.1,by simpa using h0.2,ywv fun i r' hi=>?_⟩
    have:=h (i + 1) r' (by simpa using hi)
    rwa [show o + (i + 1) * es=o + es + i * es by rw [we]; omega] at this
end
mutual
theorem yalm{w:World}{U:Nat->Nat->Prop}{O Z:Rho}:∀ (a:AV) (x:Value),ygf a=true->VR w U O a x->VR w U Z a x
  | .bool _,_,_,h=>by simpa [VR] using h
  | .int _ _,_,_,h=>by simpa [VR] using h
  | .str _,_,_,h=>by simpa [VR] using h
  | .nil,_,_,h=>by simpa [VR] using h
  | .oth _,_,_,h=>by simpa [VR] using h
  | .imm es rows ex,_,_,h=>by simpa [VR] using h
  | .agg cs,x,hi,h=>by
    simp only [VR] at h ⊢
    obtain ⟨xs,h1,h2⟩:=h
    exact ⟨xs,h1,yxw cs _ (by simpa [ygf] using hi) h2⟩
  | .tup cs,x,hi,h=>by
    simp only [VR] at h ⊢
    obtain ⟨xs,h1,h2⟩:=h
    exact ⟨xs,h1,yxw cs _ (by simpa [ygf] using hi) h2⟩
  | .bad,_,hi,_=>by simp [ygf] at hi
  | .un,_,hi,_=>by simp [ygf] at hi
  | .own ..,_,hi,_=>by simp [ygf] at hi
  | .ptr ..,_,hi,_=>by simp [ygf] at hi
  | .eptr ..,_,hi,_=>by simp [ygf] at hi
  | .iptr ..,_,hi,_=>by simp [ygf] at hi
  | .fn ..,_,hi,_=>by simp [ygf] at hi
theorem yxw{w:World}{U:Nat->Nat->Prop}{O Z:Rho}:∀ (as:List AV) (xs:List Value),ygk as=true->VRs w U O as xs->VRs w U Z as xs
  | [],_,_,h=>by simpa [VRs] using h
  | a :: as,xs,hi,h=>by
    simp only [VRs] at h ⊢
    simp only [ygk,qq] at hi
    obtain ⟨x,r,h1,h2,h3⟩:=h
    exact ⟨x,r,h1,yalm a x hi.1 h2,yxw as r hi.2 h3⟩
end
mutual
theorem yaql{w w':World}{U U':Nat->Nat->Prop}{O Z:Rho}:∀ (a:AV) (x:Value),ycg a=true->VR w U O a x->VR w' U' Z a x
  | .bool _,_,_,h=>by simpa [VR] using h
  | .int _ _,_,_,h=>by simpa [VR] using h
  | .str _,_,_,h=>by simpa [VR] using h
  | .nil,_,_,h=>by simpa [VR] using h
  | .oth _,_,_,h=>by simpa [VR] using h
  | .agg cs,x,hi,h=>by
    simp only [VR] at h ⊢
    obtain ⟨xs,h1,h2⟩:=h
    exact ⟨xs,h1,yaap cs _ (by simpa [ycg] using hi) h2⟩
  | .tup cs,x,hi,h=>by
    simp only [VR] at h ⊢
    obtain ⟨xs,h1,h2⟩:=h
    exact ⟨xs,h1,yaap cs _ (by simpa [ycg] using hi) h2⟩
  | .imm ..,_,hi,_=>by simp [ycg] at hi
  | .bad,_,hi,_=>by simp [ycg] at hi
  | .un,_,hi,_=>by simp [ycg] at hi
  | .own ..,_,hi,_=>by simp [ycg] at hi
  | .ptr ..,_,hi,_=>by simp [ycg] at hi
  | .eptr ..,_,hi,_=>by simp [ycg] at hi
  | .iptr ..,_,hi,_=>by simp [ycg] at hi
  | .fn ..,_,hi,_=>by simp [ycg] at hi
theorem yaap{w w':World}{U U':Nat->Nat->Prop}{O Z:Rho}:∀ (as:List AV) (xs:List Value),yen as=true->VRs w U O as xs->VRs w' U' Z as xs
  | [],_,_,h=>by simpa [VRs] using h
  | a :: as,xs,hi,h=>by
    simp only [VRs] at h ⊢
    simp only [yen,qq] at hi
    obtain ⟨x,r,h1,h2,h3⟩:=h
    exact ⟨x,r,h1,yaql a x hi.1 h2,yaap as r hi.2 h3⟩
end
theorem yacr{w:World}{U:Nat->Nat->Prop}{O:Rho}{a:AV}{x:Value}(ha:yfb a=true)(h:VR w U O a x):yib x=true:=by
  cases a <;> simp [yfb] at ha <;> simp only [VR] at h
  case bool=>subst h; rfl
  case int=>subst h; rfl
  case str=>subst h; rfl
  case nil=>subst h; rfl
  case oth=>obtain ⟨rfl,h⟩:=h; exact h
  case imm=>obtain ⟨A,c,rfl,_⟩:=h; rfl
  case own=>obtain ⟨A,c,rfl,_⟩:=h; rfl
  case ptr=>obtain ⟨b,es,_,rfl⟩:=h; rfl
  case eptr=>obtain ⟨b,es,_,rfl⟩:=h; rfl
  case iptr=>obtain ⟨b,o,rfl,_⟩:=h; rfl
  case fn=>obtain ⟨xs,ys,rfl,_⟩:=h; rfl
theorem yvt{x:Value}(h:yib x=true):x.cells = #[x]:=by cases x <;> simp [yib] at h <;> rfl
theorem ypn{w:World}{U:Nat->Nat->Prop}{O:Rho}{a:AV}{x:Value}{cs:List AV}(ha:cellsOf a=some cs)(h:VR w U O a x):VRs w U O cs x.cells.toList:=by
  have other:∀ a:AV,yfb a=true->cellsOf a=some [a]:=by
    intro a h
    cases a <;> simp [yfb] at h <;> rfl
  cases a with
  | agg l=>
    simp only [cellsOf,qa] at ha
    subst ha
    simp only [VR] at h
    obtain ⟨xs,rfl,h2⟩:=h
    exact h2
  | bad=>simp [cellsOf,yfb] at ha
  | un=>simp [cellsOf,yfb] at ha
  | tup l=>simp [cellsOf,yfb] at ha
  | _=>
    have hc:=yacr (by rfl) h
    rw [other _ (by rfl)] at ha
    obtain rfl:=qd ha
    rw [yvt hc]
    simp only [VRs]
    exact ⟨x,[],rfl,h,rfl⟩
theorem ylq{w:World}{U:Nat->Nat->Prop}{O:Rho}:∀ {as:List AV} {xs:List Value},ydk as=true->VRs w U O as xs->∀ x∈xs,yib x=true
  | [],xs,_,h,x,hx=>by simp only [VRs] at h; subst h; simp at hx
  | a :: as,xs,ha,h,x,hx=>by
    simp only [VRs] at h
    obtain ⟨y,r,rfl,h2,h3⟩:=h
    simp only [ydk,qq] at ha
    rcases wt.1 hx with rfl | hx
    .exact yacr ha.1 h2
    .exact ylq ha.2 h3 x hx
theorem yarq{size es:Nat}{rows:List (List AV)}(h:yip size es rows=true):rows = []\/es=size:=by
  simp only [yip,ju,List.isEmpty_iff] at h
  rcases h with h | h
  .exact .inl h
  .exact .inr (qy h)
theorem ybjd{w:World}{U:Nat->Nat->Prop}{b o es:Nat}:∀ {rows:List (List AV)},RWs w U rows b o es->rows = []\/yoo rows=es
  | [],_=>.inl rfl
  | r :: rs,h=>by
    simp only [RWs] at h
    exact .inr h.1
theorem yww{w:World}{U:Nat->Nat->Prop}{O:Rho}{es:Nat}{rows:List (List AV)}{ex:Bool}{x:Value}(h:VR w U O (.imm es rows ex) x):VR w U O (ycr rows) x:=by
  simp only [VR,ycr] at h ⊢
  obtain ⟨A,c,h1,h2,h3,h4⟩:=h
  refine ⟨A,c,h1,h2,by simp,?_⟩
  rcases h4 with h4 | ⟨b,o,h5,h7⟩
  .exact .inl h4
  .rcases ybjd h7 with h8 | h8
   .exact .inl h8
   .rw [h8]
    exact .inr ⟨b,o,h5,h7⟩
theorem yaxf{w:World}{U:Nat->Nat->Prop}{O Z:Rho}{x:Value}(h:VR w U O .nil x):VR w U Z (ycr []) x:=by
  simp only [VR,ycr] at h ⊢
  subst h
  exact ⟨none,0,rfl,qk _,by simp,.inl trivial⟩
theorem yvo{w:World}{U:Nat->Nat->Prop}{O:Rho}(v:Value):VR w U O (yhl v) v:=by
  unfold yhl
  split <;> simp [VR,yib]
theorem ywk{w:World}{U:Nat->Nat->Prop}{O:Rho}:∀ vs:List Value,VRs w U O (vs.map yhl) vs
  | []=>by simp [VRs]
  | v :: vs=>by
    simp only [wr,VRs]
    exact ⟨v,vs,rfl,yvo v,ywk vs⟩
theorem ybbn{w:World}{U:Nat->Nat->Prop}{O:Rho}(v:Value):VR w U O (yxq v) v:=by
  unfold yxq
  split
  .simp only [VR]
   exact ⟨_,rfl,ywk _⟩
  .exact yvo _
def yjc(es o:Nat):Ob->Prop
  | .box _=>True
  | .arr _ _ leak=>leak * es<=o
  | .arx _ _=>True
def Wr(O:Rho)(H:yr)(b o:Nat):Prop:=∃ id es ob,lk H id=some ob/\O id=some (b,es)/\yjc es o ob
def UU(A:Nat->Nat->Prop)(O:Rho)(H:yr)(b o:Nat):Prop:=A b o\/Wr O H b o
def unfr(fr:Nat × Nat)(n:Nat):Prop:=∀ o,o<=n->¬ (fr.1<=o/\o < fr.2)
def ARs(w:World)(U:Nat->Nat->Prop)(es:Nat):List (List AV)->List Value->Prop
  | [],_=>True
  | r :: rs,C=>r.length=es/\es<=C.length/\(VRs w U ych r (C.take es)/\∀ x∈C.take es,yib x=true)/\ARs w U es rs (C.drop es)
def AXs(w:World)(U:Nat->Nat->Prop)(O:Rho)(es:Nat):List (List AV)->List Value->Prop
  | [],_=>True
  | r :: rs,C=>r.length=es/\es<=C.length/\(VRs w U O r (C.take es)/\∀ x∈C.take es,yib x=true)/\AXs w U O es rs (C.drop es)
def ObR(w:World)(U:Nat->Nat->Prop)(O:Rho)(b es:Nat):Ob->Prop
  | .box cells=>∃ C e fr,w.heap[b]? = some (Obj.cells C e fr)/\unfr fr C.size/\VRs w U O cells C.toList
  | .arr es' rows leak=>es' = es/\0 < es/\∃ C e fr,w.heap[b]? = some (Obj.cells C e fr)/\unfr fr C.size/\ARs w U es rows C.toList
  | .arx es' rows=>es' = es/\0 < es/\∃ C e fr,w.heap[b]? = some (Obj.cells C e fr)/\unfr fr C.size/\AXs w U O es rows C.toList
structure Rep (A:Nat->Nat->Prop) (O:Rho) (H:yr) (nx:Nat) (w:World):Prop where
  ob:∀ id o b es,lk H id=some o->O id=some (b,es)->ObR w (UU A O H) O b es o
  inj:∀ i j oi oj b ei ej,lk H i=some oi->lk H j=some oj->O i=some (b,ei)->O j=some (b,ej)->i=j
  ltH:∀ id o,lk H id=some o->id < nx
  ltR:∀ id x,O id=some x->id < nx
  ltA:∀ b o,A b o->b < w.heap.size
  apart:∀ id o b es off,lk H id=some o->O id=some (b,es)->¬ A b off
structure Fr (O:Rho) (H:yr) (w:World) (Z:Rho) (H':yr) (w':World):Prop where
  size:w.heap.size<=w'.heap.size
  os:w'.os=w.os
  tape:w'.tape=w.tape
  output:w'.output=w.output
  cells:∀ (b:Nat) (C:Array Value) (e:TypeId) (fr:Nat × Nat),w.heap[b]? = some (Obj.cells C e fr) ->
    ∃ C',w'.heap[b]? = some (Obj.cells C' e fr)/\C'.size=C.size/\∀ o,¬ Wr O H b o->C'[o]? = C[o]?
  other:∀ (b:Nat) (ob:Obj),w.heap[b]? = some ob->(∀ C e fr,ob≠Obj.cells C e fr)->w'.heap[b]? = some ob
  shrink:∀ b o,b < w.heap.size->Wr Z H' b o->Wr O H b o
theorem Fr.refl(O:Rho)(H:yr)(w:World):Fr O H w O H w:=
  ⟨qk _,rfl,rfl,rfl,fun b C e fr h=>⟨C,h,rfl,fun _ _=>rfl⟩,fun b ob h _=>h,fun _ _ _ h=>h⟩
theorem yhe{w:World}{b:Nat}{o:Obj}(h:w.heap[b]? = some o):b < w.heap.size:=by
  rcases qz b w.heap.size with h' | h'
  .exact h'
  .rw [Array.getElem?_eq_none h'] at h; cases h
theorem Fr.trans{O Z AA:Rho}{H H' H'':yr}{w w' w'':World}(h:Fr O H w Z H' w')(h':Fr Z H' w' AA H'' w''):Fr O H w AA H'' w'' where
  size:=ww h.size h'.size
  os:=h'.os.trans h.os
  tape:=h'.tape.trans h.tape
  output:=h'.output.trans h.output
  cells b C e fr hb:=by
    obtain ⟨C1,h1,s1,k1⟩:=h.cells b C e fr hb
    obtain ⟨C2,h2,s2,k2⟩:=h'.cells b C1 e fr h1
    exact ⟨C2,h2,s2.trans s1,fun o ho=>(k2 o (fun hw=>ho (h.shrink b o (yhe hb) hw))).trans (k1 o ho)⟩
  other b ob hb hn:=h'.other b ob (h.other b ob hb hn) hn
  shrink b o hb hw:=h.shrink b o hb (h'.shrink b o (ji hb h.size) hw)
theorem Fr.stay{A:Nat->Nat->Prop}{O Z:Rho}{H H':yr}{w w':World}(h:Fr O H w Z H' w'):ydo w (UU A O H) w' (UU A Z H') where
  cell b o v hu hc:=by
    have hb:b < w.heap.size:=World.block_lt_of_cell? w _ hc
    unfold World.cell? at hc
    cases hob:w.heap[b]? with
    | none=>simp [hob] at hc
    | some ob=>
      cases ob with
      | cells C e fr=>
        simp only [hob] at hc
        obtain ⟨C',h1,h2,h3⟩:=h.cells b C e fr hob
        refine ⟨?_,fun hu'=>?_⟩
        .unfold World.cell?
         simp only [h1]
         have:=h3 o (fun hw=>hu (.inr hw))
         simp only [Option.isSome] at hc ⊢
         rw [this]; exact hc
        .rcases hu' with ha | hw
         .exact hu (.inl ha)
         .exact hu (.inr (h.shrink b o hb hw))
      | _=>simp [hob] at hc
  size b C e fr hb:=by
    obtain ⟨C',h1,h2,_⟩:=h.cells b C e fr hb
    exact ⟨C',fr,h1,h2⟩
theorem yacs{A:Nat->Nat->Prop}{O Z:Rho}{H H':yr}{w w':World}(h:Fr O H w Z H' w')(he:Ext O Z){a:AV}{x:Value}(hv:VR w (UU A O H) O a x):VR w' (UU A Z H') Z a x:=
  ydw h.stay a x O Z he hv
theorem yaqc{w w':World}{U U':Nat->Nat->Prop}(hs:ydo w U w' U'){O Z:Rho}(he:Ext O Z){es:Nat}:∀ {rs:List (List AV)} {C:List Value},AXs w U O es rs C->AXs w' U' Z es rs C
  | [],_,_=>trivial
  | _ :: _,_,h=>⟨h.1,h.2.1,⟨ydp hs _ _ _ _ he h.2.2.1.1,h.2.2.1.2⟩,yaqc hs he h.2.2.2⟩
theorem yhu{w w':World}{U U':Nat->Nat->Prop}(hs:ydo w U w' U'){es:Nat}:∀ {rs:List (List AV)} {C:List Value},ARs w U es rs C->ARs w' U' es rs C
  | [],_,_=>by simp [ARs]
  | r :: rs,C,h=>by
    simp only [ARs] at h ⊢
    exact ⟨h.1,h.2.1,⟨ydp hs r _ ych ych (Ext.refl _) h.2.2.1.1,h.2.2.1.2⟩,yhu hs h.2.2.2⟩
theorem yid{w:World}{U:Nat->Nat->Prop}{es:Nat}:∀ {rs:List (List AV)} {C:List Value},ARs w U es rs C->∀ {i:Nat} {r:List AV},rs[i]? = some r->r.length=es/\(i + 1) * es<=C.length/\VRs w U ych r ((C.drop (i * es)).take es)/\∀ x∈(C.drop (i * es)).take es,yib x=true
  | [],_,h,i,r,hi=>by simp at hi
  | r' :: rs,C,h,i,r,hi=>by
    simp only [ARs] at h
    cases i with
    | zero=>simp at hi; subst hi; refine ⟨h.1,by simpa using h.2.1,?_⟩; rw [Nat.zero_mul,List.drop_zero]; exact h.2.2.1
    | succ i=>
      simp at hi
      have:=yid h.2.2.2 hi
      have hl:=h.2.1
      rw [wq,jp] at this
      refine ⟨this.1,?_,?_⟩
      .have h2:=this.2.1
       rw [we (i + 1)]; omega
      .rw [show (i + 1) * es=es + i * es by rw [we]; omega]; exact this.2.2
theorem yni{w:World}{U:Nat->Nat->Prop}{es:Nat}:∀ {rs:List (List AV)} {C:List Value},(∀ i r,rs[i]? = some r->r.length=es/\(i + 1) * es<=C.length/\VRs w U ych r ((C.drop (i * es)).take es)/\∀ x∈(C.drop (i * es)).take es,yib x=true)->ARs w U es rs C
  | [],_,_=>by simp [ARs]
  | r :: rs,C,h=>by
    simp only [ARs]
    have h0:=h 0 r rfl
    simp only [Nat.zero_mul,List.drop_zero,Nat.zero_add,Nat.one_mul] at h0
    refine ⟨h0.1,h0.2.1,h0.2.2,yni fun i r' hi=>?_⟩
    have:=h (i + 1) r' (by simpa using hi)
    rw [wq,jp]
    refine ⟨this.1,?_,?_⟩
    .have h2:=this.2.1
     rw [we (i + 1)] at h2; omega
    .rw [show es + i * es=(i + 1) * es by rw [we]; omega]; exact this.2.2
theorem yacl{w:World}{U:Nat->Nat->Prop}{es:Nat}:∀ {rs:List (List AV)} {C:List Value},ARs w U es rs C->rs.length * es<=C.length
  | [],_,_=>by simp
  | r :: rs,C,h=>by
    simp only [ARs] at h
    have h1:=yacl h.2.2.2
    rw [wq] at h1
    have:=h.2.1
    simp only [ws,we]; omega
theorem ylp{w:World}{U:Nat->Nat->Prop}{O:Rho}{es:Nat}:∀ {rs:List (List AV)} {C:List Value},AXs w U O es rs C->∀ {i:Nat} {r:List AV},rs[i]? = some r->r.length=es/\(i + 1) * es<=C.length/\VRs w U O r ((C.drop (i * es)).take es)/\∀ x∈(C.drop (i * es)).take es,yib x=true
  | [],_,h,i,r,hi=>by simp at hi
  | r' :: rs,C,h,i,r,hi=>by
    simp only [AXs] at h
    cases i with
    | zero=>simp at hi; subst hi; refine ⟨h.1,by simpa using h.2.1,?_⟩; rw [Nat.zero_mul,List.drop_zero]; exact h.2.2.1
    | succ i=>
      simp at hi
      have:=ylp h.2.2.2 hi
      have hl:=h.2.1
      rw [wq,jp] at this
      refine ⟨this.1,?_,?_⟩
      .have h2:=this.2.1
       rw [we (i + 1)]; omega
      .rw [show (i + 1) * es=es + i * es by rw [we]; omega]; exact this.2.2
theorem ywu{w:World}{U:Nat->Nat->Prop}{O:Rho}{es:Nat}:∀ {rs:List (List AV)} {C:List Value},(∀ i r,rs[i]? = some r->r.length=es/\(i + 1) * es<=C.length/\VRs w U O r ((C.drop (i * es)).take es)/\∀ x∈(C.drop (i * es)).take es,yib x=true)->AXs w U O es rs C
  | [],_,_=>trivial
  | r :: rs,C,h=>by
    simp only [AXs]
    have h0:=h 0 r rfl
    simp only [Nat.zero_mul,List.drop_zero,Nat.zero_add,Nat.one_mul] at h0
    refine ⟨h0.1,h0.2.1,h0.2.2,ywu fun i r' hi=>?_⟩
    have:=h (i + 1) r' (by simpa using hi)
    rw [wq,jp]
    refine ⟨this.1,?_,?_⟩
    .have h2:=this.2.1
     rw [we (i + 1)] at h2; omega
    .rw [show es + i * es=(i + 1) * es by rw [we]; omega]; exact this.2.2
theorem ybjb{w:World}{U:Nat->Nat->Prop}(O:Rho){es:Nat}{rs:List (List AV)}{C:List Value}(h:ARs w U es rs C):AXs w U O es rs C:=
  ywu fun i r hi=>by
   obtain ⟨h1,h2,h3,h4⟩:=yid h hi
   exact ⟨h1,h2,ydp (ydo.refl w U) _ _ _ _ (fun _ _ h=>by cases h) h3,h4⟩
theorem ygd{w w':World}{U U':Nat->Nat->Prop}(hs:ydo w U w' U'){O Z:Rho}(he:Ext O Z){b es:Nat}{o:Ob}(hb:w'.heap[b]? = w.heap[b]?)(h:ObR w U O b es o):ObR w' U' Z b es o:=by
  cases o with
  | box cells=>
    obtain ⟨C,e,fr,h1,h2,h3⟩:=h
    exact ⟨C,e,fr,hb.trans h1,h2,ydp hs _ _ O Z he h3⟩
  | arr es' rows leak=>
    obtain ⟨h0,h0',C,e,fr,h1,h2,h3⟩:=h
    exact ⟨h0,h0',C,e,fr,hb.trans h1,h2,yhu hs h3⟩
  | arx es' rows=>
    obtain ⟨h0,h0',C,e,fr,h1,h2,h3⟩:=h
    exact ⟨h0,h0',C,e,fr,hb.trans h1,h2,yaqc hs he h3⟩
theorem yey{α:Type}:∀ {l l':List (Nat × α)} {t:Nat} {x:α},upd l t x=some l'->∀ k,lk l' k=if k=t then some x else lk l k
  | [],l',t,x,h,k=>by simp at h
  | (k0,v) :: r,l',t,x,h,k=>by
    rw [yvl] at h
    by_cases ht:k0=t
    .rw [qe ht] at h
     obtain rfl:=qd h
     subst ht
     rw [ybx,ybx]
     by_cases hk:k0=k
     .simp [hk]
     .have:¬ k=k0:=fun e=>hk e.symm
      simp [hk,this]
    .rw [qc ht] at h
     cases hu:upd r t x with
     | none=>simp [hu] at h
     | some r'=>
       simp only [hu,kb,qa] at h
       subst h
       rw [ybx,ybx]
       by_cases hk:k0=k
       .subst hk
        simp [ht]
       .simp only [hk,wn]
        exact yey hu k
theorem yjl{α:Type}:∀ (l:List (Nat × α)) (t k:Nat),lk (rmv l t) k=if k=t then none else lk l k
  | [],t,k=>by simp
  | (k0,v) :: r,t,k=>by
    rw [yagq]
    by_cases ht:k0=t
    .rw [qe ht,yjl r t k,ybx]
     by_cases hk:k=t
     .simp [hk]
     .have:¬ k0=k:=fun e=>hk (e.symm.trans ht)
      simp [hk,this]
    .rw [qc ht,ybx,yjl r t k,ybx]
     by_cases hk0:k0=k
     .have:¬ k=t:=fun e=>ht (hk0.trans e)
      simp [hk0,this]
     .simp [hk0]
theorem ymp{α:Type}:∀ {l:List (Nat × α)} {t:Nat} {x y:α},lk l t=some y->∃ l',upd l t x=some l'
  | [],t,x,y,h=>by simp at h
  | (k0,v) :: r,t,x,y,h=>by
    rw [yvl]
    rw [ybx] at h
    by_cases ht:k0=t
    .exact ⟨_,by rw [qe ht]⟩
    .rw [qc ht] at h
     obtain ⟨l',hl⟩:=ymp (x:=x) h
     exact ⟨(k0,v) :: l',by rw [qc ht,hl]; rfl⟩
theorem yfa{w:World}{b o:Nat}{C:Array Value}{e:TypeId}{fr:Nat × Nat}(h:w.heap[b]? = some (Obj.cells C e fr)):w.cell? ⟨b,o,none⟩ = C[o]?:=by
  unfold World.cell?
  simp [h]
theorem yle{w:World}{b o:Nat}{C:Array Value}{e:TypeId}{fr:Nat × Nat}(h:w.heap[b]? = some (Obj.cells C e fr))(hu:unfr fr C.size)(ho:o<=C.size):w.frozen? ⟨b,o,none⟩ = false:=by
  unfold World.frozen?
  simp only [h]
  have:=hu o ho
  simp only [Bool.and_eq_false_iff,jk]
  omega
theorem ygh{P:Program}{t:TypeId}{x:TI}(h:ybt P t=some x):P.underlying t=some x.desc/\∃ i,P.info? t=some i/\i.size=x.size/\i.bytes=x.bytes/\i.zero=x.zero:=by
  unfold ybt at h
  cases h1:P.underlying t with
  | none=>simp [h1] at h
  | some d=>
    cases h2:P.info? t with
    | none=>simp [h1,h2] at h
    | some i=>
      simp only [h1,h2,qa] at h
      subst h
      exact ⟨rfl,i,rfl,rfl,rfl,rfl⟩
section
variable {P:Program} {w:World} {U:Nat->Nat->Prop} {O:Rho}
theorem ycc{t:TypeId}{x:TI}(h:ybt P t=some x)(w:World):(underlying t).run P w = .ok x.desc w:=run_underlying (ygh h).1 w
theorem yeg{t:TypeId}{x:TI}(h:ybt P t=some x)(w:World):(sizeOf t).run P w = .ok x.size w:=by
  obtain ⟨_,i,hi,hs,_⟩:=ygh h
  simp [sizeOf,typeInfo,hi,hs]
theorem yok{t:TypeId}{x:TI}(h:ybt P t=some x)(w:World):(isAgg t).run P w = .ok (ypg x.desc) w:=by
  simp only [isAgg,Sem.run_bind,ycc h,Result.andThen_ok]
  cases x.desc <;> rfl
theorem ywh{t:TypeId}{x:TI}(h:ybt P t=some x){z:Value}(hz:x.zero=some z)(w:World):(zeroValue t).run P w = .ok z w:=by
  obtain ⟨_,i,hi,_,_,h3⟩:=ygh h
  simp [zeroValue,typeInfo,hi,h3,hz]
def yom:AV->Value
  | .bool b=>.bool b
  | .int k n=>.int k n
  | .str s=>.string s
  | _=>undef
def yapy:AV->Bool
  | .bool _=>true
  | .int _ _=>true
  | .str _=>true
  | _=>false
theorem yiu{v:AV}(h:yapy v=true):VR w U O v (yom v):=by
  cases v <;> simp [yapy] at h <;> simp [VR,yom]
theorem ybil(op:BinOp)(t:TypeId)(k k':IntKind)(a b:Int){v:AV}(hk:shB op=true\/k=k')(h:yep op k a b=some v) :
    (binOp op t (.int k a) (.int k' b)).run P w = .ok (yom v) w/\yapy v=true:=by
  cases op <;> simp only [yep,yfm,yeo,qa,reduceCtorEq] at h
  case shl=>
    split at h
    .cases h
    .rename_i hb
     simp only [qa] at h
     subst h
     exact ⟨by simp [binOp,Op.shift,hb,yom],rfl⟩
  case shr=>
    split at h
    .cases h
    .rename_i hb
     simp only [qa] at h
     subst h
     exact ⟨by simp [binOp,Op.shift,hb,yom],rfl⟩
  case quo=>
    rcases hk with hk | rfl
    .simp [shB] at hk
    .split at h
     .cases h
     .rename_i hb
      simp only [qa] at h
      subst h
      exact ⟨by simp [binOp,Op.intDiv,hb,yom],rfl⟩
  case rem=>
    rcases hk with hk | rfl
    .simp [shB] at hk
    .split at h
     .cases h
     .rename_i hb
      simp only [qa] at h
      subst h
      exact ⟨by simp [binOp,Op.intDiv,hb,yom],rfl⟩
  case and=>
    rcases hk with hk | rfl
    .simp [shB] at hk
    .subst h
     exact ⟨by simp [binOp,Op.intBits,andI,yom],rfl⟩
  case or=>
    rcases hk with hk | rfl
    .simp [shB] at hk
    .subst h
     exact ⟨by simp [binOp,Op.intBits,orI,yom],rfl⟩
  case xor=>
    rcases hk with hk | rfl
    .simp [shB] at hk
    .subst h
     exact ⟨by simp [binOp,Op.intBits,xorI,yom],rfl⟩
  all_goals
    rcases hk with hk | rfl
    .simp [shB] at hk
    .subst h
     exact ⟨by simp [binOp,Op.intArith,Op.intCmp,yom],rfl⟩
theorem ybim(op:BinOp)(t:TypeId)(a b:ByteArray){v:AV}(h:ymt op a b=some v) :
    (binOp op t (.string a) (.string b)).run P w = .ok (yom v) w/\yapy v=true:=by
  cases op <;> simp only [ymt,yeo,qa,reduceCtorEq] at h
  case add=>
    split at h
    .rename_i hb
     simp only [qa] at h
     subst h
     refine ⟨?_,rfl⟩
     have:¬ (((a.size + b.size:Nat):Int) > IntKind.i64.max):=by
       have:IntKind.i64.max=9223372036854775807:=by decide
       rw [this]
       omega
     simp only [binOp,Op.stringOp]
     rw [qc this]
     rfl
    .cases h
  all_goals
    subst h
    exact ⟨by simp [binOp,Op.stringOp,yom],rfl⟩
theorem ywm{op:BinOp}{t:TypeId}{x y:Operand}{a b:Value}(ha:yib a=true)(hn:a≠.nilIface):(eqGuard op t x y a b).run P w = .ok () w:=by
  unfold eqGuard
  cases op <;> (cases a <;> first | (simp [yib] at ha; done) | (exact absurd rfl hn) | (cases b <;> rfl))
theorem ybat{op:BinOp}{t:TypeId}{x y:Operand}{X Y:Value}{a b v:AV}(ha:VR w U O a X)(hb:VR w U O b Y)(h:yvs op a b=some v) :
    ∃ z,(do eqGuard op t x y X Y; binOp op t X Y:Sem Value).run P w = .ok z w/\VR w U O v z:=by
  unfold yvs at h
  split at h
  .rename_i k m k' n
   simp only [VR] at ha hb
   subst ha; subst hb
   split at h
   .rename_i hk
    obtain ⟨h1,h2⟩:=ybil (P:=P) (w:=w) op t k k' m n hk h
    exact ⟨_,by simp only [Sem.run_bind,ywm (P:=P) (w:=w) (op:=op) (t:=t) (x:=x) (y:=y) (a:=Value.int k m) (b:=Value.int k' n) rfl (by simp),Result.andThen_ok]; exact h1,yiu h2⟩
   .cases h
  .rename_i m n
   simp only [VR] at ha hb
   subst ha; subst hb
   obtain ⟨h1,h2⟩:=ybim (P:=P) (w:=w) op t m n h
   exact ⟨_,by simp only [Sem.run_bind,ywm (P:=P) (w:=w) (op:=op) (t:=t) (x:=x) (y:=y) (a:=Value.string m) (b:=Value.string n) rfl (by simp),Result.andThen_ok]; exact h1,yiu h2⟩
  .cases h
def ynl(neg:Bool):BinOp:=if neg=true then .neq else .eql
theorem yagr(neg:Bool)(t:TypeId)(X Y:Value)(r:Bool)(hX:(∃ b,X = .bool b)\/∃ xs,X = .agg xs)(h:(Op.equalIn 10000 t X Y).run P w = .ok r w) :
    (binOp (ynl neg) t X Y).run P w = .ok (.bool (if neg then !r else r)) w:=by
  have h':(Op.equal t X Y).run P w = .ok r w:=h
  rcases hX with ⟨b,rfl⟩ | ⟨xs,rfl⟩ <;> cases neg <;> simp [binOp,ynl,h']
theorem ybaw{neg:Bool}{t:TypeId}{ti:TI}(ht:ybt P t=some ti)(hd:ti.desc = .bool){x y:Operand}{X Y:Value}{a b v:AV}(ha:VR w U O a X)(hb:VR w U O b Y)(h:yaik neg a b=some v) :
    ∃ z,(do eqGuard (ynl neg) t x y X Y; binOp (ynl neg) t X Y:Sem Value).run P w = .ok z w/\VR w U O v z:=by
  unfold yaik at h
  split at h
  .rename_i m n
   simp only [VR] at ha hb
   subst ha; subst hb
   simp only [yeo,qa] at h
   subst h
   have hu:=(ygh ht).1
   rw [hd] at hu
   have he:(Op.equalIn 10000 t (.bool m) (.bool n)).run P w = .ok (m == n) w:=run_equalIn_bool' w 9999 t m n hu
   have:=yagr (P:=P) (w:=w) neg t (.bool m) (.bool n) (m == n) (.inl ⟨m,rfl⟩) he
   refine ⟨_,?_,yiu rfl⟩
   simp only [Sem.run_bind,ywm (P:=P) (w:=w) (op:=ynl neg) (t:=t) (x:=x) (y:=y) (a:=Value.bool m) (b:=Value.bool n) rfl (by simp),Result.andThen_ok]
   exact this
  .cases h
theorem yaek{t:TypeId}{ti:TI}(ht:ybt P t=some ti){q:Nat}(hq:yqx ti.desc=some q){X Y:Value}{a b:AV}{r:Bool}(d:Nat)(ha:VR w U O a X)(hb:VR w U O b Y)(h:ysu q a b=some r) :
    (Op.equalIn (d + 1) t X Y).run P w = .ok r w:=by
  have hu:=(ygh ht).1
  unfold ysu at h
  split at h
  .simp only [VR] at ha hb
   subst ha; subst hb
   simp only [qa] at h
   subst h
   cases hd:ti.desc <;> simp [hd,yqx] at hq
   rw [hd] at hu
   exact run_equalIn_bool' w d _ _ _ hu
  .simp only [VR] at ha hb
   subst ha; subst hb
   split at h
   .rename_i hk
    subst hk
    simp only [qa] at h
    subst h
    cases hd:ti.desc <;> simp [hd,yqx] at hq
    rw [hd] at hu
    exact run_equalIn_int w d _ _ _ _ _ hu
   .cases h
  .simp only [VR] at ha hb
   subst ha; subst hb
   simp only [qa] at h
   subst h
   cases hd:ti.desc <;> simp [hd,yqx] at hq
   rw [hd] at hu
   exact run_equalIn_string w d _ _ _ hu
  .cases h
theorem yaae:∀ {fs:List Field} {l:List (Nat × Nat)},eqFields P fs=some l->∀ {xs ys:Array Value} {as bs:List AV} {r:Bool} (d:Nat),VRs w U O as xs.toList->VRs w U O bs ys.toList->yha l as bs=some r ->
    (Op.eqFields (d + 1) xs ys fs).run P w = .ok r w
  | [],l,h,xs,ys,as,bs,r,d,ha,hb,hr=>by
    simp only [eqFields,qa] at h
    subst h
    simp only [yha,qa] at hr
    subst hr
    simp [Op.eqFields]
  | f :: fs,l,h,xs,ys,as,bs,r,d,ha,hb,hr=>by
    simp only [eqFields] at h
    cases ht:ybt P f.type with
    | none=>simp [ht] at h
    | some ti=>
      cases hl:eqFields P fs with
      | none=>simp [ht,hl] at h
      | some l'=>
        cases hq:yqx ti.desc with
        | none=>simp [ht,hl,hq] at h
        | some q=>
          simp only [ht,hl,hq] at h
          split at h
          .rename_i hc
           simp only [bne_iff_ne,ne_eq] at hc
           simp only [qa] at h
           subst h
           simp only [yha] at hr
           cases h1:as[f.offset]? with
           | none=>simp [h1] at hr
           | some a=>
             cases h2:bs[f.offset]? with
             | none=>simp [h1,h2] at hr
             | some b=>
               obtain ⟨X,hX,vX⟩:=ydz ha h1
               obtain ⟨Y,hY,vY⟩:=ydz hb h2
               have hX':xs[f.offset]? = some X:=by simpa using hX
               have hY':ys[f.offset]? = some Y:=by simpa using hY
               have hag:(isAgg f.type).run P w = .ok false w:=by
                 rw [yok ht]
                 cases hd:ti.desc <;> simp [hd,yqx] at hq <;> rfl
               have pX:(Go.part f.type xs f.offset).run P w = .ok X w:=by simp [Go.part,hag,hX']
               have pY:(Go.part f.type ys f.offset).run P w = .ok Y w:=by simp [Go.part,hag,hY']
               simp only [h1,h2] at hr
               cases he:ysu q a b with
               | none=>simp [he] at hr
               | some e=>
                 have hrun:=yaek ht hq d vX vY he
                 simp only [he] at hr
                 simp only [Op.eqFields,ne_eq,hc,not_false_eq_true,wl,Sem.run_bind,pX,pY,hrun,Result.andThen_ok]
                 cases e with
                 | true=>simp only [Bool.not_true,qr,wn] at hr ⊢; exact yaae hl d ha hb hr
                 | false=>simp only [qa] at hr; subst hr; simp
          .cases h
def yum(d:Nat)(e:TypeId)(n:Nat)(xs ys:Array Value):List Nat->Sem Bool
  | []=>pure true
  | i :: r=>do
    let a ← Go.part e xs (i * n)
    let b ← Go.part e ys (i * n)
    let x ← Op.equalIn d e a b
    if (!x) = true then pure false else yum d e n xs ys r
theorem yaea(d:Nat)(t:TypeId)(len e n:Nat)(xs ys:Array Value)(ht:P.underlying t=some (.array len e))(hs:(sizeOf e).run P w = .ok n w) :
    (Op.equalIn (d + 1) t (.agg xs) (.agg ys)).run P w=(yum d e n xs ys (List.range' 0 len)).run P w:=by
  simp only [Op.equalIn,Sem.run_bind,run_underlying ht,hs,Result.andThen_ok,Std.Legacy.Range.forIn_eq_forIn_range',Std.Legacy.Range.size,Nat.sub_zero,Nat.add_sub_cancel,Nat.div_one]
  generalize List.range' 0 len=l
  clear ht hs
  induction l generalizing w with
  | nil=>simp [yum]
  | cons i r ih=>
    simp only [List.forIn_cons,yum,Sem.run_bind,Sem.run_ite]
    generalize (Go.part e xs (i * n)).run P w=r1
    cases r1 with
    | ok a w1=>
      simp only [Result.andThen_ok]
      generalize (Go.part e ys (i * n)).run P w1=r2
      cases r2 with
      | ok b w2=>
        simp only [Result.andThen_ok]
        generalize (Op.equalIn d e a b).run P w2=r3
        cases r3 with
        | ok x w3=>
          cases x
          .simp only [Result.andThen_ok,Bool.not_false,wl,Sem.run_pure]
          .simp only [Result.andThen_ok,Bool.not_true,qr,wn,Sem.run_pure]
           exact ih
        | halt x w3=>simp [Result.andThen]
      | halt x w2=>simp [Result.andThen]
    | halt x w1=>simp [Result.andThen]
theorem yael{e:TypeId}{te:TI}{q:Nat}(ht:ybt P e=some te)(hq:yqx te.desc=some q)(d:Nat){xs ys:Array Value}{as bs:List AV}{r:Bool}(ha:VRs w U O as xs.toList)(hb:VRs w U O bs ys.toList) :
    ∀ (n i:Nat),yha (yul q n i) as bs=some r->(yum (d + 1) e 1 xs ys (List.range' i n)).run P w = .ok r w
  | 0,i,hr=>by
    simp only [yul,yha,qa] at hr
    subst hr
    simp [yum]
  | n + 1,i,hr=>by
    simp only [yul,yha] at hr
    cases h1:as[i]? with
    | none=>simp [h1] at hr
    | some a=>
      cases h2:bs[i]? with
      | none=>simp [h1,h2] at hr
      | some b=>
        obtain ⟨X,hX,vX⟩:=ydz ha h1
        obtain ⟨Y,hY,vY⟩:=ydz hb h2
        have hX':xs[i]? = some X:=by simpa using hX
        have hY':ys[i]? = some Y:=by simpa using hY
        have hag:(isAgg e).run P w = .ok false w:=by
          rw [yok ht]
          cases hd:te.desc <;> simp [hd,yqx] at hq <;> rfl
        have pX:(Go.part e xs (i * 1)).run P w = .ok X w:=by simp [Go.part,hag,hX']
        have pY:(Go.part e ys (i * 1)).run P w = .ok Y w:=by simp [Go.part,hag,hY']
        simp only [h1,h2] at hr
        cases he:ysu q a b with
        | none=>simp [he] at hr
        | some x=>
          have hrun:=yaek ht hq d vX vY he
          simp only [he] at hr
          rw [List.range'_succ]
          simp only [yum,Sem.run_bind,pX,pY,hrun,Result.andThen_ok,Sem.run_ite]
          cases x with
          | true=>simp only [Bool.not_true,qr,wn] at hr ⊢; exact yael ht hq d ha hb n (i + 1) hr
          | false=>simp only [qa] at hr; subst hr; simp
theorem ybav{neg:Bool}{t e:TypeId}{ti te:TI}{n q:Nat}(ht:ybt P t=some ti)(hd:ti.desc = .array n e)(h2:P.eqGuardType P.depth t=false)(hte:ybt P e=some te)(hq:yqx te.desc=some q)(hz:te.size=1)
    {x y:Operand} {X Y:Value} {a b v:AV} (ha:VR w U O a X) (hb:VR w U O b Y) (h:yyc neg (yul q n 0) a b=some v) :
    ∃ z,(do eqGuard (ynl neg) t x y X Y; binOp (ynl neg) t X Y:Sem Value).run P w = .ok z w/\VR w U O v z:=by
  unfold yyc at h
  split at h
  .rename_i as bs
   simp only [VR] at ha hb
   obtain ⟨xs,rfl,ha⟩:=ha
   obtain ⟨ys,rfl,hb⟩:=hb
   split at h
   .rename_i r hr
    simp only [yeo,qa] at h
    subst h
    have hu:=(ygh ht).1
    rw [hd] at hu
    have hs:(sizeOf e).run P w = .ok 1 w:=by
      have:=yeg (w:=w) hte
      rw [hz] at this
      exact this
    have he:(Op.equalIn 10000 t (.agg xs) (.agg ys)).run P w = .ok r w:=by
      have e1:=yaea (P:=P) (w:=w) 9999 t n e 1 xs ys hu hs
      exact e1.trans (yael hte hq 9998 ha hb n 0 hr)
    have:=yagr (P:=P) (w:=w) neg t (.agg xs) (.agg ys) r (.inr ⟨xs,rfl⟩) he
    refine ⟨_,?_,yiu rfl⟩
    simp only [Sem.run_bind,run_eqGuard_agg (P:=P) w (ynl neg) t x y xs ys h2,Result.andThen_ok]
    exact this
   .cases h
  .cases h
theorem ybax{neg:Bool}{t:TypeId}{ti:TI}{fs:Array Field}{l:List (Nat × Nat)}(ht:ybt P t=some ti)(hd:ti.desc = .struct fs)(h1:P.stoodInHeld t=false)(h2:P.eqGuardType P.depth t=false)(hl:eqFields P fs.toList=some l)
    {x y:Operand} {X Y:Value} {a b v:AV} (ha:VR w U O a X) (hb:VR w U O b Y) (h:yyc neg l a b=some v) :
    ∃ z,(do eqGuard (ynl neg) t x y X Y; binOp (ynl neg) t X Y:Sem Value).run P w = .ok z w/\VR w U O v z:=by
  unfold yyc at h
  split at h
  .rename_i as bs
   simp only [VR] at ha hb
   obtain ⟨xs,rfl,ha⟩:=ha
   obtain ⟨ys,rfl,hb⟩:=hb
   split at h
   .rename_i r hr
    simp only [yeo,qa] at h
    subst h
    have hu:=(ygh ht).1
    rw [hd] at hu
    have hf:P.fieldsOf t=fs:=by simp [Program.fieldsOf,hu]
    have he:(Op.equalIn 10000 t (.agg xs) (.agg ys)).run P w = .ok r w:=by
      have e1:=run_equalIn_struct (P:=P) w 9999 t xs ys (by rw [hf]; exact hu) h1
      rw [hf] at e1
      exact e1.trans (yaae hl 9998 ha hb hr)
    have:=yagr (P:=P) (w:=w) neg t (.agg xs) (.agg ys) r (.inr ⟨xs,rfl⟩) he
    refine ⟨_,?_,yiu rfl⟩
    simp only [Sem.run_bind,run_eqGuard_agg (P:=P) w (ynl neg) t x y xs ys h2,Result.andThen_ok]
    exact this
   .cases h
  .cases h
theorem ycna{v:AV}{X:Value}{b:Bool}(hv:VR w U O v X)(h:ybhn v=some b):∃ a n c,X = .slice a n c/\a.isNone=b:=by
  unfold ybhn at h
  split at h
  .simp only [VR] at hv
   simp only [qa] at h
   subst h
   exact ⟨none,0,0,hv,rfl⟩
  .rename_i es rows ex
   split at h
   .cases h
   .rename_i hne
    simp only [qa] at h
    subst h
    simp only [VR] at hv
    obtain ⟨A,c,h1,_,_,h4⟩:=hv
    rcases h4 with h4 | ⟨b,o,h5,_⟩
    .simp [h4] at hne
    .exact ⟨A,_,c,h1,by rw [h5]; rfl⟩
  .rename_i es id off len ex
   split at h
   .cases h
   .rename_i hne
    simp only [qa] at h
    subst h
    simp only [VR] at hv
    obtain ⟨A,c,h1,_,_,h4⟩:=hv
    rcases h4 with h4 | ⟨b,C,e,fr,_,h5,_⟩
    .omega
    .exact ⟨A,_,c,h1,by rw [h5]; rfl⟩
  .cases h
theorem yaoy{op:BinOp}{t:TypeId}{x y:Operand}{a b:Option Addr}{n c n' c':Nat}:(eqGuard op t x y (.slice a n c) (.slice b n' c')).run P w = .ok () w:=by
  unfold eqGuard
  cases op <;> rfl
theorem yafd(neg:Bool){t:TypeId}{ti:TI}{e:TypeId}(ht:ybt P t=some ti)(hd:ti.desc = .slice e)(x y:Operand)(a:Option Addr)(n c:Nat) :
    (do eqGuard (ynl neg) t x y (.slice a n c) (.slice none 0 0); binOp (ynl neg) t (.slice a n c) (.slice none 0 0):Sem Value).run P w = .ok (.bool (if neg then !a.isNone else a.isNone)) w:=by
  have hu:=(ygh ht).1
  rw [hd] at hu
  have he:∀ d,(Op.equalIn (d + 1) t (.slice a n c) (.slice none 0 0)).run P w = .ok a.isNone w:=fun d=>by
    cases a <;> simp [Op.equalIn,run_underlying hu]
  have he':(Op.equal t (.slice a n c) (.slice none 0 0)).run P w = .ok a.isNone w:=he 9999
  simp only [Sem.run_bind,yaoy (P:=P) (w:=w),Result.andThen_ok]
  cases neg <;> simp [binOp,ynl,he']
theorem ybay{neg:Bool}{t:TypeId}{ti:TI}{e:TypeId}(ht:ybt P t=some ti)(hd:ti.desc = .slice e){x y:Operand}{X:Value}{a v:AV}(ha:VR w U O a X)(h:ybco neg a=some v) :
    ∃ z,(do eqGuard (ynl neg) t x y X (.slice none 0 0); binOp (ynl neg) t X (.slice none 0 0):Sem Value).run P w = .ok z w/\VR w U O v z:=by
  unfold ybco at h
  split at h
  .rename_i b hb
   obtain ⟨A,n,c,rfl,h2⟩:=ycna ha hb
   simp only [yeo,qa] at h
   subst h
   refine ⟨_,yafd neg ht hd x y A n c,?_⟩
   rw [h2]
   exact yiu rfl
  .cases h
end
section
variable {P:Program} {w:World} {U:Nat->Nat->Prop} {O:Rho}
theorem ycls{X:Value}{a v:AV}(ha:VR w U O a X)(h:yakb a=some v):∃ z,(Op.unary .neg X).run P w = .ok z w/\VR w U O v z:=by
  unfold yakb at h
  split at h
  .simp only [VR] at ha
   subst ha
   simp only [yfm,qa] at h
   subst h
   exact ⟨_,by simp only [Op.unary,Op.intArith]; rfl,yiu rfl⟩
  .cases h
theorem ydgy{X:Value}{a v:AV}(ha:VR w U O a X)(h:ntAV a=some v):∃ z,(Op.unary .not X).run P w = .ok z w/\VR w U O v z:=by
  unfold ntAV at h
  split at h
  .simp only [VR] at ha
   subst ha
   simp only [yeo,qa] at h
   subst h
   exact ⟨_,by simp only [Op.unary]; rfl,yiu rfl⟩
  .cases h
theorem yclj{s d:TypeId}{xs xd:TI}(hs:ybt P s=some xs)(hd:ybt P d=some xd){k:IntKind}(hk:xd.desc = .int k){X:Value}{a v:AV}(ha:VR w U O a X)(h:yaii k a=some v) :
    ∃ z,(convert s d X).run P w = .ok z w/\VR w U O v z:=by
  unfold yaii at h
  split at h
  .simp only [VR] at ha
   subst ha
   simp only [yfm,qa] at h
   subst h
   refine ⟨_,?_,yiu rfl⟩
   have h2:=ycc hd w
   rw [hk] at h2
   simp only [convert,Sem.run_bind,ycc hs w,h2,Result.andThen_ok]
   rfl
  .cases h
theorem ycli{s d:TypeId}{xs xd:TI}(hs:ybt P s=some xs)(hd:ybt P d=some xd)(hk:xd.desc = .string){X:Value}{a v:AV}(ha:VR w U O a X)(h:ybcj a=some v) :
    ∃ z,(convert s d X).run P w = .ok z w/\VR w U O v z:=by
  unfold ybcj at h
  split at h
  .simp only [VR] at ha
   subst ha
   simp only [qa] at h
   subst h
   refine ⟨_,?_,yiu rfl⟩
   have h2:=ycc hd w
   rw [hk] at h2
   simp only [convert,Sem.run_bind,ycc hs w,h2,Result.andThen_ok]
   rfl
  .cases h
theorem ycba{B X Y:Value}{b x y v:AV}(hb:VR w U O b B)(hx:VR w U O x X)(hy:VR w U O y Y)(h:yakf b x y=some v) :
    ∃ z,(do pure (.value (if ← asBool B then X else Y)):Sem Next).run P w = .ok (.value z) w/\VR w U O v z:=by
  unfold yakf at h
  split at h
  .rename_i b
   simp only [VR] at hb
   subst hb
   simp only [qa] at h
   subst h
   refine ⟨if b=true then X else Y,by simp only [asBool,Sem.run_bind,Sem.run_pure,Result.andThen_ok],?_⟩
   cases b <;> simp <;> assumption
  .cases h
theorem yavf{t:TypeId}{x:TI}(ht:ybt P t=some x){cs:Array Value}{as:List AV}{off:Nat}{v:AV}(ha:VRs w U O as cs.toList)(h:part (ypg x.desc) x.size as off=some v) :
    ∃ z,(Go.part t cs off).run P w = .ok z w/\VR w U O v z:=by
  unfold part at h
  split at h
  .rename_i hagg
   split at h
   .simp only [qa] at h
    subst h
    refine ⟨.agg (cs.extract off (off + x.size)),?_,?_⟩
    .simp only [Go.part,Sem.run_bind,yok ht,hagg,Result.andThen_ok,wl,yeg ht,Sem.run_pure]
    .simp only [VR]
     refine ⟨_,rfl,?_⟩
     have:=yaqr x.size (yaqo off ha)
     rw [Array.toList_extract,List.extract_eq_take_drop,Nat.add_sub_cancel_left]
     exact this
   .cases h
  .rename_i hagg
   split at h
   .rename_i v' hv'
    split at h
    .simp only [qa] at h
     subst h
     obtain ⟨X,hX,vX⟩:=ydz ha hv'
     have hX':cs[off]? = some X:=by simpa using hX
     have hagg':ypg x.desc=false:=by simpa using hagg
     refine ⟨X,?_,vX⟩
     simp [Go.part,yok ht,hagg',hX']
    .cases h
   .cases h
theorem yclm{t:TypeId}{ti:TI}(ht:ybt P t=some ti){fs:Array Field}(hd:ti.desc = .struct fs){f:Nat}{fl:Field}(hf:fs[f]? = some fl){x:TI}(hx:ybt P fl.type=some x)
    {X:Value} {a v:AV} (ha:VR w U O a X) (h:yapj (ypg x.desc) x.size fl.offset a=some v):∃ z,(Instr.field t X f).run P w = .ok z w/\VR w U O v z:=by
  unfold yapj at h
  split at h
  .simp only [VR] at ha
   obtain ⟨xs,rfl,ha⟩:=ha
   obtain ⟨z,h1,h2⟩:=yavf hx ha h
   refine ⟨z,?_,h2⟩
   have h3:=ycc ht w
   rw [hd] at h3
   simp only [Instr.field,Sem.run_bind,h3,Result.andThen_ok,hf,asAgg,Sem.run_pure]
   exact h1
  .cases h
theorem ycll{i:Nat}{X:Value}{a v:AV}(ha:VR w U O a X)(h:yapi i a=some v):∃ z,(Instr.extract X i).run P w = .ok z w/\VR w U O v z:=by
  unfold yapi at h
  split at h
  .simp only [VR] at ha
   obtain ⟨xs,rfl,ha⟩:=ha
   obtain ⟨z,h1,h2⟩:=ydz ha h
   have h1':xs[i]? = some z:=by simpa using h1
   exact ⟨z,by simp [Instr.extract,h1'],h2⟩
  .cases h
theorem ynb(b o n:Nat):(⟨b,o,none⟩:Addr).add n = ⟨b,o + n,none⟩:=by unfold Addr.add; split <;> simp_all
theorem ydgu{t:TypeId}{ti:TI}(ht:ybt P t=some ti){fs:Array Field}(hd:ti.desc = .struct fs){f:Nat}{fl:Field}(hf:fs[f]? = some fl){x:TI}(hx:ybt P fl.type=some x)(hz:0 < x.size)
    {X:Value} {a v:AV} (ha:VR w U O a X) (h:faAV fl.offset a=some v):∃ z,(Instr.fieldAt t X f).run P w = .ok z w/\VR w U O v z:=by
  have key:∀ b o,X = .pointer (some ⟨b,o,none⟩)->(Instr.fieldAt t X f).run P w = .ok (.pointer (some ⟨b,o + fl.offset,none⟩)) w:=by
    rintro b o rfl
    have h3:=ycc ht w
    rw [hd] at h3
    have hne:¬ x.size=0:=by omega
    simp [Instr.fieldAt,h3,hf,Instr.sureAddr,fieldPlace,yeg hx,hne,ynb]
  unfold faAV at h
  split at h <;> simp only [qa,reduceCtorEq] at h
  .subst h
   simp only [VR] at ha
   obtain ⟨b,es,h1,h2⟩:=ha
   exact ⟨_,key b _ h2,by simp only [VR]; exact ⟨b,es,h1,rfl⟩⟩
  .subst h
   simp only [VR] at ha
   obtain ⟨b,es,h1,h2⟩:=ha
   exact ⟨_,key b _ h2,by simp only [VR]; exact ⟨b,es,h1,by rw [Nat.add_assoc]⟩⟩
  .subst h
   simp only [VR] at ha
   obtain ⟨b,o,h2,h1⟩:=ha
   exact ⟨_,key b _ h2,by simp only [VR]; exact ⟨b,o,by rw [Nat.add_assoc],h1⟩⟩
theorem yclo{t:TypeId}{ti:TI}(ht:ybt P t=some ti){e:TypeId}(hd:ti.desc = .slice e){x:TI}(hx:ybt P e=some x)
    {X I:Value} {a i v:AV} (ha:VR w U O a X) (hi:VR w U O i I) (h:yof x.size a i=some v):∃ z,(Instr.indexAt t X I).run P w = .ok z w/\VR w U O v z:=by
  have h3:=ycc ht w
  rw [hd] at h3
  have key:∀ b o len c k n,X = .slice (some ⟨b,o,none⟩) len c->I = .int k n->0<=n->n < (len:Int)->(Instr.indexAt t X I).run P w = .ok (.pointer (some ⟨b,o + n.toNat * x.size,none⟩)) w:=by
    rintro b o len c k n rfl rfl h0 h1
    simp [Instr.indexAt,asIntOf,h3,h0,h1,yeg hx,ynb]
  unfold yof at h
  split at h
  .rename_i es rows ex k n
   split at h
   .rename_i hc
    obtain ⟨rfl,h0⟩:=hc
    split at h
    .rename_i row hrow
     simp only [qa] at h
     subst h
     simp only [VR] at ha hi
     obtain ⟨A,c,h1,h2,_,h4⟩:=ha
     have hlt:n.toNat < rows.length:=by
       rcases qz n.toNat rows.length with hl | hl
       .exact hl
       .rw [qm hl] at hrow; cases hrow
     rcases h4 with rfl | ⟨b,o,rfl,h5⟩
     .simp at hlt
     .have:=yaco h5 hrow
      exact ⟨_,key b o _ c k n h1 hi h0 (by omega),by simp only [VR]; exact ⟨b,o + n.toNat * x.size,rfl,this.2⟩⟩
    .cases h
   .cases h
  .rename_i es id off len ex k n
   split at h
   .rename_i hc
    obtain ⟨rfl,h0,hl⟩:=hc
    simp only [qa] at h
    subst h
    simp only [VR] at ha hi
    obtain ⟨A,c,h1,h2,_,h4⟩:=ha
    rcases h4 with ⟨rfl,rfl⟩ | ⟨b,C,e',fr,h5,rfl,h6,h7⟩
    .simp at hl; omega
    .exact ⟨_,key b _ _ c k n h1 hi h0 hl,by simp only [VR]; exact ⟨b,x.size,h5,by rw [jo,ka]⟩⟩
   .cases h
  .cases h
theorem ycln{t:TypeId}{ti:TI}(ht:ybt P t=some ti){e:TypeId}{n:Nat}(hd:ti.desc = .array n e){x:TI}(hx:ybt P e=some x)
    {X I:Value} {a i v:AV} (ha:VR w U O a X) (hi:VR w U O i I) (h:ysh x.size n a i=some v):∃ z,(Instr.indexAt t X I).run P w = .ok z w/\VR w U O v z:=by
  have h3:=ycc ht w
  rw [hd] at h3
  have key:∀ b o k m,X = .pointer (some ⟨b,o,none⟩)->I = .int k m->0<=m->m < (n:Int)->(Instr.indexAt t X I).run P w = .ok (.pointer (some ⟨b,o + m.toNat * x.size,none⟩)) w:=by
    rintro b o k m rfl rfl h0 h1
    simp [Instr.indexAt,asIntOf,h3,Instr.sureAddr,h0,h1,yeg hx,ynb]
  unfold ysh at h
  split at h
  all_goals first
    | (cases h; done)
    | skip
  all_goals
    split at h
    .rename_i hc
     obtain ⟨h0,hl⟩:=hc
     simp only [qa] at h
     subst h
     simp only [VR] at ha hi
     first
       | (obtain ⟨b,es,h1,h2⟩:=ha
          exact ⟨_,key b _ _ _ h2 hi h0 hl,by simp only [VR]; exact ⟨b,es,h1,by simp [Nat.add_assoc]⟩⟩)
       | (obtain ⟨b,o,h2,h1⟩:=ha
          exact ⟨_,key b _ _ _ h2 hi h0 hl,by simp only [VR]; exact ⟨b,o,by rw [Nat.add_assoc],h1⟩⟩)
    .cases h
theorem yclq{t:TypeId}{ti:TI}(ht:ybt P t=some ti)(hd:ti.desc = .string){X I:Value}{a i v:AV}(ha:VR w U O a X)(hi:VR w U O i I)(h:yyl a i=some v) :
    ∃ z,(Instr.index t X I).run P w = .ok z w/\VR w U O v z:=by
  have h3:=ycc ht w
  rw [hd] at h3
  unfold yyl at h
  split at h
  .rename_i s k n
   split at h
   .rename_i h0
    split at h
    .rename_i b hb
     simp only [qa] at h
     subst h
     simp only [VR] at ha hi
     subst ha; subst hi
     refine ⟨.int .u8 b.toNat,?_,by simp [VR]⟩
     have hb':s[n.toNat]? = some b:=by
       have hlt:n.toNat < s.data.toList.length:=by
         rcases qz n.toNat s.data.toList.length with hl | hl
         .exact hl
         .rw [qm hl] at hb; cases hb
       rw [qj hlt] at hb
       have hlt':n.toNat < s.size:=by simpa using hlt
       rw [getElem?_pos s n.toNat hlt']
       have hb2:s.data[n.toNat] = b:=by simpa using hb
       exact congrArg some hb2
     simp [Instr.index,asIntOf,h3,h0,hb']
    .cases h
   .cases h
  .cases h
theorem yclp{t:TypeId}{ti:TI}(ht:ybt P t=some ti){e:TypeId}{n:Nat}(hd:ti.desc = .array n e){x:TI}(hx:ybt P e=some x)
    {X I:Value} {a i v:AV} (ha:VR w U O a X) (hi:VR w U O i I) (h:yadl (ypg x.desc) x.size n a i=some v):∃ z,(Instr.index t X I).run P w = .ok z w/\VR w U O v z:=by
  have h3:=ycc ht w
  rw [hd] at h3
  unfold yadl at h
  split at h
  .rename_i cs k m
   split at h
   .rename_i hc
    simp only [VR] at ha hi
    obtain ⟨xs,rfl,ha⟩:=ha
    subst hi
    obtain ⟨z,h1,h2⟩:=yavf hx ha h
    exact ⟨z,by simp [Instr.index,asIntOf,h3,hc,yeg hx,h1],h2⟩
   .cases h
  .cases h
theorem ydgx{X:Value}{a v:AV}(ha:VR w U O a X)(h:ncAV a=some v) :
    ∃ z,(match X with
      | .pointer none | .nilIface | .nilFunc=>runtimePanic .nilDeref
      | .func (.method name) first captured=>
        match (first[0]?:Option Value) with
        | some .nilIface=>runtimePanic .nilDeref
        | some (.iface t w)=>do
          if (← nilAhead ((← program).types.size + Made.depth) t w name) != some false then
           unsupported (.noEntry "op/nilCheck.the method's receiver behind this interface value is a nil pointer, or cannot be seen to be none, and the arguments act or may panic (ledger 612)")
          pure (.value (.func (.method name) first captured))
        | _=>pure (.value (.func (.method name) first captured))
      | x=>pure (.value x):Sem Next).run P w = .ok (.value z) w/\VR w U O v z:=by
  unfold ncAV at h
  split at h <;> simp only [qa,reduceCtorEq] at h
  all_goals
    subst h
    have ha':=ha
    simp only [VR] at ha
  .obtain ⟨b,es,h1,rfl⟩:=ha
   exact ⟨_,rfl,ha'⟩
  .obtain ⟨b,es,h1,rfl⟩:=ha
   exact ⟨_,rfl,ha'⟩
  .obtain ⟨b,o,rfl,h1⟩:=ha
   exact ⟨_,rfl,ha'⟩
  .obtain ⟨xs,ys,rfl,h1,h2⟩:=ha
   exact ⟨_,rfl,ha'⟩
theorem ycaz{t ty:TypeId}{ti:TI}(ht:ybt P t=some ti)(hd:ti.desc = .string){X:Value}{a v:AV}(ha:VR w U O a X)(h:yajv a=some v) :
    ∃ z,(Builtin.len_ #[t] ty #[X]).run P w = .ok z w/\VR w U O v z:=by
  have h3:=ycc ht w
  rw [hd] at h3
  unfold yajv at h
  split at h <;> simp only [qa,reduceCtorEq] at h
  subst h
  simp only [VR] at ha
  subst ha
  exact ⟨_,by simp only [Builtin.len_,Sem.run_bind,List.getElem?_toArray,List.getElem?_cons_zero,h3,Result.andThen_ok]; rfl,yiu rfl⟩
theorem ycay{t ty:TypeId}{ti:TI}(ht:ybt P t=some ti){e:TypeId}(hd:ti.desc = .slice e){X:Value}{a v:AV}(ha:VR w U O a X)(h:ymz a=some v) :
    ∃ z,(Builtin.len_ #[t] ty #[X]).run P w = .ok z w/\VR w U O v z:=by
  have h3:=ycc ht w
  rw [hd] at h3
  have key:∀ A n c,X = .slice A n c->(Builtin.len_ #[t] ty #[X]).run P w = .ok (.int .i64 n) w:=by
    rintro A n c rfl
    simp only [Builtin.len_,Sem.run_bind,List.getElem?_toArray,List.getElem?_cons_zero,h3,Result.andThen_ok]
    rfl
  unfold ymz at h
  split at h <;> simp only [qa,reduceCtorEq] at h <;> subst h <;> simp only [VR] at ha
  .exact ⟨_,key _ _ _ ha,by simp [VR,yqo]⟩
  .obtain ⟨A,c,h1,_⟩:=ha
   exact ⟨_,key _ _ _ h1,by simp [VR,yqo]⟩
  .obtain ⟨A,c,h1,_⟩:=ha
   exact ⟨_,key _ _ _ h1,by simp [VR,yqo]⟩
theorem ydgw{ts:Array TypeId}{ty:TypeId}{X Y:Value}{a b v:AV}(ha:VR w U O a X)(hb:VR w U O b Y)(h:mxAV a b=some v) :
    ∃ z,(Builtin.max_ ts ty #[X,Y]).run P w = .ok z w/\VR w U O v z:=by
  unfold mxAV at h
  split at h
  .split at h
   .rename_i hk
    subst hk
    simp only [yfm,qa] at h
    subst h
    simp only [VR] at ha hb
    subst ha; subst hb
    exact ⟨_,by simp [Builtin.max_,Builtin.max2]; rfl,yiu rfl⟩
   .cases h
  .cases h
theorem ydgv{ts:Array TypeId}{ty:TypeId}{X Y:Value}{a b v:AV}(ha:VR w U O a X)(hb:VR w U O b Y)(h:mnAV a b=some v) :
    ∃ z,(Builtin.min_ ts ty #[X,Y]).run P w = .ok z w/\VR w U O v z:=by
  unfold mnAV at h
  split at h
  .split at h
   .rename_i hk
    subst hk
    simp only [yfm,qa] at h
    subst h
    simp only [VR] at ha hb
    subst ha; subst hb
    exact ⟨_,by simp [Builtin.min_,Builtin.min2]; rfl,yiu rfl⟩
   .cases h
  .cases h
end
def VRo(w:World)(U:Nat->Nat->Prop)(O:Rho)(a:Option AV)(x:Option Value):Prop:=
  match a,x with
  | none,none=>True
  | some a,some x=>VR w U O a x
  | _,_=>False
section
variable {P:Program} {w:World} {U:Nat->Nat->Prop} {O:Rho}
theorem yabo{a:Option AV}{x:Option Value}{r:Option Int}(hv:VRo w U O a x)(h:ykz a=some r):(r=none/\x=none)\/∃ k n,r=some n/\x=some (.int k n):=by
  cases a with
  | none=>
    cases x with
    | none=>simp [ykz] at h; exact .inl ⟨h.symm,rfl⟩
    | some x=>simp [VRo] at hv
  | some a=>
    cases x with
    | none=>simp [VRo] at hv
    | some x=>
      simp only [VRo] at hv
      cases a <;> simp [ykz,asI] at h
      rename_i k n
      simp only [VR] at hv
      subst hv; subst h
      exact .inr ⟨k,n,rfl,rfl⟩
theorem ylk{k:IntKind}{i:Int}{y:Nat}{code:BoundsCode}(h0:0<=i)(h1:i<=y):(Instr.sliceBound (.int k i) y code).run P w = .ok i.toNat w:=by
  simp [Instr.sliceBound,asIntOf,h0,h1]
theorem yzp{lo hi mx:Option AV}{LO HI MX:Option Value}{b ex ex':Bool}{n c l h:Nat}(hl:VRo w U O lo LO)(hh:VRo w U O hi HI)(hm:VRo w U O mx MX)(hb:yji n ex lo hi mx=some (l,h,ex'))(hc:n<=c)(hex:ex=true->c=n) :
    ∃ m,(Instr.sliceBounds b n c LO HI MX).run P w = .ok (l,h,m) w/\l<=h/\h<=n/\h<=m/\m<=c/\(ex' = true->m=h):=by
  unfold yji at hb
  split at hb
  .rename_i r1 r2 r3 e1 e2 e3
   split at hb
   .rename_i hcond
    obtain ⟨c1,c2,c3,c4,c5⟩:=hcond
    simp only [qa,qi] at hb
    obtain ⟨rfl,rfl,rfl⟩:=hb
    rcases yabo hl e1 with ⟨rfl,rfl⟩ | ⟨k1,n1,rfl,rfl⟩ <;> rcases yabo hh e2 with ⟨rfl,rfl⟩ | ⟨k2,n2,rfl,rfl⟩ <;> rcases yabo hm e3 with ⟨rfl,rfl⟩ | ⟨k3,n3,rfl,rfl⟩ <;>
      simp only [Option.getD_some,Option.getD_none,Option.isSome_some,Option.isSome_none,qr,forall_const,true_imp_iff,false_imp_iff] at c1 c2 c3 c4 c5 ⊢
    .refine ⟨c,by simp [Instr.sliceBounds],by omega,by omega,by omega,by omega,?_⟩
     intro h; simp at h; exact hex h
    .refine ⟨c,?_,by omega,by omega,by omega,by omega,?_⟩
     .have:n2<=(c:Int):=by omega
      simp only [Instr.sliceBounds,Sem.run_bind,Sem.run_pure,Result.andThen_ok,ylk (P:=P) (w:=w) (k:=k2) (y:=c) (by omega) this]
      simp
     .intro h; simp at h; have:=hex h.1; omega
    .refine ⟨n3.toNat,?_,by omega,by omega,by omega,by omega,?_⟩
     .have:n2<=(n3.toNat:Int):=by omega
      simp only [Instr.sliceBounds,Sem.run_bind,Sem.run_pure,Result.andThen_ok,ylk (P:=P) (w:=w) (k:=k3) (i:=n3) (y:=c) (by omega) (by omega),ylk (P:=P) (w:=w) (k:=k2) (y:=n3.toNat) (by omega) this]
      simp
     .intro h; simp at h; omega
    .refine ⟨c,?_,by omega,by omega,by omega,by omega,?_⟩
     .simp only [Instr.sliceBounds,Sem.run_bind,Sem.run_pure,Result.andThen_ok,ylk (P:=P) (w:=w) (k:=k1) (i:=n1) (y:=n) (by omega) (by omega)]
      simp
     .intro h; simp at h; exact hex h
    .refine ⟨c,?_,by omega,by omega,by omega,by omega,?_⟩
     .simp only [Instr.sliceBounds,Sem.run_bind,Sem.run_pure,Result.andThen_ok,ylk (P:=P) (w:=w) (k:=k2) (i:=n2) (y:=c) (by omega) (by omega),ylk (P:=P) (w:=w) (k:=k1) (i:=n1) (y:=n2.toNat) (by omega) (by omega)]
     .intro h; simp at h; have:=hex h.1; omega
    .refine ⟨n3.toNat,?_,by omega,by omega,by omega,by omega,?_⟩
     .simp only [Instr.sliceBounds,Sem.run_bind,Sem.run_pure,Result.andThen_ok,ylk (P:=P) (w:=w) (k:=k3) (i:=n3) (y:=c) (by omega) (by omega),ylk (P:=P) (w:=w) (k:=k2) (i:=n2) (y:=n3.toNat) (by omega) (by omega),ylk (P:=P) (w:=w) (k:=k1) (i:=n1) (y:=n2.toNat) (by omega) (by omega)]
     .intro h; simp at h; omega
   .cases hb
  .cases hb
theorem yaqp{b o es:Nat}{rows:List (List AV)}{l h:Nat}(hr:RWs w U rows b o es):RWs w U ((rows.take h).drop l) b (o + l * es) es:=by
  refine ywv fun i r hi=>?_
  rw [qo,qn] at hi
  split at hi
  .have:=yaco hr hi
   rw [jo] at this
   rw [Nat.add_assoc]
   exact this
  .cases hi
theorem yclv{t:TypeId}{ti:TI}(ht:ybt P t=some ti)(hd:ti.desc = .string){X:Value}{a v:AV}{lo hi:Option AV}{LO HI:Option Value}(ha:VR w U O a X)(hl:VRo w U O lo LO)(hh:VRo w U O hi HI)(h:ymm a lo hi=some v) :
    ∃ z,(Instr.sliceAt t X LO HI none).run P w = .ok z w/\VR w U O v z:=by
  have h3:=ycc ht w
  rw [hd] at h3
  unfold ymm at h
  split at h
  .rename_i s
   split at h
   .rename_i l hb ex hbn
    simp only [qa] at h
    subst h
    simp only [VR] at ha
    subst ha
    obtain ⟨m,h1,_⟩:=yzp (P:=P) (b:=false) (mx:=none) (MX:=none) hl hh (show VRo w U O none none from True.intro) hbn (qk _) (fun h=>rfl)
    refine ⟨.string (s.extract l hb),?_,by simp [VR]⟩
    simp only [Instr.sliceAt,Instr.slice,Sem.run_bind,h3,Result.andThen_ok,Option.isSome_none,qr,wn,h1,Sem.run_pure]
   .cases h
  .cases h
theorem yclu{t:TypeId}{ti:TI}(ht:ybt P t=some ti){e:TypeId}(hd:ti.desc = .slice e){x:TI}(hx:ybt P e=some x)(hz:0 < x.size)
    {X:Value} {a v:AV} {lo hi mx:Option AV} {LO HI MX:Option Value} (ha:VR w U O a X) (hl:VRo w U O lo LO) (hh:VRo w U O hi HI) (hm:VRo w U O mx MX) (h:yhg x.size a lo hi mx=some v) :
    ∃ z,(Instr.sliceAt t X LO HI MX).run P w = .ok z w/\VR w U O v z:=by
  have h3:=ycc ht w
  rw [hd] at h3
  have key:∀ A n c l h m,X = .slice A n c->(Instr.sliceBounds true n c LO HI MX).run P w = .ok (l,h,m) w ->
   (Instr.sliceAt t X LO HI MX).run P w = .ok (.slice (if m=l then A else A.map (·.add (l * x.size))) (h - l) (m - l)) w:=by
    rintro A n c l h m rfl hb
    simp only [Instr.sliceAt,Instr.slice,Sem.run_bind,h3,Result.andThen_ok,hb,yeg hx,Sem.run_pure]
  unfold yhg at h
  split at h
  .split at h
   .rename_i r hbn
    obtain ⟨l,hb,ex'⟩:=r
    simp only [qa] at h
    subst h
    simp only [VR] at ha
    obtain ⟨m,h1,h2,h4,h5,h6,h7⟩:=yzp (P:=P) (b:=true) hl hh hm hbn (qk _) (fun _=>rfl)
    refine ⟨_,key none 0 0 l hb m ha h1,?_⟩
    have:m=0:=by omega
    have:l=0:=by omega
    have:hb=0:=by omega
    subst_vars
    simp [VR]
   .cases h
  .rename_i es rows ex
   split at h
   .rename_i hes
    have hes:=yarq hes
    split at h
    .rename_i l hb ex' hbn
     simp only [qa] at h
     subst h
     simp only [VR] at ha
     obtain ⟨A,c,hX,g1,g2,g3⟩:=ha
     obtain ⟨m,h1,h2,h4,h5,h6,h7⟩:=yzp (P:=P) (b:=true) hl hh hm hbn g1 g2
     refine ⟨_,key A _ c l hb m hX h1,?_⟩
     simp only [VR]
     have hlen:((rows.take hb).drop l).length=hb - l:=by
       rw [wq,qp]; omega
     refine ⟨_,m - l,by rw [hlen],by omega,fun he=>by rw [hlen,h7 he],?_⟩
     by_cases hml:m=l
     .left
      apply wg
      rw [hlen]; omega
     .rcases g3 with rfl | ⟨b,o,rfl,g4⟩
      .left; simp
      .rcases hes with rfl | rfl
       .left; simp
       .have g5:=yaqp (l:=l) (h:=hb) g4
        rcases ybjd g5 with g6 | g6
        .exact .inl g6
        .right
         rw [g6]
         exact ⟨b,o + l * x.size,by simp [hml,ynb],g5⟩
    .cases h
   .cases h
  .rename_i es id off len ex
   split at h
   .rename_i hes
    subst hes
    split at h
    .rename_i l hb ex' hbn
     simp only [qa] at h
     subst h
     simp only [VR] at ha
     obtain ⟨A,c,hX,g1,g2,g3⟩:=ha
     obtain ⟨m,h1,h2,h4,h5,h6,h7⟩:=yzp (P:=P) (b:=true) hl hh hm hbn g1 g2
     refine ⟨_,key A _ c l hb m hX h1,?_⟩
     simp only [VR]
     refine ⟨_,m - l,rfl,by omega,fun he=>by rw [h7 he],?_⟩
     by_cases hml:m=l
     .left
      omega
     .rcases g3 with ⟨rfl,rfl⟩ | ⟨b,C,e',fr,g4,rfl,g5,g6⟩
      .left; omega
      .right
       refine ⟨b,C,e',fr,g4,by simp [hml,ynb,jo],g5,?_⟩
       have:(off + l + (m - l)) * x.size<=(off + c) * x.size:=qx _ (by omega)
       omega
    .cases h
   .cases h
  .cases h
theorem yfj:∀ (cs:List AV) (n:Nat) (vs:List AV),(ycp cs n vs).length=cs.length
  | [],_,_=>rfl
  | c :: cs,0,v :: vs=>by simp [ycp,yfj cs 0 vs]
  | c :: cs,0,[]=>rfl
  | c :: cs,n + 1,vs=>by simp [ycp,yfj cs n vs]
theorem ylx:∀ (cs:List AV) (n:Nat) (vs:List AV) (i:Nat),(ycp cs n vs)[i]? = if n<=i/\i < n + vs.length/\i < cs.length then vs[i - n]? else cs[i]?
  | [],n,vs,i=>by simp [ycp]
  | c :: cs,0,v :: vs,0=>by simp [ycp]
  | c :: cs,0,v :: vs,i + 1=>by
    simp only [ycp,je,ylx cs 0 vs i,jb,true_and,Nat.sub_zero,ws,Nat.zero_add]
    by_cases h:i < vs.length/\i < cs.length
    .rw [qe h,qe (by omega)]
    .rw [qc h,qc (by omega)]
  | c :: cs,0,[],i=>by simp [ycp]
  | c :: cs,n + 1,vs,0=>by simp [ycp]
  | c :: cs,n + 1,vs,i + 1=>by
    simp only [ycp,je,ylx cs n vs i,ws]
    by_cases h:n<=i/\i < n + vs.length/\i < cs.length
    .rw [qe h,qe (by omega)]; congr 1; omega
    .rw [qc h,qc (by omega)]
theorem ymb:∀ {as:List AV} {xs:List Value},as.length=xs.length->(∀ (i:Nat) (a:AV),as[i]? = some a->∃ x,xs[i]? = some x/\VR w U O a x)->VRs w U O as xs
  | [],[],_,_=>by simp [VRs]
  | a :: as,[],h,_=>by simp at h
  | [],x :: xs,h,_=>by simp at h
  | a :: as,x :: xs,hl,h=>by
    simp only [VRs]
    obtain ⟨y,hy,vy⟩:=h 0 a rfl
    simp at hy
    subst hy
    exact ⟨x,xs,rfl,vy,ymb (by simpa using hl) fun i a' hi=>by
      obtain ⟨y,hy,vy⟩:=h (i + 1) a' (by simpa using hi)
      exact ⟨y,by simpa using hy,vy⟩⟩
def ykn(cs:Array Value)(off:Nat)(vs:List Value):Array Value:=(vs.zipIdx).foldl (fun cs p=>cs.setIfInBounds (off + p.2) p.1) cs
theorem yaey(vs:List Value):∀ (k off:Nat) (cs:Array Value) (i:Nat),((vs.zipIdx k).foldl (fun (cs:Array Value) (p:Value × Nat)=>cs.setIfInBounds (off + p.2) p.1) cs)[i]? =
    if off + k<=i/\i < off + k + vs.length/\i < cs.size then vs[i - (off + k)]? else cs[i]?:=by
  induction vs with
  | nil=>intro k off cs i; simp; intro h1 h2; omega
  | cons v vs ih=>
    intro k off cs i
    simp only [List.zipIdx_cons,List.foldl_cons,ih (k + 1) off,ws,Array.size_setIfInBounds]
    by_cases h1:i=off + k
    .subst h1
     by_cases h2:off + k < cs.size
     .simp [h2]
      omega
     .have:cs[off + k]? = none:=Array.getElem?_eq_none (by omega)
      simp [h2,this]
    .have hne:¬ off + k=i:=fun e=>h1 e.symm
     rw [Array.getElem?_setIfInBounds_ne hne]
     by_cases h3:off + (k + 1)<=i/\i < off + (k + 1) + vs.length/\i < cs.size
     .rw [qe h3,qe (by omega)]
      rw [show i - (off + k) = (i - (off + (k + 1))) + 1 by omega,je]
     .rw [qc h3,qc (by omega)]
theorem yabu(cs:Array Value)(off:Nat):∀ (vs:List Value) (k:Nat),((vs.zipIdx k).foldl (fun (cs:Array Value) (p:Value × Nat)=>cs.setIfInBounds (off + p.2) p.1) cs).size=cs.size:=by
  intro vs
  induction vs generalizing cs with
  | nil=>intro k; rfl
  | cons v vs ih=>intro k; simp [List.zipIdx_cons,ih]
theorem ybjf{as vs:List AV}{xs:Array Value}{ys:List Value}{off:Nat}(ha:VRs w U O as xs.toList)(hv:VRs w U O vs ys)(hl:off + vs.length<=as.length) :
    VRs w U O (ycp as off vs) (ykn xs off ys).toList:=by
  have hlen:=ycd ha
  have hlen2:=ycd hv
  refine ymb ?_ fun i a hi=>?_
  .rw [yfj,hlen]
   simp [ykn,yabu]
  .rw [ylx] at hi
   have hg:=yaey ys 0 off xs i
   simp only [ka] at hg
   have hg':(ykn xs off ys).toList[i]? = if off<=i/\i < off + ys.length/\i < xs.size then ys[i - off]? else xs[i]?:=by
     rw [← hg]; simp [ykn]
   rw [hg']
   split at hi
   .rename_i hc
    rw [qe (by simp at hlen; omega)]
    exact ydz hv hi
   .rename_i hc
    rw [qc (by simp at hlen; omega)]
    obtain ⟨x,h1,h2⟩:=ydz ha hi
    exact ⟨x,by simpa using h1,h2⟩
def VRp(w:World)(U:Nat->Nat->Prop)(O:Rho):List (Nat × Nat × AV)->List (Nat × Value)->(Nat->Option (Nat × Nat))->Prop
  | [],ps,_=>ps = []
  | (off,size,a) :: r,ps,place=>∃ i x q,ps=(i,x) :: q/\place i=some (off,size)/\VR w U O a x/\VRp w U O r q place
theorem yaba{place:Nat->Option (Nat × Nat)}:∀ {parts:List (Nat × Nat × AV)} {ps:List (Nat × Value)} {as r:List AV} {xs:Array Value},VRp w U O parts ps place->VRs w U O as xs.toList->ysf as parts=some r ->
    ∃ ys,Instr.fill place xs ps=some ys/\VRs w U O r ys.toList
  | [],ps,as,r,xs,hp,ha,h=>by
    simp only [VRp] at hp
    subst hp
    simp only [ysf,qa] at h
    subst h
    exact ⟨xs,rfl,ha⟩
  | (off,size,a) :: q,ps,as,r,xs,hp,ha,h=>by
    simp only [VRp] at hp
    obtain ⟨i,x,q',rfl,hpl,hv,hp⟩:=hp
    simp only [ysf] at h
    split at h
    .rename_i vs hvs
     split at h
     .rename_i hc
      have hcs:=ypn hvs hv
      have hl:=ycd hcs
      have hl2:=ycd ha
      obtain ⟨ys,h1,h2⟩:=yaba hp (ybjf ha hcs (by omega)) h
      refine ⟨ys,?_,h2⟩
      simp only [Instr.fill,hpl]
      have c1:x.cells.size=size:=by simp at hl; omega
      have c2:¬ (off + x.cells.size > xs.size):=by simp at hl2; omega
      rw [qc (by simp only [c1,ne_eq,not_true_eq_false,false_or]; simpa [c1] using c2)]
      rw [← h1]
      congr 1
      simp only [ykn,← Array.foldl_toList,Array.toList_zipIdx]
     .cases h
    .cases h
end
section
variable {P:Program} {w:World} {U:Nat->Nat->Prop} {O:Rho}
theorem ysa{x:TI}{z:List AV}(h:zeroCells x=some z):∃ v,x.zero=some v/\ydk z=true/\∀ {w:World} {U:Nat->Nat->Prop} {O:Rho},VRs w U O z v.cells.toList:=by
  unfold zeroCells at h
  split at h
  .rename_i cs hz
   split at h
   .rename_i hc
    simp only [qa] at h
    subst h
    exact ⟨_,hz,hc,ywk _⟩
   .cases h
  .rename_i v hn hz
   split at h
   .rename_i hc
    simp only [qa] at h
    subst h
    refine ⟨v,hz,by simp [ydk,hc],?_⟩
    intro w U O
    have h1:VR w U O (yhl v) v:=yvo v
    have h2:=yvt (yacr hc h1)
    rw [h2]
    simp only [VRs]
    exact ⟨v,[],rfl,h1,rfl⟩
   .cases h
  .cases h
theorem ysg(H:yr):∀ vs:List AV,(ydn H vs).length=vs.length
  | []=>rfl
  | v :: r=>by simp [ydn,ysg H r]
theorem ybcv{w:World}{U:Nat->Nat->Prop}{O:Rho}(v:Value):VR w U O (frz [] (yhl v)) v:=by
  unfold yhl
  split <;> simp [frz,VR,yib,ycr]
theorem yuq{w:World}{U:Nat->Nat->Prop}{O:Rho}:∀ vs:List Value,VRs w U O (ydn [] (vs.map yhl)) vs
  | []=>by simp [ydn,VRs]
  | v :: vs=>by
    simp only [wr,ydn,VRs]
    exact ⟨v,vs,rfl,ybcv v,yuq vs⟩
theorem yait{v:Value}(h:yfb (yhl v) = true):yfb (frz [] (yhl v)) = true:=by
  unfold yhl at h ⊢
  split at h <;> simp_all [frz,yfb,ycr]
theorem yop:∀ {vs:List Value},ydk (vs.map yhl) = true->ydk (ydn [] (vs.map yhl)) = true
  | [],_=>rfl
  | v :: vs,h=>by
    simp only [wr,ydk,qq] at h
    simp only [wr,ydn,ydk,qq]
    exact ⟨yait h.1,yop h.2⟩
theorem yra{x:TI}{z:List AV}(h:zeroCells x=some z):∃ v,x.zero=some v/\ydk (ydn [] z) = true/\∀ {w:World} {U:Nat->Nat->Prop} {O:Rho},VRs w U O (ydn [] z) v.cells.toList:=by
  unfold zeroCells at h
  split at h
  .rename_i cs hz
   split at h
   .rename_i hc
    simp only [qa] at h
    subst h
    exact ⟨_,hz,yop hc,yuq _⟩
   .cases h
  .rename_i v hn hz
   split at h
   .rename_i hc
    simp only [qa] at h
    subst h
    refine ⟨v,hz,yop (vs:=[v]) (by simp [ydk,hc]),?_⟩
    intro w U O
    have h1:VR w U O (yhl v) v:=yvo v
    have h2:=yvt (yacr hc h1)
    rw [h2]
    exact yuq [v]
   .cases h
  .cases h
def ynh(w:World)(U:Nat->Nat->Prop)(O:Rho)(s:St)(a:Act):Prop:=∀ t,VR w U O (s.get t) (a.tmps.getD t undef)
variable {s:St} {a:Act}
theorem ycv(hv:ynh w U O s a){x:Operand}{y:Opd}(h:opd x=some y):VR w U O (s.ev y) (a.eval x):=by
  cases x with
  | tmp t=>simp only [opd,qa] at h; subst h; exact hv t
  | const v=>simp only [opd,qa] at h; subst h; exact ybbn v
  | global g=>simp [opd] at h
  | func f=>
    simp only [opd,qa] at h
    subst h
    simp only [St.ev,Act.eval,VR]
    exact ⟨_,_,rfl,by simp [VRs],by simp [VRs]⟩
theorem yrf(hv:ynh w U O s a):∀ {xs:List Operand} {ys:List Opd},yqr xs=some ys->VRs w U O (s.evs ys) (xs.map a.eval)
  | [],ys,h=>by simp only [yqr,qa] at h; subst h; simp [St.evs,VRs]
  | x :: xs,ys,h=>by
    simp only [yqr] at h
    split at h
    .rename_i y l h1 h2
     simp only [qa] at h
     subst h
     simp only [St.evs,wr,VRs]
     exact ⟨_,_,rfl,ycv hv h1,yrf hv h2⟩
    .cases h
theorem yuh(hv:ynh w U O s a){x:Option Operand}{y:Option Opd}(h:oopd x=some y):VRo w U O (s.evo y) (x.map a.eval):=by
  cases x with
  | none=>simp only [oopd,qa] at h; subst h; trivial
  | some x=>
    simp only [oopd] at h
    split at h
    .rename_i y' h1
     simp only [qa] at h
     subst h
     exact ycv hv h1
    .cases h
theorem yaht(hv:ynh w U O s a){d:TypeDesc}:∀ {pl:List (Nat × Operand)} {ps:List (Nat × Opd)} {l:List (Nat × Nat × Opd)},ylu pl=some ps->yrq P d ps=some l ->
    VRp w U O (s.evq l) (pl.map fun p=>(p.1,a.eval p.2)) (yue P d)
  | [],ps,l,h1,h2=>by
    simp only [ylu,qa] at h1
    subst h1
    simp only [yrq,qa] at h2
    subst h2
    simp [St.evq,VRp]
  | (i,x) :: pl,ps,l,h1,h2=>by
    simp only [ylu] at h1
    split at h1
    .rename_i y q e1 e2
     simp only [qa] at h1
     subst h1
     simp only [yrq] at h2
     split at h2
     .rename_i off size l' e3 e4
      simp only [qa] at h2
      subst h2
      simp only [St.evq,wr,VRp]
      exact ⟨i,_,_,rfl,e3,ycv hv e1,yaht hv e2 e4⟩
     .cases h2
    .cases h1
theorem yaao{place place':Nat->Option (Nat × Nat)}(h:∀ i x,place i=some x->place' i=some x):∀ {l:List (Nat × Nat × AV)} {ps:List (Nat × Value)},VRp w U O l ps place->VRp w U O l ps place'
  | [],ps,hp=>by simpa [VRp] using hp
  | (off,size,a) :: l,ps,hp=>by
    simp only [VRp] at hp ⊢
    obtain ⟨i,x,q,h1,h2,h3,h4⟩:=hp
    exact ⟨i,x,q,h1,h _ _ h2,h3,yaao h h4⟩
theorem yauw{α β:Type}(f:α->Sem β)(g:α->β)(w:World):∀ (l:List α),(∀ x∈l,(f x).run P w = .ok (g x) w)->(l.mapM f).run P w = .ok (l.map g) w
  | [],_=>by simp
  | x :: l,h=>by
    rw [List.mapM_cons]
    simp only [Sem.run_bind,h x (by simp),Result.andThen_ok,yauw f g w l (fun y hy=>h y (by simp [hy])),Sem.run_pure,wr]
theorem ybih{fs:Array Field}(h:yup P (.struct fs) = true):∃ pl:Array (Nat × Nat),(fs.mapM fun f=>do pure (f.offset,← sizeOf f.type):Sem (Array (Nat × Nat))).run P w = .ok pl w/\∀ i x,yue P (.struct fs) i=some x->pl[i]? = some x:=by
  simp only [yup,List.all_eq_true] at h
  refine ⟨(fs.toList.map fun f=>(f.offset,((ybt P f.type).map (·.size)).getD 0)).toArray,?_,?_⟩
  .rw [Array.mapM_eq_mapM_toList]
   rw [Sem.run_map,yauw _ (fun f=>(f.offset,((ybt P f.type).map (·.size)).getD 0)) w fs.toList]
   .rfl
   .intro f hf
    obtain ⟨x,hx⟩:=Option.isSome_iff_exists.1 (h f hf)
    simp only [Sem.run_bind,yeg hx,Result.andThen_ok,Sem.run_pure,hx,kb,Option.getD_some]
  .intro i x hx
   simp only [yue] at hx
   split at hx
   .rename_i f hf
    split at hx
    .rename_i xf hxf
     simp only [qa] at hx
     subst hx
     have hf':fs.toList[i]? = some f:=by simpa using hf
     simp [hf',hxf]
    .cases hx
   .cases hx
theorem ybsw(hv:ynh w U O s a){t:TypeId}{ti:TI}(ht:ybt P t=some ti){parts:Array (Nat × Operand)}{ps:List (Nat × Opd)}(hp:ylu parts.toList=some ps){z:List AV}(hz:zeroCells ti=some z)
    {l:List (Nat × Nat × Opd)} (hl:yrq P ti.desc ps=some l) (hagg:ypg ti.desc=true) (hok:yup P ti.desc=true) {v:AV} (h:yxb z (s.evq l) = some v) :
    ∃ x,(Instr.build t (parts.map fun (i,x)=>(i,a.eval x))).run P w = .ok x w/\VR w U O v x:=by
  unfold yxb at h
  split at h
  .rename_i cs hcs
   simp only [qa] at h
   subst h
   obtain ⟨zv,hzv,_,hz2⟩:=ysa hz
   have h3:=ycc ht w
   have hpl:=yaht (P:=P) hv hp hl
   have hmap:(parts.map fun (i,x)=>(i,a.eval x)).toList=parts.toList.map fun p=>(p.1,a.eval p.2):=by simp
   cases hd:ti.desc with
   | struct fs=>
     rw [hd] at h3 hok hpl
     obtain ⟨pl,hr,hpc⟩:=ybih (P:=P) (w:=w) hok
     obtain ⟨ys,h1,h2⟩:=yaba (yaao hpc hpl) (hz2 (w:=w) (U:=U) (O:=O)) hcs
     refine ⟨.agg ys,?_,by simp only [VR]; exact ⟨ys,rfl,h2⟩⟩
     simp only [Instr.build,Sem.run_bind,ywh ht hzv,h3,Result.andThen_ok,hr,hmap,h1,Sem.run_pure]
   | array n e=>
     rw [hd] at h3 hok hpl
     obtain ⟨x,hx⟩:=Option.isSome_iff_exists.1 (by simpa [yup] using hok)
     have hpc:∀ i y,yue P (.array n e) i=some y->(fun i=>some (i * x.size,x.size):Nat->Option (Nat × Nat)) i=some y:=by
       intro i y hy
       simpa [yue,hx] using hy
     obtain ⟨ys,h1,h2⟩:=yaba (yaao hpc hpl) (hz2 (w:=w) (U:=U) (O:=O)) hcs
     refine ⟨.agg ys,?_,by simp only [VR]; exact ⟨ys,rfl,h2⟩⟩
     simp only [Instr.build,Sem.run_bind,ywh ht hzv,h3,Result.andThen_ok,yeg hx,hmap,h1,Sem.run_pure]
   | _=>rw [hd] at hagg; simp [ypg] at hagg
  .cases h
end
theorem yrt(w:World)(o:Obj)(k:Nat):(w.heap.push o)[k]? = if k=w.heap.size then some o else w.heap[k]?:=Array.getElem?_push
theorem ydo.less{w:World}{U U':Nat->Nat->Prop}(h:∀ b o,U' b o->U b o):ydo w U w U':=
  ⟨fun b o v hu hc=>⟨hc,fun hu'=>hu (h b o hu')⟩,fun b C e fr hb=>⟨C,fr,hb,rfl⟩⟩
section
variable {A:Nat->Nat->Prop} {O:Rho} {H H':yr} {nx:Nat} {w:World}
theorem ymr(h:∀ k o,lk H' k=some o->lk H k=some o){b o:Nat}(hw:Wr O H' b o):Wr O H b o:=by
  obtain ⟨id,es,ob,h1,h2,h3⟩:=hw
  exact ⟨id,es,ob,h _ _ h1,h2,h3⟩
theorem yhj(h:∀ b o,Wr O H' b o->Wr O H b o):Fr O H w O H' w:=
  { Fr.refl O H w with shrink:=fun b o _ hw=>h b o hw }
theorem ynx(hr:Rep A O H nx w)(h:∀ k o,lk H' k=some o->lk H k=some o):Rep A O H' nx w where
  ob id o b es h1 h2:=ygd (ydo.less fun b o hu=>hu.imp_right (ymr h)) (Ext.refl _) rfl (hr.ob id o b es (h _ _ h1) h2)
  inj i j oi oj b ei ej h1 h2:=hr.inj i j oi oj b ei ej (h _ _ h1) (h _ _ h2)
  ltH id o h1:=hr.ltH id o (h _ _ h1)
  ltR:=hr.ltR
  ltA:=hr.ltA
  apart id o b es off h1:=hr.apart id o b es off (h _ _ h1)
theorem ysx(id n:Nat):∀ (H:yr) (k:Nat),lk (ynn H id n) k=(lk H k).map fun o=>if k=id then ydh n o else o
  | [],k=>by simp [ynn]
  | (k0,o) :: r,k=>by
    have ih:=ysx id n r k
    unfold ynn at ih ⊢
    simp only [wr]
    by_cases h0:k0=id
    .subst h0
     simp only [wl,ybx]
     by_cases hk:k0=k
     .subst hk; simp
     .simp only [hk,wn]; exact ih
    .simp only [h0,wn,ybx]
     by_cases hk:k0=k
     .subst hk; simp [h0]
     .simp only [hk,wn]; exact ih
theorem ybtp{es o n:Nat}{ob:Ob}(h:yjc es o (ydh n ob)):yjc es o ob:=by
  cases ob with
  | box cells=>trivial
  | arr es' rows leak=>
    simp only [ydh,yjc] at h ⊢
    exact ww (qx _ (Nat.le_max_left _ _)) h
  | arx es' rows=>trivial
structure yby (H H':yr):Prop where
  get:∀ k o,lk H k=some o->∃ n,lk H' k=some (ydh n o)
  back:∀ k o',lk H' k=some o'->∃ o n,lk H k=some o/\o' = ydh n o
theorem ynd(o:Ob):ydh 0 o=o:=by cases o <;> simp [ydh]
theorem ytf(n m:Nat)(o:Ob):ydh m (ydh n o) = ydh (max n m) o:=by cases o <;> simp [ydh,Nat.max_assoc]
theorem yby.refl(H:yr):yby H H:=⟨fun k o h=>⟨0,by rw [ynd]; exact h⟩,fun k o h=>⟨o,0,h,(ynd o).symm⟩⟩
theorem yby.trans{H H' H'':yr}(h:yby H H')(h':yby H' H''):yby H H'' where
  get k o hk:=by
    obtain ⟨n,h1⟩:=h.get k o hk
    obtain ⟨m,h2⟩:=h'.get k _ h1
    exact ⟨max n m,by rw [h2,ytf]⟩
  back k o'' hk:=by
    obtain ⟨o',m,h1,rfl⟩:=h'.back k o'' hk
    obtain ⟨o,n,h2,rfl⟩:=h.back k o' h1
    exact ⟨o,max n m,h2,ytf n m o⟩
theorem yby.at(H:yr)(id n:Nat):yby H (ynn H id n) where
  get k o hk:=by
    rw [ysx,hk]
    by_cases h:k=id
    .exact ⟨n,by simp [h]⟩
    .exact ⟨0,by simp [h,ynd]⟩
  back k o' hk:=by
    rw [ysx] at hk
    cases h:lk H k with
    | none=>simp [h] at hk
    | some o=>
      simp only [h,kb,qa] at hk
      subst hk
      by_cases h':k=id
      .exact ⟨o,n,rfl,by simp [h']⟩
      .exact ⟨o,0,rfl,by simp [h',ynd]⟩
theorem yoa(hl:yby H H'){b o:Nat}(hw:Wr O H' b o):Wr O H b o:=by
  obtain ⟨id,es,ob,h1,h2,h3⟩:=hw
  obtain ⟨o',n,h4,rfl⟩:=hl.back _ _ h1
  exact ⟨id,es,o',h4,h2,ybtp h3⟩
theorem ybtt{U:Nat->Nat->Prop}{b es n:Nat}{o:Ob}(h:ObR w U O b es o):ObR w U O b es (ydh n o):=by
  cases o with
  | box cells=>exact h
  | arr es' rows leak=>exact h
  | arx es' rows=>exact h
theorem yre(hr:Rep A O H nx w)(hl:yby H H'):Rep A O H' nx w where
  ob id o b es h1 h2:=by
   obtain ⟨o',n,h3,rfl⟩:=hl.back _ _ h1
   exact ybtt (ygd (ydo.less fun b o hu=>hu.imp_right (yoa hl)) (Ext.refl _) rfl (hr.ob id o' b es h3 h2))
  inj i j oi oj b ei ej h1 h2:=by
    obtain ⟨o1,_,h3,_⟩:=hl.back _ _ h1
    obtain ⟨o2,_,h4,_⟩:=hl.back _ _ h2
    exact hr.inj i j o1 o2 b ei ej h3 h4
  ltH id o h1:=by
    obtain ⟨o',n,h3,rfl⟩:=hl.back _ _ h1
    exact hr.ltH id o' h3
  ltR:=hr.ltR
  ltA:=hr.ltA
  apart id o b es off h1:=by
    obtain ⟨o',n,h3,rfl⟩:=hl.back _ _ h1
    exact hr.apart id o' b es off h3
def yjm(O:Rho)(id:Nat)(x:Nat × Nat):Rho:=fun k=>if k=id then some x else O k
theorem yic(O:Rho)(id:Nat)(x:Nat × Nat):yjm O id x id=some x:=by simp [yjm]
theorem ygm{O:Rho}{id k:Nat}{x:Nat × Nat}(h:k≠id):yjm O id x k=O k:=by simp [yjm,h]
theorem Rep.ext(hr:Rep A O H nx w)(x:Nat × Nat):Ext O (yjm O nx x):=by
  intro id y hy
  have:=hr.ltR id y hy
  rw [ygm (by omega)]; exact hy
def yir(w:World)(o:Obj):World:={ w with heap:=w.heap.push o }
theorem yot{ob:Ob}{k:Nat}{o:Ob}(h:lk ((nx,ob) :: H) k=some o):(k=nx/\o=ob)\/(k≠nx/\lk H k=some o):=by
  rw [ybx] at h
  by_cases hk:nx=k
  .rw [qe hk] at h; exact .inl ⟨hk.symm,(qd h).symm⟩
  .rw [qc hk] at h; exact .inr ⟨fun e=>hk e.symm,h⟩
theorem yahq(hr:Rep A O H nx w)(ob:Ob)(C:Array Value)(e:TypeId)(fr:Nat × Nat)(es:Nat) :
    Fr O H w (yjm O nx (w.heap.size,es)) ((nx,ob) :: H) (yir w (.cells C e fr)) where
  size:=by simp [yir]
  os:=rfl
  tape:=rfl
  output:=rfl
  cells b C' e' fr' hb:=⟨C',by simp only [yir,yrt]; rw [qc (by have:=yhe hb; omega)]; exact hb,rfl,fun _ _=>rfl⟩
  other b o hb _:=by simp only [yir,yrt]; rw [qc (by have:=yhe hb; omega)]; exact hb
  shrink b o hb hw:=by
    obtain ⟨id,es',ob',h1,h2,h3⟩:=hw
    rcases yot h1 with ⟨rfl,rfl⟩ | ⟨h4,h5⟩
    .rw [yic] at h2
     simp only [qa,qi] at h2
     omega
    .rw [ygm h4] at h2
     exact ⟨id,es',ob',h5,h2,h3⟩
theorem yaxa(hr:Rep A O H nx w){ob:Ob}{C:Array Value}{e:TypeId}{fr:Nat × Nat}{es:Nat}
    (ho:ObR (yir w (.cells C e fr)) (UU A (yjm O nx (w.heap.size,es)) ((nx,ob) :: H)) (yjm O nx (w.heap.size,es)) w.heap.size es ob) :
    Rep A (yjm O nx (w.heap.size,es)) ((nx,ob) :: H) (nx + 1) (yir w (.cells C e fr)) where
  ob id o b es' h1 h2:=by
   rcases yot h1 with ⟨rfl,rfl⟩ | ⟨h4,h5⟩
   .rw [yic] at h2
    simp only [qa,qi] at h2
    obtain ⟨rfl,rfl⟩:=h2
    exact ho
   .rw [ygm h4] at h2
    have h6:=hr.ob id o b es' h5 h2
    refine ygd (yahq hr ob C e fr es).stay (hr.ext _) ?_ h6
    have hlt:b < w.heap.size:=by
      cases o with
      | box cells=>obtain ⟨C,e,fr,h7,_⟩:=h6; exact yhe h7
      | arr es' rows leak=>obtain ⟨_,_,C,e,fr,h7,_⟩:=h6; exact yhe h7
      | arx es' rows=>obtain ⟨_,_,C,e,fr,h7,_⟩:=h6; exact yhe h7
    simp only [yir,yrt]
    rw [qc (by omega)]
  inj i j oi oj b ei ej h1 h2 h3 h4:=by
    have old:∀ k ok eb,lk H k=some ok->O k=some (b,eb)->b < w.heap.size:=by
      intro k ok eb hk hρ
      have h6:=hr.ob k ok b eb hk hρ
      cases ok with
      | box cells=>obtain ⟨C,e,fr,h7,_⟩:=h6; exact yhe h7
      | arr es' rows leak=>obtain ⟨_,_,C,e,fr,h7,_⟩:=h6; exact yhe h7
      | arx es' rows=>obtain ⟨_,_,C,e,fr,h7,_⟩:=h6; exact yhe h7
    rcases yot h1 with ⟨rfl,rfl⟩ | ⟨h5,h6⟩ <;> rcases yot h2 with ⟨rfl,rfl⟩ | ⟨h7,h8⟩
    .rfl
    .rw [yic] at h3
     rw [ygm h7] at h4
     simp only [qa,qi] at h3
     have:=old j oj ej h8 h4
     omega
    .rw [yic] at h4
     rw [ygm h5] at h3
     simp only [qa,qi] at h4
     have:=old i oi ei h6 h3
     omega
    .rw [ygm h5] at h3
     rw [ygm h7] at h4
     exact hr.inj i j oi oj b ei ej h6 h8 h3 h4
  ltH id o h1:=by
    rcases yot h1 with ⟨rfl,rfl⟩ | ⟨h5,h6⟩
    .omega
    .have:=hr.ltH id o h6; omega
  ltR id x h1:=by
    by_cases h:id=nx
    .omega
    .rw [ygm h] at h1
     have:=hr.ltR id x h1; omega
  ltA b o h:=by have:=hr.ltA b o h; simp [yir]; omega
  apart id o b es' off h1 h2:=by
    rcases yot h1 with ⟨rfl,rfl⟩ | ⟨h5,h6⟩
    .rw [yic] at h2
     simp only [qa,qi] at h2
     intro ha
     have:=hr.ltA b off ha
     omega
    .rw [ygm h5] at h2
     exact hr.apart id o b es' off h6 h2
theorem yxv(hr:Rep A O H nx w)(ob:Ob):Rep A O ((nx,ob) :: H) (nx + 1) w/\Fr O H w O ((nx,ob) :: H) w:=by
  have hn:O nx=none:=by
    cases h:O nx with
    | none=>rfl
    | some x=>have:=hr.ltR nx x h; omega
  have hw:∀ b o,Wr O ((nx,ob) :: H) b o->Wr O H b o:=by
    rintro b o ⟨id,es,o',h1,h2,h3⟩
    rcases yot h1 with ⟨rfl,rfl⟩ | ⟨h5,h6⟩
    .rw [hn] at h2; cases h2
    .exact ⟨id,es,o',h6,h2,h3⟩
  have old:∀ k o x,lk ((nx,ob) :: H) k=some o->O k=some x->lk H k=some o:=by
    intro k o x h1 h2
    rcases yot h1 with ⟨rfl,rfl⟩ | ⟨h5,h6⟩
    .rw [hn] at h2; cases h2
    .exact h6
  refine ⟨?_,yhj hw⟩
  exact
    { ob:=fun id o b es h1 h2=>ygd (ydo.less fun b o hu=>hu.imp_right (hw b o)) (Ext.refl _) rfl (hr.ob id o b es (old _ _ _ h1 h2) h2)
      inj:=fun i j oi oj b ei ej h1 h2 h3 h4=>hr.inj i j oi oj b ei ej (old _ _ _ h1 h3) (old _ _ _ h2 h4) h3 h4
      ltH:=fun id o h1=>by
        rcases yot h1 with ⟨rfl,rfl⟩ | ⟨h5,h6⟩
        .omega
        .have:=hr.ltH id o h6; omega
      ltR:=fun id x h1=>by have:=hr.ltR id x h1; omega
      ltA:=hr.ltA
      apart:=fun id o b es off h1 h2=>hr.apart id o b es off (old _ _ _ h1 h2) h2 }
theorem ymd(hr:Rep A O H nx w){id b es:Nat}{ob ob':Ob}(hid:lk H id=some ob)(hρ:O id=some (b,es)){C C':Array Value}{e:TypeId}{fr:Nat × Nat}(hb:w.heap[b]? = some (Obj.cells C e fr))
    {w':World} (h1:w'.heap[b]? = some (Obj.cells C' e fr)) (h2:∀ k,k≠b->w'.heap[k]? = w.heap[k]?) (hsz:w'.heap.size=w.heap.size) (ho:w'.os=w.os) (ht:w'.tape=w.tape) (hout:w'.output=w.output)
    (hs:C'.size=C.size) (hch:∀ o,¬ yjc es o ob->C'[o]? = C[o]?) (hH:∀ k,lk H' k=if k=id then some ob' else lk H k) (hwr:∀ o,yjc es o ob'->yjc es o ob) :
    Fr O H w O H' w'/\(ObR w' (UU A O H') O b es ob'->Rep A O H' nx w'):=by
  have hw:∀ b o,Wr O H' b o->Wr O H b o:=by
    rintro b' o ⟨id',es',o',g1,g2,g3⟩
    rw [hH] at g1
    by_cases hi:id' = id
    .subst hi
     rw [qe rfl] at g1
     obtain rfl:=qd g1
     rw [hρ] at g2
     simp only [qa,qi] at g2
     obtain ⟨rfl,rfl⟩:=g2
     exact ⟨id',es,ob,hid,hρ,hwr o g3⟩
    .rw [qc hi] at g1
     exact ⟨id',es',o',g1,g2,g3⟩
  have hfr:Fr O H w O H' w':=
    { size:=by omega
      os:=ho
      tape:=ht
      output:=hout
      cells:=fun k D e' fr' hk=>by
        by_cases hkb:k=b
        .subst hkb
         rw [hb] at hk
         simp only [qa,Obj.cells.injEq] at hk
         obtain ⟨rfl,rfl,rfl⟩:=hk
         exact ⟨C',h1,hs,fun o hn=>hch o fun hwo=>hn ⟨id,es,ob,hid,hρ,hwo⟩⟩
        .exact ⟨D,by rw [h2 k hkb]; exact hk,rfl,fun _ _=>rfl⟩
      other:=fun k o hk hn=>by
        by_cases hkb:k=b
        .subst hkb
         rw [hb] at hk
         exact absurd (qd hk).symm (hn _ _ _)
        .rw [h2 k hkb]; exact hk
      shrink:=fun b o _ h=>hw b o h }
  refine ⟨hfr,fun hobr=>?_⟩
  exact
    { ob:=fun i o b' es' g1 g2=>by
       rw [hH] at g1
       by_cases hi:i=id
       .subst hi
        rw [qe rfl] at g1
        obtain rfl:=qd g1
        rw [hρ] at g2
        simp only [qa,qi] at g2
        obtain ⟨rfl,rfl⟩:=g2
        exact hobr
       .rw [qc hi] at g1
        refine ygd hfr.stay (Ext.refl _) (h2 b' fun hbb=>?_) (hr.ob i o b' es' g1 g2)
        subst hbb
        exact hi (hr.inj i id o ob b' es' es g1 hid g2 hρ)
      inj:=fun i j oi oj b' ei ej g1 g2 g3 g4=>by
        have old:∀ k o,lk H' k=some o->∃ o',lk H k=some o':=by
          intro k o hk
          rw [hH] at hk
          by_cases hi:k=id
          .subst hi; exact ⟨ob,hid⟩
          .rw [qc hi] at hk; exact ⟨o,hk⟩
        obtain ⟨o1,g5⟩:=old i oi g1
        obtain ⟨o2,g6⟩:=old j oj g2
        exact hr.inj i j o1 o2 b' ei ej g5 g6 g3 g4
      ltH:=fun i o g1=>by
        rw [hH] at g1
        by_cases hi:i=id
        .subst hi; exact hr.ltH i ob hid
        .rw [qc hi] at g1; exact hr.ltH i o g1
      ltR:=hr.ltR
      ltA:=fun b o h=>by have:=hr.ltA b o h; omega
      apart:=fun i o b' es' off g1 g2=>by
        rw [hH] at g1
        by_cases hi:i=id
        .subst hi; exact hr.apart i ob b' es' off hid g2
        .rw [qc hi] at g1; exact hr.apart i o b' es' off g1 g2 }
end
structure yjs (w w':World):Prop where
  heap:w'.heap=w.heap
  os:w'.os=w.os
  tape:w'.tape=w.tape
  output:w'.output=w.output
theorem yjs.cell{w w':World}(h:yjs w w')(x:Addr):w'.cell? x=w.cell? x:=by unfold World.cell?; rw [h.heap]
theorem yjs.stay{w w':World}(h:yjs w w')(U:Nat->Nat->Prop):ydo w U w' U:=
  ⟨fun b o v hu hc=>⟨by rw [h.cell]; exact hc,hu⟩,fun b C e fr hb=>⟨C,fr,by rw [h.heap]; exact hb,rfl⟩⟩
theorem yjs.fr{w w':World}(h:yjs w w')(O:Rho)(H:yr):Fr O H w O H w' where
  size:=by rw [h.heap]; exact qk _
  os:=h.os
  tape:=h.tape
  output:=h.output
  cells b C e fr hb:=⟨C,by rw [h.heap]; exact hb,rfl,fun _ _=>rfl⟩
  other b o hb _:=by rw [h.heap]; exact hb
  shrink b o _ hw:=hw
theorem yjs.rep{w w':World}(h:yjs w w'){A:Nat->Nat->Prop}{O:Rho}{H:yr}{nx:Nat}(hr:Rep A O H nx w):Rep A O H nx w' where
  ob id o b es h1 h2:=ygd (h.stay _) (Ext.refl _) (by rw [h.heap]) (hr.ob id o b es h1 h2)
  inj:=hr.inj
  ltH:=hr.ltH
  ltR:=hr.ltR
  ltA b o ha:=by rw [h.heap]; exact hr.ltA b o ha
  apart:=hr.apart
theorem yjs.drawn(w:World)(n:Nat):yjs w { w with drawn:=n }:=⟨rfl,rfl,rfl,rfl⟩
section
variable {w:World} {A:Nat->Nat->Prop} {O:Rho}
theorem yapf{H:yr}{nx:Nat}(hr:Rep A O H nx w){b o:Nat}(h:UU A O H b o):b < w.heap.size:=by
  rcases h with h | ⟨id,es,ob,h1,h2,_⟩
  .exact hr.ltA b o h
  .have h6:=hr.ob id ob b es h1 h2
   cases ob with
   | box cells=>obtain ⟨C,e,fr,h7,_⟩:=h6; exact yhe h7
   | arr es' rows leak=>obtain ⟨_,_,C,e,fr,h7,_⟩:=h6; exact yhe h7
   | arx es' rows=>obtain ⟨_,_,C,e,fr,h7,_⟩:=h6; exact yhe h7
theorem yph{Z:Rho}{H H':yr}{w':World}(h:Fr O H w Z H' w'){b:Nat}{C:Array Value}{e:TypeId}{fr:Nat × Nat}(hb:w.heap[b]? = some (Obj.cells C e fr))(hn:∀ o,¬ Wr O H b o):w'.heap[b]? = w.heap[b]?:=by
  obtain ⟨C',h1,h2,h3⟩:=h.cells b C e fr hb
  have:C' = C:=by
    apply Array.ext h2
    intro i hi hi'
    have:=h3 i (hn i)
    rw [Array.getElem?_eq_getElem hi,Array.getElem?_eq_getElem hi'] at this
    exact qd this
  rw [h1,this,hb]
theorem yaam{Z:Rho}{H H':yr}{nx:Nat}{w':World}(hr:Rep A O H nx w)(h:Fr ych [] w Z H' w'):Rep A O H nx w'/\Fr O H w O H w':=by
  have hno:∀ b o,¬ Wr ych [] b o:=fun b o hw=>by
    obtain ⟨id,es,ob,h1,_⟩:=hw
    simp at h1
  have hfr:Fr O H w O H w':=
    { size:=h.size
      os:=h.os
      tape:=h.tape
      output:=h.output
      cells:=fun b C e fr hb=>by
        obtain ⟨C',h1,h2,h3⟩:=h.cells b C e fr hb
        exact ⟨C',h1,h2,fun o _=>h3 o (hno b o)⟩
      other:=h.other
      shrink:=fun _ _ _ hw=>hw }
  refine ⟨?_,hfr⟩
  exact
    { ob:=fun id o b es h1 h2=>by
       have h6:=hr.ob id o b es h1 h2
       refine ygd hfr.stay (Ext.refl _) ?_ h6
       cases o with
       | box cells=>obtain ⟨C,e,fr,h7,_⟩:=h6; exact yph h h7 (hno b)
       | arr es' rows leak=>obtain ⟨_,_,C,e,fr,h7,_⟩:=h6; exact yph h h7 (hno b)
       | arx es' rows=>obtain ⟨_,_,C,e,fr,h7,_⟩:=h6; exact yph h h7 (hno b)
      inj:=hr.inj
      ltH:=hr.ltH
      ltR:=hr.ltR
      ltA:=fun b o ha=>ji (hr.ltA b o ha) h.size
      apart:=hr.apart }
theorem yvn{w:World}{A':Nat->Nat->Prop}(hA:∀ b o,A' b o->b < w.heap.size):Rep A' ych [] 0 w where
  ob id o b es h:=by simp at h
  inj i j oi oj b ei ej h:=by simp at h
  ltH id o h:=by simp at h
  ltR id x h:=by simp [ych] at h
  ltA:=hA
  apart id o b es off h:=by simp at h
end
structure ygs (O:Rho) (n:Nat) (Z:Rho) (n':Nat):Prop where
  ext:Ext O Z
  cl:∀ k,k < n->O k=none->Z k=none
  le:n<=n'
theorem ygs.refl(O:Rho)(n:Nat):ygs O n O n:=⟨Ext.refl _,fun _ _ h=>h,qk _⟩
theorem ygs.trans{O Z AA:Rho}{n n' n'':Nat}(h:ygs O n Z n')(h':ygs Z n' AA n''):ygs O n AA n'':=
  ⟨h.ext.trans h'.ext,fun k hk h0=>h'.cl k (ji hk h.le) (h.cl k hk h0),ww h.le h'.le⟩
theorem Rep.ext2{A:Nat->Nat->Prop}{O:Rho}{H:yr}{nx:Nat}{w:World}(hr:Rep A O H nx w)(x:Nat × Nat):ygs O nx (yjm O nx x) (nx + 1):=
  ⟨hr.ext x,fun k hk h0=>by rw [ygm (by omega)]; exact h0,Nat.le_succ _⟩
theorem ygs.more(O:Rho)(n:Nat):ygs O n O (n + 1):=⟨Ext.refl _,fun _ _ h=>h,Nat.le_succ _⟩
def ydt(A:Nat->Nat->Prop)(O:Rho)(s:St)(w:World)(v:AV)(s':St)(x:Value)(w':World):Prop:=
  s'.env=s.env/\s'.loc=s.loc/\∃ Z,Rep A Z s'.H s'.nx w'/\VR w' (UU A Z s'.H) Z v x/\ygs O s.nx Z s'.nx/\Fr O s.H w Z s'.H w'
theorem ydt.same{A:Nat->Nat->Prop}{O:Rho}{s:St}{w:World}{v:AV}{x:Value}(hr:Rep A O s.H s.nx w)(hv:VR w (UU A O s.H) O v x):ydt A O s w v s x w:=
  ⟨rfl,rfl,O,hr,hv,ygs.refl _ _,Fr.refl _ _ _⟩
def yjy(C:Array Value):Nat->List Value->Array Value
  | _,[]=>C
  | o,v :: r=>yjy (C.setIfInBounds o v) (o + 1) r
theorem yef:∀ (vs:List Value) (C:Array Value) (o:Nat),(yjy C o vs).size=C.size
  | [],_,_=>rfl
  | v :: r,C,o=>by simp [yjy,yef r]
theorem yhi:∀ (vs:List Value) (C:Array Value) (o i:Nat),(yjy C o vs)[i]? = if o<=i/\i < o + vs.length/\i < C.size then vs[i - o]? else C[i]?
  | [],C,o,i=>by simp [yjy]; intro h1 h2; omega
  | v :: r,C,o,i=>by
    simp only [yjy,yhi r,Array.size_setIfInBounds,ws]
    by_cases h1:i=o
    .subst h1
     by_cases h2:i < C.size
     .rw [qc (by omega),qe (by omega)]
      simp [h2]
     .rw [qc (by omega),qc (by omega)]
      rw [Array.getElem?_eq_none (by simp; omega),Array.getElem?_eq_none (by omega)]
    .rw [Array.getElem?_setIfInBounds_ne (fun e=>h1 e.symm)]
     by_cases h3:o + 1<=i/\i < o + 1 + r.length/\i < C.size
     .rw [qe h3,qe (by omega)]
      rw [show i - o=(i - (o + 1)) + 1 by omega,je]
     .rw [qc h3,qc (by omega)]
theorem yauz{w:World}{b:Nat}{C:Array Value}{e:TypeId}{fr:Nat × Nat}(h:w.heap[b]? = some (Obj.cells C e fr))(o:Nat)(v:Value) :
    (w.setCell ⟨b,o,none⟩ v).heap[b]? = some (Obj.cells (C.setIfInBounds o v) e fr):=by
  simp [World.setCell,Array.getElem?_modify,h]
theorem yii(b:Nat)(e:TypeId)(fr:Nat × Nat):∀ (vs:List Value) (o:Nat) (w:World) (C:Array Value),w.heap[b]? = some (Obj.cells C e fr) ->
    (w.setCells b o vs).heap[b]? = some (Obj.cells (yjy C o vs) e fr)/\(∀ k,k≠b->(w.setCells b o vs).heap[k]? = w.heap[k]?)/\(w.setCells b o vs).heap.size=w.heap.size /\
      (w.setCells b o vs).os=w.os/\(w.setCells b o vs).tape=w.tape/\(w.setCells b o vs).output=w.output
  | [],o,w,C,h=>⟨h,fun _ _=>rfl,rfl,rfl,rfl,rfl⟩
  | v :: r,o,w,C,h=>by
    obtain ⟨h1,h2,h3,h4,h5,h6⟩:=yii b e fr r (o + 1) (w.setCell ⟨b,o,none⟩ v) _ (yauz h o v)
    refine ⟨h1,fun k hk=>(h2 k hk).trans ?_,h3.trans (by simp [World.setCell]),h4,h5,h6⟩
    simp only [World.setCell,Array.getElem?_modify]
    rw [qc (by simpa using fun e=>hk e.symm)]
section
variable {P:Program} {w:World} {A:Nat->Nat->Prop} {U:Nat->Nat->Prop} {O:Rho}
theorem ybtw{as vs:List AV}{xs:Array Value}{ys:List Value}{off:Nat}(ha:VRs w U O as xs.toList)(hv:VRs w U O vs ys)(hl:off + vs.length<=as.length) :
    VRs w U O (ycp as off vs) (yjy xs off ys).toList:=by
  have hlen:=ycd ha
  have hlen2:=ycd hv
  have hx:xs.toList.length=xs.size:=by simp
  refine ymb ?_ fun i a hi=>?_
  .rw [yfj,hlen,hx]
   simp [yef]
  .rw [ylx] at hi
   have hg:(yjy xs off ys).toList[i]? = if off<=i/\i < off + ys.length/\i < xs.size then ys[i - off]? else xs[i]?:=by
     rw [← yhi ys xs off i]; simp
   rw [hg]
   split at hi
   .rename_i hc
    rw [qe (by omega)]
    exact ydz hv hi
   .rename_i hc
    rw [qc (by omega)]
    obtain ⟨x,h1,h2⟩:=ydz ha hi
    exact ⟨x,by simpa using h1,h2⟩
theorem ylh{x:Value}(h:yib x=true):x.oneCell' = true:=by cases x <;> simp [yib] at h <;> rfl
def At(w:World)(U:Nat->Nat->Prop)(O:Rho)(as:List AV)(b o:Nat):Prop:=∀ (j:Nat) (a:AV),as[j]? = some a->∃ v,w.cell? ⟨b,o + j,none⟩ = some v/\VR w U O a v
theorem At.list:∀ {as:List AV} {b o:Nat},At w U O as b o->∃ cs,VRs w U O as cs/\∀ (j:Nat) (v:Value),cs[j]? = some v->w.cell? ⟨b,o + j,none⟩ = some v
  | [],b,o,h=>⟨[],by simp [VRs],by simp⟩
  | a :: as,b,o,h=>by
    obtain ⟨v,h1,h2⟩:=h 0 a rfl
    have hr:At w U O as b (o + 1):=fun j a' hj=>by
      obtain ⟨v,h3,h4⟩:=h (j + 1) a' (by simpa using hj)
      exact ⟨v,by rw [show o + 1 + j=o + (j + 1) by omega]; exact h3,h4⟩
    obtain ⟨cs,h3,h4⟩:=At.list hr
    refine ⟨v :: cs,by simp only [VRs]; exact ⟨v,cs,rfl,h2,h3⟩,fun j v' hj=>?_⟩
    cases j with
    | zero=>simp at hj; subst hj; exact h1
    | succ j=>simp at hj; rw [show o + (j + 1) = o + 1 + j by omega]; exact h4 j v' hj
theorem At.sub{as:List AV}{b o:Nat}(h:At w U O as b o)(n m:Nat):At w U O ((as.drop n).take m) b (o + n):=by
  intro j a hj
  rw [qn] at hj
  split at hj
  .rw [qo] at hj
   obtain ⟨v,h1,h2⟩:=h _ a hj
   exact ⟨v,by rw [Nat.add_assoc]; exact h1,h2⟩
  .cases hj
theorem yso{t:TypeId}{x:TI}(ht:ybt P t=some x){as:List AV}{b o off:Nat}{v:AV}(ha:At w U O as b o)(h:part (ypg x.desc) x.size as off=some v) :
    ∃ z,(loadVar t ⟨b,o + off,none⟩).run P w = .ok z w/\VR w U O v z:=by
  unfold part at h
  split at h
  .rename_i hagg
   split at h
   .rename_i hle
    simp only [qa] at h
    subst h
    obtain ⟨cs,h1,h2⟩:=(ha.sub off x.size).list
    have hl:=ycd h1
    rw [qp,wq,wi (by omega)] at hl
    refine ⟨.agg cs.toArray,?_,by simp only [VR]; exact ⟨_,rfl,by simpa using h1⟩⟩
    have:=run_loadCells_list (P:=P) w ⟨b,o + off,none⟩ cs (fun j v hj=>by rw [ynb]; exact h2 j v hj)
    rw [← hl] at this
    simp only [loadVar,Sem.run_bind,yok ht,hagg,Result.andThen_ok,wl,yeg ht,this,Sem.run_pure]
   .cases h
  .rename_i hagg
   split at h
   .rename_i v' hv'
    split at h
    .simp only [qa] at h
     subst h
     obtain ⟨z,h1,h2⟩:=ha off v' hv'
     refine ⟨z,?_,h2⟩
     have hagg':ypg x.desc=false:=by simpa using hagg
     simp [loadVar,yok ht,hagg',h1]
    .cases h
   .cases h
theorem ycmp{H:yr}{nx:Nat}(hr:Rep A O H nx w){id b es:Nat}{cells:List AV}(hid:lk H id=some (.box cells))(hρ:O id=some (b,es)):At w (UU A O H) O cells b 0:=by
  obtain ⟨C,e,fr,h1,h2,h3⟩:=hr.ob id _ b es hid hρ
  intro j a hj
  obtain ⟨x,h4,h5⟩:=ydz h3 hj
  exact ⟨x,by rw [yfa h1]; simpa using h4,h5⟩
theorem ycmq{H:yr}{nx:Nat}(hr:Rep A O H nx w){id b es es' leak:Nat}{rows:List (List AV)}(hid:lk H id=some (.arr es' rows leak))(hρ:O id=some (b,es)){i:Nat}{row:List AV}(hi:rows[i]? = some row) :
    row.length=es/\At w (UU A O H) ych row b (i * es):=by
  obtain ⟨h0,hz,C,e,fr,h1,h2,h3⟩:=hr.ob id _ b es hid hρ
  obtain ⟨g1,g2,g3,_⟩:=yid h3 hi
  refine ⟨g1,fun j a hj=>?_⟩
  obtain ⟨x,h4,h5⟩:=ydz g3 hj
  rw [qn] at h4
  split at h4
  .rw [qo] at h4
   exact ⟨x,by rw [yfa h1]; simpa using h4,h5⟩
  .cases h4
theorem ycdh{H:yr}{nx:Nat}(hr:Rep A O H nx w){id b es es':Nat}{rows:List (List AV)}(hid:lk H id=some (.arx es' rows))(hρ:O id=some (b,es)){i:Nat}{row:List AV}(hi:rows[i]? = some row) :
    row.length=es/\At w (UU A O H) O row b (i * es):=by
  obtain ⟨h0,hz,C,e,fr,h1,h2,h3⟩:=hr.ob id _ b es hid hρ
  obtain ⟨g1,g2,g3,_⟩:=ylp h3 hi
  refine ⟨g1,fun j a hj=>?_⟩
  obtain ⟨x,h4,h5⟩:=ydz g3 hj
  rw [qn] at h4
  split at h4
  .rw [qo] at h4
   exact ⟨x,by rw [yfa h1]; simpa using h4,h5⟩
  .cases h4
theorem ycmr(O:Rho):Ext ych O:=fun _ _ h=>by simp [ych] at h
theorem yccc{a:AV}{x:Value}(h:VR w U ych a x):VR w U O a x:=ydw (ydo.refl w U) a x ych O (ycmr O) h
theorem At.up{as:List AV}{b o:Nat}(h:At w U ych as b o):At w U O as b o:=fun j a hj=>let ⟨v,h1,h2⟩:=h j a hj; ⟨v,h1,yccc h2⟩
theorem yavd{H:yr}{nx:Nat}(hr:Rep A O H nx w){t:TypeId}{x:TI}(ht:ybt P t=some x){X:Value}{p v:AV}(hp:VR w (UU A O H) O p X)(h:yka (ypg x.desc) x.size H p=some v) :
    ∃ z,(Instr.loadAt t X).run P w = .ok z w/\VR w (UU A O H) O v z:=by
  unfold yka at h
  split at h
  .rename_i id off
   split at h
   .rename_i cells hid
    simp only [VR] at hp
    obtain ⟨b,es,hρ,rfl⟩:=hp
    have:=yso (P:=P) ht (ycmp hr hid hρ) h
    simpa [Instr.loadAt,Instr.sureAddr] using this
   .cases h
  .rename_i id i f
   split at h
   .rename_i es' rows leak hid
    split at h
    .rename_i row hrow
     simp only [VR] at hp
     obtain ⟨b,es,hρ,rfl⟩:=hp
     have:=yso (P:=P) (O:=O) ht (ycmq hr hid hρ hrow).2.up h
     simpa [Instr.loadAt,Instr.sureAddr] using this
    .cases h
   .rename_i es' rows hid
    split at h
    .rename_i row hrow
     simp only [VR] at hp
     obtain ⟨b,es,hρ,rfl⟩:=hp
     have:=yso (P:=P) (O:=O) ht (ycdh hr hid hρ hrow).2 h
     simpa [Instr.loadAt,Instr.sureAddr] using this
    .cases h
   .cases h
  .rename_i row f
   simp only [VR] at hp
   obtain ⟨b,o,rfl,hc⟩:=hp
   have hat:At w (UU A O H) O row b o:=fun j a hj=>let ⟨v,h1,_,_,h3⟩:=yalj hc hj; ⟨v,h1,yccc h3⟩
   have:=yso (P:=P) ht hat h
   simpa [Instr.loadAt,Instr.sureAddr] using this
  .cases h
theorem ywi(n:Nat):unfr (0,0) n:=fun o _ h=>by omega
theorem yakt{s:St}(hr:Rep A O s.H s.nx w){cs:List AV}{C:Array Value}{e:TypeId}(hc:VRs w (UU A O s.H) O cs C.toList) :
    ydt A O s w (.ptr s.nx 0) (s.add (.box cs)) (.pointer (some ⟨w.heap.size,0,none⟩)) (yir w (.cells C e)):=by
  have hfr:=yahq hr (.box cs) C e (0,0) 0
  refine ⟨rfl,rfl,yjm O s.nx (w.heap.size,0),yaxa hr ?_,?_,hr.ext2 _,hfr⟩
  .refine ⟨C,e,(0,0),?_,ywi _,ydp hfr.stay _ _ _ _ (hr.ext _) hc⟩
   simp only [yir,yrt,wl]
  .simp only [VR]
   exact ⟨w.heap.size,0,yic _ _ _,rfl⟩
theorem ybsv{s:St}(hr:Rep A O s.H s.nx w){t:TypeId}{ti:TI}(ht:ybt P t=some ti){z:List AV}(hz:zeroCells ti=some z) :
    ∃ x w',(Instr.alloc t true (.tuple #[])).run P w = .ok x w'/\ydt A O s w (.ptr s.nx 0) (s.add (.box z)) x w':=by
  obtain ⟨zv,hzv,_,hz2⟩:=ysa hz
  refine ⟨_,_,?_,yakt (e:=t) hr (hz2 (w:=w) (U:=UU A O s.H) (O:=O))⟩
  simp only [Instr.alloc,Sem.run_bind,ywh ht hzv,Result.andThen_ok,newVar,newRow,run_newObj,Sem.run_pure]
  rfl
theorem yclf{s:St}(hr:Rep A O s.H s.nx w){t:TypeId}{a:AV}{X:Value}(ha:VR w (UU A O s.H) O a X){cs:List AV}(hc:cellsOf a=some cs) :
    ∃ x w',(Instr.box t X).run P w = .ok x w'/\ydt A O s w (.ptr s.nx 0) (s.add (.box cs)) x w':=by
  refine ⟨_,_,?_,yakt (e:=t) hr (ypn hc ha)⟩
  simp only [Instr.box,Sem.run_bind,newVar,newRow,run_newObj,Result.andThen_ok,Sem.run_pure]
  rfl
end
mutual
theorem ykr:∀ (v:AV) (H:yr),yby H (ybv H v)
  | .own es id off len ex,H=>by simp only [ybv]; exact yby.at _ _ _
  | .agg cs,H=>by simp only [ybv]; exact yla cs H
  | .tup cs,H=>by simp only [ybv]; exact yla cs H
  | .bad,H=>by simp only [ybv]; exact yby.refl _
  | .un,H=>by simp only [ybv]; exact yby.refl _
  | .bool _,H=>by simp only [ybv]; exact yby.refl _
  | .int _ _,H=>by simp only [ybv]; exact yby.refl _
  | .str _,H=>by simp only [ybv]; exact yby.refl _
  | .nil,H=>by simp only [ybv]; exact yby.refl _
  | .oth _,H=>by simp only [ybv]; exact yby.refl _
  | .imm _ _ _,H=>by simp only [ybv]; exact yby.refl _
  | .ptr _ _,H=>by simp only [ybv]; exact yby.refl _
  | .eptr _ _ _,H=>by simp only [ybv]; exact yby.refl _
  | .iptr _ _,H=>by simp only [ybv]; exact yby.refl _
  | .fn _ _ _,H=>by simp only [ybv]; exact yby.refl _
theorem yla:∀ (vs:List AV) (H:yr),yby H (yeu H vs)
  | [],H=>by simp only [yeu]; exact yby.refl _
  | v :: r,H=>by simp only [yeu]; exact (ykr v H).trans (yla r _)
end
def yuf(H:yr)(id n:Nat):Prop:=∀ es rows leak,lk H id=some (.arr es rows leak)->n<=leak
theorem yuf.leak{H H':yr}{id n:Nat}(h:yuf H id n)(hl:yby H H'):yuf H' id n:=by
  intro es rows leak hk
  obtain ⟨o,m,h1,h2⟩:=hl.back _ _ hk
  cases o with
  | box c=>simp [ydh] at h2
  | arr es' rows' leak'=>
    simp only [ydh,Ob.arr.injEq] at h2
    obtain ⟨rfl,rfl,rfl⟩:=h2
    exact ww (h _ _ _ h1) (Nat.le_max_left _ _)
  | arx es' rows'=>simp [ydh] at h2
theorem yuf.at(H:yr)(id n:Nat):yuf (ynn H id n) id n:=by
  intro es rows leak hk
  rw [ysx] at hk
  cases h:lk H id with
  | none=>simp [h] at hk
  | some o=>
    simp only [h,kb,wl,qa] at hk
    cases o with
    | box c=>simp [ydh] at hk
    | arr es' rows' leak'=>
      simp only [ydh,Ob.arr.injEq] at hk
      obtain ⟨rfl,rfl,rfl⟩:=hk
      exact Nat.le_max_right _ _
    | arx es' rows'=>simp [ydh] at hk
section
variable {P:Program} {w:World} {A:Nat->Nat->Prop} {O:Rho} {H H':yr} {nx:Nat}
theorem yang(hl:yby H H'):ydo w (UU A O H) w (UU A O H'):=ydo.less fun b o hu=>hu.imp_right (yoa hl)
theorem ycjp(hr:Rep A O H nx w)(hl:yby H H'){es id off len:Nat}{ex ex':Bool}{rows:List (List AV)}{es' leak:Nat}(hid:lk H id=some (.arr es' rows leak))(hle:off + len<=rows.length)(hge:yuf H' id (off + len))(hex:ex' = true->ex=true)
    {U:Nat->Nat->Prop} {x:Value} (h:VR w U O (.own es id off len ex) x):VR w (UU A O H') ych (.imm es ((rows.drop off).take len) ex') x:=by
  simp only [VR] at h ⊢
  obtain ⟨B,c,rfl,h2,h3,h4⟩:=h
  have hlen:((rows.drop off).take len).length=len:=by rw [qp,wq]; omega
  refine ⟨B,c,by rw [hlen],by omega,fun he=>by rw [hlen]; exact h3 (hex he),?_⟩
  rcases h4 with ⟨rfl,rfl⟩ | ⟨b,C,e,fr,h5,rfl,h6,h7⟩
  .left; simp
  .right
   refine ⟨b,off * es,rfl,?_⟩
   refine ywv fun i r hi=>?_
   rw [qn] at hi
   split at hi
   .rename_i hilt
    rw [qo] at hi
    obtain ⟨_,_,C0,e0,fr0,q1,q2,q3⟩:=hr.ob id _ b es hid h5
    obtain ⟨g1,q4,q5,q6⟩:=yid q3 hi
    refine ⟨g1,yaaj fun j a hj=>?_⟩
    obtain ⟨v,g3',g4⟩:=ydz q5 hj
    have hone:=q6 v (wa g3')
    have hjlt:j < es:=by
      rw [← g1]
      rcases qz j r.length with hl | hl
      .exact hl
      .rw [qm hl] at hj; cases hj
    have hadd:off * es + i * es + j=(off + i) * es + j:=by rw [jo]
    have g3:w.cell? ⟨b,(off + i) * es + j,none⟩ = some v:=by
      rw [qn,qe hjlt,qo,qu] at g3'
      rw [yfa q1]; exact g3'
    refine ⟨v,by rw [hadd]; exact g3,?_,hone,?_⟩
    .rw [hadd]
     rintro (ha | ⟨id',es2,ob,k1,k2,k3⟩)
     .exact hr.apart id _ b es _ hid h5 ha
     .obtain ⟨o2,m,k4,rfl⟩:=hl.back _ _ k1
      have:=hr.inj id' id o2 _ b es2 es k4 hid k2 h5
      subst this
      rw [hid] at k4
      obtain rfl:=qd k4
      rw [h5] at k2
      simp only [qa,qi] at k2
      obtain ⟨_,rfl⟩:=k2
      simp only [ydh,yjc] at k3
      have:=hge _ _ _ k1
      have h8:(off + len) * es<=max leak m * es:=qx _ this
      have h9:(off + i + 1) * es<=(off + len) * es:=qx _ (by omega)
      rw [we] at h9
      omega
    .refine ydw (ydo.less fun b o hu=>?_) a v ych ych (Ext.refl _) g4
     exact hu.imp_right (yoa hl)
   .cases hi
mutual
theorem ywx(hr:Rep A O H nx w):∀ (v:AV) (H1:yr),yby H H1->∀ (H':yr),yby (ybv H1 v) H'->∀ x,VR w (UU A O H) O v x->VR w (UU A O H') ych (frz H v) x
  | .own es id off len ex,H1,hl1,H',hl,x,h=>by
    simp only [frz,ybv] at hl ⊢
    split
    .rename_i es' rows leak hid
     split
     .rename_i hle
      refine yww (ycjp (ex':=false) hr ((hl1.trans (yby.at _ _ _)).trans hl) hid hle ?_ (by simp) h)
      exact (yuf.at _ _ _).leak hl
     .simp [VR]
    .simp [VR]
  | .agg cs,H1,hl1,H',hl,x,h=>by
    simp only [frz,ybv,VR] at hl h ⊢
    obtain ⟨xs,h1,h2⟩:=h
    exact ⟨xs,h1,ytv hr cs H1 hl1 H' hl _ h2⟩
  | .tup cs,H1,hl1,H',hl,x,h=>by
    simp only [frz,ybv,VR] at hl h ⊢
    obtain ⟨xs,h1,h2⟩:=h
    exact ⟨xs,h1,ytv hr cs H1 hl1 H' hl _ h2⟩
  | .imm es rows ex,H1,hl1,H',hl,x,h=>by
    simp only [frz,ybv] at hl ⊢
    have:=ydw (yang (hl1.trans hl)) (.imm es rows ex) x O O (Ext.refl _) h
    refine yww (es:=es) (ex:=ex) ?_
    simpa [VR] using this
  | .iptr row f,H1,hl1,H',hl,x,h=>by
    simp only [frz,ybv] at hl ⊢
    have:=ydw (yang (hl1.trans hl)) (.iptr row f) x O O (Ext.refl _) h
    simpa [VR] using this
  | .ptr _ _,H1,hl1,H',hl,x,h=>by simp [frz,VR]
  | .eptr _ _ _,H1,hl1,H',hl,x,h=>by simp [frz,VR]
  | .fn _ _ _,H1,hl1,H',hl,x,h=>by simp [frz,VR]
  | .bad,H1,hl1,H',hl,x,h=>by simp [frz,VR]
  | .un,H1,hl1,H',hl,x,h=>by simpa [frz,VR] using h
  | .bool _,H1,hl1,H',hl,x,h=>by simpa [frz,VR] using h
  | .int _ _,H1,hl1,H',hl,x,h=>by simpa [frz,VR] using h
  | .str _,H1,hl1,H',hl,x,h=>by simpa [frz,VR] using h
  | .nil,H1,hl1,H',hl,x,h=>by
    simp only [frz]
    exact yaxf (O:=O) (by simpa [VR] using h)
  | .oth _,H1,hl1,H',hl,x,h=>by simpa [frz,VR] using h
theorem ytv(hr:Rep A O H nx w):∀ (vs:List AV) (H1:yr),yby H H1->∀ (H':yr),yby (yeu H1 vs) H'->∀ xs,VRs w (UU A O H) O vs xs->VRs w (UU A O H') ych (ydn H vs) xs
  | [],H1,hl1,H',hl,xs,h=>by simpa [ydn,VRs] using h
  | v :: r,H1,hl1,H',hl,xs,h=>by
    simp only [ydn,yeu,VRs] at hl h ⊢
    obtain ⟨x,q,h1,h2,h3⟩:=h
    exact ⟨x,q,h1,ywx hr v H1 hl1 H' ((yla r _).trans hl) x h2,ytv hr r (ybv H1 v) (hl1.trans (ykr v H1)) H' hl q h3⟩
end
theorem ycdt(hr:Rep A O H nx w){es id off len:Nat}{ex:Bool}{rows:List (List AV)}{es':Nat}(hid:lk H id=some (.arx es' rows))(hle:off + len<=rows.length)
    {U:Nat->Nat->Prop} {x:Value} (h:VR w U O (.own es id off len ex) x):VR w A ych (.imm es (((rows.drop off).take len).map (ydn H)) false) x:=by
  simp only [VR] at h ⊢
  obtain ⟨B,c,rfl,h2,h3,h4⟩:=h
  have hlen:(((rows.drop off).take len).map (ydn H)).length=len:=by rw [wj,qp,wq]; omega
  refine ⟨B,c,by rw [hlen],by omega,by simp,?_⟩
  rcases h4 with ⟨rfl,rfl⟩ | ⟨b,C,e,fr,h5,rfl,h6,h7⟩
  .left; simp
  .right
   refine ⟨b,off * es,rfl,?_⟩
   refine ywv fun i r hi0=>?_
   rw [jw] at hi0
   obtain ⟨r0,hi,hi1⟩:=Option.map_eq_some_iff.1 hi0
   subst hi1
   rw [qn] at hi
   split at hi
   .rename_i hilt
    rw [qo] at hi
    obtain ⟨_,_,C0,e0,fr0,q1,q2,q3⟩:=hr.ob id _ b es hid h5
    obtain ⟨g1,q4,q5,q6⟩:=ylp q3 hi
    have q7:=ytv hr r0 H (yby.refl _) (yeu H r0) (yby.refl _) _ q5
    have q8:=ydp (ydo.less (U':=A) fun b o hu=>.inl hu) _ _ _ _ (Ext.refl _) q7
    have q9:(ydn H r0).length=es:=by
      have:=ycd q8; have h':=ycd q5; omega
    refine ⟨q9,yaaj fun j a hj=>?_⟩
    obtain ⟨v,g3',g4⟩:=ydz q8 hj
    have hone:=q6 v (wa g3')
    have hjlt:j < es:=by
      rw [← q9]
      rcases qz j (ydn H r0).length with hl | hl
      .exact hl
      .rw [qm hl] at hj; cases hj
    have hadd:off * es + i * es + j=(off + i) * es + j:=by rw [jo]
    have g3:w.cell? ⟨b,(off + i) * es + j,none⟩ = some v:=by
      rw [qn,qe hjlt,qo,qu] at g3'
      rw [yfa q1]; exact g3'
    exact ⟨v,by rw [hadd]; exact g3,hr.apart id _ b es _ hid h5,hone,g4⟩
   .cases hi
theorem ykl(hr:Rep A O H nx w){v:AV}{x:Value}(h:VR w (UU A O H) O v x):VR w A ych (frz H v) x:=
  ydw (ydo.less (U':=A) fun b o hu=>.inl hu) _ _ _ _ (Ext.refl _) (ywx hr v H (yby.refl _) (ybv H v) (yby.refl _) x h)
mutual
theorem yaxe(hr:Rep A O H nx w):∀ (v:AV) (x:Value),VR w (UU A O H) O v x->VR w A ych (frzX H v) x
  | .own es id off len ex,x,h=>by
    simp only [frzX]
    split
    .rename_i rows hid
     split
     .rename_i hle
      exact yww (ycdt hr hid hle h)
     .simp [VR]
    .exact ykl hr h
  | .agg cs,x,h=>by
    simp only [frzX,VR] at h ⊢
    obtain ⟨xs,h1,h2⟩:=h
    exact ⟨xs,h1,yafm hr cs _ h2⟩
  | .tup cs,x,h=>by
    simp only [frzX,VR] at h ⊢
    obtain ⟨xs,h1,h2⟩:=h
    exact ⟨xs,h1,yafm hr cs _ h2⟩
  | .imm _ _ _,x,h=>ykl hr h
  | .iptr _ _,x,h=>ykl hr h
  | .ptr _ _,x,h=>ykl hr h
  | .eptr _ _ _,x,h=>ykl hr h
  | .fn _ _ _,x,h=>ykl hr h
  | .bad,x,h=>ykl hr h
  | .un,x,h=>ykl hr h
  | .bool _,x,h=>ykl hr h
  | .int _ _,x,h=>ykl hr h
  | .str _,x,h=>ykl hr h
  | .nil,x,h=>ykl hr h
  | .oth _,x,h=>ykl hr h
theorem yafm(hr:Rep A O H nx w):∀ (vs:List AV) (xs:List Value),VRs w (UU A O H) O vs xs->VRs w A ych (yacw H vs) xs
  | [],xs,h=>by simpa [yacw,VRs] using h
  | v :: r,xs,h=>by
    simp only [yacw,VRs] at h ⊢
    obtain ⟨x,q,h1,h2,h3⟩:=h
    exact ⟨x,q,h1,yaxe hr v x h2,yafm hr r q h3⟩
end
theorem yvg{t:TypeId}{x:TI}(ht:ybt P t=some x){b o:Nat}{X:Value}(hs:X.cells.size=x.size)(h1:∀ y∈X.cells.toList,yib y=true){C:Array Value}{e:TypeId}{fr:Nat × Nat}(hb:w.heap[b]? = some (Obj.cells C e fr))(hu:unfr fr C.size)
    (hle:o + x.size<=C.size):(Instr.storeAt t (.pointer (some ⟨b,o,none⟩)) X).run P w = .ok () (w.setCells b o X.cells.toList):=by
  have hne:¬ (X.cells.size≠x.size):=by simp [hs]
  have hst:=run_storeCells_cells (P:=P) b o X.cells.toList 0 w (fun j hj=>by
   rw [yfa hb]
   simp at hj ⊢; omega) (fun j hj=>yle hb hu (by simp at hj; omega)) (fun v hv=>ylh (h1 v hv))
  simp only [ka] at hst
  simp only [Instr.storeAt,Instr.sureAddr,Sem.run_bind,Sem.run_pure,Result.andThen_ok,storeVar,yeg ht,Sem.run_ite,qc hne]
  exact hst
theorem ybin{s:St}(hr:Rep A O s.H s.nx w){t:TypeId}{ti:TI}(ht:ybt P t=some ti){id i f es':Nat}{rows:List (List AV)}{v:AV}{p' X:Value}(hp:VR w (UU A O s.H) O (.eptr id i f) p')(hv:VR w (UU A O s.H) O v X)(hid:lk s.H id=some (.arx es' rows)){H':yr}(h:yvk ti.size s.H id i f es' rows v=some H') :
    ∃ w',(Instr.storeAt t p' X).run P w = .ok () w'/\ydt A O s w .un (s.setH H') undef w':=by
  unfold yvk at h
  split at h
  .rename_i vs row hvs hrow
   split at h
   .rename_i hc
    obtain ⟨c1,c2,c5⟩:=hc
    simp only [VR] at hp
    obtain ⟨b,es,hρ,rfl⟩:=hp
    obtain ⟨h0,hz,C,e,fr,hb,hu,hC⟩:=hr.ob id _ b es hid hρ
    have hX:=ypn hvs hv
    have hlx:=ycd hX
    have hxs:X.cells.toList.length=X.cells.size:=by simp
    have hcs:C.toList.length=C.size:=by simp
    obtain ⟨g1,g2,g3,g4⟩:=ylp hC hrow
    have hle:i * es + f + ti.size<=C.size:=by
      rw [we] at g2; omega
    have hrun:=yvg (P:=P) (w:=w) ht (o:=i * es + f) (X:=X) (by omega) (ylq c5 hX) hb hu hle
    refine ⟨_,hrun,rfl,rfl,O,?_⟩
    obtain ⟨k1,k2,k3,k4,k5,k6⟩:=yii b e fr X.cells.toList (i * es + f) w C hb
    obtain ⟨hfr,hrep⟩:=ymd (H':=H') (ob':=.arx es' (rows.set i (ycp row f vs))) hr hid hρ hb k1 k2 k3 k4 k5 k6 (yef _ _ _) (fun o ho=>absurd trivial ho) (fun k=>yey h k) (fun _ _=>trivial)
    refine ⟨hrep ⟨h0,hz,_,e,fr,k1,by rw [yef]; exact hu,?_⟩,by simp [VR],ygs.refl _ _,hfr⟩
    refine ywu fun j r hj=>?_
    have hclen:(yjy C (i * es + f) X.cells.toList).toList.length=C.size:=by simp [yef]
    by_cases hij:i=j
    .subst hij
     have hlt:i < rows.length:=by
       rcases qz i rows.length with hl | hl
       .exact hl
       .rw [qm hl] at hrow; cases hrow
     rw [wu hlt] at hj
     obtain rfl:=qd hj
     refine ⟨by rw [yfj]; exact g1,by rw [hclen]; rw [hcs] at g2; exact g2,?_,?_⟩
     rotate_left
     .intro x hx
      obtain ⟨q,hq⟩:=List.mem_iff_getElem?.1 hx
      rw [qn] at hq
      split at hq
      .rename_i hqlt
       rw [qo,qu,yhi] at hq
       split at hq
       .exact ylq c5 hX x (wa hq)
       .refine g4 x (wa (i:=q) ?_)
        rw [qn,qe hqlt,qo,qu]
        exact hq
      .cases hq
     refine ymb ?_ fun q a hq=>?_
     .rw [yfj,qp,wq,hclen]
      rw [we] at g2; omega
     .have hqlt:q < es:=by
        have:q < (ycp row f vs).length:=by
          rcases qz q (ycp row f vs).length with hl | hl
          .exact hl
          .rw [qm hl] at hq; cases hq
        rw [yfj] at this; omega
      rw [qn,qe hqlt,qo,qu,yhi]
      rw [ylx] at hq
      split at hq
      .rename_i hcond
       rw [qe (by rw [we] at g2; omega)]
       obtain ⟨x,q1,q2⟩:=ydz hX hq
       exact ⟨x,by rw [show i * es + q - (i * es + f) = q - f by omega]; exact q1,ydw hfr.stay _ _ _ _ (Ext.refl _) q2⟩
      .rename_i hcond
       rw [qc (by omega)]
       obtain ⟨x,q1,q2⟩:=ydz g3 hq
       rw [qn,qe hqlt,qo,qu] at q1
       exact ⟨x,q1,ydw hfr.stay _ _ _ _ (Ext.refl _) q2⟩
    .rw [ja hij] at hj
     obtain ⟨q1,q2,q3,q4⟩:=ylp hC hj
     refine ⟨q1,by rw [hclen]; rw [hcs] at q2; exact q2,?_⟩
     have heq:((yjy C (i * es + f) X.cells.toList).toList.drop (j * es)).take es=(C.toList.drop (j * es)).take es:=by
       apply jx
       intro q
       rw [qn,qn]
       split
       .rename_i hqlt
        rw [qo,qo,qu,qu,yhi,qc]
        intro hh
        rcases Nat.lt_or_gt_of_ne hij with hlt | hlt
        .have:(i + 1) * es<=j * es:=qx _ hlt
         rw [we] at this; omega
        .have:(j + 1) * es<=i * es:=qx _ hlt
         rw [we] at this; omega
       .rfl
     rw [heq]
     exact ⟨ydp hfr.stay _ _ _ _ (Ext.refl _) q3,q4⟩
   .cases h
  .cases h
theorem yagb{H:yr}{v:AV}{id es:Nat}{rows:List (List AV)}(h:lk (ybv H v) id=some (.arx es rows)):lk H id=some (.arx es rows):=by
  obtain ⟨o,n,h1,h2⟩:=(ykr v H).back _ _ h
  cases o with
  | box c=>simp [ydh] at h2
  | arr es' rows' leak'=>simp [ydh] at h2
  | arx es' rows'=>
    simp only [ydh,Ob.arx.injEq] at h2
    obtain ⟨rfl,rfl⟩:=h2
    exact h1
theorem ybsy{s:St}(hr:Rep A O s.H s.nx w){t:TypeId}{ti:TI}(ht:ybt P t=some ti){p v:AV}{p' X:Value}(hp:VR w (UU A O s.H) O p p')(hv:VR w (UU A O s.H) O v X){H':yr}(h:ynv ti.size s.H p v=some H') :
    ∃ w',(Instr.storeAt t p' X).run P w = .ok () w'/\ydt A O s w .un (s.setH H') undef w':=by
  unfold ynv at h
  split at h
  .rename_i id off
   split at h
   .rename_i cells vs hid hvs
    split at h
    .rename_i hc
     obtain ⟨c1,c2,c3⟩:=hc
     simp only [VR] at hp
     obtain ⟨b,es,hρ,rfl⟩:=hp
     obtain ⟨C,e,fr,hb,hu,hC⟩:=hr.ob id _ b es hid hρ
     have hX:=ypn hvs hv
     have hlx:=ycd hX
     have hlc:=ycd hC
     have hxs:X.cells.toList.length=X.cells.size:=by simp
     have hcs:C.toList.length=C.size:=by simp
     have hrun:=yvg (P:=P) (w:=w) ht (o:=off) (X:=X) (by omega) (ylq c3 hX) hb hu (by omega)
     refine ⟨_,hrun,rfl,rfl,O,?_⟩
     obtain ⟨k1,k2,k3,k4,k5,k6⟩:=yii b e fr X.cells.toList off w C hb
     obtain ⟨hfr,hrep⟩:=ymd (H':=H') (ob':=.box (ycp cells off vs)) hr hid hρ hb k1 k2 k3 k4 k5 k6 (yef _ _ _) (fun o ho=>absurd trivial ho) (fun k=>yey h k) (fun _ _=>trivial)
     refine ⟨hrep ⟨_,e,fr,k1,by rw [yef]; exact hu,?_⟩,by simp [VR],ygs.refl _ _,hfr⟩
     exact ybtw (ydp hfr.stay _ _ O O (Ext.refl _) hC) (ydp hfr.stay _ _ O O (Ext.refl _) hX) c2
    .cases h
   .cases h
  .rename_i id i f
   split at h
   .rename_i vs es' rows leak hvs hid
    split at h
    .rename_i row hrow
     split at h
     .rename_i hc
      obtain ⟨c1,c2,c3,c4,c5⟩:=hc
      simp only [VR] at hp
      obtain ⟨b,es,hρ,rfl⟩:=hp
      have hl:=ykr v s.H
      have hr1:=yre hr hl
      obtain ⟨h0,hz,C,e,fr,hb,hu,hC⟩:=hr1.ob id _ b es hid hρ
      have hV:=ywx hr v s.H (yby.refl _) (ybv s.H v) (yby.refl _) X hv
      have hX:=ypn hvs hV
      have hlx:=ycd hX
      have hxs:X.cells.toList.length=X.cells.size:=by simp
      have hcs:C.toList.length=C.size:=by simp
      obtain ⟨g1,g2,g3,g4⟩:=yid hC hrow
      have hle:i * es + f + ti.size<=C.size:=by
        rw [we] at g2; omega
      have hrun:=yvg (P:=P) (w:=w) ht (o:=i * es + f) (X:=X) (by omega) (ylq c5 hX) hb hu hle
      refine ⟨_,hrun,rfl,rfl,O,?_⟩
      obtain ⟨k1,k2,k3,k4,k5,k6⟩:=yii b e fr X.cells.toList (i * es + f) w C hb
      have hwrite:∀ o,¬ yjc es o (.arr es' rows leak)->(yjy C (i * es + f) X.cells.toList)[o]? = C[o]?:=by
        intro o ho
        rw [yhi,qc]
        intro hh
        apply ho
        simp only [yjc]
        have:leak * es<=i * es:=qx _ c3
        omega
      obtain ⟨hfr,hrep⟩:=ymd (H':=H') (ob':=.arr es' (rows.set i (ycp row f vs)) leak) hr1 hid hρ hb k1 k2 k3 k4 k5 k6 (yef _ _ _) hwrite (fun k=>yey h k) (fun _ hh=>hh)
      refine ⟨hrep ⟨h0,hz,_,e,fr,k1,by rw [yef]; exact hu,?_⟩,by simp [VR],ygs.refl _ _,(yhj fun b o=>yoa hl).trans hfr⟩
      refine yni fun j r hj=>?_
      have hclen:(yjy C (i * es + f) X.cells.toList).toList.length=C.size:=by simp [yef]
      by_cases hij:i=j
      .subst hij
       have hlt:i < rows.length:=by
         rcases qz i rows.length with hl | hl
         .exact hl
         .rw [qm hl] at hrow; cases hrow
       rw [wu hlt] at hj
       obtain rfl:=qd hj
       refine ⟨by rw [yfj]; exact g1,by rw [hclen]; rw [hcs] at g2; exact g2,?_,?_⟩
       rotate_left
       .intro x hx
        obtain ⟨q,hq⟩:=List.mem_iff_getElem?.1 hx
        rw [qn] at hq
        split at hq
        .rename_i hqlt
         rw [qo,qu,yhi] at hq
         split at hq
         .exact ylq c5 hX x (wa hq)
         .refine g4 x (wa (i:=q) ?_)
          rw [qn,qe hqlt,qo,qu]
          exact hq
        .cases hq
       refine ymb ?_ fun q a hq=>?_
       .rw [yfj,qp,wq,hclen]
        rw [we] at g2; omega
       .have hqlt:q < es:=by
          have:q < (ycp row f vs).length:=by
            rcases qz q (ycp row f vs).length with hl | hl
            .exact hl
            .rw [qm hl] at hq; cases hq
          rw [yfj] at this; omega
        rw [qn,qe hqlt,qo,qu,yhi]
        rw [ylx] at hq
        split at hq
        .rename_i hcond
         rw [qe (by rw [we] at g2; omega)]
         obtain ⟨x,q1,q2⟩:=ydz hX hq
         exact ⟨x,by rw [show i * es + q - (i * es + f) = q - f by omega]; exact q1,ydw hfr.stay _ _ _ _ (Ext.refl _) q2⟩
        .rename_i hcond
         rw [qc (by omega)]
         obtain ⟨x,q1,q2⟩:=ydz g3 hq
         rw [qn,qe hqlt,qo,qu] at q1
         exact ⟨x,q1,ydw hfr.stay _ _ _ _ (Ext.refl _) q2⟩
      .rw [ja hij] at hj
       obtain ⟨q1,q2,q3,q4⟩:=yid hC hj
       refine ⟨q1,by rw [hclen]; rw [hcs] at q2; exact q2,?_⟩
       have heq:((yjy C (i * es + f) X.cells.toList).toList.drop (j * es)).take es=(C.toList.drop (j * es)).take es:=by
         apply jx
         intro q
         rw [qn,qn]
         split
         .rename_i hqlt
          rw [qo,qo,qu,qu,yhi,qc]
          intro hh
          rcases Nat.lt_or_gt_of_ne hij with hlt | hlt
          .have:(i + 1) * es<=j * es:=qx _ hlt
           rw [we] at this; omega
          .have:(j + 1) * es<=i * es:=qx _ hlt
           rw [we] at this; omega
         .rfl
       rw [heq]
       exact ⟨ydp hfr.stay _ _ _ _ (Ext.refl _) q3,q4⟩
     .cases h
    .cases h
   .rename_i vs es' rows hvs hid
    exact ybin hr ht hp hv (yagb hid) h
   .cases h
  .cases h
end
end Go.Proofs.Ytgoachcogmlhcaa.R
