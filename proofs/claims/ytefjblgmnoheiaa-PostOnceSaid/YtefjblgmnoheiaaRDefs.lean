/- The abstract evaluator: values, heap, operations, code. Definitions alone. -/
import Derived.Calls
import Derived.Orders
import Derived.LoopN
set_option linter.unusedVariables false
noncomputable section
namespace Go.Proofs.Ytefjblgmnoheiaa.R
open Go

/-- Abstract values. 'nil': the nil slice; 'oth': another value of one cell that leads nowhere (nil of other kinds). 'imm': a slice that is only read, its elements as rows of so many cells (ex: no capacity beyond). 'own': a slice of an array of the activation's own. 'ptr': a place in a box, 'eptr': in an element of an own array, 'iptr': in an element of a slice that is only read. 'bad': nothing is known. 'un': not yet written. -/
inductive AV where
  | bad
  | un
  | bool (b : Bool)
  | int (k : IntKind) (n : Int)
  | str (s : ByteArray)
  | nil
  | oth (v : Value)
  | imm (es : Nat) (rows : List (List AV)) (ex : Bool)
  | own (es id off len : Nat) (ex : Bool)
  | ptr (id off : Nat)
  | eptr (id i f : Nat)
  | iptr (row : List AV) (f : Nat)
  | fn (f : Fn) (pre post : List AV)
  | agg (cs : List AV)
  | tup (vs : List AV)
  deriving Inhabited

/-- What the abstract heap holds: a box (a variable), or an array (its elements' size, its elements, and up to which element it may be read elsewhere as it is now), or an array whose elements lead to other places. -/
inductive Ob where
  | box (cells : List AV)
  | arr (es : Nat) (rows : List (List AV)) (leak : Nat)
  | arx (es : Nat) (rows : List (List AV))
  deriving Inhabited

/-- The first entry of a key. -/
def lk {α : Type} (l : List (Nat × α)) (t : Nat) : Option α :=
  List.rec none (fun p _ ih => Bool.rec ih (some p.2) (Nat.beq p.1 t)) l
/-- Another value at a key that is there. -/
def upd {α : Type} (l : List (Nat × α)) (t : Nat) (x : α) : Option (List (Nat × α)) :=
  List.rec none (fun p r ih => Bool.rec (Option.rec none (fun r' => some (p :: r')) ih) (some ((p.1, x) :: r)) (Nat.beq p.1 t)) l
/-- Without a key. -/
def rmv {α : Type} (l : List (Nat × α)) (t : Nat) : List (Nat × α) :=
  List.rec [] (fun p _ ih => Bool.rec (p :: ih) ih (Nat.beq p.1 t)) l
/-- Where a number stands. -/
def pos (l : List Nat) (t : Nat) : Option Nat :=
  List.rec none (fun x _ ih => Bool.rec (Option.rec none (fun n => some (n + 1)) ih) (some 0) (Nat.beq x t)) l

/-- A value of one cell. -/
def ofCell (v : Value) : AV :=
  match v with
  | .bool b => .bool b
  | .int k n => .int k n
  | .string s => .str s
  | .slice none 0 0 => .nil
  | .pointer none => .oth (.pointer none)
  | .map none => .oth (.map none)
  | .nilFunc => .oth .nilFunc
  | .nilIface => .oth .nilIface
  | _ => .bad
def ofConst (v : Value) : AV :=
  match v with
  | .agg cs => .agg (cs.toList.map ofCell)
  | v => ofCell v
/-- The value of one cell. -/
def cellB : AV → Bool
  | .bad | .un | .agg _ | .tup _ => false
  | _ => true
def cellBs : List AV → Bool
  | [] => true
  | v :: r => cellB v && cellBs r
/-- A value's cells. -/
def cellsOf : AV → Option (List AV)
  | .agg cs => some cs
  | v => if cellB v then some [v] else none

mutual
/-- A value that names no place of the abstract heap. -/
def idFree : AV → Bool
  | .bool _ => true
  | .int _ _ => true
  | .str _ => true
  | .nil => true
  | .oth _ => true
  | .imm _ _ _ => true
  | .iptr _ _ => false
  | .agg cs => idFrees cs
  | .tup cs => idFrees cs
  | _ => false
def idFrees : List AV → Bool
  | [] => true
  | v :: r => idFree v && idFrees r
end
mutual
/-- No slice in it at all. -/
def plainB : AV → Bool
  | .bool _ => true
  | .int _ _ => true
  | .str _ => true
  | .oth _ => true
  | .agg cs => plainBs cs
  | .tup cs => plainBs cs
  | _ => false
def plainBs : List AV → Bool
  | [] => true
  | v :: r => plainB v && plainBs r
end

abbrev Heap := List (Nat × Ob)
/-- The size of an element, as rows tell it; and rows as a slice that is only read, in one form. -/
def esOf : List (List AV) → Nat
  | [] => 0
  | r :: _ => r.length
def canI (rows : List (List AV)) : AV := .imm (esOf rows) rows false
/-- Rows of so many cells, or none at all. -/
def esFit (size es : Nat) (rows : List (List AV)) : Bool := rows.isEmpty || Nat.beq es size

/-- The rows that a slice holds. -/
def rowsOf (es : Nat) (H : Heap) : AV → Option (List (List AV))
  | .nil => some []
  | .imm es' rows _ => if esFit es es' rows = true then some rows else none
  | .own es' id off len _ =>
    if es' = es then
      match lk H id with
      | some (.arr _ rows _) => if off + len ≤ rows.length then some ((rows.drop off).take len) else none
      | _ => none
    else none
  | _ => none

mutual
/-- What is read of a value as it is now. -/
def frz (H : Heap) : AV → AV
  | .own es id off len _ =>
    match lk H id with
    | some (.arr _ rows _) => if off + len ≤ rows.length then canI ((rows.drop off).take len) else .bad
    | _ => .bad
  | .imm _ rows _ => canI rows
  | .nil => canI []
  | .agg cs => .agg (frzs H cs)
  | .tup cs => .tup (frzs H cs)
  | .ptr _ _ => .bad
  | .eptr _ _ _ => .bad
  | .fn _ _ _ => .bad
  | v => v
def frzs (H : Heap) : List AV → List AV
  | [] => []
  | v :: r => frz H v :: frzs H r
end
/-- An array of which so much is read elsewhere. -/
def leakOb (n : Nat) : Ob → Ob
  | .arr es rows leak => .arr es rows (max leak n)
  | o => o
def leakAt (H : Heap) (id n : Nat) : Heap := H.map fun p => if p.1 = id then (p.1, leakOb n p.2) else p
mutual
def leakV (H : Heap) : AV → Heap
  | .own _ id off len _ => leakAt H id (off + len)
  | .agg cs => leakVs H cs
  | .tup cs => leakVs H cs
  | _ => H
def leakVs (H : Heap) : List AV → Heap
  | [] => H
  | v :: r => leakVs (leakV H v) r
end

/-! ### Other names for the places of the heap -/
mutual
def ren (f : Nat → Option Nat) : AV → AV
  | .own es id off len ex => match f id with | some j => .own es j off len ex | none => .bad
  | .ptr id off => match f id with | some j => .ptr j off | none => .bad
  | .eptr id i g => match f id with | some j => .eptr j i g | none => .bad
  | .fn g pre post => .fn g (rens f pre) (rens f post)
  | .agg cs => .agg (rens f cs)
  | .tup cs => .tup (rens f cs)
  | v => v
def rens (f : Nat → Option Nat) : List AV → List AV
  | [] => []
  | v :: r => ren f v :: rens f r
end
def renOb (f : Nat → Option Nat) : Ob → Ob
  | .box cells => .box (rens f cells)
  | .arx es rows => .arx es (rows.map (rens f))
  | o => o
/-- The heap under other names; what has none is forgotten. -/
def renH (f : Nat → Option Nat) : Heap → Heap
  | [] => []
  | (id, o) :: r =>
    match f id with
    | some j => (j, renOb f o) :: renH f r
    | none => renH f r

/-- Those of some values that lead to places. -/
def leadsV (l : List AV) : List AV := l.filter fun v => !idFree v
/-- What an array's elements may lead to. -/
def subsA : Ob → List AV
  | .arx _ rows => leadsV rows.flatten
  | _ => []
/-- What can be come to from values, in the order in which it is met. -/
def reach (H : Heap) : Nat → List AV → List Nat → List Nat
  | 0, _, acc => acc
  | _ + 1, [], acc => acc
  | n + 1, v :: todo, acc =>
    match v with
    | .own _ id _ _ _ =>
      if id ∈ acc then reach H n todo acc else
      match lk H id with
      | some o => reach H n (subsA o ++ todo) (acc ++ [id])
      | none => reach H n todo acc
    | .eptr id _ _ =>
      if id ∈ acc then reach H n todo acc else
      match lk H id with
      | some o => reach H n (subsA o ++ todo) (acc ++ [id])
      | none => reach H n todo acc
    | .ptr id _ =>
      if id ∈ acc then reach H n todo acc else
      match lk H id with
      | some (.box cells) => reach H n (cells ++ todo) (acc ++ [id])
      | some _ => reach H n todo (acc ++ [id])
      | none => reach H n todo acc
    | .fn _ pre post => reach H n (pre ++ (post ++ todo)) acc
    | .agg cs => reach H n (cs ++ todo) acc
    | .tup cs => reach H n (cs ++ todo) acc
    | _ => reach H n todo acc
def fuelR : Nat := 2000
def boxCells : Heap → Nat → List AV
  | H, id => match lk H id with | some (.box cells) => cells | some (.arx _ rows) => leadsV rows.flatten | _ => []
/-- The places that stay: the first m, and what can be come to from them and from values. -/
def places (H : Heap) (m : Nat) (roots : List AV) : List Nat :=
  reach H fuelR ((List.range m).flatMap (boxCells H) ++ roots) (List.range m)

/-! ### Operations, their types resolved -/
inductive Opd where
  | t (n : Nat)
  | c (v : AV)
  deriving Inhabited

inductive IP where
  | mv (x : Opd)
  | pick (b x y : Opd)
  | bin (op : BinOp) (x y : Opd)
  | eqb (ng : Bool) (x y : Opd)
  | eqc (ng : Bool) (cells : List (Nat × Nat)) (x y : Opd)
  | eqn (ng : Bool) (x : Opd)
  | ngt (x : Opd)
  | nt (x : Opd)
  | cvt (k : IntKind) (x : Opd)
  | cst (x : Opd)
  | build (zero : List AV) (parts : List (Nat × Nat × Opd))
  | fld (a : Bool) (size off : Nat) (x : Opd)
  | ext (i : Nat) (x : Opd)
  | fa (off : Nat) (x : Opd)
  | ias (size : Nat) (x i : Opd)
  | iaa (size len : Nat) (x i : Opd)
  | ixs (x i : Opd)
  | ixa (a : Bool) (size len : Nat) (x i : Opd)
  | sls (x : Opd) (lo hi : Option Opd)
  | sll (size : Nat) (x : Opd) (lo hi mx : Option Opd)
  | mkf (f : Nat) (pre post : List Opd)
  | nc (x : Opd)
  | lens (x : Opd)
  | lenl (x : Opd)
  | mx (x y : Opd)
  | mn (x y : Opd)
  | alloc (zero : List AV)
  | box (x : Opd)
  | ld (a : Bool) (size : Nat) (p : Opd)
  | st (size : Nat) (p x : Opd)
  | mks (es : Nat) (zero : List AV) (l m : Opd)
  | bsl (es : Nat) (zero : List AV) (len : Nat) (parts : List (Nat × Opd))
  | s2b (x : Opd)
  | b2s (x : Opd)
  | app (es : Nat) (x y : Opd)
  | cpy (es : Nat) (x y : Opd)
  | cln (es : Nat) (x : Opd)
  | clr (es : Nat) (zero : List AV) (x : Opd)
  /-- Nothing is known of it. -/
  | no
  | call (f : Nat) (args : List Opd)
  | callv (g : Opd) (args : List Opd)
  deriving Inhabited

structure Iop where
  dst : Option Nat
  guard : Option (Nat × Bool)
  op : IP
  deriving Inhabited
abbrev oo (n : Nat) (p : IP) : Iop := ⟨some n, none, p⟩
abbrev oe (p : IP) : Iop := ⟨none, none, p⟩
abbrev og (n a : Nat) (b : Bool) (p : IP) : Iop := ⟨some n, some (a, b), p⟩
abbrev kI (n : Int) : Opd := .c (.int .i64 n)
abbrev zI : AV := .int .i64 0
abbrev mT (n : Nat) : IP := .mv (.t n)
abbrev bB (o : BinOp) (a b : Nat) : IP := .bin o (.t a) (.t b)
abbrev bK (o : BinOp) (a : Nat) (n : Int) : IP := .bin o (.t a) (kI n)
abbrev sT (k a b : Nat) : IP := .st k (.t a) (.t b)
abbrev iA (k a b : Nat) : IP := .ias k (.t a) (.t b)
abbrev xT (k n : Nat) : IP := .ext k (.t n)
abbrev nT (n : Nat) : IP := .nc (.t n)
abbrev lL (n : Nat) : IP := .lenl (.t n)
abbrev kF : Opd := .c (.bool false)
abbrev kT : Opd := .c (.bool true)
abbrev lF (n : Nat) : IP := .ld false 1 (.t n)
abbrev lT (k n : Nat) : IP := .ld true k (.t n)
abbrev fA (k n : Nat) : IP := .fa k (.t n)

inductive IC where
  | skip
  | reg (draw : Option (List (Nat × Nat))) (ops : List Iop)
  | seq (a b : IC)
  | cond (x : Opd) (a b : IC)
  | block (id : Nat) (b : IC)
  | loop (b : IC)
  | out (id : Nat)
  | ret
  deriving Inhabited

inductive IR where
  | tmp (t : Nat)
  | cell (a : Nat) (agg : Bool) (size : Nat)
  deriving Inhabited

structure IFn where
  nt : Nat
  live : List Nat
  res : List IR
  body : IC

/-! ### From the program's code -/
structure TI where
  desc : TypeDesc
  size : Nat
  bytes : Nat
  zero : Option Value
def tyOf (P : Program) (t : TypeId) : Option TI :=
  match P.underlying t, P.info? t with
  | some d, some i => some ⟨d, i.size, i.bytes, i.zero⟩
  | _, _ => none
def aggB : TypeDesc → Bool
  | .struct _ => true
  | .array _ _ => true
  | _ => false
def intB : TypeDesc → Bool
  | .int _ => true
  | _ => false
def zeroCells (x : TI) : Option (List AV) :=
  match x.zero with
  | some (.agg cs) => if cellBs (cs.toList.map ofCell) = true then some (cs.toList.map ofCell) else none
  | some v => if cellB (ofCell v) = true then some [ofCell v] else none
  | none => none
def opd : Operand → Option Opd
  | .tmp t => some (.t t)
  | .const v => some (.c (ofConst v))
  | .func f => some (.c (.fn (.func f) [] []))
  | .global _ => none
def opds : List Operand → Option (List Opd)
  | [] => some []
  | x :: r =>
    match opd x, opds r with
    | some y, some l => some (y :: l)
    | _, _ => none
def oopd : Option Operand → Option (Option Opd)
  | none => some none
  | some x => match opd x with | some y => some (some y) | none => none
def partsOf : List (Nat × Operand) → Option (List (Nat × Opd))
  | [] => some []
  | (i, x) :: r =>
    match opd x, partsOf r with
    | some y, some l => some ((i, y) :: l)
    | _, _ => none
/-- The places of the parts of a struct or an array. -/
def placeOf (P : Program) (d : TypeDesc) (i : Nat) : Option (Nat × Nat) :=
  match d with
  | .struct fs =>
    match fs[i]? with
    | some f => match tyOf P f.type with | some x => some (f.offset, x.size) | none => none
    | none => none
  | .array _ e => match tyOf P e with | some x => some (i * x.size, x.size) | none => none
  | _ => none
def fieldsOk (P : Program) : TypeDesc → Bool
  | .struct fs => fs.toList.all fun f => (tyOf P f.type).isSome
  | .array _ e => (tyOf P e).isSome
  | _ => true
def placedOf (P : Program) (d : TypeDesc) : List (Nat × Opd) → Option (List (Nat × Nat × Opd))
  | [] => some []
  | (i, x) :: r =>
    match placeOf P d i, placedOf P d r with
    | some (off, size), some l => some ((off, size, x) :: l)
    | _, _ => none
/-- The cells of a struct whose fields are numbers, truths and texts, each with a name. -/
def scalQ : TypeDesc → Option Nat
  | .bool => some 0
  | .int _ => some 1
  | .string => some 2
  | _ => none
def eqFields (P : Program) : List Field → Option (List (Nat × Nat))
  | [] => some []
  | f :: r =>
    match tyOf P f.type, eqFields P r with
    | some x, some l =>
      match scalQ x.desc with
      | some q => if f.name != "_" then some ((f.offset, q) :: l) else none
      | none => none
    | _, _ => none
/-- The cells of an array of so many. -/
def elemsQ (q : Nat) : Nat → Nat → List (Nat × Nat)
  | 0, _ => []
  | n + 1, i => (i, q) :: elemsQ q n (i + 1)
/-- Is it written as the nil slice? -/
def nilC : Opd → Bool
  | .c .nil => true
  | _ => false
def compBin (P : Program) (op : BinOp) (t : TypeId) (x y : Opd) : Option IP :=
  match tyOf P t with
  | some ti =>
    match ti.desc with
    | .int _ => some (.bin op x y)
    | .string => some (.bin op x y)
    | .bool => match op with | .eql => some (.eqb false x y) | .neq => some (.eqb true x y) | _ => none
    | .struct fs =>
      if P.stoodInHeld t || P.eqGuardType P.depth t then none else
      match eqFields P fs.toList with
      | some l => match op with | .eql => some (.eqc false l x y) | .neq => some (.eqc true l x y) | _ => none
      | none => none
    | .array n e =>
      if P.eqGuardType P.depth t then none else
      match tyOf P e with
      | some te =>
        match scalQ te.desc with
        | some q => if Nat.beq te.size 1 then (match op with | .eql => some (.eqc false (elemsQ q n 0) x y) | .neq => some (.eqc true (elemsQ q n 0) x y) | _ => none) else none
        | none => none
      | none => none
    | .slice _ => if nilC y = true then (match op with | .eql => some (.eqn false x) | .neq => some (.eqn true x) | _ => none) else none
    | _ => none
  | none => none
def compConv (P : Program) (s d : TypeId) (x : Opd) : Option IP :=
  match tyOf P s, tyOf P d with
  | some xs, some xd =>
    match xs.desc, xd.desc with
    | .int _, .int k => some (.cvt k x)
    | .string, .string => some (.cst x)
    | .string, .slice e => match tyOf P e with | some ⟨.int .u8, _, _, _⟩ => some (.s2b x) | _ => none
    | .slice e, .string => match tyOf P e with | some ⟨.int .u8, _, _, _⟩ => some (.b2s x) | _ => none
    | _, _ => none
  | _, _ => none
def elemOfT (P : Program) (t : TypeId) : Option TI :=
  match tyOf P t with
  | some ⟨.slice e, _, _, _⟩ => tyOf P e
  | _ => none
def compBuiltin (P : Program) (b : Builtin) (args : List Opd) (ts : List TypeId) : Option IP :=
  match b, args, ts with
  | .len, [x], [t] =>
    match tyOf P t with
    | some ti => match ti.desc with | .string => some (.lens x) | .slice _ => some (.lenl x) | _ => none
    | none => none
  | .max, [x, y], _ => some (.mx x y)
  | .min, [x, y], _ => some (.mn x y)
  | .append, [x, y], [t, t2] =>
    match elemOfT P t, tyOf P t2 with
    | some xe, some x2 =>
      match zeroCells xe with
      | some z => if 0 < xe.size ∧ xe.bytes ≤ 256 ∧ z.length = xe.size ∧ intB x2.desc = false then some (.app xe.size x y) else none
      | none => none
    | _, _ => none
  | .copy, [x, y], t :: _ => match elemOfT P t with | some xe => if 0 < xe.size then some (.cpy xe.size x y) else none | none => none
  | .clear, [x], t :: _ =>
    match elemOfT P t with
    | some xe => match zeroCells xe with | some z => if 0 < xe.size ∧ z.length = xe.size then some (.clr xe.size (frzs [] z) x) else none | none => none
    | none => none
  | _, _, _ => none
def comp0 (P : Program) (o : Op) : Option IP :=
  match o with
  | .move x => match opd x with | some x => some (.mv x) | none => none
  | .assign x => match opd x with | some x => some (.mv x) | none => none
  | .pick b x y => match opd b, opd x, opd y with | some b, some x, some y => some (.pick b x y) | _, _, _ => none
  | .binOp op t x y _ => match opd x, opd y with | some x, some y => compBin P op t x y | _, _ => none
  | .unOp op _ x =>
    match op, opd x with
    | .neg, some x => some (.ngt x)
    | .not, some x => some (.nt x)
    | _, _ => none
  | .convert s d x => match opd x with | some x => compConv P s d x | none => none
  | .build t parts =>
    match tyOf P t, partsOf parts.toList with
    | some ti, some ps =>
      match zeroCells ti, placedOf P ti.desc ps with
      | some z, some l => if aggB ti.desc && fieldsOk P ti.desc then some (.build z l) else none
      | _, _ => none
    | _, _ => none
  | .field t x f =>
    match tyOf P t, opd x with
    | some ⟨.struct fs, _, _, _⟩, some x =>
      match fs[f]? with
      | some fl => match tyOf P fl.type with | some xf => some (.fld (aggB xf.desc) xf.size fl.offset x) | none => none
      | none => none
    | _, _ => none
  | .extract x i => match opd x with | some x => some (.ext i x) | none => none
  | .fieldAddr t x f =>
    match tyOf P t, opd x with
    | some ⟨.struct fs, _, _, _⟩, some x =>
      match fs[f]? with
      | some fl => match tyOf P fl.type with | some xf => if 0 < xf.size then some (.fa fl.offset x) else none | none => none
      | none => none
    | _, _ => none
  | .indexAddr t x i =>
    match tyOf P t, opd x, opd i with
    | some ti, some x, some i =>
      match ti.desc with
      | .slice e => match tyOf P e with | some xe => if 0 < xe.size then some (.ias xe.size x i) else none | none => none
      | .array len e => match tyOf P e with | some xe => some (.iaa xe.size len x i) | none => none
      | _ => none
    | _, _, _ => none
  | .index t x i =>
    match tyOf P t, opd x, opd i with
    | some ti, some x, some i =>
      match ti.desc with
      | .string => some (.ixs x i)
      | .array len e => match tyOf P e with | some xe => some (.ixa (aggB xe.desc) xe.size len x i) | none => none
      | _ => none
    | _, _, _ => none
  | .slice t x lo hi mx =>
    match tyOf P t, opd x, oopd lo, oopd hi, oopd mx with
    | some ti, some x, some lo, some hi, some mx =>
      match ti.desc with
      | .string => match mx with | none => some (.sls x lo hi) | some _ => none
      | .slice e => match tyOf P e with | some xe => if 0 < xe.size then some (.sll xe.size x lo hi mx) else none | none => none
      | _ => none
    | _, _, _, _, _ => none
  | .makeFunc (.func f) pre post => match opds pre.toList, opds post.toList with | some a, some b => some (.mkf f a b) | _, _ => none
  | .nilCheck x => match opd x with | some x => some (.nc x) | none => none
  | .alloc t => match tyOf P t with | some x => (match zeroCells x with | some z => some (.alloc z) | none => none) | none => none
  | .box _ x => match opd x with | some x => some (.box x) | none => none
  | .load t p => match tyOf P t, opd p with | some x, some p => some (.ld (aggB x.desc) x.size p) | _, _ => none
  | .store t p x => match tyOf P t, opd p, opd x with | some ti, some p, some x => some (.st ti.size p x) | _, _, _ => none
  | .makeSlice t l m =>
    match elemOfT P t, opd l, opd m with
    | some xe, some l, some m => match zeroCells xe with | some z => if 0 < xe.size ∧ xe.bytes ≤ 256 ∧ z.length = xe.size then some (.mks xe.size (frzs [] z) l m) else none | none => none
    | _, _, _ => none
  | .buildSlice t len parts =>
    match elemOfT P t, partsOf parts.toList with
    | some xe, some ps => match zeroCells xe with | some z => if 0 < xe.size ∧ xe.bytes ≤ 256 ∧ z.length = xe.size ∧ len * xe.size ≤ 16777216 then some (.bsl xe.size (frzs [] z) len ps) else none | none => none
    | _, _ => none
  | .call { callee, args, argTypes } =>
    match opds args.toList with
    | some as =>
      match callee with
      | .builtin b => compBuiltin P b as argTypes.toList
      | .value (.func f) => some (.call f as)
      | .value x => match opd x with | some g => some (.callv g as) | none => none
      | _ => none
    | none => none
  | _ => none
def compOp0 (P : Program) (all : List Oper) (o : Oper) : Option Iop :=
  match comp0 P o.op with
  | some ip =>
    match o.guard with
    | none => some ⟨o.dst, none, ip⟩
    | some (j, want) =>
      match all[j]? with
      | some q => match q.dst with | some d => some ⟨o.dst, some (d, want), ip⟩ | none => none
      | none => none
  | none => none
def compOps0 (P : Program) (all : List Oper) : List Oper → Option (List Iop)
  | [] => some []
  | o :: r =>
    match compOp0 P all o, compOps0 P all r with
    | some a, some l => some (a :: l)
    | _, _ => none
/-- Code in which no region draws. -/
def compC0 (P : Program) : Code → Option IC
  | .skip => some .skip
  | .region _ ops draw =>
    match compOps0 P ops.toList ops.toList with
    | some l => if draw = true then none else some (.reg none l)
    | none => none
  | .seq a b => match compC0 P a, compC0 P b with | some x, some y => some (.seq x y) | _, _ => none
  | .cond x a b => match opd x, compC0 P a, compC0 P b with | some x, some a, some b => some (.cond x a b) | _, _, _ => none
  | .ret => some .ret
  | _ => none
/-- The code of slices.Clone, at elements of so many cells. -/
def cloneI (es : Nat) (z : List AV) : IC :=
  .seq (.reg none [⟨some 2, none, .mv (.c .nil)⟩])
    (.seq (.seq (.reg none [⟨some 3, none, .mv (.t 0)⟩, ⟨some 4, none, .eqn false (.t 3)⟩]) (.cond (.t 4) (.seq (.reg none [⟨some 2, none, .mv (.c .nil)⟩]) .ret) .skip))
      (.seq (.reg none [⟨some 5, none, .bsl es z 0 []⟩, ⟨some 6, none, .mv (.t 0)⟩, ⟨some 7, none, .app es (.t 5) (.t 6)⟩, ⟨some 2, none, .mv (.t 7)⟩]) .ret))
def mvB (d n : Nat) : Iop → Bool
  | ⟨some e, none, .mv (.t k)⟩ => Nat.beq d e && Nat.beq n k
  | _ => false
def mvN (d : Nat) : Iop → Bool
  | ⟨some e, none, .mv (.c .nil)⟩ => Nat.beq d e
  | _ => false
def eqnB (d n : Nat) : Iop → Bool
  | ⟨some e, none, .eqn false (.t k)⟩ => Nat.beq d e && Nat.beq n k
  | _ => false
def appB (d a b es : Nat) : Iop → Bool
  | ⟨some e, none, .app es' (.t i) (.t j)⟩ => Nat.beq d e && (Nat.beq a i && (Nat.beq b j && Nat.beq es es'))
  | _ => false
def cloneQ : IC → Option Nat
  | .seq (.reg none [o1]) (.seq (.seq (.reg none [o2, o3]) (.cond (.t x) (.seq (.reg none [o4]) .ret) .skip)) (.seq (.reg none [⟨some d, none, .bsl es _ 0 []⟩, o6, o7, o8]) .ret)) =>
    if (mvN 2 o1 && (mvB 3 0 o2 && (eqnB 4 3 o3 && (Nat.beq x 4 && (mvN 2 o4 && (Nat.beq d 5 && (mvB 6 0 o6 && (appB 7 5 6 es o7 && mvB 2 7 o8)))))))) = true then some es else none
  | _ => none
def resT2 : List ResultVar → Bool
  | [.tmp t] => Nat.beq t 2
  | _ => false
/-- Is a function slices.Clone? Its elements' cells. -/
def cloneF (P : Program) (f : Nat) : Option Nat :=
  match P.funcs[f]? with
  | some fn =>
    if fn.origin == "slices.Clone" then
      match fn.body with
      | some body =>
        match compC0 P body with
        | some ic => if (Nat.beq fn.ntmps 8 && (resT2 fn.results.toList && !(fn.name == "runtime.NumGoroutine"))) = true then cloneQ ic else none
        | none => none
      | none => none
    else none
  | none => none
def compCln (P : Program) : Op → Option IP
  | .call { callee := .value (.func f), args := args, argTypes := _ } =>
    match args.toList with
    | [x] => match cloneF P f, opd x with | some es, some x => some (.cln es x) | _, _ => none
    | _ => none
  | _ => none
def comp (P : Program) (o : Op) : Option IP :=
  match compCln P o with
  | some ip => some ip
  | none => match comp0 P o with | some ip => some ip | none => some .no
def compOp (P : Program) (all : List Oper) (o : Oper) : Option Iop :=
  match comp P o.op with
  | some ip =>
    match o.guard with
    | none => some ⟨o.dst, none, ip⟩
    | some (j, want) =>
      match all[j]? with
      | some q => match q.dst with | some d => some ⟨o.dst, some (d, want), ip⟩ | none => none
      | none => none
  | none => none
def compOps (P : Program) (all : List Oper) : List Oper → Option (List Iop)
  | [] => some []
  | o :: r =>
    match compOp P all o, compOps P all r with
    | some a, some l => some (a :: l)
    | _, _ => none
/-! ### Regions that draw their order -/
def opsOf : IP → List Opd
  | .mv x => [x]
  | .pick b x y => [b, x, y]
  | .bin _ x y => [x, y]
  | .eqb _ x y => [x, y]
  | .eqc _ _ x y => [x, y]
  | .eqn _ x => [x]
  | .ngt x => [x]
  | .nt x => [x]
  | .cvt _ x => [x]
  | .cst x => [x]
  | .build _ ps => ps.map fun p => p.2.2
  | .fld _ _ _ x => [x]
  | .ext _ x => [x]
  | .fa _ x => [x]
  | .ias _ x i => [x, i]
  | .iaa _ _ x i => [x, i]
  | .ixs x i => [x, i]
  | .ixa _ _ _ x i => [x, i]
  | .sls x lo hi => x :: (lo.toList ++ hi.toList)
  | .sll _ x lo hi mx => x :: (lo.toList ++ (hi.toList ++ mx.toList))
  | .mkf _ pre post => pre ++ post
  | .nc x => [x]
  | .lens x => [x]
  | .lenl x => [x]
  | .mx x y => [x, y]
  | .mn x y => [x, y]
  | .alloc _ => []
  | .box x => [x]
  | .ld _ _ p => [p]
  | .st _ p x => [p, x]
  | .mks _ _ l m => [l, m]
  | .bsl _ _ _ ps => ps.map fun p => p.2
  | .s2b x => [x]
  | .b2s x => [x]
  | .app _ x y => [x, y]
  | .cpy _ x y => [x, y]
  | .cln _ x => [x]
  | .clr _ _ x => [x]
  | .no => []
  | .call _ args => args
  | .callv g args => g :: args
/-- Of values alone. -/
def valB : IP → Bool
  | .ld _ _ _ => false
  | .st _ _ _ => false
  | .alloc _ => false
  | .box _ => false
  | .mks _ _ _ _ => false
  | .bsl _ _ _ _ => false
  | .s2b _ => false
  | .b2s _ => false
  | .app _ _ _ => false
  | .cpy _ _ _ => false
  | .cln _ _ => false
  | .clr _ _ _ => false
  | .no => false
  | .call _ _ => false
  | .callv _ _ => false
  | _ => true
def ldB : IP → Bool
  | .ld _ _ _ => true
  | _ => false
def readB (t : Nat) : List Opd → Bool
  | [] => false
  | .t n :: r => Nat.beq n t || readB t r
  | .c _ :: r => readB t r
/-- Does an operation look at a slot? -/
def lookB (t : Nat) (o : Iop) : Bool :=
  readB t (opsOf o.op) || match o.guard with | some (d, _) => Nat.beq d t | none => false
/-- Neither writes what the other looks at or writes. -/
def apartB (x y : Iop) : Bool :=
  (match x.dst with | some d => !(lookB d y) && (match y.dst with | some e => !(Nat.beq d e) | none => true) | none => true) &&
  (match y.dst with | some e => !(lookB e x) | none => true)
/-- Two operations without an order between them: is it to be looked at what they touch? -/
def pairChk (i j : Nat) (x y : Iop) : Option (List (Nat × Nat)) :=
  if apartB x y = true then (if (valB x.op || (valB y.op || (ldB x.op && ldB y.op))) = true then some [] else some [(i, j)]) else none
def rowChk (j a : Nat) (y : Iop) : Nat → List Iop → Option (List (Nat × Nat))
  | _, [] => some []
  | i, x :: r =>
    match rowChk j a y (i + 1) r with
    | some l => if Nat.testBit a i = true then some l else match pairChk i j x y with | some k => some (k ++ l) | none => none
    | none => none
def ancOf (acc : List Nat) : List Edge → Option Nat
  | [] => some 0
  | e :: r =>
    if Region.binds .any e = true then
      match acc[e.on]?, ancOf acc r with
      | some a, some m => some (m ||| (a ||| 1 <<< e.on))
      | _, _ => none
    else ancOf acc r
/-- All pairs; what lies before each operation is told on the way. -/
def drawGo (ios : List Iop) : List Oper → List Iop → List Nat → Option (List (Nat × Nat))
  | [], [], _ => some []
  | o :: r, y :: q, acc =>
    match ancOf acc o.after.toList with
    | some a =>
      match rowChk acc.length a y 0 (ios.take acc.length), drawGo ios r q (acc ++ [a]) with
      | some k, some l => some (k ++ l)
      | _, _ => none
    | none => none
  | _, _, _ => none
def compC (P : Program) : Code → Option IC
  | .skip => some .skip
  | .label _ => some .skip
  | .region _ ops draw =>
    match compOps P ops.toList ops.toList with
    | some l => if draw = true then (match drawGo l ops.toList l [] with | some k => some (.reg (some k) l) | none => none) else some (.reg none l)
    | none => none
  | .seq a b => match compC P a, compC P b with | some x, some y => some (.seq x y) | _, _ => none
  | .cond x a b => match opd x, compC P a, compC P b with | some x, some a, some b => some (.cond x a b) | _, _, _ => none
  | .block id b => match compC P b with | some b => some (.block id b) | none => none
  | .loop b => match compC P b with | some b => some (.loop b) | none => none
  | .exit id => some (.out id)
  | .ret => some .ret
  | _ => none
def compRes (P : Program) : List ResultVar → Option (List IR)
  | [] => some []
  | .tmp t :: r => match compRes P r with | some l => some (.tmp t :: l) | none => none
  | .cell a t :: r => match tyOf P t, compRes P r with | some x, some l => some (.cell a (aggB x.desc) x.size :: l) | _, _ => none
def compF (P : Program) (live : List Nat) (fn : Func) : Option IFn :=
  if fn.name == "runtime.NumGoroutine" then none else
  match fn.body with
  | some body =>
    match compC P body, compRes P fn.results.toList with
    | some b, some r => some ⟨fn.ntmps, live, r, b⟩
    | _, _ => none
  | none => none

/-! ### Values -/
/-- A number, reckoned at once (for the kernel's sake: it is the number itself). -/
def nowN {α : Type} (n : Nat) (k : Nat → α) : α :=
  match n with
  | 0 => k 0
  | p + 1 => k (p + 1)
def nowI {α : Type} (n : Int) (k : Int → α) : α :=
  match n with
  | .ofNat m => nowN m fun m => k (.ofNat m)
  | .negSucc m => nowN m fun m => k (.negSucc m)
def nowB {α : Type} (b : Bool) (k : Bool → α) : α :=
  match b with
  | true => k true
  | false => k false
def asI : AV → Option Int
  | .int _ n => some n
  | _ => none
def numV (k : IntKind) (n : Int) : Option AV := nowI n fun n => some (.int k n)
def truV (b : Bool) : Option AV := nowB b fun b => some (.bool b)
def intV (n : Int) : AV := .int .i64 n

/-- Operations on bits. -/
def andI (k : IntKind) (a b : Int) : Int := k.wrap (BitVec.ofInt k.bits a &&& BitVec.ofInt k.bits b).toNat
def orI (k : IntKind) (a b : Int) : Int := k.wrap (BitVec.ofInt k.bits a ||| BitVec.ofInt k.bits b).toNat
def xorI (k : IntKind) (a b : Int) : Int := k.wrap (BitVec.ofInt k.bits a ^^^ BitVec.ofInt k.bits b).toNat
def binInt (op : BinOp) (k : IntKind) (a b : Int) : Option AV :=
  match op with
  | .add => numV k (k.wrap (a + b))
  | .sub => numV k (k.wrap (a - b))
  | .mul => numV k (k.wrap (a * b))
  | .quo => if b = 0 then none else numV k (k.wrap (a.tdiv b))
  | .rem => if b = 0 then none else numV k (a.tmod b)
  | .eql => truV (a == b)
  | .neq => truV (a != b)
  | .lss => truV (decide (a < b))
  | .leq => truV (decide (a ≤ b))
  | .gtr => truV (decide (b < a))
  | .geq => truV (decide (b ≤ a))
  | .shl => if b < 0 then none else numV k (k.wrap (a * 2 ^ (min b.toNat k.bits)))
  | .shr => if b < 0 then none else numV k (a.fdiv (2 ^ (min b.toNat k.bits)))
  | .and => numV k (andI k a b)
  | .or => numV k (orI k a b)
  | .xor => numV k (xorI k a b)
  | _ => none
def binStr (op : BinOp) (a b : ByteArray) : Option AV :=
  match op with
  | .add => if a.size + b.size ≤ 1099511627776 then some (.str (a ++ b)) else none
  | .eql => truV (a.toList == b.toList)
  | .neq => truV (!(a.toList == b.toList))
  | .lss => truV (Op.bytesLess a.toList b.toList)
  | .leq => truV (Op.bytesLess a.toList b.toList || a.toList == b.toList)
  | .gtr => truV (!(Op.bytesLess a.toList b.toList || a.toList == b.toList))
  | .geq => truV (!(Op.bytesLess a.toList b.toList))
  | _ => none
def shB : BinOp → Bool
  | .shl => true
  | .shr => true
  | _ => false
def binAV (op : BinOp) (x y : AV) : Option AV :=
  match x, y with
  | .int k a, .int k' b => if shB op = true ∨ k = k' then binInt op k a b else none
  | .str a, .str b => binStr op a b
  | _, _ => none
/-- Are two scalar cells the same? -/
def eqCell (q : Nat) (x y : AV) : Option Bool :=
  match q, x, y with
  | 0, .bool a, .bool b => some (a == b)
  | 1, .int k a, .int k' b => if k = k' then some (a == b) else none
  | 2, .str a, .str b => some (a.toList == b.toList)
  | _, _, _ => none
def eqCells : List (Nat × Nat) → List AV → List AV → Option Bool
  | [], _, _ => some true
  | (i, q) :: r, xs, ys =>
    match xs[i]?, ys[i]? with
    | some x, some y =>
      match eqCell q x y with
      | some true => eqCells r xs ys
      | some false => some false
      | none => none
    | _, _ => none
def eqbAV (ng : Bool) (x y : AV) : Option AV :=
  match x, y with
  | .bool a, .bool b => truV (if ng then !(a == b) else a == b)
  | _, _ => none
def eqcAV (ng : Bool) (l : List (Nat × Nat)) (x y : AV) : Option AV :=
  match x, y with
  | .agg xs, .agg ys => match eqCells l xs ys with | some b => truV (if ng then !b else b) | none => none
  | _, _ => none
/-- Is a slice nil? -/
def nilAV : AV → Option Bool
  | .nil => some true
  | .imm _ rows _ => if rows.isEmpty = true then none else some false
  | .own _ _ _ len _ => if len = 0 then none else some false
  | _ => none
def eqnAV (ng : Bool) (x : AV) : Option AV :=
  match nilAV x with
  | some b => truV (if ng then !b else b)
  | none => none
def ngtAV (x : AV) : Option AV :=
  match x with
  | .int k n => numV k (k.wrap (0 - n))
  | _ => none
def ntAV (x : AV) : Option AV :=
  match x with
  | .bool b => truV (!b)
  | _ => none
def cvtAV (k : IntKind) (x : AV) : Option AV :=
  match x with
  | .int _ n => numV k (k.wrap n)
  | _ => none
def cstAV (x : AV) : Option AV :=
  match x with
  | .str b => some (.str b)
  | _ => none
def pickAV (b x y : AV) : Option AV :=
  match b with
  | .bool b => some (if b = true then x else y)
  | _ => none

/-- A value of so many cells out of a row, from one on. -/
def part (a : Bool) (size : Nat) (cs : List AV) (off : Nat) : Option AV :=
  if a = true then
    if off + size ≤ cs.length then some (.agg ((cs.drop off).take size)) else none
  else
    match cs[off]? with
    | some v => if cellB v = true then some v else none
    | none => none
/-- Cells in the place of others. -/
def setAt : List AV → Nat → List AV → List AV
  | [], _, _ => []
  | c :: cs, 0, v :: vs => v :: setAt cs 0 vs
  | c :: cs, 0, [] => c :: cs
  | c :: cs, n + 1, vs => c :: setAt cs n vs
def fillA (cells : List AV) : List (Nat × Nat × AV) → Option (List AV)
  | [] => some cells
  | (off, size, v) :: r =>
    match cellsOf v with
    | some vs => if vs.length = size ∧ off + size ≤ cells.length then fillA (setAt cells off vs) r else none
    | none => none
def buildAV (z : List AV) (parts : List (Nat × Nat × AV)) : Option AV :=
  match fillA z parts with
  | some cs => some (.agg cs)
  | none => none
def fldAV (a : Bool) (size off : Nat) (x : AV) : Option AV :=
  match x with
  | .agg cs => part a size cs off
  | _ => none
def extAV (i : Nat) (x : AV) : Option AV :=
  match x with
  | .tup vs => vs[i]?
  | _ => none
def faAV (off : Nat) (x : AV) : Option AV :=
  match x with
  | .ptr id o => some (.ptr id (o + off))
  | .eptr id i g => some (.eptr id i (g + off))
  | .iptr row g => some (.iptr row (g + off))
  | _ => none
def iasAV (size : Nat) (x i : AV) : Option AV :=
  match x, i with
  | .imm es rows _, .int _ n =>
    if es = size ∧ 0 ≤ n then
      match rows[n.toNat]? with
      | some row => some (.iptr row 0)
      | none => none
    else none
  | .own es id off len _, .int _ n => if es = size ∧ 0 ≤ n ∧ n < len then some (.eptr id (off + n.toNat) 0) else none
  | _, _ => none
def iaaAV (size len : Nat) (x i : AV) : Option AV :=
  match x, i with
  | .ptr id off, .int _ n => if 0 ≤ n ∧ n < len then some (.ptr id (off + n.toNat * size)) else none
  | .eptr id j f, .int _ n => if 0 ≤ n ∧ n < len then some (.eptr id j (f + n.toNat * size)) else none
  | .iptr row f, .int _ n => if 0 ≤ n ∧ n < len then some (.iptr row (f + n.toNat * size)) else none
  | _, _ => none
def ixsAV (x i : AV) : Option AV :=
  match x, i with
  | .str s, .int _ n =>
    if 0 ≤ n then
      match s.data.toList[n.toNat]? with
      | some b => some (.int .u8 b.toNat)
      | none => none
    else none
  | _, _ => none
def ixaAV (a : Bool) (size len : Nat) (x i : AV) : Option AV :=
  match x, i with
  | .agg cs, .int _ n => if 0 ≤ n ∧ n < len then part a size cs (n.toNat * size) else none
  | _, _ => none
/-- The bounds of a slice expression: low, high, and whether it is known that nothing lies behind. n: the length; ex: is it the capacity, too? -/
def optI : Option AV → Option (Option Int)
  | none => some none
  | some v => match asI v with | some n => some (some n) | none => none
def bnds (n : Nat) (ex : Bool) (lo hi mx : Option AV) : Option (Nat × Nat × Bool) :=
  match optI lo, optI hi, optI mx with
  | some l, some h, some m =>
    if (0 : Int) ≤ l.getD 0 ∧ l.getD 0 ≤ h.getD n ∧ h.getD n ≤ m.getD n ∧ m.getD n ≤ (n : Int) ∧ (m.isSome = true → h.isSome = true) then
      some ((l.getD 0).toNat, (h.getD n).toNat, (m.isSome || ex) && h.getD n == m.getD n)
    else none
  | _, _, _ => none
def slsAV (x : AV) (lo hi : Option AV) : Option AV :=
  match x with
  | .str s =>
    match bnds s.size false lo hi none with
    | some (l, h, _) => some (.str (s.extract l h))
    | none => none
  | _ => none
def sllAV (size : Nat) (x : AV) (lo hi mx : Option AV) : Option AV :=
  match x with
  | .nil =>
    match bnds 0 true lo hi mx with
    | some _ => some .nil
    | none => none
  | .imm es rows ex =>
    if esFit size es rows = true then
      match bnds rows.length ex lo hi mx with
      | some (l, h, ex') => some (.imm (esOf ((rows.take h).drop l)) ((rows.take h).drop l) ex')
      | none => none
    else none
  | .own es id off len ex =>
    if es = size then
      match bnds len ex lo hi mx with
      | some (l, h, ex') => some (.own es id (off + l) (h - l) ex')
      | none => none
    else none
  | _ => none
def ncAV (x : AV) : Option AV :=
  match x with
  | .ptr id off => some (.ptr id off)
  | .eptr id i f => some (.eptr id i f)
  | .iptr row f => some (.iptr row f)
  | .fn (.func f) pre post => some (.fn (.func f) pre post)
  | _ => none
def lensAV (x : AV) : Option AV :=
  match x with
  | .str s => some (intV s.size)
  | _ => none
def lenlAV (x : AV) : Option AV :=
  match x with
  | .nil => some (intV 0)
  | .imm _ rows _ => some (intV rows.length)
  | .own _ _ _ len _ => some (intV len)
  | _ => none
def mxAV (x y : AV) : Option AV :=
  match x, y with
  | .int k a, .int k' b => if k = k' then numV k (if a < b then b else a) else none
  | _, _ => none
def mnAV (x y : AV) : Option AV :=
  match x, y with
  | .int k a, .int k' b => if k = k' then numV k (if b < a then b else a) else none
  | _, _ => none

/-! ### The state -/
structure St where
  env : List (Nat × AV)
  loc : List (Nat × AV)
  H : Heap
  nx : Nat

def getL (loc env : List (Nat × AV)) (t : Nat) : AV :=
  Option.rec (Option.rec .bad (fun v => v) (lk env t)) (fun v => v) (lk loc t)
def St.get (s : St) (t : Nat) : AV := getL s.loc s.env t
def St.put (s : St) (d : Nat) (v : AV) : St :=
  Option.rec ⟨s.env, (d, v) :: s.loc, s.H, s.nx⟩ (fun e => ⟨e, s.loc, s.H, s.nx⟩) (upd s.env d v)
def St.putO (s : St) (d : Option Nat) (v : AV) : St :=
  match d with
  | none => s
  | some d => s.put d v
def St.ev (s : St) : Opd → AV
  | .t n => s.get n
  | .c v => v
def St.evs (s : St) : List Opd → List AV
  | [] => []
  | x :: r => s.ev x :: s.evs r
def St.evo (s : St) : Option Opd → Option AV
  | none => none
  | some x => some (s.ev x)
def St.evp (s : St) : List (Nat × Opd) → List (Nat × AV)
  | [] => []
  | (i, x) :: r => (i, s.ev x) :: s.evp r
def St.evq (s : St) : List (Nat × Nat × Opd) → List (Nat × Nat × AV)
  | [] => []
  | (i, j, x) :: r => (i, j, s.ev x) :: s.evq r
def St.add (s : St) (o : Ob) : St := { s with H := (s.nx, o) :: s.H, nx := s.nx + 1 }
def St.setH (s : St) (H : Heap) : St := { s with H := H }

/-! ### Operations on memory -/
def loadAV (a : Bool) (size : Nat) (H : Heap) (p : AV) : Option AV :=
  match p with
  | .ptr id off => match lk H id with | some (.box cells) => part a size cells off | _ => none
  | .eptr id i f =>
    match lk H id with
    | some (.arr _ rows _) => match rows[i]? with | some row => part a size row f | none => none
    | some (.arx _ rows) => match rows[i]? with | some row => part a size row f | none => none
    | _ => none
  | .iptr row f => part a size row f
  | _ => none
/-- A cell of an array whose elements may lead to other places. -/
def storeX (size : Nat) (H : Heap) (id i f es : Nat) (rows : List (List AV)) (v : AV) : Option Heap :=
  match cellsOf v, rows[i]? with
  | some vs, some row => if vs.length = size ∧ f + vs.length ≤ row.length ∧ cellBs vs = true then upd H id (.arx es (rows.set i (setAt row f vs))) else none
  | _, _ => none
def storeH (size : Nat) (H : Heap) (p v : AV) : Option Heap :=
  match p with
  | .ptr id off =>
    match lk H id, cellsOf v with
    | some (.box cells), some vs =>
      if vs.length = size ∧ off + vs.length ≤ cells.length ∧ cellBs vs = true then upd H id (.box (setAt cells off vs)) else none
    | _, _ => none
  | .eptr id i f =>
    match cellsOf (frz H v), lk (leakV H v) id with
    | some vs, some (.arr es rows leak) =>
      match rows[i]? with
      | some row =>
        if vs.length = size ∧ f + vs.length ≤ row.length ∧ leak ≤ i ∧ idFrees vs = true ∧ cellBs vs = true then
          upd (leakV H v) id (.arr es (rows.set i (setAt row f vs)) leak)
        else none
      | none => none
    | some _, some (.arx es rows) => storeX size H id i f es rows v
    | _, _ => none
  | _ => none

/-- The rows of a literal slice. -/
def fillRows (es : Nat) (H : Heap) : List (List AV) → List (Nat × AV) → Option (List (List AV))
  | rows, [] => some rows
  | rows, (i, v) :: r =>
    match cellsOf (frz H v) with
    | some vs => if vs.length = es ∧ i < rows.length ∧ idFrees vs = true ∧ cellBs vs = true then fillRows es H (rows.set i vs) r else none
    | none => none
def leakAll (H : Heap) : List (Nat × AV) → Heap
  | [] => H
  | (_, v) :: r => leakAll (leakV H v) r
def limN : Nat := 549755813888
def byteRow (b : UInt8) : List AV := [.int .u8 b.toNat]
def byteRows (s : ByteArray) : List (List AV) := s.data.toList.map byteRow
def bytesOf : List (List AV) → Option (List UInt8)
  | [] => some []
  | [.int .u8 n] :: r => match bytesOf r with | some l => some (UInt8.ofNat n.toNat :: l) | none => none
  | _ :: _ => none
def srcRows (es : Nat) (H : Heap) (v : AV) : Option (List (List AV)) :=
  match v with
  | .str s => if es = 1 then some (byteRows s) else none
  | v => rowsOf es H v
def newArr (s : St) (es : Nat) (rows : List (List AV)) : Option (AV × St) :=
  if rows.length ≤ limN then some (.own es s.nx 0 rows.length false, s.add (.arr es rows 0)) else none
def appAV (es : Nat) (s : St) (base x : AV) : Option (AV × St) :=
  match srcRows es s.H x with
  | some new =>
    match base with
    | .nil => newArr s es new
    | .imm es' rows ex =>
      if esFit es es' rows = true ∧ ex = true then
        if rows.length = 0 then newArr s es new
        else if 0 < new.length then newArr s es (rows ++ new) else none
      else none
    | .own es' id off len ex =>
      if es' = es then
        match lk s.H id with
        | some (.arr _ rows leak) =>
          if ex = true then
            if len = 0 then newArr s es new
            else if 0 < new.length ∧ off + len ≤ rows.length then newArr s es ((rows.drop off).take len ++ new) else none
          else if off = 0 ∧ len ≤ rows.length ∧ leak ≤ len ∧ len + new.length ≤ limN then
            some (.own es s.nx 0 (len + new.length) false, (s.setH (rmv s.H id)).add (.arr es (rows.take len ++ new) leak))
          else none
        | _ => none
      else none
    | _ => none
  | none => none
def copyRows : List (List AV) → Nat → List (List AV) → List (List AV)
  | [], _, _ => []
  | r :: rs, 0, n :: ns => n :: copyRows rs 0 ns
  | r :: rs, 0, [] => r :: rs
  | r :: rs, k + 1, ns => r :: copyRows rs k ns
def cpyAV (es : Nat) (s : St) (dst x : AV) : Option (AV × St) :=
  match srcRows es s.H x, dst with
  | some src, .own es' id off len _ =>
    if es' = es then
      match lk s.H id with
      | some (.arr es2 rows leak) =>
        if leak ≤ off ∧ off + (src.take len).length ≤ rows.length then
          match upd s.H id (.arr es2 (copyRows rows off (src.take len)) leak) with
          | some H => some (intV (src.take len).length, s.setH H)
          | none => none
        else none
      | _ => none
    else none
  | some _, .nil => some (intV 0, s)
  | _, _ => none
def mksAV (es : Nat) (z : List AV) (s : St) (l m : AV) : Option (AV × St) :=
  match l, m with
  | .int .i64 n, .int .i64 c =>
    if 0 ≤ n ∧ n ≤ c ∧ c ≤ (limN : Int) then
      some (.own es s.nx 0 n.toNat (n == c), s.add (.arr es (List.replicate n.toNat z) 0))
    else none
  | _, _ => none
def bslAV (es : Nat) (z : List AV) (len : Nat) (s : St) (parts : List (Nat × AV)) : Option (AV × St) :=
  match fillRows es s.H (List.replicate len z) parts with
  | some rows => some (.own es s.nx 0 len true, (s.setH (leakAll s.H parts)).add (.arr es rows 0))
  | none => none
def s2bAV (s : St) (x : AV) : Option (AV × St) :=
  match x with
  | .str str => some (canI (byteRows str), s.add (.box []))
  | _ => none
/-- A slice in new memory: nil, too, is an array without elements. -/
def clnAV (es : Nat) (s : St) (x : AV) : Option (AV × St) :=
  match rowsOf es s.H x with
  | some rows => newArr s es rows
  | none => none
/-- The same as an array whose elements may lead to other places. -/
def clnY (es : Nat) (s : St) (x : AV) : Option (AV × St) :=
  match rowsOf es s.H x with
  | some rows => if rows.length ≤ limN then some (.own es s.nx 0 rows.length false, s.add (bif rows.isEmpty then .arr es rows 0 else .arx es rows)) else none
  | none => none
def clnX (ax es : Nat) (s : St) (x : AV) : Option (AV × St) :=
  match ax with
  | 0 => clnAV es s x
  | k + 1 => bif Nat.beq es (k + 1) then clnY es s x else clnAV es s x
/-- Zero in all elements. -/
def clrAV (es : Nat) (z : List AV) (s : St) (x : AV) : Option (AV × St) :=
  match x with
  | .own es' id off len _ =>
    if es' = es then
      match lk s.H id with
      | some (.arr es2 rows leak) =>
        if leak ≤ off ∧ off + len ≤ rows.length then
          match upd s.H id (.arr es2 (copyRows rows off (List.replicate len z)) leak) with
          | some H => some (.tup [], s.setH H)
          | none => none
        else none
      | some (.arx es2 rows) =>
        if off + len ≤ rows.length then
          match upd s.H id (.arx es2 (copyRows rows off (List.replicate len z))) with
          | some H => some (.tup [], s.setH H)
          | none => none
        else none
      | _ => none
    else none
  | .nil => some (.tup [], s)
  | _ => none
def b2sAV (H : Heap) (x : AV) : Option AV :=
  match rowsOf 1 H x with
  | some rows => match bytesOf rows with | some l => some (.str ⟨l.toArray⟩) | none => none
  | none => none

/-! ### Calls -/
/-- What a function answers, over a heap whose first places were lent: its result, the heap, the next place. -/
abbrev Callee := Nat → List AV → Heap → Nat → Option (AV × Heap × Nat)

structure Cfg where
  P : Program
  fn : Nat → Option IFn
  /-- Functions that are known otherwise. -/
  pr : Callee := fun _ _ _ _ => none
  /-- Is a function called with what its slices hold, and answers with what is read? Else it is lent the places that its arguments lead to. -/
  fz : Nat → Bool
  /-- The size of elements of which clones may lead to other places (0: none). -/
  ax : Nat := 0

def backId (l : List Nat) (m n1 nx : Nat) (j : Nat) : Option Nat := if j < m then l[j]? else if j < n1 then some (nx + (j - m)) else none
/-- The places in their order. -/
def canG (H : Heap) : Nat → Heap
  | 0 => []
  | n + 1 => match lk H n with | some o => canG H n ++ [(n, o)] | none => canG H n
def dropAll : Heap → List Nat → Heap
  | H, [] => H
  | H, id :: r => dropAll (rmv H id) r
def fzRet (s : St) (args : List AV) (r : AV) : Option (AV × St) :=
  if plainB r = true then some (r, s) else if idFree r = true then some (r, s.setH (leakVs s.H args)) else none
def callAV (c : Cfg) (cl : Callee) (s : St) (f : Nat) (args : List AV) : Option (AV × St) :=
  if c.fz f = true then
    match cl f (frzs s.H args) [] 0 with
    | some (r, H1, _) => fzRet s args (frz H1 r)
    | none => none
  else
    match reach s.H fuelR args [] with
    | l =>
      match cl f (rens (pos l) args) (canG (renH (pos l) s.H) l.length) l.length with
      | some (r, H1, n1) =>
        some (ren (backId l l.length n1 s.nx) r, { s with H := renH (backId l l.length n1 s.nx) H1 ++ dropAll s.H l, nx := s.nx + (n1 - l.length) })
      | none => none
def callvAV (c : Cfg) (cl : Callee) (s : St) (g : AV) (args : List AV) : Option (AV × St) :=
  match g with
  | .fn (.func f) pre post => callAV c cl s f (pre ++ (args ++ post))
  | _ => none
def keep (s : St) (v : Option AV) : Option (AV × St) :=
  match v with
  | some v => some (v, s)
  | none => none

def evOp (c : Cfg) (cl : Callee) (s : St) : IP → Option (AV × St)
  | .mv x => some (s.ev x, s)
  | .pick b x y => keep s (pickAV (s.ev b) (s.ev x) (s.ev y))
  | .bin op x y => keep s (binAV op (s.ev x) (s.ev y))
  | .eqb ng x y => keep s (eqbAV ng (s.ev x) (s.ev y))
  | .eqc ng l x y => keep s (eqcAV ng l (s.ev x) (s.ev y))
  | .eqn ng x => keep s (eqnAV ng (s.ev x))
  | .ngt x => keep s (ngtAV (s.ev x))
  | .nt x => keep s (ntAV (s.ev x))
  | .cvt k x => keep s (cvtAV k (s.ev x))
  | .cst x => keep s (cstAV (s.ev x))
  | .build z ps => keep s (buildAV z (s.evq ps))
  | .fld a size off x => keep s (fldAV a size off (s.ev x))
  | .ext i x => keep s (extAV i (s.ev x))
  | .fa off x => keep s (faAV off (s.ev x))
  | .ias size x i => keep s (iasAV size (s.ev x) (s.ev i))
  | .iaa size len x i => keep s (iaaAV size len (s.ev x) (s.ev i))
  | .ixs x i => keep s (ixsAV (s.ev x) (s.ev i))
  | .ixa a size len x i => keep s (ixaAV a size len (s.ev x) (s.ev i))
  | .sls x lo hi => keep s (slsAV (s.ev x) (s.evo lo) (s.evo hi))
  | .sll size x lo hi mx => keep s (sllAV size (s.ev x) (s.evo lo) (s.evo hi) (s.evo mx))
  | .mkf f pre post => some (.fn (.func f) (s.evs pre) (s.evs post), s)
  | .nc x => keep s (ncAV (s.ev x))
  | .lens x => keep s (lensAV (s.ev x))
  | .lenl x => keep s (lenlAV (s.ev x))
  | .mx x y => keep s (mxAV (s.ev x) (s.ev y))
  | .mn x y => keep s (mnAV (s.ev x) (s.ev y))
  | .alloc z => some (.ptr s.nx 0, s.add (.box z))
  | .box x =>
    match cellsOf (s.ev x) with
    | some cs => if cellBs cs = true then some (.ptr s.nx 0, s.add (.box cs)) else none
    | none => none
  | .ld a size p => keep s (loadAV a size s.H (s.ev p))
  | .st size p x => match storeH size s.H (s.ev p) (s.ev x) with | some H => some (.un, s.setH H) | none => none
  | .mks es z l m => mksAV es z s (s.ev l) (s.ev m)
  | .bsl es z len ps => bslAV es z len s (s.evp ps)
  | .s2b x => s2bAV s (s.ev x)
  | .b2s x => keep s (b2sAV s.H (s.ev x))
  | .app es x y => appAV es s (s.ev x) (s.ev y)
  | .cpy es x y => cpyAV es s (s.ev x) (s.ev y)
  | .cln es x => clnX c.ax es s (s.ev x)
  | .clr es z x => clrAV es z s (s.ev x)
  | .no => none
  | .call f args => callAV c cl s f (s.evs args)
  | .callv g args => callvAV c cl s (s.ev g) (s.evs args)

/-! ### Regions, code -/
/-- Is an operation wanted? -/
def wantA (s : St) (g : Option (Nat × Bool)) : Option Bool :=
  match g with
  | none => some true
  | some (d, want) =>
    match s.get d with
    | .bool b => some (b == want)
    | .un => some false
    | _ => none
def dstOk (nt : Nat) : Option Nat → Bool
  | none => true
  | some d => Nat.blt d nt
/-- One operation. -/
def nowS (s : St) : Option St :=
  match s with
  | ⟨e, l, H, n⟩ => some ⟨e, l, H, n⟩
def evIO (c : Cfg) (cl : Callee) (nt : Nat) (o : Iop) (s : St) : Option St :=
  bif dstOk nt o.dst then
    match wantA s o.guard with
    | some b =>
      bif b then
        match evOp c cl s o.op with
        | some (v, s') => nowS (s'.putO o.dst v)
        | none => none
      else nowS (s.putO o.dst .un)
    | none => none
  else none
def evOps (c : Cfg) (cl : Callee) (nt : Nat) (l : List Iop) : St → Option St :=
  List.rec (fun s => some s) (fun o _ ih s => Option.rec none ih (evIO c cl nt o s)) l

inductive Ex where
  | norm
  | out (id : Nat)
  | ret
  deriving DecidableEq, Inhabited

def valsOf : List (Nat × AV) → List AV
  | [] => []
  | (_, v) :: r => v :: valsOf r
def renEnv (f : Nat → Option Nat) : List (Nat × AV) → List (Nat × AV)
  | [] => []
  | (t, v) :: r => (t, ren f v) :: renEnv f r
/-- The places that are not needed any more are forgotten, the others named anew. -/
def St.tidy (m : Nat) (s : St) : St :=
  match places s.H m (valsOf s.env) with
  | l => { env := renEnv (pos l) s.env, loc := [], H := renH (pos l) s.H, nx := l.length }

abbrev Run := Option (Ex × St)
def seqK (x : Run) (f : St → Run) : Run :=
  match x with
  | some (.norm, s) => f s
  | r => r
def blockK (id : Nat) (x : Run) : Run :=
  match x with
  | some (.out j, s) => if j = id then some (.norm, s) else some (.out j, s)
  | r => r
def regK (x : Option St) : Run :=
  match x with
  | some s => some (.norm, { s with loc := [] })
  | none => none
def condK (v : AV) (a b : Run) : Run :=
  match v with
  | .bool t => bif t then a else b
  | _ => none

/-- n0: the number of places at the last round's head: what is as it was there is left as it is. -/
def St.head (m n0 : Nat) (s : St) : St := bif Nat.beq s.nx n0 then s else s.tidy m
def evLoop (m : Nat) (body : St → Run) (n : Nat) : Nat → St → Run :=
  Nat.rec (fun _ _ => none) (fun _ ih n0 s => seqK (body (s.head m n0)) (ih (s.head m n0).nx)) n

/-- rg: how a region that draws its order goes. -/
def evC (c : Cfg) (cl : Callee) (rg : List (Nat × Nat) → List Iop → St → Option St) (nt m n : Nat) (code : IC) : St → Run :=
  IC.rec (fun s => some (.norm, s))
    (fun draw ops s => regK (Option.rec (evOps c cl nt ops s) (fun k => rg k ops s) draw))
    (fun _ _ a b s => seqK (a s) b)
    (fun x _ _ a b s => condK (s.ev x) (a s) (b s))
    (fun id _ b s => blockK id (b s))
    (fun _ b s => evLoop m b n 0 s)
    (fun id s => some (.out id, s))
    (fun s => some (.ret, s))
    code

/-! ### A region that draws its order, in the program's order: each operation has places of its own for what it makes; what it touches is noted. -/
mutual
/-- The arrays of one's own in a value. -/
def idsV : AV → List Nat
  | .own _ id _ _ _ => [id]
  | .agg cs => idsVs cs
  | .tup cs => idsVs cs
  | _ => []
def idsVs : List AV → List Nat
  | [] => []
  | v :: r => idsV v ++ idsVs r
end
/-- Where a pointer leads to. -/
def idL : AV → List Nat
  | .ptr id _ => [id]
  | .eptr id _ _ => [id]
  | _ => []
/-- What is read; what is read elsewhere from then on; what is written. -/
structure Foot where
  r : List Nat
  l : List Nat
  w : List Nat
def noFoot : Foot := ⟨[], [], []⟩
def memN (x : Nat) : List Nat → Bool
  | [] => false
  | y :: r => Nat.beq y x || memN x r
/-- As 'reach', where all places are there. -/
def reachM (H : Heap) : Nat → List AV → List Nat → Option (List Nat)
  | 0, _, _ => none
  | _ + 1, [], acc => some acc
  | n + 1, v :: todo, acc =>
    match v with
    | .own _ id _ _ _ =>
      if id ∈ acc then reachM H n todo acc else
      match lk H id with
      | some o => reachM H n (subsA o ++ todo) (acc ++ [id])
      | none => none
    | .eptr id _ _ =>
      if id ∈ acc then reachM H n todo acc else
      match lk H id with
      | some o => reachM H n (subsA o ++ todo) (acc ++ [id])
      | none => none
    | .ptr id _ =>
      if id ∈ acc then reachM H n todo acc else
      match lk H id with
      | some (.box cells) => reachM H n (cells ++ todo) (acc ++ [id])
      | some _ => reachM H n todo (acc ++ [id])
      | none => none
    | .fn _ pre post => reachM H n (pre ++ (post ++ todo)) acc
    | .agg cs => reachM H n (cs ++ todo) acc
    | .tup cs => reachM H n (cs ++ todo) acc
    | _ => reachM H n todo acc
def footC (c : Cfg) (s : St) (f : Nat) (L : List AV) : Option Foot :=
  if c.fz f = true then some ⟨[], idsVs L, []⟩ else
  match reachM s.H fuelR L [] with
  | some l => some ⟨[], [], l⟩
  | none => none
def foot (c : Cfg) (s : St) : IP → Option Foot
  | .ld _ _ p => some ⟨idL (s.ev p), [], []⟩
  | .st _ p x => some ⟨[], [], idL (s.ev p) ++ idsV (s.ev x)⟩
  | .bsl _ _ _ ps => some ⟨[], idsVs (valsOf (s.evp ps)), []⟩
  | .app _ x y => some ⟨idsV (s.ev y), [], idsV (s.ev x)⟩
  | .cpy _ x y => some ⟨idsV (s.ev y), [], idsV (s.ev x)⟩
  | .cln _ x => some ⟨idsV (s.ev x), [], []⟩
  | .clr _ _ x => some ⟨[], [], idsV (s.ev x)⟩
  | .b2s x => some ⟨idsV (s.ev x), [], []⟩
  | .call f args => footC c s f (s.evs args)
  | .callv g args =>
    match s.ev g with
    | .fn (.func f) pre post => footC c s f (pre ++ (s.evs args ++ post))
    | _ => none
  | _ => some noFoot
def footO (c : Cfg) (s : St) (o : Iop) : Option Foot :=
  match wantA s o.guard with
  | some true => foot c s o.op
  | _ => some noFoot
def atN (s : St) (q : Nat) : St := ⟨s.env, s.loc, s.H, q⟩
def evN (c : Cfg) (cl : Callee) (nt base i : Nat) (o : Iop) (s : St) : Option St :=
  match evIO c cl nt o (atN s (base + i * 64)) with
  | some s' => if s'.nx ≤ base + i * 64 + 64 then some s' else none
  | none => none
def evNs (c : Cfg) (cl : Nat → Callee) (nt base : Nat) : List Iop → Nat → St → Option (St × List Foot)
  | [], _, s => some (s, [])
  | o :: r, i, s =>
    match footO c s o, evN c (cl i) nt base i o s with
    | some f, some s' =>
      match evNs c cl nt base r (i + 1) s' with
      | some (sF, l) => some (sF, f :: l)
      | none => none
    | _, _ => none
def djB : List Nat → List Nat → Bool
  | [], _ => true
  | x :: r, b => !(memN x b) && djB r b
def offB (q : Nat) : List Nat → Bool
  | [] => true
  | x :: r => (Nat.blt x q || Nat.ble (q + 64) x) && offB q r
/-- Two operations that may change places. -/
def pairF (base i j : Nat) (x y : Foot) : Bool :=
  djB x.w (y.r ++ (y.l ++ y.w)) && (djB y.w (x.r ++ x.l) && (offB (base + i * 64) (y.r ++ (y.l ++ y.w)) && offB (base + j * 64) (x.r ++ (x.l ++ x.w))))
def pairO (base i j : Nat) : Option Foot → Option Foot → Bool
  | some x, some y => pairF base i j x y
  | _, _ => false
def pairsF (base : Nat) (fs : List Foot) : List (Nat × Nat) → Bool
  | [] => true
  | (i, j) :: r => pairO base i j fs[i]? fs[j]? && pairsF base fs r
def drawF (c : Cfg) (cl : Nat → Callee) (nt : Nat) (k : List (Nat × Nat)) (ios : List Iop) (s : St) : Option St :=
  match evNs c cl nt s.nx ios 0 s with
  | some (s', fs) => if pairsF s.nx fs k = true then some ⟨s'.env, s'.loc, s'.H, s.nx + 65 * ios.length⟩ else none
  | none => none

def drawA (c : Cfg) (cl : Callee) (nt : Nat) (k : List (Nat × Nat)) (ios : List Iop) (s : St) : Option St := drawF c (fun _ => cl) nt k ios s
/-- What a function answers. -/
def resAV (s : St) : List IR → Option (List AV)
  | [] => some []
  | .tmp t :: r => match resAV s r with | some l => some (s.get t :: l) | none => none
  | .cell p a size :: r =>
    match loadAV a size s.H (s.get p), resAV s r with
    | some v, some l => some (v :: l)
    | _, _ => none
def one : List AV → AV
  | [v] => v
  | l => .tup l
def argEnv (args : List AV) : List Nat → List (Nat × AV)
  | [] => []
  | t :: r => (t, match args[t]? with | some v => v | none => .un) :: argEnv args r
def retK (m : Nat) (res : List IR) (x : Run) : Option (AV × Heap × Nat) :=
  match x with
  | some (.out _, _) => none
  | some (_, s) =>
    match resAV s res with
    | some vs =>
      match places s.H m vs with
      | l => some (ren (pos l) (one vs), renH (pos l) s.H, l.length)
    | none => none
  | none => none

mutual
/-- As 'frz', where arrays may lead to other arrays. -/
def frzX (H : Heap) : AV → AV
  | .own es id off len ex =>
    match lk H id with
    | some (.arx _ rows) => if off + len ≤ rows.length then canI (((rows.drop off).take len).map (frzs H)) else .bad
    | _ => frz H (.own es id off len ex)
  | .agg cs => .agg (frzXs H cs)
  | .tup cs => .tup (frzXs H cs)
  | v => frz H v
def frzXs (H : Heap) : List AV → List AV
  | [] => []
  | v :: r => frzX H v :: frzXs H r
end
/-- At its end all that is a function's own is only read. -/
def outX (b : Bool) (x : Option (AV × Heap × Nat)) : Option (AV × Heap × Nat) :=
  bif b then (match x with | some (r, H, n) => some (frzX H r, [], n) | none => none) else x
/-- A region that draws its order: told in a later part; here a parameter. -/
abbrev Drawer := Cfg → Callee → Nat → List (Nat × Nat) → List Iop → St → Option St

def callF (c : Cfg) (dr : Drawer) : Nat → Callee
  | 0, _, _, _, _ => none
  | k + 1, f, args, H, m =>
    match c.fn f with
    | some fn =>
      if args.length ≤ fn.nt then
        outX (!(Nat.beq c.ax 0) && (Nat.beq m 0 && c.fz f)) (retK m fn.res (evC c (callF c dr k) (dr c (callF c dr k) fn.nt) fn.nt m k fn.body ⟨argEnv args fn.live, [], H, m⟩))
      else none
    | none => c.pr f args H m

end Go.Proofs.Ytefjblgmnoheiaa.R
