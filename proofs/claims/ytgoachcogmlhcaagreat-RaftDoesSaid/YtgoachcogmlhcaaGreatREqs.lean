/- More equations for simp: guards, results, frozen calls. -/
import Derived.Test.YtgoachcogmlhcaaGreatRRow
set_option linter.unusedVariables false
set_option linter.unusedSectionVars false
set_option linter.unusedSimpArgs false
noncomputable section
namespace Go.Proofs.YtgoachcogmlhcaaGreat.R
open Go
def yakh(v:AV)(want:Bool):Option Bool:=
  match v with
  | .bool b=>some (b == want)
  | .un=>some false
  | _=>none
theorem yagb(s:St)(d:Nat)(want:Bool):ygc s (some (d,want)) = yakh (s.get d) want:=rfl
theorem yaga(s:St):ygc s none=some true:=rfl
theorem yagc(b want:Bool):yakh (.bool b) want=some (b == want):=rfl
theorem yarv(want:Bool):yakh .un want=some false:=rfl
theorem yalf(ng a b:Bool):yadj ng (.bool a) (.bool b) = some (.bool (if ng then !(a == b) else a == b)):=by simp [yadj,ydf]
theorem yawr(a:Bool):ntAV (.bool a) = some (.bool (!a)):=by simp [ntAV,ydf]
theorem yawq(k:IntKind)(n:Int):yafc (.int k n) = some (.int k (k.wrap (0 - n))):=by simp [yafc,yed]
theorem yatt(k k':IntKind)(n:Int):yadi k (.int k' n) = some (.int k (k.wrap n)):=by simp [yadi,yed]
theorem yaiy(b:Bool)(x y:AV):yafg (.bool b) x y=some (if b=true then x else y):=rfl
theorem yate(k:IntKind)(a b:Int):ydg .add k a b=some (.int k (k.wrap (a + b))):=yed _ _
theorem yatq(k:IntKind)(a b:Int):ydg .sub k a b=some (.int k (k.wrap (a - b))):=yed _ _
theorem yatl(k:IntKind)(a b:Int):ydg .mul k a b=some (.int k (k.wrap (a * b))):=yed _ _
theorem yatn(k:IntKind)(a b:Int):ydg .quo k a b=if b=0 then none else some (.int k (k.wrap (a.tdiv b))):=by simp [ydg,yed]
theorem yato(k:IntKind)(a b:Int):ydg .rem k a b=if b=0 then none else some (.int k (a.tmod b)):=by simp [ydg,yed]
theorem yatf(k:IntKind)(a b:Int):ydg .eql k a b=some (.bool (decide (a=b))):=by
  have:(a == b) = decide (a=b):=by by_cases h:a=b <;> simp [h]
  simp only [ydg,ydf,this]
theorem yatm(k:IntKind)(a b:Int):ydg .neq k a b=some (.bool (decide (a≠b))):=by
  have:(a != b) = decide (a≠b):=by by_cases h:a=b <;> simp [h]
  simp only [ydg,ydf,this]
theorem yatk(k:IntKind)(a b:Int):ydg .lss k a b=some (.bool (decide (a < b))):=ydf _
theorem yatj(k:IntKind)(a b:Int):ydg .leq k a b=some (.bool (decide (a≤b))):=ydf _
theorem yath(k:IntKind)(a b:Int):ydg .gtr k a b=some (.bool (decide (b < a))):=ydf _
theorem yatg(k:IntKind)(a b:Int):ydg .geq k a b=some (.bool (decide (b≤a))):=ydf _
mutual
theorem yaja(f:Nat→Option Nat):∀ v:AV,ybw v=true→ren f v=v
  | .bool _,_=>rfl
  | .int _ _,_=>rfl
  | .str _,_=>rfl
  | .nil,_=>rfl
  | .oth _,_=>rfl
  | .agg cs,h=>by simp only [ren]; rw [yvq f cs (by simpa [ybw] using h)]
  | .tup cs,h=>by simp only [ren]; rw [yvq f cs (by simpa [ybw] using h)]
  | .bad,h=>by simp [ybw] at h
  | .un,h=>by simp [ybw] at h
  | .imm ..,h=>by simp [ybw] at h
  | .own ..,h=>by simp [ybw] at h
  | .ptr ..,h=>by simp [ybw] at h
  | .eptr ..,h=>by simp [ybw] at h
  | .iptr ..,h=>by simp [ybw] at h
  | .fn ..,h=>by simp [ybw] at h
theorem yvq(f:Nat→Option Nat):∀ vs:List AV,yde vs=true→yhr f vs=vs
  | [],_=>rfl
  | v :: r,h=>by
    simp only [yde,Bool.and_eq_true] at h
    simp only [yhr]
    rw [yaja f v h.1,yvq f r h.2]
end
mutual
theorem ybia(H:yq):∀ v:AV,ybw v=true→frz H v=v
  | .bool _,_=>rfl
  | .int _ _,_=>rfl
  | .str _,_=>rfl
  | .nil,h=>by simp [ybw] at h
  | .oth _,_=>rfl
  | .agg cs,h=>by simp only [frz]; rw [yul H cs (by simpa [ybw] using h)]
  | .tup cs,h=>by simp only [frz]; rw [yul H cs (by simpa [ybw] using h)]
  | .bad,h=>by simp [ybw] at h
  | .un,h=>by simp [ybw] at h
  | .imm ..,h=>by simp [ybw] at h
  | .own ..,h=>by simp [ybw] at h
  | .ptr ..,h=>by simp [ybw] at h
  | .eptr ..,h=>by simp [ybw] at h
  | .iptr ..,h=>by simp [ybw] at h
  | .fn ..,h=>by simp [ybw] at h
theorem yul(H:yq):∀ vs:List AV,yde vs=true→yef H vs=vs
  | [],_=>rfl
  | v :: r,h=>by
    simp only [yde,Bool.and_eq_true] at h
    simp only [yef]
    rw [ybia H v h.1,yul H r h.2]
end
theorem ynt:∀ {a b:List AV},yde a=true→yde b=true→yde (a++b) = true
  | [],b,_,h=>h
  | x :: a,b,h,h'=>by
    simp only [yde,List.cons_append,Bool.and_eq_true] at h ⊢
    exact ⟨h.1,ynt h.2 h'⟩
theorem yoh(H:yq):∀ (n:Nat) (vs:List AV),yde vs=true→yaw H n vs [] = []
  | 0,vs,_=>by cases vs <;> rfl
  | n + 1,[],_=>rfl
  | n + 1,v :: r,h=>by
    simp only [yde,Bool.and_eq_true] at h
    cases v <;> simp [ybw] at h <;> simp only [yaw]
    case agg cs=>exact yoh H n _ (ynt h.1 h.2)
    case tup cs=>exact yoh H n _ (ynt h.1 h.2)
    all_goals exact yoh H n r h
theorem yarb:∀ H:yq,ycd (pos []) H = []
  | []=>rfl
  | (i,o) :: r=>by simp only [ycd,yahq]; exact yarb r
theorem ybrd{vs:List AV}(h:yde vs=true):ybw (one vs) = true:=by
  match vs,h with
  | [],_=>rfl
  | [v],h=>simp only [yde,Bool.and_eq_true] at h; exact h.1
  | _ :: _ :: _,h=>exact h
def retP(s:St):Option (List AV)→Option (AV × yq × Nat)
  | some vs=>if yde vs=true then some (one vs,[],0) else (match ybs s.H 0 vs with | l=>some (ren (pos l) (one vs),ycd (pos l) s.H,l.length))
  | none=>none
theorem yawv(res:List IR)(s:St){e:Ex}(he:e = .ret∨e = .norm):yjx 0 res (some (e,s)) = retP s (yej s res):=by
  have h1:yjx 0 res (some (e,s)) = match yej s res with
   | some vs=>(match ybs s.H 0 vs with | l=>some (ren (pos l) (one vs),ycd (pos l) s.H,l.length))
   | none=>none:=by rcases he with rfl | rfl <;> rfl
  rw [h1]
  cases hr:yej s res with
  | none=>rfl
  | some vs=>
    simp only [retP]
    split
    ·rename_i hp
     have:ybs s.H 0 vs = []:=by
       unfold ybs
       simp only [List.range_zero,List.flatMap_nil,List.nil_append]
       exact yoh s.H yea vs hp
     simp only [this,yaja _ _ (ybrd hp),yarb,List.length_nil]
    ·rfl
theorem ycav(res:List IR)(s:St):yjx 0 res (some (.ret,s)) = retP s (yej s res):=yawv res s (.inl rfl)
theorem ybse(res:List IR)(s:St):yjx 0 res (some (.norm,s)) = retP s (yej s res):=yawv res s (.inr rfl)
theorem ybfn(s:St)(vs:List AV)(h:yde vs=true):retP s (some vs) = some (one vs,[],0):=by simp [retP,h]
theorem ycau(m:Nat)(res:List IR)(p:Prop)[Decidable p](a b:Run):yjx m res (if p then a else b) = if p then yjx m res a else yjx m res b:=by split <;> rfl
theorem yad{a b:Nat}(h:Nat.ble a b=true):a≤b:=Nat.le_of_ble_eq_true h
theorem yaud(i:Nat)(vs:List AV):yajo i (.tup vs) = vs[i]?:=rfl
theorem yaug(a:Bool)(size off:Nat)(cs:List AV):yajp a size off (.agg cs) = part a size cs off:=rfl
theorem yaqm(size:Nat)(cs:List AV)(off:Nat):part true size cs off=if off + size≤cs.length then some (.agg ((cs.drop off).take size)) else none:=rfl
def yccx:Option AV→Option AV
  | some v=>if yds v=true then some v else none
  | none=>none
theorem yaqn(size:Nat)(cs:List AV)(off:Nat):part false size cs off=yccx cs[off]?:=rfl
theorem yaff(v:AV):yccx (some v) = if yds v=true then some v else none:=rfl
theorem ybhx(off id o:Nat):faAV off (.ptr id o) = some (.ptr id (o + off)):=rfl
theorem yaue(off id i g:Nat):faAV off (.eptr id i g) = some (.eptr id i (g + off)):=rfl
theorem yauf(off:Nat)(row:List AV)(g:Nat):faAV off (.iptr row g) = some (.iptr row (g + off)):=rfl
theorem yawm(a:Bool)(size:Nat)(H:yq)(row:List AV)(f:Nat):yhd a size H (.iptr row f) = part a size row f:=rfl
def ldK(a:Bool)(size off:Nat):Option Ob→Option AV
  | some (.box cells)=>part a size cells off
  | _=>none
theorem ybqf(a:Bool)(size:Nat)(H:yq)(id off:Nat):yhd a size H (.ptr id off) = ldK a size off (lk H id):=by
  simp only [yhd,ldK]
  cases lk H id with
  | none=>rfl
  | some o=>cases o <;> rfl
theorem yawl(a:Bool)(size off:Nat)(cells:List AV):ldK a size off (some (.box cells)) = part a size cells off:=rfl
theorem yapy:yjb .nil=some (.int .i64 0):=rfl
theorem ybys(es:Nat)(rows:List (List AV))(ex:Bool):yjb (.imm es rows ex) = some (.int .i64 rows.length):=rfl
theorem yapz(es id off len:Nat)(ex:Bool):yjb (.own es id off len ex) = some (.int .i64 len):=rfl
theorem yaqa(s:ByteArray):yaex (.str s) = some (.int .i64 s.size):=rfl
theorem yauc(s:St):s.evs [] = []:=rfl
theorem yalq(s:St)(x:Opd)(r:List Opd):s.evs (x :: r) = s.ev x :: s.evs r:=rfl
theorem yaua(s:St):s.evp [] = []:=rfl
theorem yalo(s:St)(i:Nat)(x:Opd)(r:List (Nat × Opd)):s.evp ((i,x) :: r) = (i,s.ev x) :: s.evp r:=rfl
theorem yaub(s:St):s.evq [] = []:=rfl
theorem yalp(s:St)(i j:Nat)(x:Opd)(r:List (Nat × Nat × Opd)):s.evq ((i,j,x) :: r) = (i,j,s.ev x) :: s.evq r:=rfl
theorem yalm(s:St):s.evo none=none:=rfl
theorem yaln(s:St)(x:Opd):s.evo (some x) = some (s.ev x):=rfl
def bldK:Option (List AV)→Option AV
  | some cs=>some (.agg cs)
  | none=>none
theorem yala(z:List AV)(ps:List (Nat × Nat × AV)):ysw z ps=bldK (yob z ps):=by
  unfold ysw bldK
  rfl
theorem yaic(cs:List AV):bldK (some cs) = some (.agg cs):=rfl
theorem yain(cs:List AV):yob cs [] = some cs:=rfl
def yccg(cells:List AV)(off size:Nat)(r:List (Nat × Nat × AV)):Option (List AV)→Option (List AV)
  | some vs=>if vs.length=size∧off + size≤cells.length then yob (ych cells off vs) r else none
  | none=>none
theorem yado(cells:List AV)(off size:Nat)(v:AV)(r:List (Nat × Nat × AV)):yob cells ((off,size,v) :: r) = yccg cells off size r (cellsOf v):=rfl
theorem yadp(cells:List AV)(off size:Nat)(r:List (Nat × Nat × AV))(vs:List AV):yccg cells off size r (some vs) = if vs.length=size∧off + size≤cells.length then yob (ych cells off vs) r else none:=rfl
theorem yaif(cs:List AV):cellsOf (.agg cs) = some cs:=rfl
theorem yaig(k:IntKind)(n:Int):cellsOf (.int k n) = some [.int k n]:=rfl
theorem yadb(b:Bool):cellsOf (.bool b) = some [.bool b]:=rfl
theorem yaij(s:ByteArray):cellsOf (.str s) = some [.str s]:=rfl
theorem yaih:cellsOf .nil=some [.nil]:=rfl
theorem ybhb(es:Nat)(rows:List (List AV))(ex:Bool):cellsOf (.imm es rows ex) = some [.imm es rows ex]:=rfl
theorem yaii(es id off len:Nat)(ex:Bool):cellsOf (.own es id off len ex) = some [.own es id off len ex]:=rfl
theorem ybgk(e l:List (Nat × AV))(H:yq)(n:Nat)(o:Ob):St.add ⟨e,l,H,n⟩ o = ⟨e,l,(n,o) :: H,n + 1⟩:=rfl
theorem yaxc(e l:List (Nat × AV))(H H':yq)(n:Nat):St.setH ⟨e,l,H,n⟩ H' = ⟨e,l,H',n⟩:=rfl
def stK(size:Nat)(H:yq)(id off:Nat):Option Ob→Option (List AV)→Option yq
  | some (.box cells),some vs=>if vs.length=size∧off + vs.length≤cells.length∧ycq vs=true then upd H id (.box (ych cells off vs)) else none
  | _,_=>none
theorem ybsy(size:Nat)(H:yq)(id off:Nat)(v:AV):yka size H (.ptr id off) v=stK size H id off (lk H id) (cellsOf v):=by
  simp only [yka,stK]
  cases lk H id with
  | none=>rfl
  | some o=>cases o <;> cases cellsOf v <;> rfl
theorem yaci(size:Nat)(H:yq)(id off:Nat)(cells vs:List AV):stK size H id off (some (.box cells)) (some vs) = if vs.length=size∧off + vs.length≤cells.length∧ycq vs=true then upd H id (.box (ych cells off vs)) else none:=rfl
theorem yahh(size len id off:Nat)(k:IntKind)(n:Int):yoe size len (.ptr id off) (.int k n) = if 0≤n∧n < len then some (.ptr id (off + n.toNat * size)) else none:=rfl
theorem yahi(a:Bool)(size len:Nat)(cs:List AV)(k:IntKind)(n:Int):yzo a size len (.agg cs) (.int k n) = if 0≤n∧n < len then part a size cs (n.toNat * size) else none:=rfl
theorem ycku(size es:Nat)(rows:List (List AV))(ex:Bool)(k:IntKind)(n:Int):ykh size (.imm es rows ex) (.int k n) = if es=size∧0≤n then (match rows[n.toNat]? with | some row=>some (.iptr row 0) | none=>none) else none:=rfl
theorem yckv(size es id off len:Nat)(ex:Bool)(k:IntKind)(n:Int):ykh size (.own es id off len ex) (.int k n) = if es=size∧0≤n∧n < len then some (.eptr id (off + n.toNat) 0) else none:=rfl
attribute [simp] ybgk yaxc ybsy yaci yahh yahi ycku yckv
attribute [simp] yaud yaug yaqm yaqn yaff ybhx yaue yauf yawm ybqf yawl yapy ybys yapz yaqa yauc yalq yaua yalo yaub yalp yalm yaln yala yaic yain yado yadp yaif yaig yadb yaij yaih ybhb yaii ych yds ycq yal yde ybw one yej
attribute [simp] yagb yaga yagc yarv yalf yawr yawq yatt yaiy yate yatq yatl yatn yato yatf yatm yatk yatj yath yatg ycav ybse ybfn ycau
def nsF(f:ycs):Option (St × List ycs)→Option (St × List ycs)
  | some (sF,l)=>some (sF,f :: l)
  | none=>none
def nsC(c:Cfg)(cl:Nat→Callee)(nt base:Nat)(r:List Iop)(i:Nat):Option ycs→Option St→Option (St × List ycs)
  | some f,some s'=>nsF f (ymb c cl nt base r (i + 1) s')
  | _,_=>none
theorem ybze(f:ycs)(s:St)(l:List ycs):nsF f (some (s,l)) = some (s,f :: l):=rfl
theorem ybzd(c:Cfg)(cl:Nat→Callee)(nt base:Nat)(r:List Iop)(i:Nat)(f:ycs)(s:St):nsC c cl nt base r i (some f) (some s) = nsF f (ymb c cl nt base r (i + 1) s):=rfl
theorem ybvn(c:Cfg)(cl:Nat→Callee)(nt base i:Nat)(s:St):ymb c cl nt base [] i s=some (s,[]):=rfl
theorem ybhv(c:Cfg)(cl:Nat→Callee)(nt base:Nat)(o:Iop)(r:List Iop)(i:Nat)(s:St):ymb c cl nt base (o :: r) i s=nsC c cl nt base r i (yga c s o) (evN c (cl i) nt base i o s):=by
  simp only [ymb,nsC]
  cases yga c s o with
  | none=>rfl
  | some f=>
    cases evN c (cl i) nt base i o s with
    | none=>rfl
    | some s'=>
      simp only [nsF]
      cases ymb c cl nt base r (i + 1) s' with
      | none=>rfl
      | some p=>obtain ⟨a,b⟩:=p; rfl
def nxK(q:Nat):Option St→Option St
  | some s=>if s.nx≤q + 64 then some s else none
  | none=>none
theorem ybzf(q:Nat)(e l:List (Nat × AV))(H:yq)(n:Nat):nxK q (some ⟨e,l,H,n⟩) = if n≤q + 64 then some ⟨e,l,H,n⟩ else none:=rfl
theorem ycrw(c:Cfg)(cl:Callee)(nt base i:Nat)(o:Iop)(e l:List (Nat × AV))(H:yq)(n:Nat):evN c cl nt base i o ⟨e,l,H,n⟩ = nxK (base + i * 64) (ygh c cl nt o ⟨e,l,H,base + i * 64⟩):=rfl
def drK(k:List (Nat × Nat))(len n:Nat):Option (St × List ycs)→Option St
  | some (s,fs)=>if yml n fs k=true then some ⟨s.env,s.loc,s.H,n + 65 * len⟩ else none
  | none=>none
theorem ybvb(k:List (Nat × Nat))(len n:Nat)(e l:List (Nat × AV))(H:yq)(n':Nat)(fs:List ycs):drK k len n (some (⟨e,l,H,n'⟩,fs)) = if yml n fs k=true then some ⟨e,l,H,n + 65 * len⟩ else none:=rfl
theorem ybvc(c:Cfg)(cl:Nat→Callee)(nt:Nat)(k:List (Nat × Nat))(ios:List Iop)(e l:List (Nat × AV))(H:yq)(n:Nat):yru c cl nt k ios ⟨e,l,H,n⟩ = drK k ios.length n (ymb c cl nt n ios 0 ⟨e,l,H,n⟩):=by
  unfold yru drK
  cases ymb c cl nt n ios 0 ⟨e,l,H,n⟩ with
  | none=>rfl
  | some p=>obtain ⟨a,b⟩:=p; rfl
def clsL(l:List (Nat × Callee))(i:Nat):Callee:=match lk l i with | some cl=>cl | none=>fun _ _ _ _=>none
def clsK:Option Callee→Callee
  | some cl=>cl
  | none=>fun _ _ _ _=>none
theorem ycer(l:List (Nat × Callee))(i:Nat):clsL l i=clsK (lk l i):=rfl
theorem ybhi(cl:Callee):clsK (some cl) = cl:=rfl
def ftK(x:Option ycs):Option Bool→Option ycs
  | some true=>x
  | _=>some ybv
theorem ydot(x:Option ycs):ftK x (some true) = x:=rfl
theorem ydos(x:Option ycs):ftK x (some false) = some ybv:=rfl
theorem yays(c:Cfg)(s:St)(d:Option Nat)(op:IP):yga c s ⟨d,none,op⟩ = ybr c s op:=rfl
theorem yayt(c:Cfg)(s:St)(d:Option Nat)(t:Nat)(w:Bool)(op:IP):yga c s ⟨d,some (t,w),op⟩ = ftK (ybr c s op) (yakh (s.get t) w):=rfl
theorem ycfo(m n0:Nat)(e l:List (Nat × AV))(H:yq)(n:Nat):St.head m n0 ⟨e,l,H,n⟩ = if n=n0 then ⟨e,l,H,n⟩ else St.tidy m ⟨e,l,H,n⟩:=by
  unfold St.head
  rw [cond_eq_ite]
  by_cases h:n=n0
  ·subst h; simp
  ·have:Nat.beq n n0=false:=by
     cases hb:Nat.beq n n0 with
     | false=>rfl
     | true=>exact absurd (Nat.eq_of_beq_eq_true hb) h
   simp [this,h]
attribute [simp] ycfo
end Go.Proofs.YtgoachcogmlhcaaGreat.R
