import Derived.Test.YtgoachcogmlhcaaRRow
set_option linter.unusedVariables false
set_option linter.unusedSectionVars false
set_option linter.unusedSimpArgs false
noncomputable section
namespace Go.Proofs.Ytgoachcogmlhcaa.R
open Go
def yapz(v:AV)(want:Bool):Option Bool:=
  match v with
  | .bool b=>some (b == want)
  | .un=>some false
  | _=>none
theorem yale(s:St)(d:Nat)(want:Bool):yis s (some (d,want)) = yapz (s.get d) want:=rfl
theorem yald(s:St):yis s none=some true:=rfl
theorem yalf(b want:Bool):yapz (.bool b) want=some (b == want):=rfl
theorem yavq(want:Bool):yapz .un want=some false:=rfl
theorem yarp(ng a b:Bool):yaik ng (.bool a) (.bool b) = some (.bool (if ng then !(a == b) else a == b)):=by simp [yaik,yeo]
theorem ybad(a:Bool):ntAV (.bool a) = some (.bool (!a)):=by simp [ntAV,yeo]
theorem ybac(k:IntKind)(n:Int):yakb (.int k n) = some (.int k (k.wrap (0 - n))):=by simp [yakb,yfm]
theorem yaxz(k k':IntKind)(n:Int):yaii k (.int k' n) = some (.int k (k.wrap n)):=by simp [yaii,yfm]
theorem yaoj(b:Bool)(x y:AV):yakf (.bool b) x y=some (if b=true then x else y):=rfl
theorem yaxj(k:IntKind)(a b:Int):yep .add k a b=some (.int k (k.wrap (a + b))):=yfm _ _
theorem yaxv(k:IntKind)(a b:Int):yep .sub k a b=some (.int k (k.wrap (a - b))):=yfm _ _
theorem yaxq(k:IntKind)(a b:Int):yep .mul k a b=some (.int k (k.wrap (a * b))):=yfm _ _
theorem yaxs(k:IntKind)(a b:Int):yep .quo k a b=if b=0 then none else some (.int k (k.wrap (a.tdiv b))):=by simp [yep,yfm]
theorem yaxt(k:IntKind)(a b:Int):yep .rem k a b=if b=0 then none else some (.int k (a.tmod b)):=by simp [yep,yfm]
theorem yaxk(k:IntKind)(a b:Int):yep .eql k a b=some (.bool (decide (a=b))):=by
  have:(a == b) = decide (a=b):=by by_cases h:a=b <;> simp [h]
  simp only [yep,yeo,this]
theorem yaxr(k:IntKind)(a b:Int):yep .neq k a b=some (.bool (decide (a≠b))):=by
  have:(a != b) = decide (a≠b):=by by_cases h:a=b <;> simp [h]
  simp only [yep,yeo,this]
theorem yaxp(k:IntKind)(a b:Int):yep .lss k a b=some (.bool (decide (a < b))):=yeo _
theorem yaxo(k:IntKind)(a b:Int):yep .leq k a b=some (.bool (decide (a<=b))):=yeo _
theorem yaxm(k:IntKind)(a b:Int):yep .gtr k a b=some (.bool (decide (b < a))):=yeo _
theorem yaxl(k:IntKind)(a b:Int):yep .geq k a b=some (.bool (decide (b<=a))):=yeo _
mutual
theorem yaoq(f:Nat->Option Nat):∀ v:AV,ycg v=true->ren f v=v
  | .bool _,_=>rfl
  | .int _ _,_=>rfl
  | .str _,_=>rfl
  | .nil,_=>rfl
  | .oth _,_=>rfl
  | .agg cs,h=>by simp only [ren]; rw [yzi f cs (by simpa [ycg] using h)]
  | .tup cs,h=>by simp only [ren]; rw [yzi f cs (by simpa [ycg] using h)]
  | .bad,h=>by simp [ycg] at h
  | .un,h=>by simp [ycg] at h
  | .imm ..,h=>by simp [ycg] at h
  | .own ..,h=>by simp [ycg] at h
  | .ptr ..,h=>by simp [ycg] at h
  | .eptr ..,h=>by simp [ycg] at h
  | .iptr ..,h=>by simp [ycg] at h
  | .fn ..,h=>by simp [ycg] at h
theorem yzi(f:Nat->Option Nat):∀ vs:List AV,yen vs=true->yjb f vs=vs
  | [],_=>rfl
  | v :: r,h=>by
    simp only [yen,qq] at h
    simp only [yjb]
    rw [yaoq f v h.1,yzi f r h.2]
end
mutual
theorem yble(H:yr):∀ v:AV,ycg v=true->frz H v=v
  | .bool _,_=>rfl
  | .int _ _,_=>rfl
  | .str _,_=>rfl
  | .nil,h=>by simp [ycg] at h
  | .oth _,_=>rfl
  | .agg cs,h=>by simp only [frz]; rw [yyf H cs (by simpa [ycg] using h)]
  | .tup cs,h=>by simp only [frz]; rw [yyf H cs (by simpa [ycg] using h)]
  | .bad,h=>by simp [ycg] at h
  | .un,h=>by simp [ycg] at h
  | .imm ..,h=>by simp [ycg] at h
  | .own ..,h=>by simp [ycg] at h
  | .ptr ..,h=>by simp [ycg] at h
  | .eptr ..,h=>by simp [ycg] at h
  | .iptr ..,h=>by simp [ycg] at h
  | .fn ..,h=>by simp [ycg] at h
theorem yyf(H:yr):∀ vs:List AV,yen vs=true->ydn H vs=vs
  | [],_=>rfl
  | v :: r,h=>by
    simp only [yen,qq] at h
    simp only [ydn]
    rw [yble H v h.1,yyf H r h.2]
end
theorem yrr:∀ {a b:List AV},yen a=true->yen b=true->yen (a++b) = true
  | [],b,_,h=>h
  | x :: a,b,h,h'=>by
    simp only [yen,jn,qq] at h ⊢
    exact ⟨h.1,yrr h.2 h'⟩
theorem ysk(H:yr):∀ (n:Nat) (vs:List AV),yen vs=true->yba H n vs [] = []
  | 0,vs,_=>by cases vs <;> rfl
  | n + 1,[],_=>rfl
  | n + 1,v :: r,h=>by
    simp only [yen,qq] at h
    cases v <;> simp [ycg] at h <;> simp only [yba]
    case agg cs=>exact ysk H n _ (yrr h.1 h.2)
    case tup cs=>exact ysk H n _ (yrr h.1 h.2)
    all_goals exact ysk H n r h
theorem yauu:∀ H:yr,ycy (pos []) H = []
  | []=>rfl
  | (i,o) :: r=>by simp only [ycy,yamw]; exact yauu r
theorem ybrj{vs:List AV}(h:yen vs=true):ycg (one vs) = true:=by
  match vs,h with
  | [],_=>rfl
  | [v],h=>simp only [yen,qq] at h; exact h.1
  | _ :: _ :: _,h=>exact h
def retP(s:St):Option (List AV)->Option (AV × yr × Nat)
  | some vs=>if yen vs=true then some (one vs,[],0) else (match ybr s.H 0 vs with | l=>some (ren (pos l) (one vs),ycy (pos l) s.H,l.length))
  | none=>none
theorem ybam(res:List IR)(s:St){e:Ex}(he:e = .ret\/e = .norm):yns 0 res (some (e,s)) = retP s (yfv s res):=by
  have h1:yns 0 res (some (e,s)) = match yfv s res with
   | some vs=>(match ybr s.H 0 vs with | l=>some (ren (pos l) (one vs),ycy (pos l) s.H,l.length))
   | none=>none:=by rcases he with rfl | rfl <;> rfl
  rw [h1]
  cases hr:yfv s res with
  | none=>rfl
  | some vs=>
    simp only [retP]
    split
    .rename_i hp
     have:ybr s.H 0 vs = []:=by
       unfold ybr
       simp only [List.range_zero,List.flatMap_nil,List.nil_append]
       exact ysk s.H yfk vs hp
     simp only [this,yaoq _ _ (ybrj hp),yauu,List.length_nil]
    .rfl
theorem ycak(res:List IR)(s:St):yns 0 res (some (.ret,s)) = retP s (yfv s res):=ybam res s (.inl rfl)
theorem ybsj(res:List IR)(s:St):yns 0 res (some (.norm,s)) = retP s (yfv s res):=ybam res s (.inr rfl)
theorem ybig(s:St)(vs:List AV)(h:yen vs=true):retP s (some vs) = some (one vs,[],0):=by simp [retP,h]
theorem ycaj(m:Nat)(res:List IR)(p:Prop)[Decidable p](a b:Run):yns m res (if p then a else b) = if p then yns m res a else yns m res b:=by split <;> rfl
theorem yal{a b:Nat}(h:Nat.ble a b=true):a<=b:=Nat.le_of_ble_eq_true h
theorem yayj(i:Nat)(vs:List AV):yapi i (.tup vs) = vs[i]?:=rfl
theorem yaym(a:Bool)(size off:Nat)(cs:List AV):yapj a size off (.agg cs) = part a size cs off:=rfl
theorem yaud(size:Nat)(cs:List AV)(off:Nat):part true size cs off=if off + size<=cs.length then some (.agg ((cs.drop off).take size)) else none:=rfl
def ycct:Option AV->Option AV
  | some v=>if yfb v=true then some v else none
  | none=>none
theorem yaue(size:Nat)(cs:List AV)(off:Nat):part false size cs off=ycct cs[off]?:=rfl
theorem yake(v:AV):ycct (some v) = if yfb v=true then some v else none:=rfl
theorem ybla(off id o:Nat):faAV off (.ptr id o) = some (.ptr id (o + off)):=rfl
theorem yayk(off id i g:Nat):faAV off (.eptr id i g) = some (.eptr id i (g + off)):=rfl
theorem yayl(off:Nat)(row:List AV)(g:Nat):faAV off (.iptr row g) = some (.iptr row (g + off)):=rfl
theorem yazz(a:Bool)(size:Nat)(H:yr)(row:List AV)(f:Nat):yka a size H (.iptr row f) = part a size row f:=rfl
def ldK(a:Bool)(size off:Nat):Option Ob->Option AV
  | some (.box cells)=>part a size cells off
  | _=>none
theorem ybqe(a:Bool)(size:Nat)(H:yr)(id off:Nat):yka a size H (.ptr id off) = ldK a size off (lk H id):=by
  simp only [yka,ldK]
  cases lk H id with
  | none=>rfl
  | some o=>cases o <;> rfl
theorem yazy(a:Bool)(size off:Nat)(cells:List AV):ldK a size off (some (.box cells)) = part a size cells off:=rfl
theorem yatm:ymz .nil=some (.int .i64 0):=rfl
theorem ybyf(es:Nat)(rows:List (List AV))(ex:Bool):ymz (.imm es rows ex) = some (.int .i64 rows.length):=rfl
theorem yatn(es id off len:Nat)(ex:Bool):ymz (.own es id off len ex) = some (.int .i64 len):=rfl
theorem yato(s:ByteArray):yajv (.str s) = some (.int .i64 s.size):=rfl
theorem yayi(s:St):s.evs [] = []:=rfl
theorem yasa(s:St)(x:Opd)(r:List Opd):s.evs (x :: r) = s.ev x :: s.evs r:=rfl
theorem yayg(s:St):s.evp [] = []:=rfl
theorem yary(s:St)(i:Nat)(x:Opd)(r:List (Nat × Opd)):s.evp ((i,x) :: r) = (i,s.ev x) :: s.evp r:=rfl
theorem yayh(s:St):s.evq [] = []:=rfl
theorem yarz(s:St)(i j:Nat)(x:Opd)(r:List (Nat × Nat × Opd)):s.evq ((i,j,x) :: r) = (i,j,s.ev x) :: s.evq r:=rfl
theorem yarw(s:St):s.evo none=none:=rfl
theorem yarx(s:St)(x:Opd):s.evo (some x) = some (s.ev x):=rfl
def bldK:Option (List AV)->Option AV
  | some cs=>some (.agg cs)
  | none=>none
theorem yare(z:List AV)(ps:List (Nat × Nat × AV)):yxb z ps=bldK (ysf z ps):=by
  unfold yxb bldK
  rfl
theorem yani(cs:List AV):bldK (some cs) = some (.agg cs):=rfl
theorem yanw(cs:List AV):ysf cs [] = some cs:=rfl
def ycce(cells:List AV)(off size:Nat)(r:List (Nat × Nat × AV)):Option (List AV)->Option (List AV)
  | some vs=>if vs.length=size/\off + size<=cells.length then ysf (ycp cells off vs) r else none
  | none=>none
theorem yaip(cells:List AV)(off size:Nat)(v:AV)(r:List (Nat × Nat × AV)):ysf cells ((off,size,v) :: r) = ycce cells off size r (cellsOf v):=rfl
theorem yaiq(cells:List AV)(off size:Nat)(r:List (Nat × Nat × AV))(vs:List AV):ycce cells off size r (some vs) = if vs.length=size/\off + size<=cells.length then ysf (ycp cells off vs) r else none:=rfl
theorem yanm(cs:List AV):cellsOf (.agg cs) = some cs:=rfl
theorem yann(k:IntKind)(n:Int):cellsOf (.int k n) = some [.int k n]:=rfl
theorem yaia(b:Bool):cellsOf (.bool b) = some [.bool b]:=rfl
theorem yanq(s:ByteArray):cellsOf (.str s) = some [.str s]:=rfl
theorem yano:cellsOf .nil=some [.nil]:=rfl
theorem ybkc(es:Nat)(rows:List (List AV))(ex:Bool):cellsOf (.imm es rows ex) = some [.imm es rows ex]:=rfl
theorem yanp(es id off len:Nat)(ex:Bool):cellsOf (.own es id off len ex) = some [.own es id off len ex]:=rfl
theorem ybjh(e l:List (Nat × AV))(H:yr)(n:Nat)(o:Ob):St.add ⟨e,l,H,n⟩ o = ⟨e,l,(n,o) :: H,n + 1⟩:=rfl
theorem ybaq(e l:List (Nat × AV))(H H':yr)(n:Nat):St.setH ⟨e,l,H,n⟩ H' = ⟨e,l,H',n⟩:=rfl
def stK(size:Nat)(H:yr)(id off:Nat):Option Ob->Option (List AV)->Option yr
  | some (.box cells),some vs=>if vs.length=size/\off + vs.length<=cells.length/\ydk vs=true then upd H id (.box (ycp cells off vs)) else none
  | _,_=>none
theorem ybta(size:Nat)(H:yr)(id off:Nat)(v:AV):ynv size H (.ptr id off) v=stK size H id off (lk H id) (cellsOf v):=by
  simp only [ynv,stK]
  cases lk H id with
  | none=>rfl
  | some o=>cases o <;> cases cellsOf v <;> rfl
theorem yagx(size:Nat)(H:yr)(id off:Nat)(cells vs:List AV):stK size H id off (some (.box cells)) (some vs) = if vs.length=size/\off + vs.length<=cells.length/\ydk vs=true then upd H id (.box (ycp cells off vs)) else none:=rfl
theorem yamh(size len id off:Nat)(k:IntKind)(n:Int):ysh size len (.ptr id off) (.int k n) = if 0<=n/\n < len then some (.ptr id (off + n.toNat * size)) else none:=rfl
theorem yami(a:Bool)(size len:Nat)(cs:List AV)(k:IntKind)(n:Int):yadl a size len (.agg cs) (.int k n) = if 0<=n/\n < len then part a size cs (n.toNat * size) else none:=rfl
theorem ychq(size es:Nat)(rows:List (List AV))(ex:Bool)(k:IntKind)(n:Int):yof size (.imm es rows ex) (.int k n) = if es=size/\0<=n then (match rows[n.toNat]? with | some row=>some (.iptr row 0) | none=>none) else none:=rfl
theorem ychr(size es id off len:Nat)(ex:Bool)(k:IntKind)(n:Int):yof size (.own es id off len ex) (.int k n) = if es=size/\0<=n/\n < len then some (.eptr id (off + n.toNat) 0) else none:=rfl
attribute [simp] ybjh ybaq ybta yagx yamh yami ychq ychr
attribute [simp] yayj yaym yaud yaue yake ybla yayk yayl yazz ybqe yazy yatm ybyf yatn yato yayi yasa yayg yary yayh yarz yarw yarx yare yani yanw yaip yaiq yanm yann yaia yanq yano ybkc yanp ycp yfb ydk yaz yen ycg one yfv
attribute [simp] yale yald yalf yavq yarp ybad ybac yaxz yaoj yaxj yaxv yaxq yaxs yaxt yaxk yaxr yaxp yaxo yaxm yaxl ycak ybsj ybig ycaj
def nsF(f:yds):Option (St × List yds)->Option (St × List yds)
  | some (sF,l)=>some (sF,f :: l)
  | none=>none
def nsC(c:Cfg)(cl:Nat->Callee)(nt base:Nat)(r:List Iop)(i:Nat):Option yds->Option St->Option (St × List yds)
  | some f,some s'=>nsF f (yqk c cl nt base r (i + 1) s')
  | _,_=>none
theorem ybyr(f:yds)(s:St)(l:List yds):nsF f (some (s,l)) = some (s,f :: l):=rfl
theorem ybyq(c:Cfg)(cl:Nat->Callee)(nt base:Nat)(r:List Iop)(i:Nat)(f:yds)(s:St):nsC c cl nt base r i (some f) (some s) = nsF f (yqk c cl nt base r (i + 1) s):=rfl
theorem ybwg(c:Cfg)(cl:Nat->Callee)(nt base i:Nat)(s:St):yqk c cl nt base [] i s=some (s,[]):=rfl
theorem ybky(c:Cfg)(cl:Nat->Callee)(nt base:Nat)(o:Iop)(r:List Iop)(i:Nat)(s:St):yqk c cl nt base (o :: r) i s=nsC c cl nt base r i (yiq c s o) (evN c (cl i) nt base i o s):=by
  simp only [yqk,nsC]
  cases yiq c s o with
  | none=>rfl
  | some f=>
    cases evN c (cl i) nt base i o s with
    | none=>rfl
    | some s'=>
      simp only [nsF]
      cases yqk c cl nt base r (i + 1) s' with
      | none=>rfl
      | some p=>obtain ⟨a,b⟩:=p; rfl
def nxK(q:Nat):Option St->Option St
  | some s=>if s.nx<=q + 64 then some s else none
  | none=>none
theorem ybys(q:Nat)(e l:List (Nat × AV))(H:yr)(n:Nat):nxK q (some ⟨e,l,H,n⟩) = if n<=q + 64 then some ⟨e,l,H,n⟩ else none:=rfl
theorem ycpa(c:Cfg)(cl:Callee)(nt base i:Nat)(o:Iop)(e l:List (Nat × AV))(H:yr)(n:Nat):evN c cl nt base i o ⟨e,l,H,n⟩ = nxK (base + i * 64) (yiy c cl nt o ⟨e,l,H,base + i * 64⟩):=rfl
def drK(k:List (Nat × Nat))(len n:Nat):Option (St × List yds)->Option St
  | some (s,fs)=>if yqt n fs k=true then some ⟨s.env,s.loc,s.H,n + 65 * len⟩ else none
  | none=>none
theorem ybvs(k:List (Nat × Nat))(len n:Nat)(e l:List (Nat × AV))(H:yr)(n':Nat)(fs:List yds):drK k len n (some (⟨e,l,H,n'⟩,fs)) = if yqt n fs k=true then some ⟨e,l,H,n + 65 * len⟩ else none:=rfl
theorem ybvt(c:Cfg)(cl:Nat->Callee)(nt:Nat)(k:List (Nat × Nat))(ios:List Iop)(e l:List (Nat × AV))(H:yr)(n:Nat):yvw c cl nt k ios ⟨e,l,H,n⟩ = drK k ios.length n (yqk c cl nt n ios 0 ⟨e,l,H,n⟩):=by
  unfold yvw drK
  cases yqk c cl nt n ios 0 ⟨e,l,H,n⟩ with
  | none=>rfl
  | some p=>obtain ⟨a,b⟩:=p; rfl
def clsL(l:List (Nat × Callee))(i:Nat):Callee:=match lk l i with | some cl=>cl | none=>fun _ _ _ _=>none
def clsK:Option Callee->Callee
  | some cl=>cl
  | none=>fun _ _ _ _=>none
theorem ycew(l:List (Nat × Callee))(i:Nat):clsL l i=clsK (lk l i):=rfl
theorem ybkj(cl:Callee):clsK (some cl) = cl:=rfl
def ftK(x:Option yds):Option Bool->Option yds
  | some true=>x
  | _=>some ycf
theorem ydip(x:Option yds):ftK x (some true) = x:=rfl
theorem ydio(x:Option yds):ftK x (some false) = some ycf:=rfl
theorem ybcr(c:Cfg)(s:St)(d:Option Nat)(op:IP):yiq c s ⟨d,none,op⟩ = ybz c s op:=rfl
theorem ybcs(c:Cfg)(s:St)(d:Option Nat)(t:Nat)(w:Bool)(op:IP):yiq c s ⟨d,some (t,w),op⟩ = ftK (ybz c s op) (yapz (s.get t) w):=rfl
theorem ycft(m n0:Nat)(e l:List (Nat × AV))(H:yr)(n:Nat):St.head m n0 ⟨e,l,H,n⟩ = if n=n0 then ⟨e,l,H,n⟩ else St.tidy m ⟨e,l,H,n⟩:=by
  unfold St.head
  rw [cond_eq_ite]
  by_cases h:n=n0
  .subst h; simp
  .have:Nat.beq n n0=false:=by
     cases hb:Nat.beq n n0 with
     | false=>rfl
     | true=>exact absurd (qy hb) h
   simp [this,h]
attribute [simp] ycft
section
variable {P:Program}
theorem ybkp{code:Code}{x y:IC}(h:ydm P code=some (.seq x y)):∃ a b,code = .seq a b/\ydm P a=some x/\ydm P b=some y:=by
  cases code <;> simp only [ydm] at h
  case seq a b=>
    split at h
    .rename_i h1 h2
     simp only [qa,IC.seq.injEq] at h
     obtain ⟨rfl,rfl⟩:=h
     exact ⟨a,b,rfl,h1,h2⟩
    .cases h
  all_goals (repeat' split at h) <;> cases h
theorem yaig{code:Code}{x:Opd}{y z:IC}(h:ydm P code=some (.cond x y z)):∃ o a b,code = .cond o a b/\opd o=some x/\ydm P a=some y/\ydm P b=some z:=by
  cases code <;> simp only [ydm] at h
  case cond o a b=>
    split at h
    .rename_i h0 h1 h2
     simp only [qa,IC.cond.injEq] at h
     obtain ⟨rfl,rfl,rfl⟩:=h
     exact ⟨o,a,b,rfl,h0,h1,h2⟩
    .cases h
  all_goals (repeat' split at h) <;> cases h
theorem yawe{code:Code}{id:Nat}{x:IC}(h:ydm P code=some (.block id x)):∃ a,code = .block id a/\ydm P a=some x:=by
  cases code <;> simp only [ydm] at h
  case block i a=>
    split at h
    .rename_i h1
     simp only [qa,IC.block.injEq] at h
     obtain ⟨rfl,rfl⟩:=h
     exact ⟨a,rfl,h1⟩
    .cases h
  all_goals (repeat' split at h) <;> cases h
theorem ybcg{code:Code}{x:IC}(h:ydm P code=some (.loop x)):∃ a,code = .loop a/\ydm P a=some x:=by
  cases code <;> simp only [ydm] at h
  case loop a=>
    split at h
    .rename_i h1
     simp only [qa,IC.loop.injEq] at h
     obtain rfl:=h
     exact ⟨a,rfl,h1⟩
    .cases h
  all_goals (repeat' split at h) <;> cases h
theorem ybkn{code:Code}{id:Nat}(h:ydm P code=some (.out id)):code = .exit id:=by
  cases code <;> simp only [ydm] at h
  case exit i=>simp only [qa,IC.out.injEq] at h; subst h; rfl
  all_goals (repeat' split at h) <;> cases h
theorem ybko{code:Code}(h:ydm P code=some .ret):code = .ret:=by
  cases code <;> simp only [ydm] at h
  case ret=>rfl
  all_goals (repeat' split at h) <;> cases h
theorem ybch{code:Code}(h:ydm P code=some .skip):code = .skip\/∃ l,code = .label l:=by
  cases code <;> simp only [ydm] at h
  case skip=>exact .inl rfl
  case label l=>exact .inr ⟨l,rfl⟩
  all_goals (repeat' split at h) <;> cases h
theorem yans{code:Code}{k:Option (List (Nat × Nat))}{l:List Iop}(h:ydm P code=some (.reg k l)):∃ id ops draw,code = .region id ops draw/\yie P ops.toList ops.toList=some l/\((draw=false/\k=none)\/(draw=true/\∃ q,k=some q/\yqj l ops.toList l [] = some q)):=by
  cases code <;> simp only [ydm] at h
  case region id ops draw=>
    split at h
    .rename_i l' h1
     split at h
     .rename_i hd
      split at h
      .rename_i q hq
       simp only [qa,IC.reg.injEq] at h
       obtain ⟨rfl,rfl⟩:=h
       exact ⟨id,ops,draw,rfl,h1,.inr ⟨hd,q,rfl,hq⟩⟩
      .cases h
     .rename_i hd
      simp only [qa,IC.reg.injEq] at h
      obtain ⟨rfl,rfl⟩:=h
      exact ⟨id,ops,draw,rfl,h1,.inl ⟨by simpa using hd,rfl⟩⟩
    .cases h
  all_goals (repeat' split at h) <;> cases h
end
def Wp(P:Program)(nt m:Nat)(ic:IC)(s:St)(Q:Ex->St->Prop):Prop:=
  ∀ (code:Code),ydm P code=some ic->∀ (A:Nat->Nat->Prop) (E:Entry) (a:Act) (w:World),E.m=m->(∀ i x,E.O i=some x->i < E.m)->SR A E nt s a w ->
    ∀ K:Exit->Act->World->Prop,(∀ e s' a' w',Q e s'->SR A E nt s' a' w'->K (exOf e) a' w')->code.wp P K a w
def yug(P:Program)(c:Code)(K:Exit->Act->World->Prop)(a:Act)(w:World):Prop:=
  ∀ b k cs,∃ e a' w',K e a' w'/\Arrives P (lone (b.at a (.code c :: .inLoop c :: k)) cs w) b k cs e a' w'
theorem yug.step{P:Program}{c:Code}{K:Exit->Act->World->Prop}{a:Act}{w:World}(h:c.wp P (Exit.then (yug P c K) K) a w):yug P c K a w:=by
  intro b k cs
  obtain ⟨e,a₁,w₁,hq,harr⟩:=h b (.inLoop c :: k) cs
  cases e with
  | normal=>
    obtain ⟨e₂,a₂,w₂,hq₂,harr₂⟩:=hq b k cs
    exact ⟨e₂,a₂,w₂,hq₂,.of_steps (Steps.trans harr (.one step_inLoop)) harr₂⟩
  | exit id=>exact ⟨_,a₁,w₁,hq,.pass (x:=.inLoop c) rfl (fun _ _=>.inl (by simp)) harr⟩
  | goto l=>exact ⟨_,a₁,w₁,hq,.pass (x:=.inLoop c) rfl (fun _ _=>.inl (by simp)) harr⟩
  | ret=>exact ⟨_,a₁,w₁,hq,.pass (x:=.inLoop c) rfl (fun _ _=>.inl (by simp)) harr⟩
  | panic ch=>exact ⟨_,a₁,w₁,hq,.pass (x:=.inLoop c) rfl (fun _ _=>.inl (by simp)) harr⟩
  | outgrown=>exact ⟨_,a₁,w₁,hq,.pass (x:=.inLoop c) rfl (fun _ _=>.inl (by simp)) harr⟩
theorem yug.wp{P:Program}{c:Code}{K:Exit->Act->World->Prop}{a:Act}{w:World}(h:yug P c K a w):(Code.loop c).wp P K a w:=by
  intro b k cs
  obtain ⟨e,a',w',hq,harr⟩:=h b k cs
  exact ⟨e,a',w',hq,.of_steps (.one step_loop) harr⟩
def LWp(P:Program)(nt m:Nat)(b:IC)(s:St)(Q:Ex->St->Prop):Prop:=
  ∀ (c:Code),ydm P c=some b->∀ (A:Nat->Nat->Prop) (E:Entry) (a:Act) (w:World),E.m=m->(∀ i x,E.O i=some x->i < E.m)->SR A E nt s a w ->
    ∀ K:Exit->Act->World->Prop,(∀ e s' a' w',Q e s'->SR A E nt s' a' w'->K (exOf e) a' w')->yug P c K a w
def ybu(P:Program)(nt m:Nat)(b:IC)(Q:Ex->St->Prop):Ex->St->Prop
  | .norm,s=>Wp P nt m b s Q
  | e,s=>Q e s
def ygz(P:Program)(nt m:Nat)(b:IC)(Q:Ex->St->Prop):Ex->St->Prop
  | .norm,s=>LWp P nt m b s Q
  | e,s=>Q e s
def yay(id:Nat)(Q:Ex->St->Prop):Ex->St->Prop
  | .out j,s=>if j=id then Q .norm s else Q (.out j) s
  | e,s=>Q e s
def ypz(m:Nat)(s s':St):Prop:=
  ∀ (nt:Nat) (A:Nat->Nat->Prop) (E:Entry) (a:Act) (w:World),E.m=m->(∀ i x,E.O i=some x->i < E.m)->SR A E nt s a w->SR A E nt s' a w
theorem ypz.refl(m:Nat)(s:St):ypz m s s:=fun _ _ _ _ _ _ _ h=>h
theorem ypz.trans{m:Nat}{s s' s'':St}(h:ypz m s s')(h':ypz m s' s''):ypz m s s'':=fun nt A E a w hm hE hs=>h' nt A E a w hm hE (h nt A E a w hm hE hs)
section
variable {P:Program} {nt m:Nat} {s s' s1:St} {Q:Ex->St->Prop}
theorem Wp.seq{a b:IC}(h:Wp P nt m a s (ybu P nt m b Q)):Wp P nt m (.seq a b) s Q:=by
  intro code hc A E act w hm hE hs K hK
  obtain ⟨x,y,rfl,h1,h2⟩:=ybkp hc
  refine wp_seq (h x h1 A E act w hm hE hs _ ?_)
  intro e s' a' w' hq hs'
  cases e with
  | norm=>exact hq y h2 A E a' w' hm hE hs' K hK
  | out id=>exact hK _ _ a' w' hq hs'
  | ret=>exact hK _ _ a' w' hq hs'
theorem Wp.block{id:Nat}{b:IC}(h:Wp P nt m b s (yay id Q)):Wp P nt m (.block id b) s Q:=by
  intro code hc A E act w hm hE hs K hK
  obtain ⟨x,rfl,h1⟩:=yawe hc
  refine wp_block (h x h1 A E act w hm hE hs _ ?_)
  intro e s' a' w' hq hs'
  cases e with
  | norm=>exact hK _ _ a' w' hq hs'
  | out j=>
    simp only [exOf,Exit.inBlock]
    simp only [yay] at hq
    split at hq
    .rename_i hj
     rw [qe hj]
     exact hK _ _ a' w' hq hs'
    .rename_i hj
     rw [qc hj]
     exact hK _ _ a' w' hq hs'
  | ret=>exact hK _ _ a' w' hq hs'
theorem Wp.loop{b:IC}(h:LWp P nt m b s Q):Wp P nt m (.loop b) s Q:=by
  intro code hc A E act w hm hE hs K hK
  obtain ⟨x,rfl,h1⟩:=ybcg hc
  exact (h x h1 A E act w hm hE hs K hK).wp
theorem LWp.step{b:IC}(h:Wp P nt m b s (ygz P nt m b Q)):LWp P nt m b s Q:=by
  intro c hc A E act w hm hE hs K hK
  refine yug.step (h c hc A E act w hm hE hs _ ?_)
  intro e s' a' w' hq hs'
  cases e with
  | norm=>exact hq c hc A E a' w' hm hE hs' K hK
  | out id=>exact hK _ _ a' w' hq hs'
  | ret=>exact hK _ _ a' w' hq hs'
theorem Wp.condT{x:Opd}{a b:IC}(hx:s.ev x = .bool true)(h:Wp P nt m a s Q):Wp P nt m (.cond x a b) s Q:=by
  intro code hc A E act w hm hE hs K hK
  obtain ⟨o,y,z,rfl,h0,h1,h2⟩:=yaig hc
  obtain ⟨O,hr,hv,_⟩:=hs.ex
  have hxv:=ycv hv h0
  rw [hx] at hxv
  simp only [VR] at hxv
  exact wp_cond_true hxv (h y h1 A E act w hm hE hs K hK)
theorem Wp.condF{x:Opd}{a b:IC}(hx:s.ev x = .bool false)(h:Wp P nt m b s Q):Wp P nt m (.cond x a b) s Q:=by
  intro code hc A E act w hm hE hs K hK
  obtain ⟨o,y,z,rfl,h0,h1,h2⟩:=yaig hc
  obtain ⟨O,hr,hv,_⟩:=hs.ex
  have hxv:=ycv hv h0
  rw [hx] at hxv
  simp only [VR] at hxv
  exact wp_cond_false hxv (h z h2 A E act w hm hE hs K hK)
theorem Wp.skip(h:Q .norm s):Wp P nt m .skip s Q:=by
  intro code hc A E act w hm hE hs K hK
  rcases ybch hc with rfl | ⟨l,rfl⟩
  .exact wp_skip (hK _ _ act w h hs)
  .exact wp_label (hK _ _ act w h hs)
theorem Wp.out{id:Nat}(h:Q (.out id) s):Wp P nt m (.out id) s Q:=by
  intro code hc A E act w hm hE hs K hK
  obtain rfl:=ybkn hc
  exact wp_exit (hK _ _ act w h hs)
theorem Wp.ret(h:Q .ret s):Wp P nt m .ret s Q:=by
  intro code hc A E act w hm hE hs K hK
  obtain rfl:=ybko hc
  exact wp_ret (hK _ _ act w h hs)
theorem Wp.weak{ic:IC}(hw:ypz m s s')(h:Wp P nt m ic s' Q):Wp P nt m ic s Q:=
  fun code hc A E act w hm hE hs K hK=>h code hc A E act w hm hE (hw nt A E act w hm hE hs) K hK
theorem LWp.weak{ic:IC}(hw:ypz m s s')(h:LWp P nt m ic s' Q):LWp P nt m ic s Q:=
  fun code hc A E act w hm hE hs K hK=>h code hc A E act w hm hE (hw nt A E act w hm hE hs) K hK
end
def St.clr(s:St):St:=⟨s.env,[],s.H,s.nx⟩
def yfz(P:Program)(nt m:Nat)(l:List Iop)(s:St)(Q:St->Prop):Prop:=
  ∀ (all:Array Oper) (ops:List Oper),yie P all.toList ops=some l->∀ (A:Nat->Nat->Prop) (E:Entry) (a:Act) (w:World),E.m=m->(∀ i x,E.O i=some x->i < E.m)->SR A E nt s a w ->
    ∀ K:Exit->Act->World->Prop,(∀ s' a' w',Q s'->SR A E nt s' a' w'->K .normal a' w')->wpList P all K ops a w
section
variable {P:Program} {nt m:Nat} {s s1:St} {Q:Ex->St->Prop} {T:St->Prop} {c:Cfg} {cl:Callee}
theorem yfz.nil(h:T s):yfz P nt m [] s T:=by
  intro all ops hc A E a w hm hE hs K hK
  cases ops with
  | nil=>exact hK _ _ _ h hs
  | cons o r=>
    simp only [yie] at hc
    split at hc <;> cases hc
theorem yfz.one{o:Iop}{l:List Iop}(hcl:yeb P cl)(h1:yiy c cl nt o s=some s1)(h:yfz P nt m l s1 T):yfz P nt m (o :: l) s T:=by
  intro all ops hc A E a w hm hE hs K hK
  cases ops with
  | nil=>simp [yie] at hc
  | cons p r=>
    simp only [yie] at hc
    split at hc
    .rename_i io rr h2 h3
     simp only [qa,List.cons.injEq] at hc
     obtain ⟨rfl,rfl⟩:=hc
     refine wpList_step fun K' hK'=>?_
     exact ybsx hcl hs h2 h1 fun a' w' hs'=>hK' a' w' (h all r h3 A E a' w' hm hE hs' K hK)
    .cases hc
theorem yfz.chunk(hcl:yeb P cl):∀ {l1 l2:List Iop} {s s1:St},ymh c cl nt l1 s=some s1->yfz P nt m l2 s1 T->yfz P nt m (l1++l2) s T
  | [],l2,s,s1,h,h2=>by
    rw [yvy] at h
    obtain rfl:=qd h
    exact h2
  | o :: l1,l2,s,s1,h,h2=>by
    rw [yto] at h
    cases h3:yiy c cl nt o s with
    | none=>rw [h3,yqa] at h; cases h
    | some s2=>
      rw [h3,yqb] at h
      exact yfz.one hcl h3 (yfz.chunk hcl h h2)
theorem yfz.end(hcl:yeb P cl){l:List Iop}(h:ymh c cl nt l s=some s1)(h2:T s1):yfz P nt m l s T:=by
  have:=yfz.chunk (l2:=[]) hcl h (yfz.nil (P:=P) (nt:=nt) (m:=m) h2)
  rwa [jh] at this
theorem yfz.weak{l:List Iop}{s':St}(hw:ypz m s s')(h:yfz P nt m l s' T):yfz P nt m l s T:=
  fun all ops hc A E a w hm hE hs K hK=>h all ops hc A E a w hm hE (hw nt A E a w hm hE hs) K hK
theorem Wp.reg{l:List Iop}(h:yfz P nt m l s (fun s'=>Q .norm s'.clr)):Wp P nt m (.reg none l) s Q:=by
  intro code hc A E a w hm hE hs K hK
  obtain ⟨id,ops,draw,rfl,h1,h2⟩:=yans hc
  rcases h2 with ⟨rfl,_⟩ | ⟨_,q,h3,_⟩
  .exact wp_region_list (h ops ops.toList h1 A E a w hm hE hs K fun s' a' w' hq hs'=>hK .norm _ a' w' hq (yvx (s1:=s') hs'))
  .cases h3
theorem Wp.regf{l:List Iop}{k:List (Nat × Nat)}(hP:P.follows .mixedOrders=true){c:Cfg}(hcP:c.P=P){cl:Nat->Callee}(hcl:∀ i,yeb P (cl i))(h:yvw c cl nt k l s=some s1)(h2:Q .norm s1.clr):Wp P nt m (.reg (some k) l) s Q:=by
  intro code hc A E a w hm hE hs K hK
  subst hcP
  obtain ⟨id,ops,draw,rfl,h1,h3⟩:=yans hc
  rcases h3 with ⟨_,h4⟩ | ⟨rfl,q,h4,h5⟩
  .cases h4
  .obtain rfl:=qd h4
   exact yaya hP hcl h1 h5 hs h fun a' w' hs'=>hK .norm _ a' w' h2 (yvx (s1:=s1) hs')
end
section
variable {P:Program} {es:Nat} {z:List AV} {x y:Opd}
theorem ybje{w:World}{U:Nat->Nat->Prop}{O:Rho}{v:AV}{X:Value}{H:yr}{rows:List (List AV)}(hv:VR w U O v X)(h:yei es H v=some rows):∃ a n c,X = .slice a n c/\(a.isNone=true->rows = []):=by
  cases v <;> simp only [yei,reduceCtorEq,qa] at h <;> simp only [VR] at hv
  case nil=>exact ⟨none,0,0,hv,fun _=>h.symm⟩
  case imm es rows' ex=>
    obtain ⟨A,c,h1,_,_,h4⟩:=hv
    split at h
    .simp only [qa] at h
     subst h
     refine ⟨A,_,c,h1,fun hn=>?_⟩
     rcases h4 with h4 | ⟨b,o,h5,_⟩
     .exact h4
     .subst h5; cases hn
    .cases h
  case own es id off len ex=>
    obtain ⟨A,c,h1,_,_,h4⟩:=hv
    refine ⟨A,_,c,h1,fun hn=>?_⟩
    rcases h4 with h4 | ⟨b,C,e,fr,_,h5,_⟩
    .split at h
     .split at h
      .split at h
       .simp only [qa] at h
        rw [← h,h4.1]
        simp
       .cases h
      .cases h
     .cases h
    .subst h5; cases hn
theorem yuk{o:Op}(h:ykx P o=some (.mv x)):∃ X,(o = .move X\/o = .assign X)/\opd X=some x:=by
  cases o <;> simp only [ykx] at h
  case move X=>split at h <;> simp at h; subst h; rename_i hx; exact ⟨X,.inl rfl,hx⟩
  case assign X=>split at h <;> simp at h; subst h; rename_i hx; exact ⟨X,.inr rfl,hx⟩
  all_goals
    exfalso
    (try simp only [ypq,ynj,yki] at h)
    (repeat' split at h) <;> first | (cases h; done) | (simp at h; done) | (simp_all; done)
theorem ybkm{o:Op}(h:ykx P o=some (.eqn false x)):∃ t X Y t2 ti e,o = .binOp .eql t X Y t2/\opd X=some x/\opd Y=some (.c .nil)/\ybt P t=some ti/\ti.desc = .slice e:=by
  cases o <;> simp only [ykx] at h
  case binOp op t X Y t2=>
    split at h
    .rename_i a b ha hb
     unfold ypq at h
     split at h
     .rename_i ti hti
      split at h
      case h_6 e hd=>
        split at h
        .rename_i hn
         have:b = .c .nil:=by
           cases b with
           | t n=>simp [nilC] at hn
           | c u=>cases u <;> simp [nilC] at hn; rfl
         subst this
         split at h
         .simp only [qa,IP.eqn.injEq] at h
          obtain ⟨_,rfl⟩:=h
          exact ⟨t,X,Y,t2,ti,e,rfl,ha,hb,hti,hd⟩
         .simp at h
         .cases h
        .cases h
      all_goals
        exfalso
        (repeat' split at h) <;> first | (cases h; done) | (simp at h; done) | (simp_all; done)
     .cases h
    .cases h
  all_goals
    exfalso
    (try simp only [ynj,yki] at h)
    (repeat' split at h) <;> first | (cases h; done) | (simp at h; done) | (simp_all; done)
theorem ybkl{o:Op}(h:ykx P o=some (.bsl es z 0 [])):∃ t parts,o = .buildSlice t 0 parts/\parts = #[]/\ElTy P t es z:=by
  cases o <;> simp only [ykx] at h
  case buildSlice t len parts=>
    split at h
    .rename_i xe ps hxe hp
     split at h
     .rename_i z0 hz
      split at h
      .rename_i hcond
       simp only [qa,IP.bsl.injEq] at h
       obtain ⟨rfl,rfl,rfl,rfl⟩:=h
       obtain ⟨e,g1,g2⟩:=yrj hxe
       refine ⟨t,parts,rfl,?_,⟨e,xe,g1,g2,⟨z0,hz,rfl⟩,hcond.1,by rw [ysg]; exact hcond.2.2.1,rfl,hcond.2.1⟩⟩
       apply Array.ext'
       cases hl:parts.toList with
       | nil=>rfl
       | cons p r=>
         rw [hl] at hp
         obtain ⟨i,q⟩:=p
         simp only [ylu] at hp
         split at hp <;> simp at hp
      .cases h
     .cases h
    .cases h
  all_goals
    exfalso
    (try simp only [ypq,ynj,yki] at h)
    (repeat' split at h) <;> first | (cases h; done) | (simp at h; done) | (simp_all; done)
theorem ybkk{o:Op}(h:ykx P o=some (.app es x y)):∃ X Y t t2,o = .call ⟨.builtin .append,#[X,Y],#[t,t2]⟩/\opd X=some x/\opd Y=some y/\yacn P t t2 es:=by
  cases o <;> simp only [ykx] at h
  case call cc=>
    obtain ⟨callee,args,ts⟩:=cc
    simp only at h
    split at h
    .rename_i as has
     split at h
     .rename_i b
      unfold yki at h
      split at h
      case h_4 x' y' t t2 hts=>
        split at h
        .rename_i xe x2 hxe hx2
         split at h
         .rename_i z0 hz
          split at h
          .rename_i hcond
           simp only [qa,IP.app.injEq] at h
           obtain ⟨rfl,rfl,rfl⟩:=h
           obtain ⟨e,g1,g2⟩:=yrj hxe
           have hargs:∃ X Y,args = #[X,Y]/\opd X=some x'/\opd Y=some y':=by
             cases hl:args.toList with
             | nil=>rw [hl] at has; simp [yqr] at has
             | cons X r=>
               rw [hl] at has
               simp only [yqr] at has
               split at has
               .rename_i a l ha hr
                simp only [qa,List.cons.injEq] at has
                obtain ⟨rfl,rfl⟩:=has
                cases r with
                | nil=>simp [yqr] at hr
                | cons Y r2=>
                  simp only [yqr] at hr
                  split at hr
                  .rename_i b2 l2 hb2 hr2
                   simp only [qa,List.cons.injEq] at hr
                   obtain ⟨rfl,rfl⟩:=hr
                   cases r2 with
                   | nil=>exact ⟨X,Y,yzy hl,ha,hb2⟩
                   | cons _ _=>
                     simp only [yqr] at hr2
                     split at hr2 <;> simp at hr2
                  .cases hr
               .cases has
           obtain ⟨X,Y,rfl,k1,k2⟩:=hargs
           rw [yzy hts]
           exact ⟨X,Y,t,t2,rfl,k1,k2,⟨e,xe,x2,z0,g1,g2,hx2,hz,hcond.1,hcond.2.1,hcond.2.2.1,hcond.2.2.2,rfl⟩⟩
          .cases h
         .cases h
        .cases h
      all_goals
        exfalso
        (repeat' split at h) <;> first | (cases h; done) | (simp at h; done) | (simp_all; done)
     .exfalso; simp at h
     .exfalso; split at h <;> simp at h
     .cases h
    .cases h
  all_goals
    exfalso
    (try simp only [ypq,ynj] at h)
    (repeat' split at h) <;> first | (cases h; done) | (simp at h; done) | (simp_all; done)
theorem yig{all ops:List Oper}{io:Iop}{l:List Iop}(h:ymg P all ops=some (io :: l)):∃ o r,ops=o :: r/\yacv P all o=some io/\ymg P all r=some l:=by
  cases ops with
  | nil=>simp [ymg] at h
  | cons o r=>
    simp only [ymg] at h
    split at h
    .rename_i a l' h1 h2
     simp only [qa,List.cons.injEq] at h
     obtain ⟨rfl,rfl⟩:=h
     exact ⟨o,r,rfl,h1,h2⟩
    .cases h
theorem yqh{all ops:List Oper}(h:ymg P all ops=some []):ops = []:=by
  cases ops with
  | nil=>rfl
  | cons o r=>
    simp only [ymg] at h
    split at h <;> cases h
theorem yif{all:List Oper}{o:Oper}{d:Nat}{ip:IP}(h:yacv P all o=some ⟨some d,none,ip⟩):o.guard=none/\o.dst=some d/\ykx P o.op=some ip:=by
  unfold yacv at h
  split at h
  .rename_i ip' hip
   split at h
   .rename_i hg
    simp only [qa,Iop.mk.injEq] at h
    exact ⟨hg,h.1,by rw [hip,h.2.2]⟩
   .split at h
    .split at h
     .simp at h
     .cases h
    .cases h
  .cases h
theorem yqg{code:Code}{a b:IC}(h:yhy P code=some (.seq a b)):∃ p q,code = .seq p q/\yhy P p=some a/\yhy P q=some b:=by
  cases code <;> simp only [yhy] at h
  case seq p q=>
    split at h
    .rename_i h1 h2
     simp only [qa,IC.seq.injEq] at h
     obtain ⟨rfl,rfl⟩:=h
     exact ⟨p,q,rfl,h1,h2⟩
    .cases h
  all_goals (repeat' split at h) <;> cases h
theorem yawc{code:Code}{a b:IC}(h:yhy P code=some (.cond x a b)):∃ o p q,code = .cond o p q/\opd o=some x/\yhy P p=some a/\yhy P q=some b:=by
  cases code <;> simp only [yhy] at h
  case cond o p q=>
    split at h
    .rename_i h0 h1 h2
     simp only [qa,IC.cond.injEq] at h
     obtain ⟨rfl,rfl,rfl⟩:=h
     exact ⟨o,p,q,rfl,h0,h1,h2⟩
    .cases h
  all_goals (repeat' split at h) <;> cases h
theorem ytm{code:Code}{l:List Iop}(h:yhy P code=some (.reg none l)):∃ id ops,code = .region id ops false/\ymg P ops.toList ops.toList=some l:=by
  cases code <;> simp only [yhy] at h
  case region id ops draw=>
    split at h
    .rename_i l' h1
     split at h
     .cases h
     .rename_i hd
      simp only [qa,IC.reg.injEq,true_and] at h
      subst h
      exact ⟨id,ops,by simp at hd; rw [hd],h1⟩
    .cases h
  all_goals (repeat' split at h) <;> cases h
theorem yaif{code:Code}(h:yhy P code=some .ret):code = .ret:=by
  cases code <;> simp only [yhy] at h
  case ret=>rfl
  all_goals (repeat' split at h) <;> cases h
theorem yawd{code:Code}(h:yhy P code=some .skip):code = .skip:=by
  cases code <;> simp only [yhy] at h
  case skip=>rfl
  all_goals (repeat' split at h) <;> cases h
theorem yagd{d n:Nat}{o:Iop}(h:mvB d n o=true):o = ⟨some d,none,.mv (.t n)⟩:=by
  unfold mvB at h
  split at h
  .rw [qq] at h
   rw [qy h.1,qy h.2]
  .cases h
theorem yatx{d:Nat}{o:Iop}(h:mvN d o=true):o = ⟨some d,none,.mv (.c .nil)⟩:=by
  unfold mvN at h
  split at h
  .rw [qy h]
  .cases h
theorem ybkw{d n:Nat}{o:Iop}(h:eqnB d n o=true):o = ⟨some d,none,.eqn false (.t n)⟩:=by
  unfold eqnB at h
  split at h
  .rw [qq] at h
   rw [qy h.1,qy h.2]
  .cases h
theorem ybjj{d a b es:Nat}{o:Iop}(h:appB d a b es o=true):o = ⟨some d,none,.app es (.t a) (.t b)⟩:=by
  unfold appB at h
  split at h
  .simp only [qq] at h
   rw [qy h.1,qy h.2.1,qy h.2.2.1,qy h.2.2.2]
  .cases h
theorem yawb{ic:IC}(h:yari ic=some es):∃ z,ic=ybkg es z:=by
  unfold yari at h
  split at h
  .rename_i o1 o2 o3 x o4 d es' z o6 o7 o8
   split at h
   .rename_i hb
    simp only [qa] at h
    subst h
    simp only [qq] at hb
    obtain ⟨h1,h2,h3,h4,h5,h6,h7,h8,h9⟩:=hb
    rw [yatx h1,yagd h2,ybkw h3,qy h4,yatx h5,qy h6,yagd h7,ybjj h8,yagd h9]
    exact ⟨z,rfl⟩
   .cases h
  .cases h
theorem ywe{X:Operand}{n:Nat}(h:opd X=some (.t n)):X = .tmp n:=by
  cases X with
  | tmp k=>simp only [opd,qa,Opd.t.injEq] at h; rw [h]
  | const v=>simp [opd] at h
  | global g=>simp [opd] at h
  | func f=>simp [opd] at h
theorem yawm{v:Value}(h:yxq v = .nil):v = .slice none 0 0:=by
  unfold yxq at h
  split at h
  .cases h
  .unfold yhl at h
   split at h <;> first | rfl | cases h
theorem ybae{X:Operand}(h:opd X=some (.c .nil))(a:Act):a.eval X = .slice none 0 0:=by
  cases X with
  | tmp k=>simp [opd] at h
  | const v=>simp only [opd,qa,Opd.c.injEq] at h; simp only [Act.eval]; exact yawm h
  | global g=>simp [opd] at h
  | func f=>simp [opd] at h
theorem yalg{o:Oper}{X:Operand}(ho:o.op = .move X\/o.op = .assign X){a:Act}{w:World}{K:Act->World->Prop}{Q:Exit->Act->World->Prop}(h:K (a.put o.dst (a.eval X)) w):o.wp P a w K Q:=by
  unfold Oper.wp
  rcases ho with ho | ho <;> simp only [execOp,ho,Sem.run_pure] <;> exact h
theorem yuo(a:Act)(n:Nat):a.eval (.tmp n) = a.tmps.getD n undef:=rfl
theorem ybkh{f:Nat}(h:yaav P f=some es){A:Nat->Nat->Prop}{O:Rho}{w:World}{s s':St}{v r:AV}{X:Value}(hr:Rep A O s.H s.nx w)(hx:VR w (UU A O s.H) O v X)(hcl:yme es s v=some (r,s')) :
    (callFunc f #[X]).run P w = .ok (.enter f #[X]) w/\Calls P f #[X] w (fun e w'=>∃ x,e = .returned x/\ydt A O s w r s' x w'):=by
  unfold yaav at h
  split at h
  .rename_i fn hf
   split at h
   .split at h
    .rename_i body hb
     split at h
     .rename_i ic hic
      split at h
      .rename_i hok
       obtain ⟨z,rfl⟩:=yawb h
       simp only [qq,Bool.not_eq_true'] at hok
       obtain ⟨hnt,hres,hnm⟩:=hok
       have hnt:=qy hnt
       have hres:fn.results = #[.tmp 2]:=by
         apply Array.ext'
         unfold ycde at hres
         split at hres
         .rename_i t ht
          rw [ht,qy hres]
         .cases hres
       refine ⟨yqw hf hnm (by rw [hb]; rfl),calls_of_wp hf hb ?_⟩
       have hend:∀ (a:Act) (w':World) (e:Exit),(e = .ret\/e = .normal)->a.defers = []->ydt A O s w r s' (a.tmps.getD 2 undef) w'->bodyPost P fn (fun e w'=>∃ x,e = .returned x/\ydt A O s w r s' x w') e a w':=by
         intro a w' e he hd hp
         have hrun:=ywp (P:=P) (w:=w') (fn:=fn) (tmps:=a.tmps) (xs:=[a.tmps.getD 2 undef]) (by
           rw [hres]
           simp [ysm])
         rcases he with rfl | rfl
         .exact ⟨hd,_,hrun,_,rfl,hp⟩
         .exact ⟨hd,_,hrun,_,rfl,hp⟩
       unfold yme at hcl
       split at hcl
       .rename_i rows hrows
        obtain ⟨B,n,c,rfl,hnil⟩:=ybje hx hrows
        generalize ha0:({ tmps:=#[Value.slice B n c]++Array.replicate (fn.ntmps - (#[Value.slice B n c]:Array Value).size) undef,defers:=[] }:Act) = a0
        have hs0:a0.tmps.size=8:=by rw [← ha0]; simp [hnt]
        have hd0:a0.defers = []:=by rw [← ha0]
        have h00:a0.tmps.getD 0 undef = .slice B n c:=by rw [← ha0]; simp [hnt]
        unfold ybkg at hic
        obtain ⟨c1,c2,rfl,hc1,hc2⟩:=yqg hic
        obtain ⟨c3,c4,rfl,hc3,hc4⟩:=yqg hc2
        obtain ⟨c5,c6,rfl,hc5,hc6⟩:=yqg hc3
        obtain ⟨c7,c8,rfl,hc7,hc8⟩:=yqg hc4
        obtain rfl:=yaif hc8
        obtain ⟨X9,c9,c10,rfl,hX9,hc9,hc10⟩:=yawc hc6
        obtain rfl:=yawd hc10
        obtain ⟨c11,c12,rfl,hc11,hc12⟩:=yqg hc9
        obtain rfl:=yaif hc12
        obtain rfl:=ywe hX9
        obtain ⟨id1,ops1,rfl,hl1⟩:=ytm hc1
        obtain ⟨id2,ops2,rfl,hl2⟩:=ytm hc5
        obtain ⟨id3,ops3,rfl,hl3⟩:=ytm hc11
        obtain ⟨id4,ops4,rfl,hl4⟩:=ytm hc7
        refine wp_seq (wp_region_list ?_)
        obtain ⟨o,r1,e1,k1,k2⟩:=yig hl1
        obtain ⟨g1,g2,g3⟩:=yif k1
        obtain ⟨Y,g4,g5⟩:=yuk g3
        rw [e1,yqh k2]
        refine wpList_plain g1 fun K hK=>yalg g4 (hK _ _ ?_)
        show Exit.then _ _ .normal _ _
        simp only [Exit.then]
        obtain ⟨p1,p2,p3⟩:=yna hs0 (d:=o.dst) (by rw [g2]; rfl) (a0.eval Y)
        generalize ha1:a0.put o.dst (a0.eval Y) = a1 at p1 p2 p3
        have h10:a1.tmps.getD 0 undef = .slice B n c:=by rw [p1,g2,qc (by simp)]; exact h00
        clear k1 k2 e1 g3 g4 g5 hl1
        refine wp_seq (wp_seq (wp_region_list ?_))
        obtain ⟨o2,r2,e1,k1,k2⟩:=yig hl2
        obtain ⟨o3,r3,e2,k3,k4⟩:=yig k2
        obtain ⟨q1,q2,q3⟩:=yif k1
        obtain ⟨Y2,q4,q5⟩:=yuk q3
        obtain ⟨u1,u2,u3⟩:=yif k3
        obtain ⟨t,Z1,Z2,t2,ti,el,u4,u5,u6,u7,u8⟩:=ybkm u3
        rw [e1,e2,yqh k4]
        refine wpList_plain q1 fun K hK=>yalg q4 (hK _ _ (wpList_plain u1 fun K2 hK2=>?_))
        rw [ywe q5,yuo,h10]
        obtain ⟨p4,p5,p6⟩:=yna p2 (d:=o2.dst) (by rw [q2]; rfl) (.slice B n c)
        generalize ha2:a1.put o2.dst (.slice B n c) = a2 at p4 p5 p6
        have h23:a2.tmps.getD 3 undef = .slice B n c:=by rw [p4,q2,qe rfl]
        have h20:a2.tmps.getD 0 undef = .slice B n c:=by rw [p4,q2,qc (by simp)]; exact h10
        unfold Oper.wp
        have hrun:(execOp a2.eval o3).run P w = .ok (.value (.bool B.isNone)) w:=by
          have:=yafd (P:=P) (w:=w) false u7 u8 Z1 Z2 B n c
          have h5:ynl false = .eql:=rfl
          rw [h5] at this
          simp only [execOp,u4]
          rw [ybae u6,ywe u5,yuo,h23,Sem.run_bind]
          rw [ywe u5] at this
          rw [this]
          rfl
        rw [hrun]
        refine hK2 _ _ ?_
        show Exit.then _ _ .normal _ _
        simp only [Exit.then]
        obtain ⟨p7,p8,p9⟩:=yna p5 (d:=o3.dst) (by rw [u2]; rfl) (.bool B.isNone)
        generalize ha3:a2.put o3.dst (.bool B.isNone) = a3 at p7 p8 p9
        have h34:a3.tmps.getD 4 undef = .bool B.isNone:=by rw [p7,u2,qe rfl]
        have h30:a3.tmps.getD 0 undef = .slice B n c:=by rw [p7,u2,qc (by simp)]; exact h20
        have hd3:a3.defers = []:=by rw [p9,p6,p3,hd0]
        refine wp_cond_split (t:=B.isNone) (by rw [yuo]; exact h34) (fun hB=>?_) (fun hB=>?_)
        .refine wp_seq (wp_region_list ?_)
         obtain ⟨o4,r4,e1,k1,k2⟩:=yig hl3
         obtain ⟨g1,g2',g3⟩:=yif k1
         obtain ⟨Y,g4,g5⟩:=yuk g3
         rw [e1,yqh k2]
         refine wpList_plain g1 fun K hK=>yalg g4 (hK _ _ ?_)
         show Exit.then _ _ .normal _ _
         simp only [Exit.then]
         rw [ybae g5]
         obtain ⟨p10,p11,p12⟩:=yna p8 (d:=o4.dst) (by rw [g2']; rfl) (.slice none 0 0)
         refine wp_ret ?_
         show Exit.then _ _ .ret _ _
         simp only [Exit.then]
         refine hend _ _ .ret (.inl rfl) (by rw [p12,hd3]) ?_
         rw [p10,g2',qe rfl]
         obtain rfl:=hnil hB
         unfold ycu at hcl
         split at hcl
         .simp only [qa,qi] at hcl
          obtain ⟨rfl,rfl⟩:=hcl
          exact ywq hr es none 0
         .cases hcl
        .refine wp_skip ?_
         show Exit.then _ _ .normal _ _
         simp only [Exit.then]
         refine wp_seq (wp_region_list ?_)
         obtain ⟨o5,r5,e1,k1,k2⟩:=yig hl4
         obtain ⟨o6,r6,e2,k3,k4⟩:=yig k2
         obtain ⟨o7,r7,e3,k5,k6⟩:=yig k4
         obtain ⟨o8,r8,e4,k7,k8⟩:=yig k6
         obtain ⟨b1,b2,b3⟩:=yif k1
         obtain ⟨tb,parts,b4,b5,b6⟩:=ybkl b3
         obtain ⟨m1,m2,m3⟩:=yif k3
         obtain ⟨Y6,m4,m5⟩:=yuk m3
         obtain ⟨n1,n2,n3⟩:=yif k5
         obtain ⟨Xa,Ya,ta,ta2,n4,n5,n6,n7⟩:=ybkk n3
         obtain ⟨l1,l2,l3⟩:=yif k7
         obtain ⟨Y8,l4,l5⟩:=yuk l3
         rw [e1,e2,e3,e4,yqh k8]
         refine wpList_plain b1 fun K hK=>?_
         have hA':∀ b o,UU A O s.H b o->b < w.heap.size:=fun b o ha=>yapf hr ha
         have hrep0:Rep (UU A O s.H) ych (St.mk [] [] [] 0).H (St.mk [] [] [] 0).nx w:=yvn hA'
         obtain ⟨y,w1,y1,y2⟩:=ybau (P:=P) (s:=St.mk [] [] [] 0) (A:=UU A O s.H) hrep0 b6 (len:=0) (by omega) (ps:=[]) (qs:=#[]) (by simp [VRq]) (v:=.own es 0 0 0 true) (s':=⟨[],[],[(0,.arr es [] 0)],1⟩) (by simp [ysd,yfp,yfl,St.setH,St.add])
         obtain ⟨_,_,Z,y3,y4,y5,y6⟩:=y2
         obtain ⟨w2,w3⟩:=yaam hr y6
         have hy:∃ C,y = .slice C 0 0:=by
           simp only [VR] at y4
           obtain ⟨C,c',f1,_,f2,_⟩:=y4
           have:=f2 trivial
           subst this
           exact ⟨C,f1⟩
         obtain ⟨C,rfl⟩:=hy
         unfold Oper.wp
         have hrun2:(execOp a3.eval o5).run P w = .ok (.value (.slice C 0 0)) w1:=by
           simp only [execOp,b4,b5,Sem.run_bind]
           have:(#[]:Array (Nat × Operand)).map (fun (i,x)=>(i,a3.eval x)) = #[]:=by simp
           rw [this,y1]
           rfl
         rw [hrun2]
         refine hK _ _ (wpList_plain m1 fun K2 hK2=>yalg m4 (hK2 _ _ (wpList_plain n1 fun K3 hK3=>?_)))
         obtain ⟨p10,p11,p12⟩:=yna p8 (d:=o5.dst) (by rw [b2]; rfl) (.slice C 0 0)
         generalize ha4:a3.put o5.dst (.slice C 0 0) = a4 at p10 p11 p12
         have h45:a4.tmps.getD 5 undef = .slice C 0 0:=by rw [p10,b2,qe rfl]
         have h40:a4.tmps.getD 0 undef = .slice B n c:=by rw [p10,b2,qc (by simp)]; exact h30
         rw [ywe m5,yuo,h40]
         obtain ⟨p13,p14,p15⟩:=yna p11 (d:=o6.dst) (by rw [m2]; rfl) (.slice B n c)
         generalize ha5:a4.put o6.dst (.slice B n c) = a5 at p13 p14 p15
         have h56:a5.tmps.getD 6 undef = .slice B n c:=by rw [p13,m2,qe rfl]
         have h55:a5.tmps.getD 5 undef = .slice C 0 0:=by rw [p13,m2,qc (by simp)]; exact h45
         have hx1:VR w1 (UU A O s.H) O v (.slice B n c):=yacs w3 (Ext.refl _) hx
         have hsrc:ydc es s.H v=some rows:=by
           unfold ydc
           split
           .simp [VR] at hx
           .exact hrows
         obtain ⟨zz,w4,t1,t2'⟩:=yvp (ty:=o7.type) (B:=C) w2 n7 hx1 hsrc hcl
         have hrun3:(execOp a5.eval o7).run P w1 = .ok (.value zz) w4:=by
           simp only [execOp,n4,resolve,Act.eval,Deferred.ofValue,invoke,builtin,Sem.run_bind,Sem.run_pure,Result.andThen_ok,List.map_toArray,wr,List.map_nil]
           have hXa:a5.eval Xa = .slice C 0 0:=by rw [ywe n5,yuo,h55]
           have hYa:a5.eval Ya = .slice B n c:=by rw [ywe n6,yuo,h56]
           simp only [Act.eval] at hXa hYa
           simp only [hXa,hYa,t1,Result.andThen_ok]
         unfold Oper.wp
         rw [hrun3]
         refine hK3 _ _ (wpList_plain l1 fun K4 hK4=>yalg l4 (hK4 _ _ ?_))
         obtain ⟨p16,p17,p18⟩:=yna p14 (d:=o7.dst) (by rw [n2]; rfl) zz
         generalize ha6:a5.put o7.dst zz=a6 at p16 p17 p18
         have h67:a6.tmps.getD 7 undef=zz:=by rw [p16,n2,qe rfl]
         rw [ywe l5,yuo,h67]
         obtain ⟨p19,p20,p21⟩:=yna p17 (d:=o8.dst) (by rw [l2]; rfl) zz
         show Exit.then _ _ .normal _ _
         simp only [Exit.then]
         refine wp_ret ?_
         refine hend _ _ .ret (.inl rfl) (by rw [p21,p18,p15,p12,hd3]) ?_
         rw [p19,l2,qe rfl]
         obtain ⟨i1,i2,AD,i3,i4,i5,i6⟩:=t2'
         exact ⟨i1,i2,AD,i3,i4,i5,w3.trans i6⟩
       .cases hcl
      .cases h
     .cases h
    .cases h
   .cases h
  .cases h
theorem ybcb(P:Program):ycby P:=by
  intro f es h A O w s s' v r X hr hx hcl
  exact ybkh h hr hx hcl
end
def yap(P:Program)(f:Nat)(args:List AV)(H:yr)(m:Nat)(r:AV)(H':yr)(n':Nat):Prop:=
  (∃ fn,P.funcs[f]? = some fn/\(fn.name == "runtime.NumGoroutine") = false/\fn.body.isNone=false) /\
  ∀ {A:Nat->Nat->Prop} {O:Rho} {w:World} {xs:Array Value},Rep A O H m w->VRs w (UU A O H) O args xs.toList->Calls P f xs w (Ret A O H w m r H' n')
theorem yap.of_callF{c:Cfg}{dr:yahp}(hc:ybbi c)(hd:yaqd c dr)(hp:yeb c.P c.pr){k f:Nat}{args:List AV}{H H':yr}{m n':Nat}{r:AV}(h:ytl c dr k f args H m=some (r,H',n')):yap c.P f args H m r H' n':=
  ⟨(ywr hc hd hp k).fn h,(ywr hc hd hp k).calls h⟩
open Classical in
def tab:List (Nat × List AV × yr × Nat × (AV × yr × Nat))->Callee
  | [],_,_,_,_=>none
  | e :: r,f,args,H,m=>if f=e.1/\args=e.2.1/\H=e.2.2.1/\m=e.2.2.2.1 then some e.2.2.2.2 else tab r f args H m
theorem yp(P:Program):yeb P (tab []):=⟨ybcb P,fun h=>by simp [tab] at h,fun h=>by simp [tab] at h⟩
theorem ybrb(P:Program):yeb P (fun _ _ _ _=>none):=⟨ybcb P,fun h=>(by cases h),fun h=>(by cases h)⟩
theorem yz{P:Program}{l:List (Nat × List AV × yr × Nat × (AV × yr × Nat))}{f m n':Nat}{args:List AV}{H H':yr}{r:AV}(h:yap P f args H m r H' n')(hl:yeb P (tab l)):yeb P (tab ((f,args,H,m,(r,H',n')) :: l)):=by
  refine ⟨ybcb P,fun {f' a' H1 m1 x} hx=>?_,fun {f' a' H1 m1 r1 H2 n2} hx=>?_⟩
  .simp only [tab] at hx
   split at hx
   .rename_i hh
    obtain ⟨rfl,rfl,rfl,rfl⟩:=hh
    exact h.1
   .exact hl.fn hx
  .simp only [tab] at hx
   split at hx
   .rename_i hh
    obtain ⟨rfl,rfl,rfl,rfl⟩:=hh
    simp only [qa,qi] at hx
    obtain ⟨rfl,rfl,rfl⟩:=hx
    exact h.2
   .exact hl.calls hx
theorem ycbl(l:List (Nat × List AV × yr × Nat × (AV × yr × Nat)))(f m:Nat)(args:List AV)(H:yr)(x:AV × yr × Nat):tab ((f,args,H,m,x) :: l) f args H m=some x:=by simp [tab]
theorem ydha(l:List (Nat × List AV × yr × Nat × (AV × yr × Nat)))(f g m m':Nat)(args args':List AV)(H H':yr)(x:AV × yr × Nat)(h:Nat.beq g f=false):tab ((f,args,H,m,x) :: l) g args' H' m' = tab l g args' H' m':=by
  have:¬ g=f:=Nat.ne_of_beq_eq_false h
  simp [tab,this]
def ycb(m:Nat)(res:List IR)(r:AV)(H':yr)(n':Nat):Ex->St->Prop:=fun e s=>∃ s',ypz m s s'/\yns m res (some (e,s')) = some (r,H',n')
theorem yap.intro{P:Program}{f m n':Nat}{args:List AV}{H H':yr}{r:AV}{i:IFn}{fn:Func}{V:List Nat}(hf:P.funcs[f]? = some fn)(hc:ybq P V fn=some i)(hn:args.length<=i.nt)
    (hw:Wp P i.nt m i.body ⟨yaz args i.live,[],H,m⟩ (ycb m i.res r H' n')):yap P f args H m r H' n':=by
  obtain ⟨h3,body,h4,h5,h6,h7⟩:=yya hc
  refine ⟨⟨fn,hf,h3,by rw [h4]; rfl⟩,fun {A O w xs} hr hx=>?_⟩
  have hst:=yaqk hr hx hn i.live
  rw [h5] at hst
  refine calls_of_wp hf h4 ?_
  refine hw body h6 A ⟨O,H,w,m⟩ _ w rfl (fun j x hj=>hr.ltR j x hj) (by rw [h5]; exact hst) _ fun e s0 a' w' hq hs0=>?_
  obtain ⟨s1,hwk,hq⟩:=hq
  have hs:=hwk _ _ _ _ _ rfl (fun j x hj=>hr.ltR j x hj) hs0
  unfold yns at hq
  split at hq
  .cases hq
  .rename_i e' s1' hne he
   simp only [qa,qi] at he
   obtain ⟨rfl,rfl⟩:=he
   split at hq
   .rename_i vs hvs
    simp only [qa,qi] at hq
    obtain ⟨rfl,rfl,rfl⟩:=hq
    obtain ⟨AC,q1,q2,q3,q4⟩:=hs.ex
    obtain ⟨ys,g1,g2⟩:=yadv q1 q2 h7 hvs
    have hbody:∃ v,(results fn a'.tmps).run P w' = .ok v w'/\Ret A O H w m (ren (pos (ybr s1.H m vs)) (one vs)) (ycy (pos (ybr s1.H m vs)) s1.H) (ybr s1.H m vs).length (.returned v) w':=by
      refine ⟨_,ywp g1,?_⟩
      obtain ⟨p1,p2⟩:=ywo s1.H m vs
      obtain ⟨r1,r2,r3⟩:=yacp (l:=ybr s1.H m vs) q1
      refine ⟨yjt (ybr s1.H m vs) AC,r1,yaqm q1 ?_,yalk q3 (fun j x hj=>hr.ltR j x hj) p2,q4.trans r3⟩
      have hlen:=ycd g2
      match vs,ys,g2,hlen with
      | [],[],g2,_=>simp only [R.one,VR]; exact ⟨_,rfl,g2⟩
      | [v],[y],g2,_=>
        simp only [R.one]
        simp only [VRs] at g2
        obtain ⟨x,r,e1,e2,e3⟩:=g2
        simp only [List.cons.injEq] at e1
        rw [e1.1]
        exact e2
      | v :: v2 :: r,y :: y2 :: r',g2,_=>simp only [R.one,VR]; exact ⟨_,rfl,g2⟩
    obtain ⟨v,b1,b2⟩:=hbody
    cases e with
    | norm=>exact ⟨hs.defers,v,b1,b2⟩
    | ret=>exact ⟨hs.defers,v,b1,b2⟩
    | out id=>exact absurd rfl (hne id)
   .cases hq
  .rename_i he
   cases he
theorem ybh(P:Program):∀ i,yeb P (clsL [] i):=fun i=>ybrb P
theorem ydi{P:Program}{cl:Callee}{l:List (Nat × Callee)}(j:Nat)(h:yeb P cl)(hl:∀ i,yeb P (clsL l i)):∀ i,yeb P (clsL ((j,cl) :: l) i):=fun i=>by
  simp only [clsL,ybx]
  by_cases hj:j=i
  .rw [qe hj]; exact h
  .rw [qc hj]; exact hl i
inductive WV where
  | virt (es:Nat)
  | frz
inductive WA where
  | kill (ts:List Nat)
  | at (t:Nat) (v:WV)
  | cell (t off:Nat) (v:WV)
  | mov (t:Nat)
  | movc (t off:Nat)
  | drop (ids:List Nat)
  | cut (id n:Nat)
  | toX (id:Nat)
  | rowf (id i:Nat)
  | unX (id:Nat)
  | tidy
def inB(t:Nat):List Nat->Bool
  | []=>false
  | x :: r=>Nat.beq x t || inB t r
def ypd(ts:List Nat):List (Nat × AV)->List (Nat × AV)
  | []=>[]
  | (t,v) :: r=>(if inB t ts=true then (t,.bad) else (t,v)) :: ypd ts r
def wkV(k:WV)(v:AV)(H:yr)(nx:Nat):AV × yr × Nat:=
  match k with
  | .frz=>(frz H v,ybv H v,nx)
  | .virt es=>
    match v with
    | .nil=>(.own es nx 0 0 false,(nx,.arr es [] 0) :: H,nx + 1)
    | .own es' id off len _=>(.own es' id off len false,H,nx)
    | v=>(v,H,nx)
def yik(m:Nat)(x:WA)(s:St):Option St:=
  match x with
  | .kill ts=>some { s with env:=ypd ts s.env }
  | .at t k=>
    match lk s.env t with
    | some v=>match upd s.env t (wkV k v s.H s.nx).1 with | some e=>some { s with env:=e,H:=(wkV k v s.H s.nx).2.1,nx:=(wkV k v s.H s.nx).2.2 } | none=>none
    | none=>none
  | .cell t off k=>
    match lk s.env t with
    | some (.ptr id o)=>
      match lk s.H id with
      | some (.box cells)=>
        match cells[o + off]? with
        | some v=>match upd (wkV k v s.H s.nx).2.1 id (.box (ycp cells (o + off) [(wkV k v s.H s.nx).1])) with | some H=>some { s with H:=H,nx:=(wkV k v s.H s.nx).2.2 } | none=>none
        | none=>none
      | _=>none
    | _=>none
  | .mov t=>
    match lk s.env t with
    | some (.own es id off len ex)=>
      match lk s.H id,upd s.env t (.own es s.nx off len ex) with
      | some (.arr es' rows leak),some e=>some { s with env:=e,H:=(s.nx,.arr es' rows leak) :: rmv s.H id,nx:=s.nx + 1 }
      | _,_=>none
    | _=>none
  | .movc t off=>
    match lk s.env t with
    | some (.ptr id o)=>
      match lk s.H id with
      | some (.box cells)=>
        match cells[o + off]? with
        | some (.own es j f len ex)=>
          match lk s.H j,upd s.H id (.box (ycp cells (o + off) [.own es s.nx f len ex])) with
          | some (.arr es' rows leak),some H=>some { s with H:=(s.nx,.arr es' rows leak) :: rmv H j,nx:=s.nx + 1 }
          | _,_=>none
        | _=>none
      | _=>none
    | _=>none
  | .drop ids=>some { s with H:=yem s.H ids }
  | .cut id n=>
    match lk s.H id with
    | some (.arr es rows leak)=>match upd s.H id (.arr es (rows.take n) leak) with | some H=>some { s with H:=H } | none=>none
    | _=>none
  | .toX id=>
    match lk s.H id with
    | some (.arr es rows 0)=>match upd s.H id (.arx es rows) with | some H=>some { s with H:=H } | none=>none
    | _=>none
  | .rowf id i=>
    match lk s.H id with
    | some (.arx es rows)=>
      match rows[i]? with
      | some row=>match upd (yeu s.H row) id (.arx es (rows.set i (ydn s.H row))) with | some H=>some { s with H:=H } | none=>none
      | none=>none
    | _=>none
  | .unX id=>
    match lk s.H id with
    | some (.arx es rows)=>if rows.all ygk=true then (match upd s.H id (.arr es rows 0) with | some H=>some { s with H:=H } | none=>none) else none
    | _=>none
  | .tidy=>
    match s.tidy m with
    | ⟨e,l,H,n⟩=>some ⟨e,l,yhs H n,n⟩
def evW(m:Nat):List WA->St->Option St
  | [],s=>some s
  | x :: r,s=>match yik m x s with | some s'=>evW m r s' | none=>none
section
variable {A:Nat->Nat->Prop} {E:Entry} {nt:Nat} {a:Act} {w:World} {s s':St} {O:Rho} {H H':yr} {nx:Nat}
theorem yyn(ts:List Nat):∀ (e:List (Nat × AV)) (t:Nat),lk (ypd ts e) t=(lk e t).map (fun v=>if inB t ts=true then .bad else v)
  | [],t=>by simp [ypd]
  | (k,v) :: r,t=>by
    simp only [ypd]
    by_cases h:inB k ts=true
    .rw [qe h,ybx,ybx]
     by_cases hk:k=t
     .subst hk; simp [h]
     .simp only [hk,wn]
      exact yyn ts r t
    .rw [qc h,ybx,ybx]
     by_cases hk:k=t
     .subst hk; simp [h]
     .simp only [hk,wn]
      exact yyn ts r t
theorem ycdp(h:SR A E nt s a w)(ts:List Nat):SR A E nt { s with env:=ypd ts s.env } a w:=by
  obtain ⟨O,hr,hv,hx,hf⟩:=h.ex
  refine ⟨fun t x hx=>?_,h.size,h.defers,O,hr,fun t=>?_,hx,hf⟩
  .have hx:lk (ypd ts s.env) t=some x:=hx
   rw [yyn] at hx
   cases he:lk s.env t with
   | none=>rw [he] at hx; cases hx
   | some y=>exact h.disj t y he
  .have h1:=hv t
   rw [ykq] at h1 ⊢
   show VR w _ O ((lk s.loc t).getD ((lk (ypd ts s.env) t).getD .bad)) _
   rw [yyn]
   cases hl:lk s.loc t with
   | some y=>rw [hl] at h1; exact h1
   | none=>
     rw [hl] at h1
     cases he:lk s.env t with
     | none=>simp [VR]
     | some y=>
       rw [he] at h1
       simp only [kb,Option.getD_none,Option.getD_some] at h1 ⊢
       split
       .simp [VR]
       .exact h1
theorem yavs(hr:Rep A O H nx w)(k:WV)(v:AV):Rep A O (wkV k v H nx).2.1 (wkV k v H nx).2.2 w/\(∀ b o,Wr O (wkV k v H nx).2.1 b o->Wr O H b o)/\nx<=(wkV k v H nx).2.2 /\
    (∀ x,VR w (UU A O H) O v x->VR w (UU A O (wkV k v H nx).2.1) O (wkV k v H nx).1 x) /\
    (∀ id cells,lk H id=some (.box cells)->lk (wkV k v H nx).2.1 id=some (.box cells)):=by
  cases k with
  | frz=>
    have hl:=ykr v H
    refine ⟨yre hr hl,fun b o=>yoa hl,qk _,fun x hx=>?_,fun id cells h=>?_⟩
    .have:=ywx hr v H (yby.refl _) (ybv H v) (yby.refl _) x hx
     exact ydw (ydo.refl _ _) _ _ _ _ (fun _ _ h=>by simp [ych] at h) this
    .obtain ⟨n,h1⟩:=hl.get id _ h
     simpa [ydh,wkV] using h1
  | virt es=>
    cases v with
    | nil=>
      obtain ⟨h1,h2⟩:=yxv hr (.arr es [] 0)
      have hw:∀ b o,Wr O ((nx,.arr es [] 0) :: H) b o->Wr O H b o:=by
        intro b o hh
        obtain ⟨id,es',ob,g1,g2,g3⟩:=hh
        rcases yot g1 with ⟨rfl,rfl⟩ | ⟨h5,h6⟩
        .have:=hr.ltR _ _ g2; omega
        .exact ⟨id,es',ob,h6,g2,g3⟩
      refine ⟨h1,hw,Nat.le_succ _,fun x hx=>?_,fun id cells h=>?_⟩
      .simp only [wkV,VR] at hx ⊢
       subst hx
       exact ⟨none,0,rfl,qk _,by simp,.inl (by simp)⟩
      .have:=hr.ltH _ _ h
       simp only [wkV,ybx]
       rw [qc (by omega)]
       exact h
    | own es' id off len ex=>
      refine ⟨hr,fun _ _ h=>h,qk _,fun x hx=>?_,fun _ _ h=>h⟩
      simp only [wkV,VR] at hx ⊢
      obtain ⟨B,c,h1,h2,h3,h4⟩:=hx
      exact ⟨B,c,h1,h2,by simp,h4⟩
    | _=>exact ⟨hr,fun _ _ h=>h,qk _,fun x hx=>hx,fun _ _ h=>h⟩
theorem ydu(h:∀ b o,Wr O H' b o->Wr O H b o):ydo w (UU A O H) w (UU A O H'):=ydo.less fun b o hu=>hu.imp_right (h b o)
theorem ycdj(hr:Rep A O H nx w){id:Nat}{cells cells':List AV}(hid:lk H id=some (.box cells))(hH:∀ k,lk H' k=if k=id then some (.box cells') else lk H k)
    (hc:∀ xs,VRs w (UU A O H) O cells xs->VRs w (UU A O H) O cells' xs):Rep A O H' nx w/\∀ b o,Wr O H' b o->Wr O H b o:=by
  have hw:∀ b o,Wr O H' b o->Wr O H b o:=by
    rintro b' o ⟨id',es',o',g1,g2,g3⟩
    rw [hH] at g1
    by_cases hi:id' = id
    .subst hi
     exact ⟨id',es',_,hid,g2,trivial⟩
    .rw [qc hi] at g1
     exact ⟨id',es',o',g1,g2,g3⟩
  have old:∀ k o,lk H' k=some o->∃ o',lk H k=some o':=by
    intro k o hk
    rw [hH] at hk
    by_cases hi:k=id
    .subst hi; exact ⟨_,hid⟩
    .rw [qc hi] at hk; exact ⟨o,hk⟩
  refine ⟨?_,hw⟩
  exact
    { ob:=fun i o b' es' g1 g2=>by
       rw [hH] at g1
       by_cases hi:i=id
       .subst hi
        rw [qe rfl] at g1
        obtain rfl:=qd g1
        obtain ⟨C,e,fr,k1,k2,k3⟩:=hr.ob _ _ b' es' hid g2
        exact ⟨C,e,fr,k1,k2,ydp (ydu hw) _ _ _ _ (Ext.refl _) (hc _ k3)⟩
       .rw [qc hi] at g1
        exact ygd (ydu hw) (Ext.refl _) rfl (hr.ob i o b' es' g1 g2)
      inj:=fun i j oi oj b' ei ej g1 g2 g3 g4=>by
        obtain ⟨o1,g5⟩:=old i oi g1
        obtain ⟨o2,g6⟩:=old j oj g2
        exact hr.inj i j o1 o2 b' ei ej g5 g6 g3 g4
      ltH:=fun i o g1=>by
        obtain ⟨o1,g5⟩:=old i o g1
        exact hr.ltH i o1 g5
      ltR:=hr.ltR
      ltA:=hr.ltA
      apart:=fun i o b' es' off g1 g2=>by
        obtain ⟨o1,g5⟩:=old i o g1
        exact hr.apart i o1 b' es' off g5 g2 }
theorem ydho(h:SR A E nt s a w){t:Nat}{k:WV}{v:AV}(hv0:lk s.env t=some v){e:List (Nat × AV)}(he:upd s.env t (wkV k v s.H s.nx).1=some e) :
    SR A E nt { s with env:=e,H:=(wkV k v s.H s.nx).2.1,nx:=(wkV k v s.H s.nx).2.2 } a w:=by
  obtain ⟨O,hr,hv,hx,hf⟩:=h.ex
  obtain ⟨g1,g2,g3,g4,_⟩:=yavs hr k v
  have hle:=yey he
  refine ⟨fun t' x hx=>?_,h.size,h.defers,O,g1,fun t'=>?_,⟨hx.ext,hx.cl,ww hx.le g3⟩,hf.trans (yhj g2)⟩
  .have hx:lk e t' = some x:=hx
   rw [hle] at hx
   by_cases ht:t' = t
   .subst ht; exact h.disj _ _ hv0
   .rw [qc ht] at hx; exact h.disj _ _ hx
  .have h1:=hv t'
   rw [ykq] at h1 ⊢
   show VR w _ O ((lk s.loc t').getD ((lk e t').getD .bad)) _
   rw [hle]
   by_cases ht:t' = t
   .subst ht
    have hl:=h.disj _ _ hv0
    rw [hl,hv0] at h1
    rw [hl,qe rfl]
    exact g4 _ h1
   .rw [qc ht]
    exact ydw (ydu g2) _ _ _ _ (Ext.refl _) h1
theorem ybtx{w:World}{U:Nat->Nat->Prop}{as:List AV}{xs:List Value}{i:Nat}{v v':AV}(h:VRs w U O as xs)(hi:as[i]? = some v)(hv:∀ x,VR w U O v x->VR w U O v' x):VRs w U O (ycp as i [v']) xs:=by
  refine ymb (by rw [yfj]; exact ycd h) fun j b hb=>?_
  rw [ylx] at hb
  split at hb
  .rename_i hc
   simp only [ws,List.length_nil] at hc
   have:j=i:=by omega
   subst this
   simp at hb
   subst hb
   obtain ⟨x,h1,h2⟩:=ydz h hi
   exact ⟨x,h1,hv x h2⟩
  .exact ydz h hb
theorem ycdm(h:SR A E nt s a w){id o:Nat}{k:WV}{v:AV}{cells:List AV}(hb:lk s.H id=some (.box cells))(hc:cells[o]? = some v){H:yr}(hH:upd (wkV k v s.H s.nx).2.1 id (.box (ycp cells o [(wkV k v s.H s.nx).1])) = some H) :
    SR A E nt { s with H:=H,nx:=(wkV k v s.H s.nx).2.2 } a w:=by
  obtain ⟨O,hr,hv,hx,hf⟩:=h.ex
  obtain ⟨g1,g2,g3,g4,g5⟩:=yavs hr k v
  have hid:=g5 id cells hb
  have hst:ydo w (UU A O s.H) w (UU A O (wkV k v s.H s.nx).2.1):=ydu g2
  have hold:∀ xs,VRs w (UU A O s.H) O cells xs->VRs w (UU A O (wkV k v s.H s.nx).2.1) O (ycp cells o [(wkV k v s.H s.nx).1]) xs:=by
    intro xs hxs
    refine ymb (by rw [yfj]; exact ycd hxs) fun j b hbj=>?_
    rw [ylx] at hbj
    split at hbj
    .rename_i hcc
     simp only [ws,List.length_nil] at hcc
     have:j=o:=by omega
     subst this
     simp at hbj
     subst hbj
     obtain ⟨x,h1,h2⟩:=ydz hxs hc
     exact ⟨x,h1,g4 x h2⟩
    .obtain ⟨x,h1,h2⟩:=ydz hxs hbj
     exact ⟨x,h1,ydw hst _ _ _ _ (Ext.refl _) h2⟩
  have hlk:=yey hH
  have hw:∀ b o,Wr O H b o->Wr O (wkV k v s.H s.nx).2.1 b o:=by
    rintro b' o' ⟨id',es',ob',q1,q2,q3⟩
    rw [hlk] at q1
    by_cases hi:id' = id
    .subst hi
     exact ⟨id',es',_,hid,q2,trivial⟩
    .rw [qc hi] at q1
     exact ⟨id',es',ob',q1,q2,q3⟩
  have old:∀ k' o',lk H k' = some o'->∃ o'',lk (wkV k v s.H s.nx).2.1 k' = some o'':=by
    intro k' o' hk
    rw [hlk] at hk
    by_cases hi:k' = id
    .subst hi; exact ⟨_,hid⟩
    .rw [qc hi] at hk; exact ⟨_,hk⟩
  have hrep:Rep A O H (wkV k v s.H s.nx).2.2 w:=
    { ob:=fun i o' b' es' q1 q2=>by
       rw [hlk] at q1
       by_cases hi:i=id
       .subst hi
        rw [qe rfl] at q1
        obtain rfl:=qd q1
        obtain ⟨C,e,fr,k1,k2,k3⟩:=hr.ob _ _ b' es' hb q2
        exact ⟨C,e,fr,k1,k2,ydp (ydu hw) _ _ _ _ (Ext.refl _) (hold _ k3)⟩
       .rw [qc hi] at q1
        exact ygd (ydu hw) (Ext.refl _) rfl (g1.ob i o' b' es' q1 q2)
      inj:=fun i j oi oj b' ei ej q1 q2 q3 q4=>by
        obtain ⟨o1,q5⟩:=old i oi q1
        obtain ⟨o2,q6⟩:=old j oj q2
        exact g1.inj i j o1 o2 b' ei ej q5 q6 q3 q4
      ltH:=fun i o' q1=>by
        obtain ⟨o1,q5⟩:=old i o' q1
        exact g1.ltH i o1 q5
      ltR:=g1.ltR
      ltA:=g1.ltA
      apart:=fun i o' b' es' off q1 q2=>by
        obtain ⟨o1,q5⟩:=old i o' q1
        exact g1.apart i o1 b' es' off q5 q2 }
  have hww:∀ b o,Wr O H b o->Wr O s.H b o:=fun b o hh=>g2 b o (hw b o hh)
  refine ⟨h.disj,h.size,h.defers,O,hrep,fun t'=>?_,⟨hx.ext,hx.cl,ww hx.le g3⟩,hf.trans (yhj hww)⟩
  have h1:=hv t'
  exact ydw (ydu hww) _ _ _ _ (Ext.refl _) h1
theorem ycmt(h:SR A E nt s a w):SR A E nt ⟨s.env,s.loc,yhs s.H s.nx,s.nx⟩ a w:=by
  obtain ⟨O,hr,hv,hx,hf⟩:=h.ex
  have hk:∀ k o,lk (yhs s.H s.nx) k=some o->lk s.H k=some o:=by
    intro k o hk
    rw [yamj] at hk
    split at hk
    .exact hk
    .cases hk
  refine ⟨h.disj,h.size,h.defers,O,ynx hr hk,fun t=>?_,hx,hf.trans (yhj fun b o=>ymr hk)⟩
  have h1:=hv t
  exact ydw (ydu fun b o=>ymr hk) _ _ _ _ (Ext.refl _) h1
theorem yatw(hr:Rep A O H nx w){id es' leak:Nat}{rows:List (List AV)}(ho:lk H id=some (.arr es' rows leak)) :
    ∃ Z,Rep A Z ((nx,.arr es' rows leak) :: rmv H id) (nx + 1) w/\ygs O nx Z (nx + 1)/\Fr O H w Z ((nx,.arr es' rows leak) :: rmv H id) w/\∀ x,O id=some x->Z nx=some x:=by
  have hH:∀ k,lk ((nx,Ob.arr es' rows leak) :: rmv H id) k=if k=nx then some (.arr es' rows leak) else if k=id then none else lk H k:=by
    intro k
    rw [ybx,yjl]
    by_cases hk:nx=k
    .subst hk; simp
    .have:¬ k=nx:=fun e=>hk e.symm
     simp [hk,this]
  cases hρ:O id with
  | none=>
    have sub:∀ k o,lk (rmv H id) k=some o->lk H k=some o:=by
      intro k o hk
      rw [yjl] at hk
      split at hk
      .cases hk
      .exact hk
    obtain ⟨g1,g2⟩:=yxv (ynx hr sub) (.arr es' rows leak)
    exact ⟨O,g1,ygs.more _ _,(yhj fun b o=>ymr sub).trans g2,fun x hx=>by cases hx⟩
  | some x=>
    obtain ⟨b,es2⟩:=x
    obtain ⟨g1,g2⟩:=yaqh hr ho hρ hH (by intro c; simp)
    refine ⟨_,g1,hr.ext2 _,{ size:=qk _,os:=rfl,tape:=rfl,output:=rfl,cells:=fun b C e fr h=>⟨C,h,rfl,fun _ _=>rfl⟩,other:=fun b ob h _=>h,shrink:=fun b o _ hw=>g2 b o hw },fun y hy=>?_⟩
    rw [yic]; exact hy
theorem ybrg{U U':Nat->Nat->Prop}{Z:Rho}{id nx es off len:Nat}{ex:Bool}{x:Value}(gid:∀ y,O id=some y->Z nx=some y)(h:VR w U O (.own es id off len ex) x):VR w U' Z (.own es nx off len ex) x:=by
  simp only [VR] at h ⊢
  obtain ⟨B,c,k1,k2,k3,k4⟩:=h
  refine ⟨B,c,k1,k2,k3,?_⟩
  rcases k4 with k4 | ⟨b,C,e',fr,q1,q2⟩
  .exact .inl k4
  .exact .inr ⟨b,C,e',fr,gid _ q1,q2⟩
theorem ycmw(h:SR A E nt s a w){t es id off len leak es':Nat}{ex:Bool}{rows:List (List AV)}(hv0:lk s.env t=some (.own es id off len ex))(ho:lk s.H id=some (.arr es' rows leak)){e:List (Nat × AV)}(he:upd s.env t (.own es s.nx off len ex) = some e) :
    SR A E nt { s with env:=e,H:=(s.nx,.arr es' rows leak) :: rmv s.H id,nx:=s.nx + 1 } a w:=by
  obtain ⟨O,hr,hv,hx,hf⟩:=h.ex
  have hle:=yey he
  have hl0:=h.disj _ _ hv0
  have hvt:=hv t
  rw [ykq,hl0,hv0] at hvt
  obtain ⟨Z,g1,gx2,gf,gid⟩:=yatw hr ho
  refine ⟨fun t' x hx=>?_,h.size,h.defers,Z,g1,fun t'=>?_,hx.trans gx2,hf.trans gf⟩
  .have hx:lk e t' = some x:=hx
   rw [hle] at hx
   by_cases ht:t' = t
   .subst ht; exact hl0
   .rw [qc ht] at hx; exact h.disj _ _ hx
  .have h1:=hv t'
   rw [ykq] at h1 ⊢
   show VR w _ Z ((lk s.loc t').getD ((lk e t').getD .bad)) _
   rw [hle]
   by_cases ht:t' = t
   .subst ht
    rw [hl0,qe rfl]
    exact ybrg gid hvt
   .rw [qc ht]
    exact yacs gf gx2.ext h1
theorem ycdq(h:SR A E nt s a w){id o j es f len leak es':Nat}{ex:Bool}{rows:List (List AV)}{cells:List AV}(hb:lk s.H id=some (.box cells))(hc:cells[o]? = some (.own es j f len ex))(hj:lk s.H j=some (.arr es' rows leak))
    {H':yr} (hH':upd s.H id (.box (ycp cells o [.own es s.nx f len ex])) = some H') :
    SR A E nt { s with H:=(s.nx,.arr es' rows leak) :: rmv H' j,nx:=s.nx + 1 } a w:=by
  obtain ⟨O,hr,hv,hx,hf⟩:=h.ex
  obtain ⟨Z,g1,gx2,gf,gid⟩:=yatw hr hj
  have hne:id≠j:=fun e=>by rw [e,hj] at hb; cases hb
  have hnx:id≠s.nx:=fun e=>by have:=hr.ltH _ _ hb; omega
  have hid1:lk ((s.nx,Ob.arr es' rows leak) :: rmv s.H j) id=some (.box cells):=by
    rw [ybx,qc (fun e=>hnx e.symm),yjl,qc hne]; exact hb
  have hle:=yey hH'
  have hH2:∀ k,lk ((s.nx,Ob.arr es' rows leak) :: rmv H' j) k=if k=id then some (.box (ycp cells o [.own es s.nx f len ex])) else lk ((s.nx,Ob.arr es' rows leak) :: rmv s.H j) k:=by
    intro k
    rw [ybx,ybx,yjl,yjl,hle]
    by_cases hk:k=id
    .subst hk
     rw [qc (fun e=>hnx e.symm),qc hne,qe rfl,qe rfl]
    .rw [qc hk,qc hk]
  obtain ⟨q1,q2⟩:=ycdj g1 hid1 hH2 fun xs hxs=>ybtx hxs hc fun x hx=>by
    simp only [VR] at hx ⊢
    obtain ⟨B,c,k1,k2,k3,k4⟩:=hx
    refine ⟨B,c,k1,k2,k3,?_⟩
    rcases k4 with k4 | ⟨b,C,e',fr,q1,q2⟩
    .exact .inl k4
    .refine .inr ⟨b,C,e',fr,?_,q2⟩
     cases hρ:O j with
     | some y=>
       have h1:=gx2.ext _ _ hρ
       rw [h1] at q1
       exact gid _ (by rw [hρ]; exact q1)
     | none=>
       have:=gx2.cl j (hr.ltH _ _ hj) hρ
       rw [this] at q1; cases q1
  have gf2:=gf.trans (yhj q2)
  exact ⟨h.disj,h.size,h.defers,Z,q1,fun t'=>yacs gf2 gx2.ext (hv t'),hx.trans gx2,hf.trans gf2⟩
theorem yatq:∀ (ids:List Nat) (H:yr) (k:Nat) (o:Ob),lk (yem H ids) k=some o->lk H k=some o
  | [],_,_,_,h=>h
  | i :: r,H,k,o,h=>by
    have h1:=yatq r (rmv H i) k o h
    rw [yjl] at h1
    split at h1
    .cases h1
    .exact h1
theorem ycdn(h:SR A E nt s a w)(ids:List Nat):SR A E nt { s with H:=yem s.H ids } a w:=by
  obtain ⟨O,hr,hv,hx,hf⟩:=h.ex
  have hk:=yatq ids s.H
  exact ⟨h.disj,h.size,h.defers,O,ynx hr hk,fun t=>ydw (ydu fun b o=>ymr hk) _ _ _ _ (Ext.refl _) (hv t),hx,hf.trans (yhj fun b o=>ymr hk)⟩
theorem yaqj(h:SR A E nt s a w){H1:yr}(hl:yby s.H H1){id:Nat}{ob ob':Ob}(hid:lk s.H id=some ob)(hid1:lk H1 id=some ob){H:yr}(hH:upd H1 id ob' = some H)(hwr:∀ es o,yjc es o ob'->yjc es o ob)
    (hob:∀ O b es,Rep A O s.H s.nx w->ObR w (UU A O s.H) O b es ob->ObR w (UU A O H1) O b es ob'):SR A E nt { s with H:=H } a w:=by
  obtain ⟨O,hr,hv,hx,hf⟩:=h.ex
  have hr1:=yre hr hl
  have hlk:=yey hH
  have hw:∀ b o,Wr O H b o->Wr O H1 b o:=by
    rintro b o ⟨i,es',o',g1,g2,g3⟩
    rw [hlk] at g1
    by_cases hi:i=id
    .subst hi
     rw [qe rfl] at g1
     obtain rfl:=qd g1
     exact ⟨i,es',_,hid1,g2,hwr _ _ g3⟩
    .rw [qc hi] at g1
     exact ⟨i,es',o',g1,g2,g3⟩
  have old:∀ k o,lk H k=some o->∃ o',lk H1 k=some o':=by
    intro k o hk
    rw [hlk] at hk
    by_cases hi:k=id
    .subst hi; exact ⟨_,hid1⟩
    .rw [qc hi] at hk; exact ⟨_,hk⟩
  have hrep:Rep A O H s.nx w:=
    { ob:=fun i o b es' g1 g2=>by
       rw [hlk] at g1
       by_cases hi:i=id
       .subst hi
        rw [qe rfl] at g1
        obtain rfl:=qd g1
        exact ygd (ydu hw) (Ext.refl _) rfl (hob O b es' hr (hr.ob i _ b es' hid g2))
       .rw [qc hi] at g1
        exact ygd (ydu hw) (Ext.refl _) rfl (hr1.ob i o b es' g1 g2)
      inj:=fun i j oi oj b ei ej g1 g2 g3 g4=>by
        obtain ⟨o1,g5⟩:=old i oi g1
        obtain ⟨o2,g6⟩:=old j oj g2
        exact hr1.inj i j o1 o2 b ei ej g5 g6 g3 g4
      ltH:=fun i o g1=>by
        obtain ⟨o1,g5⟩:=old i o g1
        exact hr1.ltH i o1 g5
      ltR:=hr1.ltR
      ltA:=hr1.ltA
      apart:=fun i o b es' off g1 g2=>by
        obtain ⟨o1,g5⟩:=old i o g1
        exact hr1.apart i o1 b es' off g5 g2 }
  have hww:∀ b o,Wr O H b o->Wr O s.H b o:=fun b o hh=>yoa hl (hw b o hh)
  refine ⟨h.disj,h.size,h.defers,O,hrep,fun t'=>?_,⟨hx.ext,hx.cl,hx.le⟩,hf.trans (yhj hww)⟩
  exact ydw (ydu hww) _ _ _ _ (Ext.refl _) (hv t')
theorem ybhd(n es:Nat)(rows:List (List AV)):ydh n (.arx es rows) = .arx es rows:=rfl
theorem ycmx(h:SR A E nt s a w){id es:Nat}{rows:List (List AV)}(hid:lk s.H id=some (.arr es rows 0)){H:yr}(hH:upd s.H id (.arx es rows) = some H):SR A E nt { s with H:=H } a w:=
  yaqj h (yby.refl _) hid hid hH (fun es' o _=>by simp [yjc]) fun O b es' hr ho=>by
   obtain ⟨q1,q2,C,e,fr,q3,q4,q5⟩:=ho
   exact ⟨q1,q2,C,e,fr,q3,q4,ybjb O q5⟩
theorem ycdr(h:SR A E nt s a w){id es i:Nat}{rows:List (List AV)}{row:List AV}(hid:lk s.H id=some (.arx es rows))(hi:rows[i]? = some row){H:yr}(hH:upd (yeu s.H row) id (.arx es (rows.set i (ydn s.H row))) = some H):SR A E nt { s with H:=H } a w:=by
  have hl:=yla row s.H
  obtain ⟨n,hid1⟩:=hl.get _ _ hid
  rw [ybhd] at hid1
  refine yaqj h hl hid hid1 hH (fun es' o h=>h) fun O b es' hr ho=>?_
  obtain ⟨q1,q2,C,e,fr,q3,q4,q5⟩:=ho
  have hst:ydo w (UU A O s.H) w (UU A O (yeu s.H row)):=ydu fun b o=>yoa hl
  refine ⟨q1,q2,C,e,fr,q3,q4,ywu fun j r hj=>?_⟩
  rw [List.getElem?_set] at hj
  split at hj
  .rename_i hij
   subst hij
   split at hj
   .simp only [qa] at hj
    subst hj
    obtain ⟨g1,g2,g3,g4⟩:=ylp q5 hi
    have hz:=ytv hr row s.H (yby.refl _) (yeu s.H row) (yby.refl _) _ g3
    refine ⟨?_,g2,ydp (ydo.refl _ _) _ _ _ _ (fun _ _ h=>by simp [ych] at h) hz,g4⟩
    rw [ycd hz,← ycd g3]
    exact g1
   .cases hj
  .obtain ⟨g1,g2,g3,g4⟩:=ylp q5 hj
   exact ⟨g1,g2,ydp hst _ _ _ _ (Ext.refl _) g3,g4⟩
theorem ycmy(h:SR A E nt s a w){id es:Nat}{rows:List (List AV)}(hid:lk s.H id=some (.arx es rows))(hf:rows.all ygk=true){H:yr}(hH:upd s.H id (.arr es rows 0) = some H):SR A E nt { s with H:=H } a w:=
  yaqj h (yby.refl _) hid hid hH (fun es' o _=>by simp [yjc]) fun O b es' hr ho=>by
   obtain ⟨q1,q2,C,e,fr,q3,q4,q5⟩:=ho
   refine ⟨q1,q2,C,e,fr,q3,q4,yni fun j r hj=>?_⟩
   obtain ⟨g1,g2,g3,g4⟩:=ylp q5 hj
   exact ⟨g1,g2,yxw _ _ (List.all_eq_true.1 hf r (wa hj)) g3,g4⟩
theorem ycmu(h:SR A E nt s a w){id n es leak:Nat}{rows:List (List AV)}(hid:lk s.H id=some (.arr es rows leak)){H:yr}(hH:upd s.H id (.arr es (rows.take n) leak) = some H):SR A E nt { s with H:=H } a w:=by
  obtain ⟨O,hr,hv,hx,hf⟩:=h.ex
  have hlk:=yey hH
  have hw:∀ b o,Wr O H b o->Wr O s.H b o:=by
    rintro b o ⟨i,es',ob,g1,g2,g3⟩
    rw [hlk] at g1
    by_cases hi:i=id
    .subst hi
     rw [qe rfl] at g1
     obtain rfl:=qd g1
     exact ⟨i,es',_,hid,g2,g3⟩
    .rw [qc hi] at g1
     exact ⟨i,es',ob,g1,g2,g3⟩
  have old:∀ k o,lk H k=some o->∃ o',lk s.H k=some o':=by
    intro k o hk
    rw [hlk] at hk
    by_cases hi:k=id
    .subst hi; exact ⟨_,hid⟩
    .rw [qc hi] at hk; exact ⟨_,hk⟩
  have hrep:Rep A O H s.nx w:=
    { ob:=fun i o b es' g1 g2=>by
       rw [hlk] at g1
       by_cases hi:i=id
       .subst hi
        rw [qe rfl] at g1
        obtain rfl:=qd g1
        refine ygd (ydu hw) (Ext.refl _) rfl ?_
        obtain ⟨e1,e2,C,e,fr,k1,k2,k3⟩:=hr.ob i _ b es' hid g2
        exact ⟨e1,e2,C,e,fr,k1,k2,yaqb k3 n⟩
       .rw [qc hi] at g1
        exact ygd (ydu hw) (Ext.refl _) rfl (hr.ob i o b es' g1 g2)
      inj:=fun i j oi oj b ei ej g1 g2 g3 g4=>by
        obtain ⟨o1,g5⟩:=old i oi g1
        obtain ⟨o2,g6⟩:=old j oj g2
        exact hr.inj i j o1 o2 b ei ej g5 g6 g3 g4
      ltH:=fun i o g1=>by
        obtain ⟨o1,g5⟩:=old i o g1
        exact hr.ltH i o1 g5
      ltR:=hr.ltR
      ltA:=hr.ltA
      apart:=fun i o b es' off g1 g2=>by
        obtain ⟨o1,g5⟩:=old i o g1
        exact hr.apart i o1 b es' off g5 g2 }
  exact ⟨h.disj,h.size,h.defers,O,hrep,fun t=>ydw (ydu hw) _ _ _ _ (Ext.refl _) (hv t),hx,hf.trans (yhj hw)⟩
theorem ydln{m:Nat}{x:WA}(h:yik m x s=some s'):ypz m s s':=by
  intro nt A E a w hm hE hs
  cases x with
  | kill ts=>
    simp only [yik,qa] at h
    subst h
    exact ycdp hs ts
  | «at» t k=>
    simp only [yik] at h
    split at h
    .rename_i v hv
     split at h
     .rename_i e he
      simp only [qa] at h
      subst h
      exact ydho hs hv he
     .cases h
    .cases h
  | cell t off k=>
    simp only [yik] at h
    split at h
    .rename_i id o hv
     split at h
     .rename_i cells hb
      split at h
      .rename_i v hc
       split at h
       .rename_i H hH
        simp only [qa] at h
        subst h
        exact ycdm hs hb hc hH
       .cases h
      .cases h
     .cases h
    .cases h
  | mov t=>
    simp only [yik] at h
    split at h
    .rename_i es id off len ex hv
     split at h
     .rename_i es' rows leak e ho he
      simp only [qa] at h
      subst h
      exact ycmw hs hv ho he
     .cases h
    .cases h
  | movc t off=>
    simp only [yik] at h
    split at h
    .rename_i id o hv
     split at h
     .rename_i cells hb
      split at h
      .rename_i es j f len ex hc
       split at h
       .rename_i es' rows leak H' hj hH
        simp only [qa] at h
        subst h
        exact ycdq hs hb hc hj hH
       .cases h
      .cases h
     .cases h
    .cases h
  | drop ids=>
    simp only [yik,qa] at h
    subst h
    exact ycdn hs ids
  | cut id n=>
    simp only [yik] at h
    split at h
    .rename_i es rows leak hid
     split at h
     .rename_i H hH
      simp only [qa] at h
      subst h
      exact ycmu hs hid hH
     .cases h
    .cases h
  | toX id=>
    simp only [yik] at h
    split at h
    .rename_i es rows hid
     split at h
     .rename_i H hH
      simp only [qa] at h
      subst h
      exact ycmx hs hid hH
     .cases h
    .cases h
  | rowf id i=>
    simp only [yik] at h
    split at h
    .rename_i es rows hid
     split at h
     .rename_i row hi
      split at h
      .rename_i H hH
       simp only [qa] at h
       subst h
       exact ycdr hs hid hi hH
      .cases h
     .cases h
    .cases h
  | unX id=>
    simp only [yik] at h
    split at h
    .rename_i es rows hid
     split at h
     .rename_i hf
      split at h
      .rename_i H hH
       simp only [qa] at h
       subst h
       exact ycmy hs hid hf hH
      .cases h
     .cases h
    .cases h
  | tidy=>
    simp only [yik,qa] at h
    subst h
    subst hm
    exact ycmt (yaxd hE hs)
theorem weak{m:Nat}:∀ {l:List WA} {s s':St},evW m l s=some s'->ypz m s s'
  | [],s,s',h=>by
    simp only [evW,qa] at h
    subst h
    exact ypz.refl _ _
  | x :: r,s,s',h=>by
    simp only [evW] at h
    split at h
    .rename_i s1 h1
     exact (ydln h1).trans (weak h)
    .cases h
end
end Go.Proofs.Ytgoachcogmlhcaa.R
