/- Equations for slices that are made, appended to, written. -/
import Derived.Test.YtgoachcogmlhcaaGreatREv
set_option linter.unusedVariables false
set_option linter.unusedSectionVars false
set_option linter.unusedSimpArgs false
noncomputable section
namespace Go.Proofs.YtgoachcogmlhcaaGreat.R
open Go
section
variable (es:Nat) (e l:List (Nat × AV)) (H:yq) (nx:Nat)
def yva(b:Bool)(x:Option (AV × St)):Option (AV × St):=if b=true then x else none
theorem ydlo(x:Option (AV × St)):yva true x=x:=rfl
theorem ybqx(rows:List (List AV)):yck ⟨e,l,H,nx⟩ es rows=yva (yco rows.length) (some (.own es nx 0 rows.length false,⟨e,l,(nx,.arr es rows 0) :: H,nx + 1⟩)):=by
  simp only [yck,yva,yco,St.add]
  by_cases h:rows.length≤yks <;> simp [h]
def appK(s:St)(base:AV):Option (List (List AV))→Option (AV × St)
  | some new=>
    match base with
    | .nil=>yck s es new
    | .imm es' rows ex=>
      if yfz es es' rows=true∧ex=true then
       if rows.length=0 then yck s es new
       else if 0 < new.length then yck s es (rows++new) else none
      else none
    | .own es' id off len ex=>
      if es' = es then
       match lk s.H id with
       | some (.arr _ rows leak)=>
         if ex=true then
          if len=0 then yck s es new
          else if 0 < new.length∧off + len≤rows.length then yck s es ((rows.drop off).take len++new) else none
         else if off=0∧len≤rows.length∧leak≤len∧len + new.length≤yks then
           some (.own es s.nx 0 (len + new.length) false,(s.setH (rmv s.H id)).add (.arr es (rows.take len++new) leak))
         else none
       | _=>none
      else none
    | _=>none
  | none=>none
theorem ycqd(s:St)(base x:AV):yfy es s base x=appK es s base (yci es s.H x):=by
  unfold yfy appK
  cases yci es s.H x <;> rfl
theorem ybtq(s:St)(new:List (List AV)):appK es s .nil (some new) = yck s es new:=rfl
theorem ybtp(s:St)(new:List (List AV))(es':Nat):appK es s (.imm es' [] true) (some new) = yck s es new:=by simp [appK,yfz]
def appO(id off len:Nat)(ex:Bool)(new:List (List AV)):Option Ob→Option (AV × St)
  | some (.arr _ rows leak)=>
    if ex=true then
     if len=0 then yck ⟨e,l,H,nx⟩ es new
     else if 0 < new.length∧off + len≤rows.length then yck ⟨e,l,H,nx⟩ es ((rows.drop off).take len++new) else none
    else if off=0∧len≤rows.length∧leak≤len then
      yva (yco (len + new.length)) (some (.own es nx 0 (len + new.length) false,⟨e,l,(nx,.arr es (rows.take len++new) leak) :: rmv H id,nx + 1⟩))
    else none
  | _=>none
theorem ybtr(id off len:Nat)(ex:Bool)(new:List (List AV)):appK es ⟨e,l,H,nx⟩ (.own es id off len ex) (some new) = appO es e l H nx id off len ex new (lk H id):=by
  simp only [appK,if_true,appO]
  cases lk H id with
  | none=>rfl
  | some o=>
    cases o with
    | box c=>rfl
    | arr es2 rows leak=>
      simp only [yva,yco,St.add,St.setH]
      split
      ·rfl
      ·by_cases h:off=0∧len≤rows.length∧leak≤len
       ·rw [if_pos h]
        by_cases h2:len + new.length≤yks
        ·rw [if_pos ⟨h.1,h.2.1,h.2.2,h2⟩]; simp [h2]
        ·rw [if_neg (fun hh=>h2 hh.2.2.2)]; simp [h2]
       ·rw [if_neg h,if_neg (fun hh=>h ⟨hh.1,hh.2.1,hh.2.2.1⟩)]
theorem ycqb(id len es2:Nat)(new rows:List (List AV))(leak:Nat):appO es e l H nx id 0 len false new (some (.arr es2 rows leak)) = if len=rows.length then (if leak≤len then yva (yco (len + new.length)) (some (.own es nx 0 (len + new.length) false,⟨e,l,(nx,.arr es (rows++new) leak) :: rmv H id,nx + 1⟩)) else none) else if len≤rows.length∧leak≤len then yva (yco (len + new.length)) (some (.own es nx 0 (len + new.length) false,⟨e,l,(nx,.arr es (rows.take len++new) leak) :: rmv H id,nx + 1⟩)) else none:=by
  by_cases h:len=rows.length
  ·subst h
   simp [appO]
  ·rw [if_neg h]
   simp [appO]
theorem ycqc(id len es2:Nat)(new rows:List (List AV))(leak:Nat):appO es e l H nx id 0 len true new (some (.arr es2 rows leak)) = if len=0 then yck ⟨e,l,H,nx⟩ es new else if 0 < new.length∧len≤rows.length then yck ⟨e,l,H,nx⟩ es (rows.take len++new) else none:=by
  simp [appO]
end
def yzp(off len:Nat):Option Ob→Option (List (List AV))
  | some (.arr _ rows _)=>if off + len≤rows.length then some ((rows.drop off).take len) else none
  | _=>none
theorem ycbq(n:Nat)(H:yq)(id off len:Nat)(ex:Bool):yci n H (.own n id off len ex) = yzp off len (lk H id):=by
  simp only [yci,ydt,if_true,yzp]
  cases lk H id with
  | none=>rfl
  | some o=>cases o <;> rfl
theorem ybsm(n:Nat)(H:yq)(id off len:Nat)(ex:Bool):ydt n H (.own n id off len ex) = yzp off len (lk H id):=by
  simp only [ydt,if_true,yzp]
  cases lk H id with
  | none=>rfl
  | some o=>cases o <;> rfl
theorem yacj{α:Type}{l:List α}{n:Nat}(h:l.length=n):l.take n=l:=by subst h; simp
theorem ybra(len es:Nat)(rows:List (List AV))(leak:Nat)(h:rows.length=len):yzp 0 len (some (.arr es rows leak)) = some rows:=by
  simp [yzp,h,yacj]
theorem ycbo(n:Nat)(H:yq):yci n H .nil=some []:=rfl
theorem ycpd(H:yq)(s:ByteArray):yci 1 H (.str s) = some (ygf s):=rfl
def yrz(off len:Nat):Option Ob→AV
  | some (.arr _ rows _)=>if off + len≤rows.length then yca ((rows.drop off).take len) else .bad
  | _=>.bad
theorem ybvx(H:yq)(es id off len:Nat)(ex:Bool):frz H (.own es id off len ex) = yrz off len (lk H id):=by
  simp only [frz,yrz]
  cases lk H id with
  | none=>rfl
  | some o=>cases o <;> rfl
theorem ybhz{α:Type}{c:α→List AV}(l:List α)(es leak len:Nat)(h:l.length=len):yrz 0 len (some (.arr es (l.map c) leak)) = sl c l:=by
  subst h
  simp [yrz,sl,yca,yacj]
theorem yayu(rows:List (List AV))(es leak len:Nat)(h:rows.length=len):yrz 0 len (some (.arr es rows leak)) = yca rows:=by
  subst h
  simp [yrz,yacj]
theorem ybqm(H:yq)(es id off len:Nat)(ex:Bool):ybm H (.own es id off len ex) = yju H id (off + len):=rfl
theorem ybei(id n:Nat):yju [] id n = []:=rfl
theorem yasg(id n k:Nat)(o:Ob)(r:yq):yju ((k,o) :: r) id n=(k,if k=id then ycu n o else o) :: yju r id n:=by
  simp only [yju,List.map_cons,List.cons.injEq,and_true]
  split <;> rfl
theorem ybej(es n leak:Nat)(rows:List (List AV)):ycu n (.arr es rows leak) = .arr es rows (max leak n):=rfl
theorem ybek(n:Nat)(cells:List AV):ycu n (.box cells) = .box cells:=rfl
theorem ydsd(n:Nat):max 0 n=n:=by omega
theorem ydse(n:Nat):max n n=n:=by omega
def mkB(n:Int):Bool:=decide (0≤n) && decide (n≤(yks:Int))
theorem ydlg(es:Nat)(z:List AV)(e l:List (Nat × AV))(H:yq)(nx:Nat)(n:Int):ypm es z ⟨e,l,H,nx⟩ (.int .i64 n) (.int .i64 n) = yva (mkB n) (some (.own es nx 0 n.toNat true,⟨e,l,(nx,.arr es (List.replicate n.toNat z) 0) :: H,nx + 1⟩)):=by
  simp only [ypm,mkB,yva,Int.le_refl,true_and]
  by_cases h0:0≤n
  ·by_cases h1:n≤(yks:Int)
   ·simp [h0,h1,St.add]
   ·simp [h0,h1]
  ·simp [h0]
def bslK(es len:Nat)(e l:List (Nat × AV))(H:yq)(nx:Nat):Option (List (List AV))→Option (AV × St)
  | some rows=>some (.own es nx 0 len true,⟨e,l,(nx,.arr es rows 0) :: H,nx + 1⟩)
  | none=>none
theorem ycqm(es len:Nat)(z:List AV)(e l:List (Nat × AV))(H:yq)(nx:Nat)(ps:List (Nat × AV)):ynx es z len ⟨e,l,H,nx⟩ ps=bslK es len e l (yec H ps) nx (yee es H (List.replicate len z) ps):=by
  unfold ynx bslK
  cases yee es H (List.replicate len z) ps <;> rfl
theorem ybgt(es len:Nat)(e l:List (Nat × AV))(H:yq)(nx:Nat)(rows:List (List AV)):bslK es len e l H nx (some rows) = some (.own es nx 0 len true,⟨e,l,(nx,.arr es rows 0) :: H,nx + 1⟩):=rfl
theorem ybhy(es:Nat)(H:yq)(rows:List (List AV)):yee es H rows [] = some rows:=rfl
def yalr(es:Nat)(H:yq)(rows:List (List AV))(i:Nat)(r:List (Nat × AV)):Option (List AV)→Option (List (List AV))
  | some vs=>if vs.length=es∧i < rows.length∧yfc vs=true∧ycq vs=true then yee es H (rows.set i vs) r else none
  | none=>none
theorem yayr(es:Nat)(H:yq)(rows:List (List AV))(i:Nat)(v:AV)(r:List (Nat × AV)):yee es H rows ((i,v) :: r) = yalr es H rows i r (cellsOf (frz H v)):=by
  simp only [yee,yalr]
  cases cellsOf (frz H v) <;> rfl
theorem yasf(es:Nat)(H:yq)(rows:List (List AV))(i:Nat)(r:List (Nat × AV))(vs:List AV):yalr es H rows i r (some vs) = if vs.length=es∧i < rows.length∧yfc vs=true∧ycq vs=true then yee es H (rows.set i vs) r else none:=rfl
theorem ybqj(H:yq):yec H [] = H:=rfl
theorem ybeh(H:yq)(i:Nat)(v:AV)(r:List (Nat × AV)):yec H ((i,v) :: r) = yec (ybm H v) r:=rfl
theorem ydti{α:Type}(x:α):List.replicate 0 x = []:=rfl
theorem ydtj{α:Type}(n:Nat)(x:α):List.replicate (n + 1) x=x :: List.replicate n x:=rfl
theorem ydto{α:Type}(a b:α)(l:List α):(a :: l).set 0 b=b :: l:=rfl
theorem ydtp{α:Type}(a b:α)(l:List α)(n:Nat):(a :: l).set (n + 1) b=a :: l.set n b:=rfl
theorem ydnc(e l:List (Nat × AV))(H:yq)(nx:Nat)(s:ByteArray):ypo ⟨e,l,H,nx⟩ (.str s) = some (sl (ci .u8) (yalb s),⟨e,l,(nx,.box []) :: H,nx + 1⟩):=by
  rw [ypo,yaad]
  rfl
theorem ycr{α:Type}{l:List α}{i:Int}{x:α}{k:IntKind}{n id len:Nat}{ex:Bool}(hx:ybu l i=some x)(hl:l.length=len):ykh n (.own n id 0 len ex) (.int k i) = some (.eptr id i.toNat 0):=by
  obtain ⟨h0,h1,h2⟩:=yxc hx
  subst hl
  have:i < (l.length:Int):=by omega
  simp [ykh,h0,this]
def ybi{α:Type}(l:List α)(i:Int)(x:α):List α:=l.set i.toNat x
theorem ycbf{α:Type}(l:List α)(k:Int)(x:α):(ybi l k x).length=l.length:=by simp [ybi]
def ldR(a:Bool)(size f:Nat):Option (List AV)→Option AV | some row=>part a size row f | none=>none
def ldE(a:Bool)(size f i:Nat):Option Ob→Option AV | some (.arr _ rows _)=>ldR a size f rows[i]? | _=>none
theorem ydsc(a:Bool)(size:Nat)(H:yq)(id i f:Nat):yhd a size H (.eptr id i f) = ldE a size f i (lk H id):=by
  simp only [yhd,ldE]
  cases lk H id with
  | none=>rfl
  | some o=>
    cases o
    ·rfl
    ·rename_i es rows leak
     simp only [ldR]
     cases rows[i]? <;> rfl
theorem yclu(a:Bool)(size f i es leak:Nat)(rows:List (List AV)):ldE a size f i (some (.arr es rows leak)) = ldR a size f rows[i]?:=rfl
theorem ybyl(a:Bool)(size f:Nat)(row:List AV):ldR a size f (some row) = part a size row f:=rfl
theorem ydw{α:Type}{c:α→List AV}{l:List α}{i:Int}{x:α}(hx:ybu l i=some x):(List.map c l)[i.toNat]? = some (c x):=by
  obtain ⟨_,_,g2⟩:=yxc hx
  simp [g2]
theorem ycbh{α:Type}{l l':List α}{hi:Int}{k:IntKind}{n id:Nat}(h:yby l 0 hi=some l'):yfa n (.own n id 0 l.length false) none (some (.int k hi)) none=some (.own n id 0 l'.length false):=by
  unfold yby at h
  split at h
  ·rename_i hc
   obtain rfl:=Option.some.inj h
   have hb:ygm l.length false none (some (.int k hi)) none=some (0,hi.toNat,false):=by
     simp [ygm,yhx,asI,hc.2.1,hc.2.2]
   have:min hi.toNat l.length=hi.toNat:=by omega
   simp [yfa,hb,this]
  ·cases h
theorem ycet{α:Type}{c:α→List AV}{l l':List α}{hi:Int}(h:yby l 0 hi=some l'):(List.map c l).take l'.length=List.map c l':=by
  unfold yby at h
  split at h
  ·rename_i hc
   obtain rfl:=Option.some.inj h
   have:min hi.toNat l.length=hi.toNat:=by omega
   simp [List.map_take,this]
  ·cases h
theorem ycbi{α:Type}{l l':List α}{lo:Int}{k:IntKind}{n id:Nat}(h:yby l lo l.length=some l'):yfa n (.own n id 0 l.length false) (some (.int k lo)) none none=some (.own n id lo.toNat l'.length false):=by
  unfold yby at h
  split at h
  ·rename_i hc
   obtain rfl:=Option.some.inj h
   have hb:ygm l.length false (some (.int k lo)) none none=some (lo.toNat,l.length,false):=by
     simp [ygm,yhx,asI,hc.1,hc.2.1]
   simp [yfa,hb]
  ·cases h
theorem ydoq{α:Type}{l l':List α}{lo:Int}(h:yby l lo l.length=some l'):lo.toNat + l'.length≤l.length:=by
  unfold yby at h
  split at h
  ·rename_i hc
   obtain rfl:=Option.some.inj h
   simp
   omega
  ·cases h
theorem ycrq{α:Type}{c:α→List AV}{l l':List α}{lo:Int}(h:yby l lo l.length=some l'):((List.map c l).drop lo.toNat).take l'.length=List.map c l':=by
  unfold yby at h
  split at h
  ·rename_i hc
   obtain rfl:=Option.some.inj h
   simp [List.map_drop]
   rw [List.take_of_length_le]
   simp
  ·cases h
theorem ycfd{α:Type}{c:α→List AV}{l l':List α}{lo:Int}(h:yby l lo l.length=some l')(es leak:Nat):yrz lo.toNat l'.length (some (.arr es (List.map c l) leak)) = sl c l':=by
  have h1:=ydoq h
  have h2:=ycrq (c:=c) h
  simp only [yrz,List.length_map]
  rw [if_pos h1,h2]
  rfl
def stE2(size id i f:Nat)(H:yq)(vs:List AV)(es:Nat)(rows:List (List AV))(leak:Nat):Option (List AV)→Option yq
  | some row=>if vs.length=size∧f + vs.length≤row.length∧leak≤i∧yfc vs=true∧ycq vs=true then upd H id (.arr es (rows.set i (ych row f vs)) leak) else none
  | none=>none
def stE1(size id i f:Nat)(H:yq):Option (List AV)→Option Ob→Option yq
  | some vs,some (.arr es rows leak)=>stE2 size id i f H vs es rows leak rows[i]?
  | _,_=>none
theorem ydtt(size:Nat)(H:yq)(id i f:Nat)(v:AV):yka size H (.eptr id i f) v=stE1 size id i f (ybm H v) (cellsOf (frz H v)) (lk (ybm H v) id):=by
  simp only [yka,stE1]
  cases cellsOf (frz H v) with
  | none=>rfl
  | some vs=>
    cases lk (ybm H v) id with
    | none=>rfl
    | some o=>
      cases o
      ·rfl
      ·rename_i es rows leak
       simp only [stE2]
       cases rows[i]? <;> rfl
theorem ycbs(size id i f:Nat)(H:yq)(vs:List AV)(es:Nat)(rows:List (List AV))(leak:Nat):stE1 size id i f H (some vs) (some (.arr es rows leak)) = stE2 size id i f H vs es rows leak rows[i]?:=rfl
theorem ybsx(size id i f:Nat)(H:yq)(vs:List AV)(es:Nat)(rows:List (List AV))(leak:Nat)(row:List AV):stE2 size id i f H vs es rows leak (some row) = if vs.length=size∧f + vs.length≤row.length∧leak≤i∧yfc vs=true∧ycq vs=true then upd H id (.arr es (rows.set i (ych row f vs)) leak) else none:=rfl
theorem ygk{α:Type}(c:α→List AV)(l:List α)(i:Int)(y:α):(List.map c l).set i.toNat (c y) = List.map c (ybi l i y):=by rw [ybi,List.map_set]
theorem ycra:yco 0=true:=rfl
theorem ycrb:yco 1=true:=rfl
theorem ycrc:yco 2=true:=rfl
theorem ycrd:yco 3=true:=rfl
theorem ycre:yco 4=true:=rfl
theorem ycrf:yco 5=true:=rfl
theorem ycrg:yco 6=true:=rfl
theorem ycrh:yco 7=true:=rfl
theorem ycri:yco 8=true:=rfl
theorem ydlj(k:IntKind)(a b:Int):mxAV (.int k a) (.int k b) = some (.int k (if a < b then b else a)):=by simp [mxAV,yed]
theorem ydlh(k:IntKind)(a b:Int):mnAV (.int k a) (.int k b) = some (.int k (if b < a then b else a)):=by simp [mnAV,yed]
theorem ydln(id off:Nat):ncAV (.ptr id off) = some (.ptr id off):=rfl
theorem ycmj(id i f:Nat):ncAV (.eptr id i f) = some (.eptr id i f):=rfl
theorem ycmk(row:List AV)(f:Nat):ncAV (.iptr row f) = some (.iptr row f):=rfl
theorem ydsh(f:Nat)(a b:List AV):ncAV (.fn (.func f) a b) = some (.fn (.func f) a b):=rfl
def eqcK(ng:Bool):Option Bool→Option AV | some b=>yix (if ng then !b else b) | none=>none
theorem ycru(ng:Bool)(l:List (Nat × Nat))(xs ys:List AV):yui ng l (.agg xs) (.agg ys) = eqcK ng (yev l xs ys):=by
  simp only [yui,eqcK]
  cases yev l xs ys <;> rfl
theorem ycrs(b:Bool):eqcK false (some b) = some (.bool b):=by simp [eqcK,ydf]
theorem ycrt(b:Bool):eqcK true (some b) = some (.bool (!b)):=by simp [eqcK,ydf]
def andO(b:Bool)(x:Option Bool):Option Bool:=match x with | some c=>some (b && c) | none=>if b=true then none else some false
theorem ybgl(b c:Bool):andO b (some c) = some (b && c):=rfl
def eqcC(r:List (Nat × Nat))(xs ys:List AV)(q:Nat):Option AV→Option AV→Option Bool
  | some x,some y=>match yos q x y with | some b=>andO b (yev r xs ys) | none=>none
  | _,_=>none
theorem ybvd(xs ys:List AV):yev [] xs ys=some true:=rfl
theorem ybhr(i q:Nat)(r:List (Nat × Nat))(xs ys:List AV):yev ((i,q) :: r) xs ys=eqcC r xs ys q xs[i]? ys[i]?:=by
  simp only [yev,eqcC]
  cases xs[i]? with
  | none=>rfl
  | some x=>
    cases ys[i]? with
    | none=>rfl
    | some y=>
      simp only
      cases yos q x y with
      | none=>rfl
      | some b=>cases b <;> simp only [andO] <;> cases yev r xs ys <;> simp
theorem ybve(r:List (Nat × Nat))(xs ys:List AV)(k:IntKind)(a b:Int):eqcC r xs ys 1 (some (.int k a)) (some (.int k b)) = andO (decide (a=b)) (yev r xs ys):=by
  have:(a == b) = decide (a=b):=by by_cases h:a=b <;> simp [h]
  simp [eqcC,yos,this]
theorem ybhs(r:List (Nat × Nat))(xs ys:List AV)(a b:Bool):eqcC r xs ys 0 (some (.bool a)) (some (.bool b)) = andO (a == b) (yev r xs ys):=rfl
theorem ybvf(r:List (Nat × Nat))(xs ys:List AV)(a b:ByteArray):eqcC r xs ys 2 (some (.str a)) (some (.str b)) = andO (eqS a b) (yev r xs ys):=rfl
theorem i_eq(n:Int):(n=n) = True:=by simp
theorem n_eq(n:Nat):(n=n) = True:=by simp
theorem n_le(n:Nat):(n≤n) = True:=by simp
theorem k_eq(n:IntKind):(n=n) = True:=by simp
theorem ydru(n:Int):(n == n) = true:=by simp
def yvp(k:IntKind)(b:Bool)(n:Int):Option AV:=if b=true then none else some (.int k n)
theorem ydmi(k:IntKind)(n:Int):yvp k false n=some (.int k n):=rfl
def shrI(k:IntKind)(a b:Int):Int:=a.fdiv (2 ^ (min b.toNat k.bits))
def shlI(k:IntKind)(a b:Int):Int:=k.wrap (a * 2 ^ (min b.toNat k.bits))
theorem ycef(k:IntKind)(a b:Int):ydg .shr k a b=yvp k (decide (b < 0)) (shrI k a b):=by
  by_cases h:b < 0 <;> simp [ydg,h,yvp,yed,shrI]
theorem ycee(k:IntKind)(a b:Int):ydg .shl k a b=yvp k (decide (b < 0)) (shlI k a b):=by
  by_cases h:b < 0 <;> simp [ydg,h,yvp,yed,shlI]
def clnK(es:Nat)(s:St):Option (List (List AV))→Option (AV × St)
  | some rows=>yck s es rows
  | none=>none
theorem ycrn(es:Nat)(s:St)(x:AV):ypf es s x=clnK es s (ydt es s.H x):=rfl
theorem ybhe(es:Nat)(s:St)(rows:List (List AV)):clnK es s (some rows) = yck s es rows:=rfl
theorem yced(k:IntKind)(a b:Int):ydg .and k a b=some (.int k (andI k a b)):=yed _ _
theorem ycqk(k:IntKind)(a b:Int):ydg .or k a b=some (.int k (orI k a b)):=yed _ _
theorem yceg(k:IntKind)(a b:Int):ydg .xor k a b=some (.int k (xorI k a b)):=yed _ _
theorem ybtz(op:BinOp)(k k':IntKind)(a b:Int)(h:shB op=true):yrr op (.int k a) (.int k' b) = ydg op k a b:=by simp [yrr,h]
section
variable {α:Type} {c:α→List AV} {n:Nat}
def iasK(c:α→List AV):Option α→Option AV | some x=>some (.iptr (c x) 0) | none=>none
theorem ybqb(x:α):iasK c (some x) = some (.iptr (c x) 0):=rfl
theorem yckw[h:Row c n](l:List α)(k:IntKind)(i:Int):ykh n (sl c l) (.int k i) = iasK c (ybu l i):=by
  cases hx:ybu l i with
  | some x=>rw [ydkf hx]; rfl
  | none=>
    unfold ybu at hx
    simp only [sl,yca,ykh,iasK]
    split
    ·rename_i hc
     rw [if_pos hc.2] at hx
     rw [List.getElem?_map,hx]
     rfl
    ·rfl
theorem ybxw(size:Nat)(k:IntKind)(i:Int):ykh size yhq (.int k i) = none:=by simp [yhq,yca,ykh]
def sllK(c:α→List AV):Option (List α)→Option AV | some x=>some (sl c x) | none=>none
theorem ybsp(x:List α):sllK c (some x) = some (sl c x):=rfl
theorem ylj{m:Nat}{ex:Bool}{lo hi:Option AV}{l h:Int}(hl:yhx lo=some (some l)∨(lo=none∧l=0))(hh:yhx hi=some (some h)∨(hi=none∧h=m))(hc:¬ (0≤l∧l≤h∧h≤(m:Int))):ygm m ex lo hi none=none:=by
  have e1:∃ a,yhx lo=some a∧a.getD 0=l:=by
    rcases hl with hl | ⟨rfl,rfl⟩
    ·exact ⟨_,hl,rfl⟩
    ·exact ⟨none,rfl,rfl⟩
  have e2:∃ a,yhx hi=some a∧a.getD (m:Int) = h:=by
    rcases hh with hh | ⟨rfl,rfl⟩
    ·exact ⟨_,hh,rfl⟩
    ·exact ⟨none,rfl,rfl⟩
  obtain ⟨a,a1,a2⟩:=e1
  obtain ⟨b,b1,b2⟩:=e2
  have e3:yhx none=some none:=rfl
  simp only [ygm,a1,b1,e3]
  rw [if_neg]
  rintro ⟨h1,h2,h3,_⟩
  rw [a2] at h1 h2
  rw [b2] at h2 h3
  exact hc ⟨h1,h2,by simpa using h3⟩
theorem yafx[h:Row c n](l:List α):yfz n (ykq (l.map c)) (l.map c) = true:=by
  rcases yjr (c:=c) (l:=l) with h | h
  ·subst h; rfl
  ·rw [h]; simp [yfz]
theorem ycoa[h:Row c n](l:List α)(k k':IntKind)(lo hi:Int):yfa n (sl c l) (some (.int k lo)) (some (.int k' hi)) none=sllK c (yby l lo hi):=by
  cases hx:yby l lo hi with
  | some x=>rw [ydnj hx]; rfl
  | none=>
    have hc:¬ (0≤lo∧lo≤hi∧hi≤(l.length:Int)):=by
      unfold yby at hx
      split at hx
      ·cases hx
      ·assumption
    simp only [sl,yca,yfa,yafx,if_true,sllK]
    rw [ylj (l:=lo) (h:=hi) (.inl rfl) (.inl rfl) (by simpa using hc)]
theorem ycob[h:Row c n](l:List α)(k:IntKind)(lo:Int):yfa n (sl c l) (some (.int k lo)) none none=sllK c (yby l lo l.length):=by
  cases hx:yby l lo l.length with
  | some x=>rw [ycof hx]; rfl
  | none=>
    have hc:¬ (0≤lo∧lo≤(l.length:Int)∧(l.length:Int)≤(l.length:Int)):=by
      unfold yby at hx
      split at hx
      ·cases hx
      ·assumption
    simp only [sl,yca,yfa,yafx,if_true,sllK]
    rw [ylj (l:=lo) (h:=l.length) (.inl rfl) (.inr ⟨rfl,by simp⟩) (by simpa using hc)]
theorem ycoc[h:Row c n](l:List α)(k:IntKind)(hi:Int):yfa n (sl c l) none (some (.int k hi)) none=sllK c (yby l 0 hi):=by
  cases hx:yby l 0 hi with
  | some x=>rw [ycoe hx]; rfl
  | none=>
    have hc:¬ ((0:Int)≤0∧0≤hi∧hi≤(l.length:Int)):=by
      unfold yby at hx
      split at hx
      ·cases hx
      ·assumption
    simp only [sl,yca,yfa,yafx,if_true,sllK]
    rw [ylj (l:=0) (h:=hi) (.inr ⟨rfl,rfl⟩) (.inl rfl) (by simpa using hc)]
end
section
variable {α:Type} {c:α→List AV} {n:Nat}
def sllX(c:α→List AV):Option (List α)→Option AV | some x=>some (slx c x) | none=>none
theorem ybsq(x:List α):sllX c (some x) = some (slx c x):=rfl
theorem ycod[h:Row c n](l:List α)(k k':IntKind)(hi:Int):yfa n (sl c l) none (some (.int k hi)) (some (.int k' hi)) = sllX c (yby l 0 hi):=by
  cases hx:yby l 0 hi with
  | some x=>rw [ycog hx]; rfl
  | none=>
    have hc:¬ ((0:Int)≤0∧0≤hi∧hi≤(l.length:Int)):=by
      unfold yby at hx
      split at hx
      ·cases hx
      ·assumption
    have hb:ygm (l.map c).length false none (some (.int k hi)) (some (.int k' hi)) = none:=by
      simp only [ygm,yhx,asI,Option.getD_none,Option.getD_some,List.length_map]
      rw [if_neg]
      intro hh
      exact hc ⟨Int.le_refl _,hh.2.1,by have:=hh.2.2.1; have:=hh.2.2.2.1; omega⟩
    simp only [sl,yca,yfa,yafx,if_true,sllX]
    rw [hb]
end
def ixsK:Option Int→Option AV | some x=>some (.int .u8 x) | none=>none
theorem ybqd(x:Int):ixsK (some x) = some (.int .u8 x):=rfl
theorem ydkl(s:ByteArray)(k:IntKind)(i:Int):yur (.str s) (.int k i) = ixsK (nthS s i):=by
  cases hx:nthS s i with
  | some x=>rw [yclk hx]; rfl
  | none=>
    unfold nthS at hx
    simp only [yur,ixsK]
    split
    ·rename_i hc
     rw [if_pos hc] at hx
     simp only [Option.map_eq_none_iff] at hx
     rw [hx]
    ·rfl
def slsK:Option ByteArray→Option AV | some x=>some (.str x) | none=>none
theorem ybss(x:ByteArray):slsK (some x) = some (.str x):=rfl
theorem ydtq(s:ByteArray)(k k':IntKind)(lo hi:Int):yiw (.str s) (some (.int k lo)) (some (.int k' hi)) = slsK (yhs s lo hi):=by
  cases hx:yhs s lo hi with
  | some x=>rw [ydnk hx]; rfl
  | none=>
    have hc:¬ (0≤lo∧lo≤hi∧hi≤(s.size:Int)):=by
      unfold yhs at hx
      split at hx
      ·cases hx
      ·assumption
    simp only [yiw,slsK]
    rw [ylj (l:=lo) (h:=hi) (.inl rfl) (.inl rfl) hc]
theorem ydtr(s:ByteArray)(k:IntKind)(lo:Int):yiw (.str s) (some (.int k lo)) none=slsK (yhs s lo s.size):=by
  cases hx:yhs s lo s.size with
  | some x=>rw [ycoi hx]; rfl
  | none=>
    have hc:¬ (0≤lo∧lo≤(s.size:Int)∧(s.size:Int)≤(s.size:Int)):=by
      unfold yhs at hx
      split at hx
      ·cases hx
      ·assumption
    simp only [yiw,slsK]
    rw [ylj (l:=lo) (h:=s.size) (.inl rfl) (.inr ⟨rfl,rfl⟩) hc]
theorem ydts(s:ByteArray)(k:IntKind)(hi:Int):yiw (.str s) none (some (.int k hi)) = slsK (yhs s 0 hi):=by
  cases hx:yhs s 0 hi with
  | some x=>rw [ycoh hx]; rfl
  | none=>
    have hc:¬ ((0:Int)≤0∧0≤hi∧hi≤(s.size:Int)):=by
      unfold yhs at hx
      split at hx
      ·cases hx
      ·assumption
    simp only [yiw,slsK]
    rw [ylj (l:=0) (h:=hi) (.inr ⟨rfl,rfl⟩) (.inl rfl) hc]
def catK(b:Bool)(s:ByteArray):Option AV:=if b=true then some (.str s) else none
theorem ycrk(s:ByteArray):catK true s=some (.str s):=rfl
theorem ybug(a b:ByteArray):yiz .add a b=catK (catB a b) (a++b):=by
  simp only [yiz,catK,catB]
  by_cases h:a.size + b.size≤1099511627776 <;> simp [h]
theorem ybua(k:IntKind)(a b:Int):ydg .quo k a b=yvp k (decide (b=0)) (k.wrap (a.tdiv b)):=by
  rw [yatn]
  by_cases h:b=0 <;> simp [h,yvp]
theorem ybub(k:IntKind)(a b:Int):ydg .rem k a b=yvp k (decide (b=0)) (a.tmod b):=by
  rw [yato]
  by_cases h:b=0 <;> simp [h,yvp]
end Go.Proofs.YtgoachcogmlhcaaGreat.R
