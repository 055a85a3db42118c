/- Typed values as abstract ones; what operations do to them. -/
import Derived.Test.YtgoachcogmlhcaaGreatRLaw
import Derived.Laws.Strings
set_option linter.unusedVariables false
set_option linter.unusedSectionVars false
set_option linter.unusedSimpArgs false
noncomputable section
namespace Go.Proofs.YtgoachcogmlhcaaGreat.R
open Go
def bnd{α β:Type}(x:Option α)(f:α→Option β):Option β:=match x with | some a=>f a | none=>none
theorem yx{α β:Type}{x:Option α}{f:α→Option β}{r:β}(h:bnd x f=some r):∃ a,x=some a∧f a=some r:=by
  cases x with
  | none=>cases h
  | some a=>exact ⟨a,rfl,h⟩
theorem yk{α β:Type}(a:α)(f:α→Option β):bnd (some a) f=f a:=rfl
theorem ifS{α:Type}{b:Bool}{x y:Option α}{r:α}(h:(if b=true then x else y) = some r):(b=true∧x=some r)∨(b=false∧y=some r):=by
  cases b
  ·exact .inr ⟨rfl,by simpa using h⟩
  ·exact .inl ⟨rfl,by simpa using h⟩
theorem ycw{α:Type}{b:Bool}{x:Option α}{r:α}(h:(if b=true then x else none) = some r):b=true∧x=some r:=by
  rcases ifS h with h | ⟨_,h⟩
  ·exact h
  ·cases h
theorem reqF{α:Type}{b:Bool}{x:Option α}{r:α}(h:(if b=true then none else x) = some r):b=false∧x=some r:=by
  rcases ifS h with ⟨_,h⟩ | h
  ·cases h
  ·exact h
theorem yah{α:Type}{a r:α}(h:some a=some r):r=a:=(Option.some.inj h).symm
def ybu{α:Type}(l:List α)(i:Int):Option α:=if 0≤i then l[i.toNat]? else none
theorem yxc{α:Type}{l:List α}{i:Int}{x:α}(h:ybu l i=some x):0≤i∧i.toNat < l.length∧l[i.toNat]? = some x:=by
  unfold ybu at h
  split at h
  ·rename_i h0
   refine ⟨h0,?_,h⟩
   rcases Nat.lt_or_ge i.toNat l.length with h1 | h1
   ·exact h1
   ·rw [List.getElem?_eq_none h1] at h; cases h
  ·cases h
def yby{α:Type}(l:List α)(lo hi:Int):Option (List α):=if 0≤lo∧lo≤hi∧hi≤(l.length:Int) then some ((l.take hi.toNat).drop lo.toNat) else none
def yhs(s:ByteArray)(lo hi:Int):Option ByteArray:=if 0≤lo∧lo≤hi∧hi≤(s.size:Int) then some (s.extract lo.toNat hi.toNat) else none
def nthS(s:ByteArray)(i:Int):Option Int:=if 0≤i then (s.data.toList[i.toNat]?).map (fun b=>(b.toNat:Int)) else none
def eqS(a b:ByteArray):Bool:=a.toList == b.toList
def ltS(a b:ByteArray):Bool:=Op.bytesLess a.toList b.toList
def yco(n:Nat):Bool:=decide (n≤yks)
def catB(a b:ByteArray):Bool:=decide (a.size + b.size≤1099511627776)
def yalb(s:ByteArray):List Int:=s.data.toList.map (fun b=>(b.toNat:Int))
def yoz(l:List Int):ByteArray:=⟨(l.map fun n=>UInt8.ofNat n.toNat).toArray⟩
class Row {α:Type} (c:α→List AV) (n:outParam Nat):Prop where
  len:∀ x,(c x).length=n
  cell:∀ x,ycq (c x) = true
  free:∀ x,yfc (c x) = true
def ci(k:IntKind)(n:Int):List AV:=[.int k n]
def cb(b:Bool):List AV:=[.bool b]
def cs(s:ByteArray):List AV:=[.str s]
def sl{α:Type}(c:α→List AV)(l:List α):AV:=yca (l.map c)
def cl{α:Type}(c:α→List AV)(l:List α):List AV:=[sl c l]
instance (k:IntKind):Row (ci k) 1:=⟨fun _=>rfl,fun _=>rfl,fun _=>rfl⟩
instance:Row cb 1:=⟨fun _=>rfl,fun _=>rfl,fun _=>rfl⟩
instance:Row cs 1:=⟨fun _=>rfl,fun _=>rfl,fun _=>rfl⟩
instance {α:Type} (c:α→List AV):Row (cl c) 1:=⟨fun _=>rfl,fun _=>rfl,fun _=>rfl⟩
section
variable {α:Type} {c:α→List AV} {n:Nat}
theorem yjr[h:Row c n]{l:List α}:l = []∨ykq (l.map c) = n:=by
  cases l with
  | nil=>exact .inl rfl
  | cons x r=>exact .inr (h.len x)
theorem yclw(l:List α):yjb (sl c l) = some (.int .i64 l.length):=by simp [sl,yca,yjb,ymg]
theorem ycsc(H:yq)(l:List α):frz H (sl c l) = sl c l:=rfl
theorem yclv(H:yq)(l:List α):ybm H (sl c l) = H:=rfl
theorem ydml(f:Nat→Option Nat)(l:List α):ren f (sl c l) = sl c l:=rfl
theorem yceq(l:List α):yds (sl c l) = true:=rfl
theorem ydkg(l:List α):yen (sl c l) = true:=rfl
theorem ydsi(l:List α):ybw (sl c l) = false:=rfl
theorem ybuy(l:List α):cellsOf (sl c l) = some [sl c l]:=rfl
theorem ycah(H:yq)(k:Nat)(l:List α)(todo:List AV)(acc:List Nat):yaw H (k + 1) (sl c l :: todo) acc=yaw H k todo acc:=by simp [sl,yca,yaw]
theorem yahu[h:Row c n](H:yq)(l:List α):ydt n H (sl c l) = some (l.map c):=by
  have:yfz n (ykq (l.map c)) (l.map c) = true:=by
    rcases yjr (c:=c) (l:=l) with h | h
    ·subst h; rfl
    ·rw [h]; simp [yfz]
  simp only [sl,yca,ydt,this,if_true]
theorem ydnq[h:Row c n](H:yq)(l:List α):yci n H (sl c l) = some (l.map c):=yahu H l
theorem ydkf[h:Row c n]{l:List α}{k:IntKind}{i:Int}{x:α}(hx:ybu l i=some x):ykh n (sl c l) (.int k i) = some (.iptr (c x) 0):=by
  obtain ⟨h0,h1,h2⟩:=yxc hx
  have he:ykq (l.map c) = n:=by
    rcases yjr (c:=c) (l:=l) with h | h
    ·subst h; simp at h1
    ·exact h
  simp [sl,yca,ykh,he,h0,h2]
theorem yacf[h:Row c n](l:List α)(lo hi:Nat):(.imm (ykq (((l.map c).take hi).drop lo)) (((l.map c).take hi).drop lo) false:AV) = sl c ((l.take hi).drop lo):=by
  simp [sl,yca,List.map_take,List.map_drop]
theorem ydnj[h:Row c n]{l l':List α}{k k':IntKind}{lo hi:Int}(hl:yby l lo hi=some l'):yfa n (sl c l) (some (.int k lo)) (some (.int k' hi)) none=some (sl c l'):=by
  unfold yby at hl
  split at hl
  ·rename_i hc
   obtain rfl:=Option.some.inj hl
   have hf:yfz n (ykq (l.map c)) (l.map c) = true:=by
     rcases yjr (c:=c) (l:=l) with h | h
     ·subst h; rfl
     ·rw [h]; simp [yfz]
   have hb:ygm (l.map c).length false (some (.int k lo)) (some (.int k' hi)) none=some (lo.toNat,hi.toNat,false):=by
     simp [ygm,yhx,asI,hc.1,hc.2.1,hc.2.2]
   have:=yacf (c:=c) l lo.toNat hi.toNat
   simp only [sl,yca,yfa,hf,if_true,hb]
   simp only [sl,yca] at this
   rw [this]
  ·cases hl
theorem ycof[h:Row c n]{l l':List α}{k:IntKind}{lo:Int}(hl:yby l lo l.length=some l'):yfa n (sl c l) (some (.int k lo)) none none=some (sl c l'):=by
  unfold yby at hl
  split at hl
  ·rename_i hc
   obtain rfl:=Option.some.inj hl
   have hf:yfz n (ykq (l.map c)) (l.map c) = true:=by
     rcases yjr (c:=c) (l:=l) with h | h
     ·subst h; rfl
     ·rw [h]; simp [yfz]
   have hb:ygm (l.map c).length false (some (.int k lo)) none none=some (lo.toNat,l.length,false):=by
     simp [ygm,yhx,asI,hc.1,hc.2.1]
   have:=yacf (c:=c) l lo.toNat l.length
   simp only [sl,yca,yfa,hf,if_true,hb]
   simp only [sl,yca] at this
   rw [this]
   simp
  ·cases hl
theorem ycoe[h:Row c n]{l l':List α}{k:IntKind}{hi:Int}(hl:yby l 0 hi=some l'):yfa n (sl c l) none (some (.int k hi)) none=some (sl c l'):=by
  unfold yby at hl
  split at hl
  ·rename_i hc
   obtain rfl:=Option.some.inj hl
   have hf:yfz n (ykq (l.map c)) (l.map c) = true:=by
     rcases yjr (c:=c) (l:=l) with h | h
     ·subst h; rfl
     ·rw [h]; simp [yfz]
   have hb:ygm (l.map c).length false none (some (.int k hi)) none=some (0,hi.toNat,false):=by
     simp [ygm,yhx,asI,hc.2.1,hc.2.2]
   have:=yacf (c:=c) l 0 hi.toNat
   simp only [sl,yca,yfa,hf,if_true,hb]
   simp only [sl,yca] at this
   rw [this]
   simp
  ·cases hl
def slx{α:Type}(c:α→List AV)(l:List α):AV:=.imm (ykq (l.map c)) (l.map c) true
theorem ybyt(l:List α):yjb (slx c l) = some (.int .i64 l.length):=by simp [slx,yjb,ymg]
theorem ycfh(H:yq)(l:List α):frz H (slx c l) = sl c l:=rfl
theorem ybyp(H:yq)(l:List α):ybm H (slx c l) = H:=rfl
theorem ycnd(f:Nat→Option Nat)(l:List α):ren f (slx c l) = slx c l:=rfl
theorem ybuw(l:List α):yds (slx c l) = true:=rfl
theorem ycky(l:List α):yen (slx c l) = true:=rfl
theorem ydma(l:List α):ybw (slx c l) = false:=rfl
theorem ybhd(l:List α):cellsOf (slx c l) = some [slx c l]:=rfl
theorem ybru(H:yq)(k:Nat)(l:List α)(todo:List AV)(acc:List Nat):yaw H (k + 1) (slx c l :: todo) acc=yaw H k todo acc:=by simp [slx,yaw]
theorem ycog[h:Row c n]{l l':List α}{k k':IntKind}{hi:Int}(hl:yby l 0 hi=some l'):yfa n (sl c l) none (some (.int k hi)) (some (.int k' hi)) = some (slx c l'):=by
  unfold yby at hl
  split at hl
  ·rename_i hc
   obtain rfl:=Option.some.inj hl
   have hf:yfz n (ykq (l.map c)) (l.map c) = true:=by
     rcases yjr (c:=c) (l:=l) with h | h
     ·subst h; rfl
     ·rw [h]; simp [yfz]
   have hb:ygm (l.map c).length false none (some (.int k hi)) (some (.int k' hi)) = some (0,hi.toNat,true):=by
     simp [ygm,yhx,asI,hc.2.1,hc.2.2]
   simp only [sl,yca,yfa,hf,if_true,hb]
   simp [slx,List.map_take]
  ·cases hl
theorem ybsr(H:AV)(l:List α)(size:Nat)[h:Row c size]:yfa size (sl c l) (some (.int .i64 0)) (some (.int .i64 0)) (some (.int .i64 0)) = some (.imm 0 [] true):=by
  have hf:yfz size (ykq (l.map c)) (l.map c) = true:=by
    rcases yjr (c:=c) (l:=l) with h | h
    ·subst h; rfl
    ·rw [h]; simp [yfz]
  simp only [sl,yca,yfa,hf,if_true]
  simp [ygm,yhx,asI,ykq]
end
theorem yclk{s:ByteArray}{k:IntKind}{i x:Int}(h:nthS s i=some x):yur (.str s) (.int k i) = some (.int .u8 x):=by
  unfold nthS at h
  split at h
  ·rename_i h0
   simp only [Option.map_eq_some_iff] at h
   obtain ⟨b,h1,rfl⟩:=h
   simp [yur,h0,h1]
  ·cases h
theorem ydnk{s s':ByteArray}{k k':IntKind}{lo hi:Int}(h:yhs s lo hi=some s'):yiw (.str s) (some (.int k lo)) (some (.int k' hi)) = some (.str s'):=by
  unfold yhs at h
  split at h
  ·rename_i hc
   obtain rfl:=Option.some.inj h
   simp [yiw,ygm,yhx,asI,hc.1,hc.2.1,hc.2.2]
  ·cases h
theorem ycoi{s s':ByteArray}{k:IntKind}{lo:Int}(h:yhs s lo s.size=some s'):yiw (.str s) (some (.int k lo)) none=some (.str s'):=by
  unfold yhs at h
  split at h
  ·rename_i hc
   obtain rfl:=Option.some.inj h
   simp [yiw,ygm,yhx,asI,hc.1,hc.2.1]
  ·cases h
theorem ycoh{s s':ByteArray}{k:IntKind}{hi:Int}(h:yhs s 0 hi=some s'):yiw (.str s) none (some (.int k hi)) = some (.str s'):=by
  unfold yhs at h
  split at h
  ·rename_i hc
   obtain rfl:=Option.some.inj h
   simp [yiw,ygm,yhx,asI,hc.2.1,hc.2.2]
  ·cases h
theorem ycqh(H:yq)(l:List Int):ypc H (sl (ci .u8) l) = some (.str (yoz l)):=by
  have h:∀ l:List Int,ymz (l.map (ci .u8)) = some (l.map fun n=>UInt8.ofNat n.toNat):=by
    intro l
    induction l with
    | nil=>rfl
    | cons x r ih=>simp only [List.map_cons,ci] at ih ⊢; simp [ymz,ih]
  unfold ypc
  rw [yahu]
  simp [h,yoz]
theorem yaad(s:ByteArray):ygf s=(yalb s).map (ci .u8):=by
  simp [ygf,yalb,ci,ysx]
theorem ybuh(a b:ByteArray):yiz .eql a b=some (.bool (eqS a b)):=ydf _
theorem ybum(a b:ByteArray):yiz .neq a b=some (.bool (!eqS a b)):=ydf _
theorem ybul(a b:ByteArray):yiz .lss a b=some (.bool (ltS a b)):=ydf _
theorem ybuk(a b:ByteArray):yiz .leq a b=some (.bool (ltS a b || eqS a b)):=ydf _
theorem ybuj(a b:ByteArray):yiz .gtr a b=some (.bool (!(ltS a b || eqS a b))):=ydf _
theorem ybui(a b:ByteArray):yiz .geq a b=some (.bool (!ltS a b)):=ydf _
end Go.Proofs.YtgoachcogmlhcaaGreat.R
