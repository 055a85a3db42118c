/- Operations that touch no memory: the machine does what the evaluator says. -/
import Derived.Test.YtefjblgmnoheiaaRRep
import Derived.Laws.StructEq
import Derived.Laws.Slices
import Derived.Laws.Cells
import Derived.Laws.Append
import Derived.Laws.IdiomCopy
import Derived.Laws.Bits
set_option linter.unusedVariables false
set_option linter.unusedSectionVars false
set_option linter.unusedSimpArgs false
noncomputable section
namespace Go.Proofs.Ytefjblgmnoheiaa.R
open Go

theorem tyOf_spec {P : Program} {t : TypeId} {x : TI} (h : tyOf P t = some x) : P.underlying t = some x.desc ∧ ∃ i, P.info? t = some i ∧ i.size = x.size ∧ i.bytes = x.bytes ∧ i.zero = x.zero := by
  unfold tyOf at h
  cases h1 : P.underlying t with
  | none => simp [h1] at h
  | some d =>
    cases h2 : P.info? t with
    | none => simp [h1, h2] at h
    | some i =>
      simp only [h1, h2, Option.some.injEq] at h
      subst h
      exact ⟨rfl, i, rfl, rfl, rfl, rfl⟩

section
variable {P : Program} {w : World} {U : Nat → Nat → Prop} {ρ : Rho}

theorem run_underlying' {t : TypeId} {x : TI} (h : tyOf P t = some x) (w : World) : (underlying t).run P w = .ok x.desc w := run_underlying (tyOf_spec h).1 w
theorem run_sizeOf' {t : TypeId} {x : TI} (h : tyOf P t = some x) (w : World) : (sizeOf t).run P w = .ok x.size w := by
  obtain ⟨_, i, hi, hs, _⟩ := tyOf_spec h
  simp [sizeOf, typeInfo, hi, hs]
theorem run_isAgg' {t : TypeId} {x : TI} (h : tyOf P t = some x) (w : World) : (isAgg t).run P w = .ok (aggB x.desc) w := by
  simp only [isAgg, Sem.run_bind, run_underlying' h, Result.andThen_ok]
  cases x.desc <;> rfl
theorem run_zero' {t : TypeId} {x : TI} (h : tyOf P t = some x) {z : Value} (hz : x.zero = some z) (w : World) : (zeroValue t).run P w = .ok z w := by
  obtain ⟨_, i, hi, _, _, h3⟩ := tyOf_spec h
  simp [zeroValue, typeInfo, hi, h3, hz]

/-- The value that a scalar is. -/
def valOf : AV → Value
  | .bool b => .bool b
  | .int k n => .int k n
  | .str s => .string s
  | _ => undef
def scalB : AV → Bool
  | .bool _ => true
  | .int _ _ => true
  | .str _ => true
  | _ => false
theorem VR_valOf {v : AV} (h : scalB v = true) : VR w U ρ v (valOf v) := by
  cases v <;> simp [scalB] at h <;> simp [VR, valOf]

/-! ### Numbers, texts, truths -/
theorem snd_binInt (op : BinOp) (t : TypeId) (k k' : IntKind) (a b : Int) {v : AV} (hk : shB op = true ∨ k = k') (h : binInt op k a b = some v) :
    (binOp op t (.int k a) (.int k' b)).run P w = .ok (valOf v) w ∧ scalB v = true := by
  cases op <;> simp only [binInt, numV_eq, truV_eq, Option.some.injEq, reduceCtorEq] at h
  case shl =>
    split at h
    · cases h
    · rename_i hb
      simp only [Option.some.injEq] at h
      subst h
      exact ⟨by simp [binOp, Op.shift, hb, valOf], rfl⟩
  case shr =>
    split at h
    · cases h
    · rename_i hb
      simp only [Option.some.injEq] at h
      subst h
      exact ⟨by simp [binOp, Op.shift, hb, valOf], rfl⟩
  case quo =>
    rcases hk with hk | rfl
    · simp [shB] at hk
    · split at h
      · cases h
      · rename_i hb
        simp only [Option.some.injEq] at h
        subst h
        exact ⟨by simp [binOp, Op.intDiv, hb, valOf], rfl⟩
  case rem =>
    rcases hk with hk | rfl
    · simp [shB] at hk
    · split at h
      · cases h
      · rename_i hb
        simp only [Option.some.injEq] at h
        subst h
        exact ⟨by simp [binOp, Op.intDiv, hb, valOf], rfl⟩
  case and =>
    rcases hk with hk | rfl
    · simp [shB] at hk
    · subst h
      exact ⟨by simp [binOp, Op.intBits, andI, valOf], rfl⟩
  case or =>
    rcases hk with hk | rfl
    · simp [shB] at hk
    · subst h
      exact ⟨by simp [binOp, Op.intBits, orI, valOf], rfl⟩
  case xor =>
    rcases hk with hk | rfl
    · simp [shB] at hk
    · subst h
      exact ⟨by simp [binOp, Op.intBits, xorI, valOf], rfl⟩
  all_goals
    rcases hk with hk | rfl
    · simp [shB] at hk
    · subst h
      exact ⟨by simp [binOp, Op.intArith, Op.intCmp, valOf], rfl⟩
theorem snd_binStr (op : BinOp) (t : TypeId) (a b : ByteArray) {v : AV} (h : binStr op a b = some v) :
    (binOp op t (.string a) (.string b)).run P w = .ok (valOf v) w ∧ scalB v = true := by
  cases op <;> simp only [binStr, truV_eq, Option.some.injEq, reduceCtorEq] at h
  case add =>
    split at h
    · rename_i hb
      simp only [Option.some.injEq] at h
      subst h
      refine ⟨?_, rfl⟩
      have : ¬ (((a.size + b.size : Nat) : Int) > IntKind.i64.max) := by
        have : IntKind.i64.max = 9223372036854775807 := by decide
        rw [this]
        omega
      simp only [binOp, Op.stringOp]
      rw [if_neg this]
      rfl
    · cases h
  all_goals
    subst h
    exact ⟨by simp [binOp, Op.stringOp, valOf], rfl⟩
theorem eqGuard_one {op : BinOp} {t : TypeId} {x y : Operand} {a b : Value} (ha : oneB a = true) (hn : a ≠ .nilIface) : (eqGuard op t x y a b).run P w = .ok () w := by
  unfold eqGuard
  cases op <;> (cases a <;> first | (simp [oneB] at ha; done) | (exact absurd rfl hn) | (cases b <;> rfl))
theorem snd_bin {op : BinOp} {t : TypeId} {x y : Operand} {X Y : Value} {a b v : AV} (ha : VR w U ρ a X) (hb : VR w U ρ b Y) (h : binAV op a b = some v) :
    ∃ z, (do eqGuard op t x y X Y; binOp op t X Y : Sem Value).run P w = .ok z w ∧ VR w U ρ v z := by
  unfold binAV at h
  split at h
  · rename_i k m k' n
    simp only [VR] at ha hb
    subst ha; subst hb
    split at h
    · rename_i hk
      obtain ⟨h1, h2⟩ := snd_binInt (P := P) (w := w) op t k k' m n hk h
      exact ⟨_, by simp only [Sem.run_bind, eqGuard_one (P := P) (w := w) (op := op) (t := t) (x := x) (y := y) (a := Value.int k m) (b := Value.int k' n) rfl (by simp), Result.andThen_ok]; exact h1, VR_valOf h2⟩
    · cases h
  · rename_i m n
    simp only [VR] at ha hb
    subst ha; subst hb
    obtain ⟨h1, h2⟩ := snd_binStr (P := P) (w := w) op t m n h
    exact ⟨_, by simp only [Sem.run_bind, eqGuard_one (P := P) (w := w) (op := op) (t := t) (x := x) (y := y) (a := Value.string m) (b := Value.string n) rfl (by simp), Result.andThen_ok]; exact h1, VR_valOf h2⟩
  · cases h

def eqOp (neg : Bool) : BinOp := if neg = true then .neq else .eql
theorem run_eqOp (neg : Bool) (t : TypeId) (X Y : Value) (r : Bool) (hX : (∃ b, X = .bool b) ∨ ∃ xs, X = .agg xs) (h : (Op.equalIn 10000 t X Y).run P w = .ok r w) :
    (binOp (eqOp neg) t X Y).run P w = .ok (.bool (if neg then !r else r)) w := by
  have h' : (Op.equal t X Y).run P w = .ok r w := h
  rcases hX with ⟨b, rfl⟩ | ⟨xs, rfl⟩ <;> cases neg <;> simp [binOp, eqOp, h']
theorem snd_eqb {neg : Bool} {t : TypeId} {ti : TI} (ht : tyOf P t = some ti) (hd : ti.desc = .bool) {x y : Operand} {X Y : Value} {a b v : AV} (ha : VR w U ρ a X) (hb : VR w U ρ b Y) (h : eqbAV neg a b = some v) :
    ∃ z, (do eqGuard (eqOp neg) t x y X Y; binOp (eqOp neg) t X Y : Sem Value).run P w = .ok z w ∧ VR w U ρ v z := by
  unfold eqbAV at h
  split at h
  · rename_i m n
    simp only [VR] at ha hb
    subst ha; subst hb
    simp only [truV_eq, Option.some.injEq] at h
    subst h
    have hu := (tyOf_spec ht).1
    rw [hd] at hu
    have he : (Op.equalIn 10000 t (.bool m) (.bool n)).run P w = .ok (m == n) w := run_equalIn_bool' w 9999 t m n hu
    have := run_eqOp (P := P) (w := w) neg t (.bool m) (.bool n) (m == n) (.inl ⟨m, rfl⟩) he
    refine ⟨_, ?_, VR_valOf rfl⟩
    simp only [Sem.run_bind, eqGuard_one (P := P) (w := w) (op := eqOp neg) (t := t) (x := x) (y := y) (a := Value.bool m) (b := Value.bool n) rfl (by simp), Result.andThen_ok]
    exact this
  · cases h

theorem eqCell_spec {t : TypeId} {ti : TI} (ht : tyOf P t = some ti) {q : Nat} (hq : scalQ ti.desc = some q) {X Y : Value} {a b : AV} {r : Bool} (d : Nat) (ha : VR w U ρ a X) (hb : VR w U ρ b Y) (h : eqCell q a b = some r) :
    (Op.equalIn (d + 1) t X Y).run P w = .ok r w := by
  have hu := (tyOf_spec ht).1
  unfold eqCell at h
  split at h
  · simp only [VR] at ha hb
    subst ha; subst hb
    simp only [Option.some.injEq] at h
    subst h
    cases hd : ti.desc <;> simp [hd, scalQ] at hq
    rw [hd] at hu
    exact run_equalIn_bool' w d _ _ _ hu
  · simp only [VR] at ha hb
    subst ha; subst hb
    split at h
    · rename_i hk
      subst hk
      simp only [Option.some.injEq] at h
      subst h
      cases hd : ti.desc <;> simp [hd, scalQ] at hq
      rw [hd] at hu
      exact run_equalIn_int w d _ _ _ _ _ hu
    · cases h
  · simp only [VR] at ha hb
    subst ha; subst hb
    simp only [Option.some.injEq] at h
    subst h
    cases hd : ti.desc <;> simp [hd, scalQ] at hq
    rw [hd] at hu
    exact run_equalIn_string w d _ _ _ hu
  · cases h
theorem eqFields_spec : ∀ {fs : List Field} {l : List (Nat × Nat)}, eqFields P fs = some l → ∀ {xs ys : Array Value} {as bs : List AV} {r : Bool} (d : Nat), VRs w U ρ as xs.toList → VRs w U ρ bs ys.toList → eqCells l as bs = some r →
    (Op.eqFields (d + 1) xs ys fs).run P w = .ok r w
  | [], l, h, xs, ys, as, bs, r, d, ha, hb, hr => by
    simp only [eqFields, Option.some.injEq] at h
    subst h
    simp only [eqCells, Option.some.injEq] at hr
    subst hr
    simp [Op.eqFields]
  | f :: fs, l, h, xs, ys, as, bs, r, d, ha, hb, hr => by
    simp only [eqFields] at h
    cases ht : tyOf P f.type with
    | none => simp [ht] at h
    | some ti =>
      cases hl : eqFields P fs with
      | none => simp [ht, hl] at h
      | some l' =>
        cases hq : scalQ ti.desc with
        | none => simp [ht, hl, hq] at h
        | some q =>
          simp only [ht, hl, hq] at h
          split at h
          · rename_i hc
            simp only [bne_iff_ne, ne_eq] at hc
            simp only [Option.some.injEq] at h
            subst h
            simp only [eqCells] at hr
            cases h1 : as[f.offset]? with
            | none => simp [h1] at hr
            | some a =>
              cases h2 : bs[f.offset]? with
              | none => simp [h1, h2] at hr
              | some b =>
                obtain ⟨X, hX, vX⟩ := VRs_get ha h1
                obtain ⟨Y, hY, vY⟩ := VRs_get hb h2
                have hX' : xs[f.offset]? = some X := by simpa using hX
                have hY' : ys[f.offset]? = some Y := by simpa using hY
                have hag : (isAgg f.type).run P w = .ok false w := by
                  rw [run_isAgg' ht]
                  cases hd : ti.desc <;> simp [hd, scalQ] at hq <;> rfl
                have pX : (Go.part f.type xs f.offset).run P w = .ok X w := by simp [Go.part, hag, hX']
                have pY : (Go.part f.type ys f.offset).run P w = .ok Y w := by simp [Go.part, hag, hY']
                simp only [h1, h2] at hr
                cases he : eqCell q a b with
                | none => simp [he] at hr
                | some e =>
                  have hrun := eqCell_spec ht hq d vX vY he
                  simp only [he] at hr
                  simp only [Op.eqFields, ne_eq, hc, not_false_eq_true, if_true, Sem.run_bind, pX, pY, hrun, Result.andThen_ok]
                  cases e with
                  | true => simp only [Bool.not_true, Bool.false_eq_true, if_false] at hr ⊢; exact eqFields_spec hl d ha hb hr
                  | false => simp only [Option.some.injEq] at hr; subst hr; simp
          · cases h
def eqList (d : Nat) (e : TypeId) (n : Nat) (xs ys : Array Value) : List Nat → Sem Bool
  | [] => pure true
  | i :: r => do
    let a ← Go.part e xs (i * n)
    let b ← Go.part e ys (i * n)
    let x ← Op.equalIn d e a b
    if (!x) = true then pure false else eqList d e n xs ys r
theorem run_equalIn_array (d : Nat) (t : TypeId) (len e n : Nat) (xs ys : Array Value) (ht : P.underlying t = some (.array len e)) (hs : (sizeOf e).run P w = .ok n w) :
    (Op.equalIn (d + 1) t (.agg xs) (.agg ys)).run P w = (eqList d e n xs ys (List.range' 0 len)).run P w := by
  simp only [Op.equalIn, Sem.run_bind, run_underlying ht, hs, Result.andThen_ok, Std.Legacy.Range.forIn_eq_forIn_range', Std.Legacy.Range.size, Nat.sub_zero, Nat.add_sub_cancel, Nat.div_one]
  generalize List.range' 0 len = l
  clear ht hs
  induction l generalizing w with
  | nil => simp [eqList]
  | cons i r ih =>
    simp only [List.forIn_cons, eqList, Sem.run_bind, Sem.run_ite]
    generalize (Go.part e xs (i * n)).run P w = r1
    cases r1 with
    | ok a w1 =>
      simp only [Result.andThen_ok]
      generalize (Go.part e ys (i * n)).run P w1 = r2
      cases r2 with
      | ok b w2 =>
        simp only [Result.andThen_ok]
        generalize (Op.equalIn d e a b).run P w2 = r3
        cases r3 with
        | ok x w3 =>
          cases x
          · simp only [Result.andThen_ok, Bool.not_false, if_true, Sem.run_pure]
          · simp only [Result.andThen_ok, Bool.not_true, Bool.false_eq_true, if_false, Sem.run_pure]
            exact ih
        | halt x w3 => simp [Result.andThen]
      | halt x w2 => simp [Result.andThen]
    | halt x w1 => simp [Result.andThen]
theorem eqList_spec {e : TypeId} {te : TI} {q : Nat} (ht : tyOf P e = some te) (hq : scalQ te.desc = some q) (d : Nat) {xs ys : Array Value} {as bs : List AV} {r : Bool} (ha : VRs w U ρ as xs.toList) (hb : VRs w U ρ bs ys.toList) :
    ∀ (n i : Nat), eqCells (elemsQ q n i) as bs = some r → (eqList (d + 1) e 1 xs ys (List.range' i n)).run P w = .ok r w
  | 0, i, hr => by
    simp only [elemsQ, eqCells, Option.some.injEq] at hr
    subst hr
    simp [eqList]
  | n + 1, i, hr => by
    simp only [elemsQ, eqCells] at hr
    cases h1 : as[i]? with
    | none => simp [h1] at hr
    | some a =>
      cases h2 : bs[i]? with
      | none => simp [h1, h2] at hr
      | some b =>
        obtain ⟨X, hX, vX⟩ := VRs_get ha h1
        obtain ⟨Y, hY, vY⟩ := VRs_get hb h2
        have hX' : xs[i]? = some X := by simpa using hX
        have hY' : ys[i]? = some Y := by simpa using hY
        have hag : (isAgg e).run P w = .ok false w := by
          rw [run_isAgg' ht]
          cases hd : te.desc <;> simp [hd, scalQ] at hq <;> rfl
        have pX : (Go.part e xs (i * 1)).run P w = .ok X w := by simp [Go.part, hag, hX']
        have pY : (Go.part e ys (i * 1)).run P w = .ok Y w := by simp [Go.part, hag, hY']
        simp only [h1, h2] at hr
        cases he : eqCell q a b with
        | none => simp [he] at hr
        | some x =>
          have hrun := eqCell_spec ht hq d vX vY he
          simp only [he] at hr
          rw [List.range'_succ]
          simp only [eqList, Sem.run_bind, pX, pY, hrun, Result.andThen_ok, Sem.run_ite]
          cases x with
          | true => simp only [Bool.not_true, Bool.false_eq_true, if_false] at hr ⊢; exact eqList_spec ht hq d ha hb n (i + 1) hr
          | false => simp only [Option.some.injEq] at hr; subst hr; simp
theorem snd_eqa {neg : Bool} {t e : TypeId} {ti te : TI} {n q : Nat} (ht : tyOf P t = some ti) (hd : ti.desc = .array n e) (h2 : P.eqGuardType P.depth t = false) (hte : tyOf P e = some te) (hq : scalQ te.desc = some q) (hz : te.size = 1)
    {x y : Operand} {X Y : Value} {a b v : AV} (ha : VR w U ρ a X) (hb : VR w U ρ b Y) (h : eqcAV neg (elemsQ q n 0) a b = some v) :
    ∃ z, (do eqGuard (eqOp neg) t x y X Y; binOp (eqOp neg) t X Y : Sem Value).run P w = .ok z w ∧ VR w U ρ v z := by
  unfold eqcAV at h
  split at h
  · rename_i as bs
    simp only [VR] at ha hb
    obtain ⟨xs, rfl, ha⟩ := ha
    obtain ⟨ys, rfl, hb⟩ := hb
    split at h
    · rename_i r hr
      simp only [truV_eq, Option.some.injEq] at h
      subst h
      have hu := (tyOf_spec ht).1
      rw [hd] at hu
      have hs : (sizeOf e).run P w = .ok 1 w := by
        have := run_sizeOf' (w := w) hte
        rw [hz] at this
        exact this
      have he : (Op.equalIn 10000 t (.agg xs) (.agg ys)).run P w = .ok r w := by
        have e1 := run_equalIn_array (P := P) (w := w) 9999 t n e 1 xs ys hu hs
        exact e1.trans (eqList_spec hte hq 9998 ha hb n 0 hr)
      have := run_eqOp (P := P) (w := w) neg t (.agg xs) (.agg ys) r (.inr ⟨xs, rfl⟩) he
      refine ⟨_, ?_, VR_valOf rfl⟩
      simp only [Sem.run_bind, run_eqGuard_agg (P := P) w (eqOp neg) t x y xs ys h2, Result.andThen_ok]
      exact this
    · cases h
  · cases h
theorem snd_eqc {neg : Bool} {t : TypeId} {ti : TI} {fs : Array Field} {l : List (Nat × Nat)} (ht : tyOf P t = some ti) (hd : ti.desc = .struct fs) (h1 : P.stoodInHeld t = false) (h2 : P.eqGuardType P.depth t = false) (hl : eqFields P fs.toList = some l)
    {x y : Operand} {X Y : Value} {a b v : AV} (ha : VR w U ρ a X) (hb : VR w U ρ b Y) (h : eqcAV neg l a b = some v) :
    ∃ z, (do eqGuard (eqOp neg) t x y X Y; binOp (eqOp neg) t X Y : Sem Value).run P w = .ok z w ∧ VR w U ρ v z := by
  unfold eqcAV at h
  split at h
  · rename_i as bs
    simp only [VR] at ha hb
    obtain ⟨xs, rfl, ha⟩ := ha
    obtain ⟨ys, rfl, hb⟩ := hb
    split at h
    · rename_i r hr
      simp only [truV_eq, Option.some.injEq] at h
      subst h
      have hu := (tyOf_spec ht).1
      rw [hd] at hu
      have hf : P.fieldsOf t = fs := by simp [Program.fieldsOf, hu]
      have he : (Op.equalIn 10000 t (.agg xs) (.agg ys)).run P w = .ok r w := by
        have e1 := run_equalIn_struct (P := P) w 9999 t xs ys (by rw [hf]; exact hu) h1
        rw [hf] at e1
        exact e1.trans (eqFields_spec hl 9998 ha hb hr)
      have := run_eqOp (P := P) (w := w) neg t (.agg xs) (.agg ys) r (.inr ⟨xs, rfl⟩) he
      refine ⟨_, ?_, VR_valOf rfl⟩
      simp only [Sem.run_bind, run_eqGuard_agg (P := P) w (eqOp neg) t x y xs ys h2, Result.andThen_ok]
      exact this
    · cases h
  · cases h
/-- A slice that may be nil. -/
theorem VR_nil {v : AV} {X : Value} {b : Bool} (hv : VR w U ρ v X) (h : nilAV v = some b) : ∃ a n c, X = .slice a n c ∧ a.isNone = b := by
  unfold nilAV at h
  split at h
  · simp only [VR] at hv
    simp only [Option.some.injEq] at h
    subst h
    exact ⟨none, 0, 0, hv, rfl⟩
  · rename_i es rows ex
    split at h
    · cases h
    · rename_i hne
      simp only [Option.some.injEq] at h
      subst h
      simp only [VR] at hv
      obtain ⟨A, c, h1, _, _, h4⟩ := hv
      rcases h4 with h4 | ⟨b, o, h5, _⟩
      · simp [h4] at hne
      · exact ⟨A, _, c, h1, by rw [h5]; rfl⟩
  · rename_i es id off len ex
    split at h
    · cases h
    · rename_i hne
      simp only [Option.some.injEq] at h
      subst h
      simp only [VR] at hv
      obtain ⟨A, c, h1, _, _, h4⟩ := hv
      rcases h4 with h4 | ⟨b, C, e, fr, _, h5, _⟩
      · omega
      · exact ⟨A, _, c, h1, by rw [h5]; rfl⟩
  · cases h
theorem eqGuard_slice {op : BinOp} {t : TypeId} {x y : Operand} {a b : Option Addr} {n c n' c' : Nat} : (eqGuard op t x y (.slice a n c) (.slice b n' c')).run P w = .ok () w := by
  unfold eqGuard
  cases op <;> rfl
theorem run_eqSlice (neg : Bool) {t : TypeId} {ti : TI} {e : TypeId} (ht : tyOf P t = some ti) (hd : ti.desc = .slice e) (x y : Operand) (a : Option Addr) (n c : Nat) :
    (do eqGuard (eqOp neg) t x y (.slice a n c) (.slice none 0 0); binOp (eqOp neg) t (.slice a n c) (.slice none 0 0) : Sem Value).run P w = .ok (.bool (if neg then !a.isNone else a.isNone)) w := by
  have hu := (tyOf_spec ht).1
  rw [hd] at hu
  have he : ∀ d, (Op.equalIn (d + 1) t (.slice a n c) (.slice none 0 0)).run P w = .ok a.isNone w := fun d => by
    cases a <;> simp [Op.equalIn, run_underlying hu]
  have he' : (Op.equal t (.slice a n c) (.slice none 0 0)).run P w = .ok a.isNone w := he 9999
  simp only [Sem.run_bind, eqGuard_slice (P := P) (w := w), Result.andThen_ok]
  cases neg <;> simp [binOp, eqOp, he']
theorem snd_eqn {neg : Bool} {t : TypeId} {ti : TI} {e : TypeId} (ht : tyOf P t = some ti) (hd : ti.desc = .slice e) {x y : Operand} {X : Value} {a v : AV} (ha : VR w U ρ a X) (h : eqnAV neg a = some v) :
    ∃ z, (do eqGuard (eqOp neg) t x y X (.slice none 0 0); binOp (eqOp neg) t X (.slice none 0 0) : Sem Value).run P w = .ok z w ∧ VR w U ρ v z := by
  unfold eqnAV at h
  split at h
  · rename_i b hb
    obtain ⟨A, n, c, rfl, h2⟩ := VR_nil ha hb
    simp only [truV_eq, Option.some.injEq] at h
    subst h
    refine ⟨_, run_eqSlice neg ht hd x y A n c, ?_⟩
    rw [h2]
    exact VR_valOf rfl
  · cases h
end
end Go.Proofs.Ytefjblgmnoheiaa.R
