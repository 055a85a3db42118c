/- Operations that touch no memory: the machine does what the evaluator says. -/
import Derived.Test.YtefjblgmnoheiaaRRep
import Derived.Laws.StructEq
import Derived.Laws.Slices
import Derived.Laws.Cells
import Derived.Laws.Append
import Derived.Laws.IdiomCopy
import Derived.Laws.Bits
set_option linter.unusedVariables false
set_option linter.unusedSectionVars false
set_option linter.unusedSimpArgs false
noncomputable section
namespace Go.Proofs.Ytefjblgmnoheiaa.R
open Go

theorem tyOf_spec {P : Program} {t : TypeId} {x : TI} (h : tyOf P t = some x) : P.underlying t = some x.desc ∧ ∃ i, P.info? t = some i ∧ i.size = x.size ∧ i.bytes = x.bytes ∧ i.zero = x.zero := by
  unfold tyOf at h
  cases h1 : P.underlying t with
  | none => simp [h1] at h
  | some d =>
    cases h2 : P.info? t with
    | none => simp [h1, h2] at h
    | some i =>
      simp only [h1, h2, Option.some.injEq] at h
      subst h
      exact ⟨rfl, i, rfl, rfl, rfl, rfl⟩

section
variable {P : Program} {w : World} {U : Nat → Nat → Prop} {ρ : Rho}

theorem run_underlying' {t : TypeId} {x : TI} (h : tyOf P t = some x) (w : World) : (underlying t).run P w = .ok x.desc w := run_underlying (tyOf_spec h).1 w
theorem run_sizeOf' {t : TypeId} {x : TI} (h : tyOf P t = some x) (w : World) : (sizeOf t).run P w = .ok x.size w := by
  obtain ⟨_, i, hi, hs, _⟩ := tyOf_spec h
  simp [sizeOf, typeInfo, hi, hs]
theorem run_isAgg' {t : TypeId} {x : TI} (h : tyOf P t = some x) (w : World) : (isAgg t).run P w = .ok (aggB x.desc) w := by
  simp only [isAgg, Sem.run_bind, run_underlying' h, Result.andThen_ok]
  cases x.desc <;> rfl
theorem run_zero' {t : TypeId} {x : TI} (h : tyOf P t = some x) {z : Value} (hz : x.zero = some z) (w : World) : (zeroValue t).run P w = .ok z w := by
  obtain ⟨_, i, hi, _, _, h3⟩ := tyOf_spec h
  simp [zeroValue, typeInfo, hi, h3, hz]

/-- The value that a scalar is. -/
def valOf : AV → Value
  | .bool b => .bool b
  | .int k n => .int k n
  | .str s => .string s
  | _ => undef
def scalB : AV → Bool
  | .bool _ => true
  | .int _ _ => true
  | .str _ => true
  | _ => false
theorem VR_valOf {v : AV} (h : scalB v = true) : VR w U ρ v (valOf v) := by
  cases v <;> simp [scalB] at h <;> simp [VR, valOf]

/-! ### Numbers, texts, truths -/
theorem snd_binInt (op : BinOp) (t : TypeId) (k k' : IntKind) (a b : Int) {v : AV} (hk : shB op = true ∨ k = k') (h : binInt op k a b = some v) :
    (binOp op t (.int k a) (.int k' b)).run P w = .ok (valOf v) w ∧ scalB v = true := by
  cases op <;> simp only [binInt, numV_eq, truV_eq, Option.some.injEq, reduceCtorEq] at h
  case shl =>
    split at h
    · cases h
    · rename_i hb
      simp only [Option.some.injEq] at h
      subst h
      exact ⟨by simp [binOp, Op.shift, hb, valOf], rfl⟩
  case shr =>
    split at h
    · cases h
    · rename_i hb
      simp only [Option.some.injEq] at h
      subst h
      exact ⟨by simp [binOp, Op.shift, hb, valOf], rfl⟩
  case quo =>
    rcases hk with hk | rfl
    · simp [shB] at hk
    · split at h
      · cases h
      · rename_i hb
        simp only [Option.some.injEq] at h
        subst h
        exact ⟨by simp [binOp, Op.intDiv, hb, valOf], rfl⟩
  case rem =>
    rcases hk with hk | rfl
    · simp [shB] at hk
    · split at h
      · cases h
      · rename_i hb
        simp only [Option.some.injEq] at h
        subst h
        exact ⟨by simp [binOp, Op.intDiv, hb, valOf], rfl⟩
  case and =>
    rcases hk with hk | rfl
    · simp [shB] at hk
    · subst h
      exact ⟨by simp [binOp, Op.intBits, andI, valOf], rfl⟩
  case or =>
    rcases hk with hk | rfl
    · simp [shB] at hk
    · subst h
      exact ⟨by simp [binOp, Op.intBits, orI, valOf], rfl⟩
  case xor =>
    rcases hk with hk | rfl
    · simp [shB] at hk
    · subst h
      exact ⟨by simp [binOp, Op.intBits, xorI, valOf], rfl⟩
  all_goals
    rcases hk with hk | rfl
    · simp [shB] at hk
    · subst h
      exact ⟨by simp [binOp, Op.intArith, Op.intCmp, valOf], rfl⟩
theorem snd_binStr (op : BinOp) (t : TypeId) (a b : ByteArray) {v : AV} (h : binStr op a b = some v) :
    (binOp op t (.string a) (.string b)).run P w = .ok (valOf v) w ∧ scalB v = true := by
  cases op <;> simp only [binStr, truV_eq, Option.some.injEq, reduceCtorEq] at h
  case add =>
    split at h
    · rename_i hb
      simp only [Option.some.injEq] at h
      subst h
      refine ⟨?_, rfl⟩
      have : ¬ (((a.size + b.size : Nat) : Int) > IntKind.i64.max) := by
        have : IntKind.i64.max = 9223372036854775807 := by decide
        rw [this]
        omega
      simp only [binOp, Op.stringOp]
      rw [if_neg this]
      rfl
    · cases h
  all_goals
    subst h
    exact ⟨by simp [binOp, Op.stringOp, valOf], rfl⟩
theorem eqGuard_one {op : BinOp} {t : TypeId} {x y : Operand} {a b : Value} (ha : oneB a = true) (hn : a ≠ .nilIface) : (eqGuard op t x y a b).run P w = .ok () w := by
  unfold eqGuard
  cases op <;> (cases a <;> first | (simp [oneB] at ha; done) | (exact absurd rfl hn) | (cases b <;> rfl))
theorem snd_bin {op : BinOp} {t : TypeId} {x y : Operand} {X Y : Value} {a b v : AV} (ha : VR w U ρ a X) (hb : VR w U ρ b Y) (h : binAV op a b = some v) :
    ∃ z, (do eqGuard op t x y X Y; binOp op t X Y : Sem Value).run P w = .ok z w ∧ VR w U ρ v z := by
  unfold binAV at h
  split at h
  · rename_i k m k' n
    simp only [VR] at ha hb
    subst ha; subst hb
    split at h
    · rename_i hk
      obtain ⟨h1, h2⟩ := snd_binInt (P := P) (w := w) op t k k' m n hk h
      exact ⟨_, by simp only [Sem.run_bind, eqGuard_one (P := P) (w := w) (op := op) (t := t) (x := x) (y := y) (a := Value.int k m) (b := Value.int k' n) rfl (by simp), Result.andThen_ok]; exact h1, VR_valOf h2⟩
    · cases h
  · rename_i m n
    simp only [VR] at ha hb
    subst ha; subst hb
    obtain ⟨h1, h2⟩ := snd_binStr (P := P) (w := w) op t m n h
    exact ⟨_, by simp only [Sem.run_bind, eqGuard_one (P := P) (w := w) (op := op) (t := t) (x := x) (y := y) (a := Value.string m) (b := Value.string n) rfl (by simp), Result.andThen_ok]; exact h1, VR_valOf h2⟩
  · cases h

def eqOp (neg : Bool) : BinOp := if neg = true then .neq else .eql
theorem run_eqOp (neg : Bool) (t : TypeId) (X Y : Value) (r : Bool) (hX : (∃ b, X = .bool b) ∨ ∃ xs, X = .agg xs) (h : (Op.equalIn 10000 t X Y).run P w = .ok r w) :
    (binOp (eqOp neg) t X Y).run P w = .ok (.bool (if neg then !r else r)) w := by
  have h' : (Op.equal t X Y).run P w = .ok r w := h
  rcases hX with ⟨b, rfl⟩ | ⟨xs, rfl⟩ <;> cases neg <;> simp [binOp, eqOp, h']
theorem snd_eqb {neg : Bool} {t : TypeId} {ti : TI} (ht : tyOf P t = some ti) (hd : ti.desc = .bool) {x y : Operand} {X Y : Value} {a b v : AV} (ha : VR w U ρ a X) (hb : VR w U ρ b Y) (h : eqbAV neg a b = some v) :
    ∃ z, (do eqGuard (eqOp neg) t x y X Y; binOp (eqOp neg) t X Y : Sem Value).run P w = .ok z w ∧ VR w U ρ v z := by
  unfold eqbAV at h
  split at h
  · rename_i m n
    simp only [VR] at ha hb
    subst ha; subst hb
    simp only [truV_eq, Option.some.injEq] at h
    subst h
    have hu := (tyOf_spec ht).1
    rw [hd] at hu
    have he : (Op.equalIn 10000 t (.bool m) (.bool n)).run P w = .ok (m == n) w := run_equalIn_bool' w 9999 t m n hu
    have := run_eqOp (P := P) (w := w) neg t (.bool m) (.bool n) (m == n) (.inl ⟨m, rfl⟩) he
    refine ⟨_, ?_, VR_valOf rfl⟩
    simp only [Sem.run_bind, eqGuard_one (P := P) (w := w) (op := eqOp neg) (t := t) (x := x) (y := y) (a := Value.bool m) (b := Value.bool n) rfl (by simp), Result.andThen_ok]
    exact this
  · cases h

theorem eqCell_spec {t : TypeId} {ti : TI} (ht : tyOf P t = some ti) {q : Nat} (hq : scalQ ti.desc = some q) {X Y : Value} {a b : AV} {r : Bool} (d : Nat) (ha : VR w U ρ a X) (hb : VR w U ρ b Y) (h : eqCell q a b = some r) :
    (Op.equalIn (d + 1) t X Y).run P w = .ok r w := by
  have hu := (tyOf_spec ht).1
  unfold eqCell at h
  split at h
  · simp only [VR] at ha hb
    subst ha; subst hb
    simp only [Option.some.injEq] at h
    subst h
    cases hd : ti.desc <;> simp [hd, scalQ] at hq
    rw [hd] at hu
    exact run_equalIn_bool' w d _ _ _ hu
  · simp only [VR] at ha hb
    subst ha; subst hb
    split at h
    · rename_i hk
      subst hk
      simp only [Option.some.injEq] at h
      subst h
      cases hd : ti.desc <;> simp [hd, scalQ] at hq
      rw [hd] at hu
      exact run_equalIn_int w d _ _ _ _ _ hu
    · cases h
  · simp only [VR] at ha hb
    subst ha; subst hb
    simp only [Option.some.injEq] at h
    subst h
    cases hd : ti.desc <;> simp [hd, scalQ] at hq
    rw [hd] at hu
    exact run_equalIn_string w d _ _ _ hu
  · cases h
theorem eqFields_spec : ∀ {fs : List Field} {l : List (Nat × Nat)}, eqFields P fs = some l → ∀ {xs ys : Array Value} {as bs : List AV} {r : Bool} (d : Nat), VRs w U ρ as xs.toList → VRs w U ρ bs ys.toList → eqCells l as bs = some r →
    (Op.eqFields (d + 1) xs ys fs).run P w = .ok r w
  | [], l, h, xs, ys, as, bs, r, d, ha, hb, hr => by
    simp only [eqFields, Option.some.injEq] at h
    subst h
    simp only [eqCells, Option.some.injEq] at hr
    subst hr
    simp [Op.eqFields]
  | f :: fs, l, h, xs, ys, as, bs, r, d, ha, hb, hr => by
    simp only [eqFields] at h
    cases ht : tyOf P f.type with
    | none => simp [ht] at h
    | some ti =>
      cases hl : eqFields P fs with
      | none => simp [ht, hl] at h
      | some l' =>
        cases hq : scalQ ti.desc with
        | none => simp [ht, hl, hq] at h
        | some q =>
          simp only [ht, hl, hq] at h
          split at h
          · rename_i hc
            simp only [bne_iff_ne, ne_eq] at hc
            simp only [Option.some.injEq] at h
            subst h
            simp only [eqCells] at hr
            cases h1 : as[f.offset]? with
            | none => simp [h1] at hr
            | some a =>
              cases h2 : bs[f.offset]? with
              | none => simp [h1, h2] at hr
              | some b =>
                obtain ⟨X, hX, vX⟩ := VRs_get ha h1
                obtain ⟨Y, hY, vY⟩ := VRs_get hb h2
                have hX' : xs[f.offset]? = some X := by simpa using hX
                have hY' : ys[f.offset]? = some Y := by simpa using hY
                have hag : (isAgg f.type).run P w = .ok false w := by
                  rw [run_isAgg' ht]
                  cases hd : ti.desc <;> simp [hd, scalQ] at hq <;> rfl
                have pX : (Go.part f.type xs f.offset).run P w = .ok X w := by simp [Go.part, hag, hX']
                have pY : (Go.part f.type ys f.offset).run P w = .ok Y w := by simp [Go.part, hag, hY']
                simp only [h1, h2] at hr
                cases he : eqCell q a b with
                | none => simp [he] at hr
                | some e =>
                  have hrun := eqCell_spec ht hq d vX vY he
                  simp only [he] at hr
                  simp only [Op.eqFields, ne_eq, hc, not_false_eq_true, if_true, Sem.run_bind, pX, pY, hrun, Result.andThen_ok]
                  cases e with
                  | true => simp only [Bool.not_true, Bool.false_eq_true, if_false] at hr ⊢; exact eqFields_spec hl d ha hb hr
                  | false => simp only [Option.some.injEq] at hr; subst hr; simp
          · cases h
def eqList (d : Nat) (e : TypeId) (n : Nat) (xs ys : Array Value) : List Nat → Sem Bool
  | [] => pure true
  | i :: r => do
    let a ← Go.part e xs (i * n)
    let b ← Go.part e ys (i * n)
    let x ← Op.equalIn d e a b
    if (!x) = true then pure false else eqList d e n xs ys r
theorem run_equalIn_array (d : Nat) (t : TypeId) (len e n : Nat) (xs ys : Array Value) (ht : P.underlying t = some (.array len e)) (hs : (sizeOf e).run P w = .ok n w) :
    (Op.equalIn (d + 1) t (.agg xs) (.agg ys)).run P w = (eqList d e n xs ys (List.range' 0 len)).run P w := by
  simp only [Op.equalIn, Sem.run_bind, run_underlying ht, hs, Result.andThen_ok, Std.Legacy.Range.forIn_eq_forIn_range', Std.Legacy.Range.size, Nat.sub_zero, Nat.add_sub_cancel, Nat.div_one]
  generalize List.range' 0 len = l
  clear ht hs
  induction l generalizing w with
  | nil => simp [eqList]
  | cons i r ih =>
    simp only [List.forIn_cons, eqList, Sem.run_bind, Sem.run_ite]
    generalize (Go.part e xs (i * n)).run P w = r1
    cases r1 with
    | ok a w1 =>
      simp only [Result.andThen_ok]
      generalize (Go.part e ys (i * n)).run P w1 = r2
      cases r2 with
      | ok b w2 =>
        simp only [Result.andThen_ok]
        generalize (Op.equalIn d e a b).run P w2 = r3
        cases r3 with
        | ok x w3 =>
          cases x
          · simp only [Result.andThen_ok, Bool.not_false, if_true, Sem.run_pure]
          · simp only [Result.andThen_ok, Bool.not_true, Bool.false_eq_true, if_false, Sem.run_pure]
            exact ih
        | halt x w3 => simp [Result.andThen]
      | halt x w2 => simp [Result.andThen]
    | halt x w1 => simp [Result.andThen]
theorem eqList_spec {e : TypeId} {te : TI} {q : Nat} (ht : tyOf P e = some te) (hq : scalQ te.desc = some q) (d : Nat) {xs ys : Array Value} {as bs : List AV} {r : Bool} (ha : VRs w U ρ as xs.toList) (hb : VRs w U ρ bs ys.toList) :
    ∀ (n i : Nat), eqCells (elemsQ q n i) as bs = some r → (eqList (d + 1) e 1 xs ys (List.range' i n)).run P w = .ok r w
  | 0, i, hr => by
    simp only [elemsQ, eqCells, Option.some.injEq] at hr
    subst hr
    simp [eqList]
  | n + 1, i, hr => by
    simp only [elemsQ, eqCells] at hr
    cases h1 : as[i]? with
    | none => simp [h1] at hr
    | some a =>
      cases h2 : bs[i]? with
      | none => simp [h1, h2] at hr
      | some b =>
        obtain ⟨X, hX, vX⟩ := VRs_get ha h1
        obtain ⟨Y, hY, vY⟩ := VRs_get hb h2
        have hX' : xs[i]? = some X := by simpa using hX
        have hY' : ys[i]? = some Y := by simpa using hY
        have hag : (isAgg e).run P w = .ok false w := by
          rw [run_isAgg' ht]
          cases hd : te.desc <;> simp [hd, scalQ] at hq <;> rfl
        have pX : (Go.part e xs (i * 1)).run P w = .ok X w := by simp [Go.part, hag, hX']
        have pY : (Go.part e ys (i * 1)).run P w = .ok Y w := by simp [Go.part, hag, hY']
        simp only [h1, h2] at hr
        cases he : eqCell q a b with
        | none => simp [he] at hr
        | some x =>
          have hrun := eqCell_spec ht hq d vX vY he
          simp only [he] at hr
          rw [List.range'_succ]
          simp only [eqList, Sem.run_bind, pX, pY, hrun, Result.andThen_ok, Sem.run_ite]
          cases x with
          | true => simp only [Bool.not_true, Bool.false_eq_true, if_false] at hr ⊢; exact eqList_spec ht hq d ha hb n (i + 1) hr
          | false => simp only [Option.some.injEq] at hr; subst hr; simp
theorem snd_eqa {neg : Bool} {t e : TypeId} {ti te : TI} {n q : Nat} (ht : tyOf P t = some ti) (hd : ti.desc = .array n e) (h2 : P.eqGuardType P.depth t = false) (hte : tyOf P e = some te) (hq : scalQ te.desc = some q) (hz : te.size = 1)
    {x y : Operand} {X Y : Value} {a b v : AV} (ha : VR w U ρ a X) (hb : VR w U ρ b Y) (h : eqcAV neg (elemsQ q n 0) a b = some v) :
    ∃ z, (do eqGuard (eqOp neg) t x y X Y; binOp (eqOp neg) t X Y : Sem Value).run P w = .ok z w ∧ VR w U ρ v z := by
  unfold eqcAV at h
  split at h
  · rename_i as bs
    simp only [VR] at ha hb
    obtain ⟨xs, rfl, ha⟩ := ha
    obtain ⟨ys, rfl, hb⟩ := hb
    split at h
    · rename_i r hr
      simp only [truV_eq, Option.some.injEq] at h
      subst h
      have hu := (tyOf_spec ht).1
      rw [hd] at hu
      have hs : (sizeOf e).run P w = .ok 1 w := by
        have := run_sizeOf' (w := w) hte
        rw [hz] at this
        exact this
      have he : (Op.equalIn 10000 t (.agg xs) (.agg ys)).run P w = .ok r w := by
        have e1 := run_equalIn_array (P := P) (w := w) 9999 t n e 1 xs ys hu hs
        exact e1.trans (eqList_spec hte hq 9998 ha hb n 0 hr)
      have := run_eqOp (P := P) (w := w) neg t (.agg xs) (.agg ys) r (.inr ⟨xs, rfl⟩) he
      refine ⟨_, ?_, VR_valOf rfl⟩
      simp only [Sem.run_bind, run_eqGuard_agg (P := P) w (eqOp neg) t x y xs ys h2, Result.andThen_ok]
      exact this
    · cases h
  · cases h
theorem snd_eqc {neg : Bool} {t : TypeId} {ti : TI} {fs : Array Field} {l : List (Nat × Nat)} (ht : tyOf P t = some ti) (hd : ti.desc = .struct fs) (h1 : P.stoodInHeld t = false) (h2 : P.eqGuardType P.depth t = false) (hl : eqFields P fs.toList = some l)
    {x y : Operand} {X Y : Value} {a b v : AV} (ha : VR w U ρ a X) (hb : VR w U ρ b Y) (h : eqcAV neg l a b = some v) :
    ∃ z, (do eqGuard (eqOp neg) t x y X Y; binOp (eqOp neg) t X Y : Sem Value).run P w = .ok z w ∧ VR w U ρ v z := by
  unfold eqcAV at h
  split at h
  · rename_i as bs
    simp only [VR] at ha hb
    obtain ⟨xs, rfl, ha⟩ := ha
    obtain ⟨ys, rfl, hb⟩ := hb
    split at h
    · rename_i r hr
      simp only [truV_eq, Option.some.injEq] at h
      subst h
      have hu := (tyOf_spec ht).1
      rw [hd] at hu
      have hf : P.fieldsOf t = fs := by simp [Program.fieldsOf, hu]
      have he : (Op.equalIn 10000 t (.agg xs) (.agg ys)).run P w = .ok r w := by
        have e1 := run_equalIn_struct (P := P) w 9999 t xs ys (by rw [hf]; exact hu) h1
        rw [hf] at e1
        exact e1.trans (eqFields_spec hl 9998 ha hb hr)
      have := run_eqOp (P := P) (w := w) neg t (.agg xs) (.agg ys) r (.inr ⟨xs, rfl⟩) he
      refine ⟨_, ?_, VR_valOf rfl⟩
      simp only [Sem.run_bind, run_eqGuard_agg (P := P) w (eqOp neg) t x y xs ys h2, Result.andThen_ok]
      exact this
    · cases h
  · cases h
/-- A slice that may be nil. -/
theorem VR_nil {v : AV} {X : Value} {b : Bool} (hv : VR w U ρ v X) (h : nilAV v = some b) : ∃ a n c, X = .slice a n c ∧ a.isNone = b := by
  unfold nilAV at h
  split at h
  · simp only [VR] at hv
    simp only [Option.some.injEq] at h
    subst h
    exact ⟨none, 0, 0, hv, rfl⟩
  · rename_i es rows ex
    split at h
    · cases h
    · rename_i hne
      simp only [Option.some.injEq] at h
      subst h
      simp only [VR] at hv
      obtain ⟨A, c, h1, _, _, h4⟩ := hv
      rcases h4 with h4 | ⟨b, o, h5, _⟩
      · simp [h4] at hne
      · exact ⟨A, _, c, h1, by rw [h5]; rfl⟩
  · rename_i es id off len ex
    split at h
    · cases h
    · rename_i hne
      simp only [Option.some.injEq] at h
      subst h
      simp only [VR] at hv
      obtain ⟨A, c, h1, _, _, h4⟩ := hv
      rcases h4 with h4 | ⟨b, C, e, fr, _, h5, _⟩
      · omega
      · exact ⟨A, _, c, h1, by rw [h5]; rfl⟩
  · cases h
theorem eqGuard_slice {op : BinOp} {t : TypeId} {x y : Operand} {a b : Option Addr} {n c n' c' : Nat} : (eqGuard op t x y (.slice a n c) (.slice b n' c')).run P w = .ok () w := by
  unfold eqGuard
  cases op <;> rfl
theorem run_eqSlice (neg : Bool) {t : TypeId} {ti : TI} {e : TypeId} (ht : tyOf P t = some ti) (hd : ti.desc = .slice e) (x y : Operand) (a : Option Addr) (n c : Nat) :
    (do eqGuard (eqOp neg) t x y (.slice a n c) (.slice none 0 0); binOp (eqOp neg) t (.slice a n c) (.slice none 0 0) : Sem Value).run P w = .ok (.bool (if neg then !a.isNone else a.isNone)) w := by
  have hu := (tyOf_spec ht).1
  rw [hd] at hu
  have he : ∀ d, (Op.equalIn (d + 1) t (.slice a n c) (.slice none 0 0)).run P w = .ok a.isNone w := fun d => by
    cases a <;> simp [Op.equalIn, run_underlying hu]
  have he' : (Op.equal t (.slice a n c) (.slice none 0 0)).run P w = .ok a.isNone w := he 9999
  simp only [Sem.run_bind, eqGuard_slice (P := P) (w := w), Result.andThen_ok]
  cases neg <;> simp [binOp, eqOp, he']
theorem snd_eqn {neg : Bool} {t : TypeId} {ti : TI} {e : TypeId} (ht : tyOf P t = some ti) (hd : ti.desc = .slice e) {x y : Operand} {X : Value} {a v : AV} (ha : VR w U ρ a X) (h : eqnAV neg a = some v) :
    ∃ z, (do eqGuard (eqOp neg) t x y X (.slice none 0 0); binOp (eqOp neg) t X (.slice none 0 0) : Sem Value).run P w = .ok z w ∧ VR w U ρ v z := by
  unfold eqnAV at h
  split at h
  · rename_i b hb
    obtain ⟨A, n, c, rfl, h2⟩ := VR_nil ha hb
    simp only [truV_eq, Option.some.injEq] at h
    subst h
    refine ⟨_, run_eqSlice neg ht hd x y A n c, ?_⟩
    rw [h2]
    exact VR_valOf rfl
  · cases h
end
end Go.Proofs.Ytefjblgmnoheiaa.R

/- More operations that touch no memory. -/
set_option linter.unusedVariables false
set_option linter.unusedSectionVars false
set_option linter.unusedSimpArgs false
noncomputable section
namespace Go.Proofs.Ytefjblgmnoheiaa.R
open Go
section
variable {P : Program} {w : World} {U : Nat → Nat → Prop} {ρ : Rho}

theorem snd_ngt {X : Value} {a v : AV} (ha : VR w U ρ a X) (h : ngtAV a = some v) : ∃ z, (Op.unary .neg X).run P w = .ok z w ∧ VR w U ρ v z := by
  unfold ngtAV at h
  split at h
  · simp only [VR] at ha
    subst ha
    simp only [numV_eq, Option.some.injEq] at h
    subst h
    exact ⟨_, by simp only [Op.unary, Op.intArith]; rfl, VR_valOf rfl⟩
  · cases h
theorem snd_nt {X : Value} {a v : AV} (ha : VR w U ρ a X) (h : ntAV a = some v) : ∃ z, (Op.unary .not X).run P w = .ok z w ∧ VR w U ρ v z := by
  unfold ntAV at h
  split at h
  · simp only [VR] at ha
    subst ha
    simp only [truV_eq, Option.some.injEq] at h
    subst h
    exact ⟨_, by simp only [Op.unary]; rfl, VR_valOf rfl⟩
  · cases h
theorem snd_cvt {s d : TypeId} {xs xd : TI} (hs : tyOf P s = some xs) (hd : tyOf P d = some xd) {k : IntKind} (hk : xd.desc = .int k) {X : Value} {a v : AV} (ha : VR w U ρ a X) (h : cvtAV k a = some v) :
    ∃ z, (convert s d X).run P w = .ok z w ∧ VR w U ρ v z := by
  unfold cvtAV at h
  split at h
  · simp only [VR] at ha
    subst ha
    simp only [numV_eq, Option.some.injEq] at h
    subst h
    refine ⟨_, ?_, VR_valOf rfl⟩
    have h2 := run_underlying' hd w
    rw [hk] at h2
    simp only [convert, Sem.run_bind, run_underlying' hs w, h2, Result.andThen_ok]
    rfl
  · cases h
theorem snd_cst {s d : TypeId} {xs xd : TI} (hs : tyOf P s = some xs) (hd : tyOf P d = some xd) (hk : xd.desc = .string) {X : Value} {a v : AV} (ha : VR w U ρ a X) (h : cstAV a = some v) :
    ∃ z, (convert s d X).run P w = .ok z w ∧ VR w U ρ v z := by
  unfold cstAV at h
  split at h
  · simp only [VR] at ha
    subst ha
    simp only [Option.some.injEq] at h
    subst h
    refine ⟨_, ?_, VR_valOf rfl⟩
    have h2 := run_underlying' hd w
    rw [hk] at h2
    simp only [convert, Sem.run_bind, run_underlying' hs w, h2, Result.andThen_ok]
    rfl
  · cases h
theorem snd_pick {B X Y : Value} {b x y v : AV} (hb : VR w U ρ b B) (hx : VR w U ρ x X) (hy : VR w U ρ y Y) (h : pickAV b x y = some v) :
    ∃ z, (do pure (.value (if ← asBool B then X else Y)) : Sem Next).run P w = .ok (.value z) w ∧ VR w U ρ v z := by
  unfold pickAV at h
  split at h
  · rename_i b
    simp only [VR] at hb
    subst hb
    simp only [Option.some.injEq] at h
    subst h
    refine ⟨if b = true then X else Y, by simp only [asBool, Sem.run_bind, Sem.run_pure, Result.andThen_ok], ?_⟩
    cases b <;> simp <;> assumption
  · cases h
/-- A part of a row. -/
theorem snd_part {t : TypeId} {x : TI} (ht : tyOf P t = some x) {cs : Array Value} {as : List AV} {off : Nat} {v : AV} (ha : VRs w U ρ as cs.toList) (h : part (aggB x.desc) x.size as off = some v) :
    ∃ z, (Go.part t cs off).run P w = .ok z w ∧ VR w U ρ v z := by
  unfold part at h
  split at h
  · rename_i hagg
    split at h
    · simp only [Option.some.injEq] at h
      subst h
      refine ⟨.agg (cs.extract off (off + x.size)), ?_, ?_⟩
      · simp only [Go.part, Sem.run_bind, run_isAgg' ht, hagg, Result.andThen_ok, if_true, run_sizeOf' ht, Sem.run_pure]
      · simp only [VR]
        refine ⟨_, rfl, ?_⟩
        have := VRs_take x.size (VRs_drop off ha)
        rw [Array.toList_extract, List.extract_eq_take_drop, Nat.add_sub_cancel_left]
        exact this
    · cases h
  · rename_i hagg
    split at h
    · rename_i v' hv'
      split at h
      · simp only [Option.some.injEq] at h
        subst h
        obtain ⟨X, hX, vX⟩ := VRs_get ha hv'
        have hX' : cs[off]? = some X := by simpa using hX
        have hagg' : aggB x.desc = false := by simpa using hagg
        refine ⟨X, ?_, vX⟩
        simp [Go.part, run_isAgg' ht, hagg', hX']
      · cases h
    · cases h
theorem snd_fld {t : TypeId} {ti : TI} (ht : tyOf P t = some ti) {fs : Array Field} (hd : ti.desc = .struct fs) {f : Nat} {fl : Field} (hf : fs[f]? = some fl) {x : TI} (hx : tyOf P fl.type = some x)
    {X : Value} {a v : AV} (ha : VR w U ρ a X) (h : fldAV (aggB x.desc) x.size fl.offset a = some v) : ∃ z, (Instr.field t X f).run P w = .ok z w ∧ VR w U ρ v z := by
  unfold fldAV at h
  split at h
  · simp only [VR] at ha
    obtain ⟨xs, rfl, ha⟩ := ha
    obtain ⟨z, h1, h2⟩ := snd_part hx ha h
    refine ⟨z, ?_, h2⟩
    have h3 := run_underlying' ht w
    rw [hd] at h3
    simp only [Instr.field, Sem.run_bind, h3, Result.andThen_ok, hf, asAgg, Sem.run_pure]
    exact h1
  · cases h
theorem snd_ext {i : Nat} {X : Value} {a v : AV} (ha : VR w U ρ a X) (h : extAV i a = some v) : ∃ z, (Instr.extract X i).run P w = .ok z w ∧ VR w U ρ v z := by
  unfold extAV at h
  split at h
  · simp only [VR] at ha
    obtain ⟨xs, rfl, ha⟩ := ha
    obtain ⟨z, h1, h2⟩ := VRs_get ha h
    have h1' : xs[i]? = some z := by simpa using h1
    exact ⟨z, by simp [Instr.extract, h1'], h2⟩
  · cases h
theorem add_off (b o n : Nat) : (⟨b, o, none⟩ : Addr).add n = ⟨b, o + n, none⟩ := by unfold Addr.add; split <;> simp_all
theorem snd_fa {t : TypeId} {ti : TI} (ht : tyOf P t = some ti) {fs : Array Field} (hd : ti.desc = .struct fs) {f : Nat} {fl : Field} (hf : fs[f]? = some fl) {x : TI} (hx : tyOf P fl.type = some x) (hz : 0 < x.size)
    {X : Value} {a v : AV} (ha : VR w U ρ a X) (h : faAV fl.offset a = some v) : ∃ z, (Instr.fieldAt t X f).run P w = .ok z w ∧ VR w U ρ v z := by
  have key : ∀ b o, X = .pointer (some ⟨b, o, none⟩) → (Instr.fieldAt t X f).run P w = .ok (.pointer (some ⟨b, o + fl.offset, none⟩)) w := by
    rintro b o rfl
    have h3 := run_underlying' ht w
    rw [hd] at h3
    have hne : ¬ x.size = 0 := by omega
    simp [Instr.fieldAt, h3, hf, Instr.sureAddr, fieldPlace, run_sizeOf' hx, hne, add_off]
  unfold faAV at h
  split at h <;> simp only [Option.some.injEq, reduceCtorEq] at h
  · subst h
    simp only [VR] at ha
    obtain ⟨b, es, h1, h2⟩ := ha
    exact ⟨_, key b _ h2, by simp only [VR]; exact ⟨b, es, h1, rfl⟩⟩
  · subst h
    simp only [VR] at ha
    obtain ⟨b, es, h1, h2⟩ := ha
    exact ⟨_, key b _ h2, by simp only [VR]; exact ⟨b, es, h1, by rw [Nat.add_assoc]⟩⟩
  · subst h
    simp only [VR] at ha
    obtain ⟨b, o, h2, h1⟩ := ha
    exact ⟨_, key b _ h2, by simp only [VR]; exact ⟨b, o, by rw [Nat.add_assoc], h1⟩⟩
theorem snd_ias {t : TypeId} {ti : TI} (ht : tyOf P t = some ti) {e : TypeId} (hd : ti.desc = .slice e) {x : TI} (hx : tyOf P e = some x)
    {X I : Value} {a i v : AV} (ha : VR w U ρ a X) (hi : VR w U ρ i I) (h : iasAV x.size a i = some v) : ∃ z, (Instr.indexAt t X I).run P w = .ok z w ∧ VR w U ρ v z := by
  have h3 := run_underlying' ht w
  rw [hd] at h3
  have key : ∀ b o len c k n, X = .slice (some ⟨b, o, none⟩) len c → I = .int k n → 0 ≤ n → n < (len : Int) → (Instr.indexAt t X I).run P w = .ok (.pointer (some ⟨b, o + n.toNat * x.size, none⟩)) w := by
    rintro b o len c k n rfl rfl h0 h1
    simp [Instr.indexAt, asIntOf, h3, h0, h1, run_sizeOf' hx, add_off]
  unfold iasAV at h
  split at h
  · rename_i es rows ex k n
    split at h
    · rename_i hc
      obtain ⟨rfl, h0⟩ := hc
      split at h
      · rename_i row hrow
        simp only [Option.some.injEq] at h
        subst h
        simp only [VR] at ha hi
        obtain ⟨A, c, h1, h2, _, h4⟩ := ha
        have hlt : n.toNat < rows.length := by
          rcases Nat.lt_or_ge n.toNat rows.length with hl | hl
          · exact hl
          · rw [List.getElem?_eq_none hl] at hrow; cases hrow
        rcases h4 with rfl | ⟨b, o, rfl, h5⟩
        · simp at hlt
        · have := RWs_get h5 hrow
          exact ⟨_, key b o _ c k n h1 hi h0 (by omega), by simp only [VR]; exact ⟨b, o + n.toNat * x.size, rfl, this.2⟩⟩
      · cases h
    · cases h
  · rename_i es id off len ex k n
    split at h
    · rename_i hc
      obtain ⟨rfl, h0, hl⟩ := hc
      simp only [Option.some.injEq] at h
      subst h
      simp only [VR] at ha hi
      obtain ⟨A, c, h1, h2, _, h4⟩ := ha
      rcases h4 with ⟨rfl, rfl⟩ | ⟨b, C, e', fr, h5, rfl, h6, h7⟩
      · simp at hl; omega
      · exact ⟨_, key b _ _ c k n h1 hi h0 hl, by simp only [VR]; exact ⟨b, x.size, h5, by rw [Nat.add_mul, Nat.add_zero]⟩⟩
    · cases h
  · cases h
theorem snd_iaa {t : TypeId} {ti : TI} (ht : tyOf P t = some ti) {e : TypeId} {n : Nat} (hd : ti.desc = .array n e) {x : TI} (hx : tyOf P e = some x)
    {X I : Value} {a i v : AV} (ha : VR w U ρ a X) (hi : VR w U ρ i I) (h : iaaAV x.size n a i = some v) : ∃ z, (Instr.indexAt t X I).run P w = .ok z w ∧ VR w U ρ v z := by
  have h3 := run_underlying' ht w
  rw [hd] at h3
  have key : ∀ b o k m, X = .pointer (some ⟨b, o, none⟩) → I = .int k m → 0 ≤ m → m < (n : Int) → (Instr.indexAt t X I).run P w = .ok (.pointer (some ⟨b, o + m.toNat * x.size, none⟩)) w := by
    rintro b o k m rfl rfl h0 h1
    simp [Instr.indexAt, asIntOf, h3, Instr.sureAddr, h0, h1, run_sizeOf' hx, add_off]
  unfold iaaAV at h
  split at h
  all_goals first
    | (cases h; done)
    | skip
  all_goals
    split at h
    · rename_i hc
      obtain ⟨h0, hl⟩ := hc
      simp only [Option.some.injEq] at h
      subst h
      simp only [VR] at ha hi
      first
        | (obtain ⟨b, es, h1, h2⟩ := ha
           exact ⟨_, key b _ _ _ h2 hi h0 hl, by simp only [VR]; exact ⟨b, es, h1, by simp [Nat.add_assoc]⟩⟩)
        | (obtain ⟨b, o, h2, h1⟩ := ha
           exact ⟨_, key b _ _ _ h2 hi h0 hl, by simp only [VR]; exact ⟨b, o, by rw [Nat.add_assoc], h1⟩⟩)
    · cases h
theorem snd_ixs {t : TypeId} {ti : TI} (ht : tyOf P t = some ti) (hd : ti.desc = .string) {X I : Value} {a i v : AV} (ha : VR w U ρ a X) (hi : VR w U ρ i I) (h : ixsAV a i = some v) :
    ∃ z, (Instr.index t X I).run P w = .ok z w ∧ VR w U ρ v z := by
  have h3 := run_underlying' ht w
  rw [hd] at h3
  unfold ixsAV at h
  split at h
  · rename_i s k n
    split at h
    · rename_i h0
      split at h
      · rename_i b hb
        simp only [Option.some.injEq] at h
        subst h
        simp only [VR] at ha hi
        subst ha; subst hi
        refine ⟨.int .u8 b.toNat, ?_, by simp [VR]⟩
        have hb' : s[n.toNat]? = some b := by
          have hlt : n.toNat < s.data.toList.length := by
            rcases Nat.lt_or_ge n.toNat s.data.toList.length with hl | hl
            · exact hl
            · rw [List.getElem?_eq_none hl] at hb; cases hb
          rw [List.getElem?_eq_getElem hlt] at hb
          have hlt' : n.toNat < s.size := by simpa using hlt
          rw [getElem?_pos s n.toNat hlt']
          have hb2 : s.data[n.toNat] = b := by simpa using hb
          exact congrArg some hb2
        simp [Instr.index, asIntOf, h3, h0, hb']
      · cases h
    · cases h
  · cases h
theorem snd_ixa {t : TypeId} {ti : TI} (ht : tyOf P t = some ti) {e : TypeId} {n : Nat} (hd : ti.desc = .array n e) {x : TI} (hx : tyOf P e = some x)
    {X I : Value} {a i v : AV} (ha : VR w U ρ a X) (hi : VR w U ρ i I) (h : ixaAV (aggB x.desc) x.size n a i = some v) : ∃ z, (Instr.index t X I).run P w = .ok z w ∧ VR w U ρ v z := by
  have h3 := run_underlying' ht w
  rw [hd] at h3
  unfold ixaAV at h
  split at h
  · rename_i cs k m
    split at h
    · rename_i hc
      simp only [VR] at ha hi
      obtain ⟨xs, rfl, ha⟩ := ha
      subst hi
      obtain ⟨z, h1, h2⟩ := snd_part hx ha h
      exact ⟨z, by simp [Instr.index, asIntOf, h3, hc, run_sizeOf' hx, h1], h2⟩
    · cases h
  · cases h
theorem snd_nc {X : Value} {a v : AV} (ha : VR w U ρ a X) (h : ncAV a = some v) :
    ∃ z, (match X with
      | .pointer none | .nilIface | .nilFunc => runtimePanic .nilDeref
      | .func (.method name) first captured =>
        match (first[0]? : Option Value) with
        | some .nilIface => runtimePanic .nilDeref
        | some (.iface t w) => do
          if (← nilAhead ((← program).types.size + Made.depth) t w name) != some false then
            unsupported (.noEntry "op/nilCheck.the method's receiver behind this interface value is a nil pointer, or cannot be seen to be none, and the arguments act or may panic (ledger 612)")
          pure (.value (.func (.method name) first captured))
        | _ => pure (.value (.func (.method name) first captured))
      | x => pure (.value x) : Sem Next).run P w = .ok (.value z) w ∧ VR w U ρ v z := by
  unfold ncAV at h
  split at h <;> simp only [Option.some.injEq, reduceCtorEq] at h
  all_goals
    subst h
    have ha' := ha
    simp only [VR] at ha
  · obtain ⟨b, es, h1, rfl⟩ := ha
    exact ⟨_, rfl, ha'⟩
  · obtain ⟨b, es, h1, rfl⟩ := ha
    exact ⟨_, rfl, ha'⟩
  · obtain ⟨b, o, rfl, h1⟩ := ha
    exact ⟨_, rfl, ha'⟩
  · obtain ⟨xs, ys, rfl, h1, h2⟩ := ha
    exact ⟨_, rfl, ha'⟩
theorem snd_lens {t ty : TypeId} {ti : TI} (ht : tyOf P t = some ti) (hd : ti.desc = .string) {X : Value} {a v : AV} (ha : VR w U ρ a X) (h : lensAV a = some v) :
    ∃ z, (Builtin.len_ #[t] ty #[X]).run P w = .ok z w ∧ VR w U ρ v z := by
  have h3 := run_underlying' ht w
  rw [hd] at h3
  unfold lensAV at h
  split at h <;> simp only [Option.some.injEq, reduceCtorEq] at h
  subst h
  simp only [VR] at ha
  subst ha
  exact ⟨_, by simp only [Builtin.len_, Sem.run_bind, List.getElem?_toArray, List.getElem?_cons_zero, h3, Result.andThen_ok]; rfl, VR_valOf rfl⟩
theorem snd_lenl {t ty : TypeId} {ti : TI} (ht : tyOf P t = some ti) {e : TypeId} (hd : ti.desc = .slice e) {X : Value} {a v : AV} (ha : VR w U ρ a X) (h : lenlAV a = some v) :
    ∃ z, (Builtin.len_ #[t] ty #[X]).run P w = .ok z w ∧ VR w U ρ v z := by
  have h3 := run_underlying' ht w
  rw [hd] at h3
  have key : ∀ A n c, X = .slice A n c → (Builtin.len_ #[t] ty #[X]).run P w = .ok (.int .i64 n) w := by
    rintro A n c rfl
    simp only [Builtin.len_, Sem.run_bind, List.getElem?_toArray, List.getElem?_cons_zero, h3, Result.andThen_ok]
    rfl
  unfold lenlAV at h
  split at h <;> simp only [Option.some.injEq, reduceCtorEq] at h <;> subst h <;> simp only [VR] at ha
  · exact ⟨_, key _ _ _ ha, by simp [VR, intV]⟩
  · obtain ⟨A, c, h1, _⟩ := ha
    exact ⟨_, key _ _ _ h1, by simp [VR, intV]⟩
  · obtain ⟨A, c, h1, _⟩ := ha
    exact ⟨_, key _ _ _ h1, by simp [VR, intV]⟩
theorem snd_mx {ts : Array TypeId} {ty : TypeId} {X Y : Value} {a b v : AV} (ha : VR w U ρ a X) (hb : VR w U ρ b Y) (h : mxAV a b = some v) :
    ∃ z, (Builtin.max_ ts ty #[X, Y]).run P w = .ok z w ∧ VR w U ρ v z := by
  unfold mxAV at h
  split at h
  · split at h
    · rename_i hk
      subst hk
      simp only [numV_eq, Option.some.injEq] at h
      subst h
      simp only [VR] at ha hb
      subst ha; subst hb
      exact ⟨_, by simp [Builtin.max_, Builtin.max2]; rfl, VR_valOf rfl⟩
    · cases h
  · cases h
theorem snd_mn {ts : Array TypeId} {ty : TypeId} {X Y : Value} {a b v : AV} (ha : VR w U ρ a X) (hb : VR w U ρ b Y) (h : mnAV a b = some v) :
    ∃ z, (Builtin.min_ ts ty #[X, Y]).run P w = .ok z w ∧ VR w U ρ v z := by
  unfold mnAV at h
  split at h
  · split at h
    · rename_i hk
      subst hk
      simp only [numV_eq, Option.some.injEq] at h
      subst h
      simp only [VR] at ha hb
      subst ha; subst hb
      exact ⟨_, by simp [Builtin.min_, Builtin.min2]; rfl, VR_valOf rfl⟩
    · cases h
  · cases h
end
end Go.Proofs.Ytefjblgmnoheiaa.R

/- Slice expressions, and structs that are built. -/
set_option linter.unusedVariables false
set_option linter.unusedSectionVars false
set_option linter.unusedSimpArgs false
noncomputable section
namespace Go.Proofs.Ytefjblgmnoheiaa.R
open Go
def VRo (w : World) (U : Nat → Nat → Prop) (ρ : Rho) (a : Option AV) (x : Option Value) : Prop :=
  match a, x with
  | none, none => True
  | some a, some x => VR w U ρ a x
  | _, _ => False
section
variable {P : Program} {w : World} {U : Nat → Nat → Prop} {ρ : Rho}
theorem optI_spec {a : Option AV} {x : Option Value} {r : Option Int} (hv : VRo w U ρ a x) (h : optI a = some r) : (r = none ∧ x = none) ∨ ∃ k n, r = some n ∧ x = some (.int k n) := by
  cases a with
  | none =>
    cases x with
    | none => simp [optI] at h; exact .inl ⟨h.symm, rfl⟩
    | some x => simp [VRo] at hv
  | some a =>
    cases x with
    | none => simp [VRo] at hv
    | some x =>
      simp only [VRo] at hv
      cases a <;> simp [optI, asI] at h
      rename_i k n
      simp only [VR] at hv
      subst hv; subst h
      exact .inr ⟨k, n, rfl, rfl⟩
theorem run_bound {k : IntKind} {i : Int} {y : Nat} {code : BoundsCode} (h0 : 0 ≤ i) (h1 : i ≤ y) : (Instr.sliceBound (.int k i) y code).run P w = .ok i.toNat w := by
  simp [Instr.sliceBound, asIntOf, h0, h1]
theorem snd_bnds {lo hi mx : Option AV} {LO HI MX : Option Value} {b ex ex' : Bool} {n c l h : Nat} (hl : VRo w U ρ lo LO) (hh : VRo w U ρ hi HI) (hm : VRo w U ρ mx MX) (hb : bnds n ex lo hi mx = some (l, h, ex')) (hc : n ≤ c) (hex : ex = true → c = n) :
    ∃ m, (Instr.sliceBounds b n c LO HI MX).run P w = .ok (l, h, m) w ∧ l ≤ h ∧ h ≤ n ∧ h ≤ m ∧ m ≤ c ∧ (ex' = true → m = h) := by
  unfold bnds at hb
  split at hb
  · rename_i r1 r2 r3 e1 e2 e3
    split at hb
    · rename_i hcond
      obtain ⟨c1, c2, c3, c4, c5⟩ := hcond
      simp only [Option.some.injEq, Prod.mk.injEq] at hb
      obtain ⟨rfl, rfl, rfl⟩ := hb
      rcases optI_spec hl e1 with ⟨rfl, rfl⟩ | ⟨k1, n1, rfl, rfl⟩ <;> rcases optI_spec hh e2 with ⟨rfl, rfl⟩ | ⟨k2, n2, rfl, rfl⟩ <;> rcases optI_spec hm e3 with ⟨rfl, rfl⟩ | ⟨k3, n3, rfl, rfl⟩ <;>
        simp only [Option.getD_some, Option.getD_none, Option.isSome_some, Option.isSome_none, Bool.false_eq_true, forall_const, true_imp_iff, false_imp_iff] at c1 c2 c3 c4 c5 ⊢
      · refine ⟨c, by simp [Instr.sliceBounds], by omega, by omega, by omega, by omega, ?_⟩
        intro h; simp at h; exact hex h
      · refine ⟨c, ?_, by omega, by omega, by omega, by omega, ?_⟩
        · have : n2 ≤ (c : Int) := by omega
          simp only [Instr.sliceBounds, Sem.run_bind, Sem.run_pure, Result.andThen_ok, run_bound (P := P) (w := w) (k := k2) (y := c) (by omega) this]
          simp
        · intro h; simp at h; have := hex h.1; omega
      · refine ⟨n3.toNat, ?_, by omega, by omega, by omega, by omega, ?_⟩
        · have : n2 ≤ (n3.toNat : Int) := by omega
          simp only [Instr.sliceBounds, Sem.run_bind, Sem.run_pure, Result.andThen_ok, run_bound (P := P) (w := w) (k := k3) (i := n3) (y := c) (by omega) (by omega), run_bound (P := P) (w := w) (k := k2) (y := n3.toNat) (by omega) this]
          simp
        · intro h; simp at h; omega
      · refine ⟨c, ?_, by omega, by omega, by omega, by omega, ?_⟩
        · simp only [Instr.sliceBounds, Sem.run_bind, Sem.run_pure, Result.andThen_ok, run_bound (P := P) (w := w) (k := k1) (i := n1) (y := n) (by omega) (by omega)]
          simp
        · intro h; simp at h; exact hex h
      · refine ⟨c, ?_, by omega, by omega, by omega, by omega, ?_⟩
        · simp only [Instr.sliceBounds, Sem.run_bind, Sem.run_pure, Result.andThen_ok, run_bound (P := P) (w := w) (k := k2) (i := n2) (y := c) (by omega) (by omega), run_bound (P := P) (w := w) (k := k1) (i := n1) (y := n2.toNat) (by omega) (by omega)]
        · intro h; simp at h; have := hex h.1; omega
      · refine ⟨n3.toNat, ?_, by omega, by omega, by omega, by omega, ?_⟩
        · simp only [Instr.sliceBounds, Sem.run_bind, Sem.run_pure, Result.andThen_ok, run_bound (P := P) (w := w) (k := k3) (i := n3) (y := c) (by omega) (by omega), run_bound (P := P) (w := w) (k := k2) (i := n2) (y := n3.toNat) (by omega) (by omega), run_bound (P := P) (w := w) (k := k1) (i := n1) (y := n2.toNat) (by omega) (by omega)]
        · intro h; simp at h; omega
    · cases hb
  · cases hb
theorem VRs_rows_sub {b o es : Nat} {rows : List (List AV)} {l h : Nat} (hr : RWs w U rows b o es) : RWs w U ((rows.take h).drop l) b (o + l * es) es := by
  refine RWs_mk fun i r hi => ?_
  rw [List.getElem?_drop, List.getElem?_take] at hi
  split at hi
  · have := RWs_get hr hi
    rw [Nat.add_mul] at this
    rw [Nat.add_assoc]
    exact this
  · cases hi
theorem snd_sls {t : TypeId} {ti : TI} (ht : tyOf P t = some ti) (hd : ti.desc = .string) {X : Value} {a v : AV} {lo hi : Option AV} {LO HI : Option Value} (ha : VR w U ρ a X) (hl : VRo w U ρ lo LO) (hh : VRo w U ρ hi HI) (h : slsAV a lo hi = some v) :
    ∃ z, (Instr.sliceAt t X LO HI none).run P w = .ok z w ∧ VR w U ρ v z := by
  have h3 := run_underlying' ht w
  rw [hd] at h3
  unfold slsAV at h
  split at h
  · rename_i s
    split at h
    · rename_i l hb ex hbn
      simp only [Option.some.injEq] at h
      subst h
      simp only [VR] at ha
      subst ha
      obtain ⟨m, h1, _⟩ := snd_bnds (P := P) (b := false) (mx := none) (MX := none) hl hh (show VRo w U ρ none none from True.intro) hbn (Nat.le_refl _) (fun h => rfl)
      refine ⟨.string (s.extract l hb), ?_, by simp [VR]⟩
      simp only [Instr.sliceAt, Instr.slice, Sem.run_bind, h3, Result.andThen_ok, Option.isSome_none, Bool.false_eq_true, if_false, h1, Sem.run_pure]
    · cases h
  · cases h
theorem snd_sll {t : TypeId} {ti : TI} (ht : tyOf P t = some ti) {e : TypeId} (hd : ti.desc = .slice e) {x : TI} (hx : tyOf P e = some x) (hz : 0 < x.size)
    {X : Value} {a v : AV} {lo hi mx : Option AV} {LO HI MX : Option Value} (ha : VR w U ρ a X) (hl : VRo w U ρ lo LO) (hh : VRo w U ρ hi HI) (hm : VRo w U ρ mx MX) (h : sllAV x.size a lo hi mx = some v) :
    ∃ z, (Instr.sliceAt t X LO HI MX).run P w = .ok z w ∧ VR w U ρ v z := by
  have h3 := run_underlying' ht w
  rw [hd] at h3
  have key : ∀ A n c l h m, X = .slice A n c → (Instr.sliceBounds true n c LO HI MX).run P w = .ok (l, h, m) w →
      (Instr.sliceAt t X LO HI MX).run P w = .ok (.slice (if m = l then A else A.map (·.add (l * x.size))) (h - l) (m - l)) w := by
    rintro A n c l h m rfl hb
    simp only [Instr.sliceAt, Instr.slice, Sem.run_bind, h3, Result.andThen_ok, hb, run_sizeOf' hx, Sem.run_pure]
  unfold sllAV at h
  split at h
  · split at h
    · rename_i r hbn
      obtain ⟨l, hb, ex'⟩ := r
      simp only [Option.some.injEq] at h
      subst h
      simp only [VR] at ha
      obtain ⟨m, h1, h2, h4, h5, h6, h7⟩ := snd_bnds (P := P) (b := true) hl hh hm hbn (Nat.le_refl _) (fun _ => rfl)
      refine ⟨_, key none 0 0 l hb m ha h1, ?_⟩
      have : m = 0 := by omega
      have : l = 0 := by omega
      have : hb = 0 := by omega
      subst_vars
      simp [VR]
    · cases h
  · rename_i es rows ex
    split at h
    · rename_i hes
      have hes := esFit_or hes
      split at h
      · rename_i l hb ex' hbn
        simp only [Option.some.injEq] at h
        subst h
        simp only [VR] at ha
        obtain ⟨A, c, hX, g1, g2, g3⟩ := ha
        obtain ⟨m, h1, h2, h4, h5, h6, h7⟩ := snd_bnds (P := P) (b := true) hl hh hm hbn g1 g2
        refine ⟨_, key A _ c l hb m hX h1, ?_⟩
        simp only [VR]
        have hlen : ((rows.take hb).drop l).length = hb - l := by
          rw [List.length_drop, List.length_take]; omega
        refine ⟨_, m - l, by rw [hlen], by omega, fun he => by rw [hlen, h7 he], ?_⟩
        by_cases hml : m = l
        · left
          apply List.eq_nil_of_length_eq_zero
          rw [hlen]; omega
        · rcases g3 with rfl | ⟨b, o, rfl, g4⟩
          · left; simp
          · rcases hes with rfl | rfl
            · left; simp
            · have g5 := VRs_rows_sub (l := l) (h := hb) g4
              rcases RWs_es g5 with g6 | g6
              · exact .inl g6
              · right
                rw [g6]
                exact ⟨b, o + l * x.size, by simp [hml, add_off], g5⟩
      · cases h
    · cases h
  · rename_i es id off len ex
    split at h
    · rename_i hes
      subst hes
      split at h
      · rename_i l hb ex' hbn
        simp only [Option.some.injEq] at h
        subst h
        simp only [VR] at ha
        obtain ⟨A, c, hX, g1, g2, g3⟩ := ha
        obtain ⟨m, h1, h2, h4, h5, h6, h7⟩ := snd_bnds (P := P) (b := true) hl hh hm hbn g1 g2
        refine ⟨_, key A _ c l hb m hX h1, ?_⟩
        simp only [VR]
        refine ⟨_, m - l, rfl, by omega, fun he => by rw [h7 he], ?_⟩
        by_cases hml : m = l
        · left
          omega
        · rcases g3 with ⟨rfl, rfl⟩ | ⟨b, C, e', fr, g4, rfl, g5, g6⟩
          · left; omega
          · right
            refine ⟨b, C, e', fr, g4, by simp [hml, add_off, Nat.add_mul], g5, ?_⟩
            have : (off + l + (m - l)) * x.size ≤ (off + c) * x.size := Nat.mul_le_mul_right _ (by omega)
            omega
      · cases h
    · cases h
  · cases h

/-! ### Structs and arrays that are built -/
theorem setAt_length : ∀ (cs : List AV) (n : Nat) (vs : List AV), (setAt cs n vs).length = cs.length
  | [], _, _ => rfl
  | c :: cs, 0, v :: vs => by simp [setAt, setAt_length cs 0 vs]
  | c :: cs, 0, [] => rfl
  | c :: cs, n + 1, vs => by simp [setAt, setAt_length cs n vs]
theorem setAt_get : ∀ (cs : List AV) (n : Nat) (vs : List AV) (i : Nat), (setAt cs n vs)[i]? = if n ≤ i ∧ i < n + vs.length ∧ i < cs.length then vs[i - n]? else cs[i]?
  | [], n, vs, i => by simp [setAt]
  | c :: cs, 0, v :: vs, 0 => by simp [setAt]
  | c :: cs, 0, v :: vs, i + 1 => by
    simp only [setAt, List.getElem?_cons_succ, setAt_get cs 0 vs i, Nat.zero_le, true_and, Nat.sub_zero, List.length_cons, Nat.zero_add]
    by_cases h : i < vs.length ∧ i < cs.length
    · rw [if_pos h, if_pos (by omega)]
    · rw [if_neg h, if_neg (by omega)]
  | c :: cs, 0, [], i => by simp [setAt]
  | c :: cs, n + 1, vs, 0 => by simp [setAt]
  | c :: cs, n + 1, vs, i + 1 => by
    simp only [setAt, List.getElem?_cons_succ, setAt_get cs n vs i, List.length_cons]
    by_cases h : n ≤ i ∧ i < n + vs.length ∧ i < cs.length
    · rw [if_pos h, if_pos (by omega)]; congr 1; omega
    · rw [if_neg h, if_neg (by omega)]
theorem VRs_of_get : ∀ {as : List AV} {xs : List Value}, as.length = xs.length → (∀ (i : Nat) (a : AV), as[i]? = some a → ∃ x, xs[i]? = some x ∧ VR w U ρ a x) → VRs w U ρ as xs
  | [], [], _, _ => by simp [VRs]
  | a :: as, [], h, _ => by simp at h
  | [], x :: xs, h, _ => by simp at h
  | a :: as, x :: xs, hl, h => by
    simp only [VRs]
    obtain ⟨y, hy, vy⟩ := h 0 a rfl
    simp at hy
    subst hy
    exact ⟨x, xs, rfl, vy, VRs_of_get (by simpa using hl) fun i a' hi => by
      obtain ⟨y, hy, vy⟩ := h (i + 1) a' (by simpa using hi)
      exact ⟨y, by simpa using hy, vy⟩⟩
/-- The values of cells, laid into others. -/
def putVals (cs : Array Value) (off : Nat) (vs : List Value) : Array Value := (vs.zipIdx).foldl (fun cs p => cs.setIfInBounds (off + p.2) p.1) cs
theorem putVals_get (vs : List Value) : ∀ (k off : Nat) (cs : Array Value) (i : Nat), ((vs.zipIdx k).foldl (fun (cs : Array Value) (p : Value × Nat) => cs.setIfInBounds (off + p.2) p.1) cs)[i]? =
    if off + k ≤ i ∧ i < off + k + vs.length ∧ i < cs.size then vs[i - (off + k)]? else cs[i]? := by
  induction vs with
  | nil => intro k off cs i; simp; intro h1 h2; omega
  | cons v vs ih =>
    intro k off cs i
    simp only [List.zipIdx_cons, List.foldl_cons, ih (k + 1) off, List.length_cons, Array.size_setIfInBounds]
    by_cases h1 : i = off + k
    · subst h1
      by_cases h2 : off + k < cs.size
      · simp [h2]
        omega
      · have : cs[off + k]? = none := Array.getElem?_eq_none (by omega)
        simp [h2, this]
    · have hne : ¬ off + k = i := fun e => h1 e.symm
      rw [Array.getElem?_setIfInBounds_ne hne]
      by_cases h3 : off + (k + 1) ≤ i ∧ i < off + (k + 1) + vs.length ∧ i < cs.size
      · rw [if_pos h3, if_pos (by omega)]
        rw [show i - (off + k) = (i - (off + (k + 1))) + 1 by omega, List.getElem?_cons_succ]
      · rw [if_neg h3, if_neg (by omega)]
theorem putVals_size (cs : Array Value) (off : Nat) : ∀ (vs : List Value) (k : Nat), ((vs.zipIdx k).foldl (fun (cs : Array Value) (p : Value × Nat) => cs.setIfInBounds (off + p.2) p.1) cs).size = cs.size := by
  intro vs
  induction vs generalizing cs with
  | nil => intro k; rfl
  | cons v vs ih => intro k; simp [List.zipIdx_cons, ih]
theorem VRs_setAt {as vs : List AV} {xs : Array Value} {ys : List Value} {off : Nat} (ha : VRs w U ρ as xs.toList) (hv : VRs w U ρ vs ys) (hl : off + vs.length ≤ as.length) :
    VRs w U ρ (setAt as off vs) (putVals xs off ys).toList := by
  have hlen := VRs_length ha
  have hlen2 := VRs_length hv
  refine VRs_of_get ?_ fun i a hi => ?_
  · rw [setAt_length, hlen]
    simp [putVals, putVals_size]
  · rw [setAt_get] at hi
    have hg := putVals_get ys 0 off xs i
    simp only [Nat.add_zero] at hg
    have hg' : (putVals xs off ys).toList[i]? = if off ≤ i ∧ i < off + ys.length ∧ i < xs.size then ys[i - off]? else xs[i]? := by
      rw [← hg]; simp [putVals]
    rw [hg']
    split at hi
    · rename_i hc
      rw [if_pos (by simp at hlen; omega)]
      exact VRs_get hv hi
    · rename_i hc
      rw [if_neg (by simp at hlen; omega)]
      obtain ⟨x, h1, h2⟩ := VRs_get ha hi
      exact ⟨x, by simpa using h1, h2⟩
/-- The parts of a struct, with their places. -/
def VRp (w : World) (U : Nat → Nat → Prop) (ρ : Rho) : List (Nat × Nat × AV) → List (Nat × Value) → (Nat → Option (Nat × Nat)) → Prop
  | [], ps, _ => ps = []
  | (off, size, a) :: r, ps, place => ∃ i x q, ps = (i, x) :: q ∧ place i = some (off, size) ∧ VR w U ρ a x ∧ VRp w U ρ r q place
theorem fill_spec {place : Nat → Option (Nat × Nat)} : ∀ {parts : List (Nat × Nat × AV)} {ps : List (Nat × Value)} {as r : List AV} {xs : Array Value}, VRp w U ρ parts ps place → VRs w U ρ as xs.toList → fillA as parts = some r →
    ∃ ys, Instr.fill place xs ps = some ys ∧ VRs w U ρ r ys.toList
  | [], ps, as, r, xs, hp, ha, h => by
    simp only [VRp] at hp
    subst hp
    simp only [fillA, Option.some.injEq] at h
    subst h
    exact ⟨xs, rfl, ha⟩
  | (off, size, a) :: q, ps, as, r, xs, hp, ha, h => by
    simp only [VRp] at hp
    obtain ⟨i, x, q', rfl, hpl, hv, hp⟩ := hp
    simp only [fillA] at h
    split at h
    · rename_i vs hvs
      split at h
      · rename_i hc
        have hcs := VRs_cells hvs hv
        have hl := VRs_length hcs
        have hl2 := VRs_length ha
        obtain ⟨ys, h1, h2⟩ := fill_spec hp (VRs_setAt ha hcs (by omega)) h
        refine ⟨ys, ?_, h2⟩
        simp only [Instr.fill, hpl]
        have c1 : x.cells.size = size := by simp at hl; omega
        have c2 : ¬ (off + x.cells.size > xs.size) := by simp at hl2; omega
        rw [if_neg (by simp only [c1, ne_eq, not_true_eq_false, false_or]; simpa [c1] using c2)]
        rw [← h1]
        congr 1
        simp only [putVals, ← Array.foldl_toList, Array.toList_zipIdx]
      · cases h
    · cases h
end
end Go.Proofs.Ytefjblgmnoheiaa.R

/- Structs that are built; operands. -/
set_option linter.unusedVariables false
set_option linter.unusedSectionVars false
set_option linter.unusedSimpArgs false
noncomputable section
namespace Go.Proofs.Ytefjblgmnoheiaa.R
open Go
section
variable {P : Program} {w : World} {U : Nat → Nat → Prop} {ρ : Rho}
theorem zeroCells_spec {x : TI} {z : List AV} (h : zeroCells x = some z) : ∃ v, x.zero = some v ∧ cellBs z = true ∧ ∀ {w : World} {U : Nat → Nat → Prop} {ρ : Rho}, VRs w U ρ z v.cells.toList := by
  unfold zeroCells at h
  split at h
  · rename_i cs hz
    split at h
    · rename_i hc
      simp only [Option.some.injEq] at h
      subst h
      exact ⟨_, hz, hc, VRs_ofCells _⟩
    · cases h
  · rename_i v hn hz
    split at h
    · rename_i hc
      simp only [Option.some.injEq] at h
      subst h
      refine ⟨v, hz, by simp [cellBs, hc], ?_⟩
      intro w U ρ
      have h1 : VR w U ρ (ofCell v) v := VR_ofCell v
      have h2 := cells_one (VR_cell hc h1)
      rw [h2]
      simp only [VRs]
      exact ⟨v, [], rfl, h1, rfl⟩
    · cases h
  · cases h
theorem frzs_length (H : Heap) : ∀ vs : List AV, (frzs H vs).length = vs.length
  | [] => rfl
  | v :: r => by simp [frzs, frzs_length H r]
theorem frz_ofCell {w : World} {U : Nat → Nat → Prop} {ρ : Rho} (v : Value) : VR w U ρ (frz [] (ofCell v)) v := by
  unfold ofCell
  split <;> simp [frz, VR, oneB, canI]
theorem frzs_ofCells {w : World} {U : Nat → Nat → Prop} {ρ : Rho} : ∀ vs : List Value, VRs w U ρ (frzs [] (vs.map ofCell)) vs
  | [] => by simp [frzs, VRs]
  | v :: vs => by
    simp only [List.map_cons, frzs, VRs]
    exact ⟨v, vs, rfl, frz_ofCell v, frzs_ofCells vs⟩
theorem frz_cell_ofCell {v : Value} (h : cellB (ofCell v) = true) : cellB (frz [] (ofCell v)) = true := by
  unfold ofCell at h ⊢
  split at h <;> simp_all [frz, cellB, canI]
theorem frzs_cell_ofCells : ∀ {vs : List Value}, cellBs (vs.map ofCell) = true → cellBs (frzs [] (vs.map ofCell)) = true
  | [], _ => rfl
  | v :: vs, h => by
    simp only [List.map_cons, cellBs, Bool.and_eq_true] at h
    simp only [List.map_cons, frzs, cellBs, Bool.and_eq_true]
    exact ⟨frz_cell_ofCell h.1, frzs_cell_ofCells h.2⟩
/-- Zero cells in one form. -/
theorem zeroCells_specF {x : TI} {z : List AV} (h : zeroCells x = some z) : ∃ v, x.zero = some v ∧ cellBs (frzs [] z) = true ∧ ∀ {w : World} {U : Nat → Nat → Prop} {ρ : Rho}, VRs w U ρ (frzs [] z) v.cells.toList := by
  unfold zeroCells at h
  split at h
  · rename_i cs hz
    split at h
    · rename_i hc
      simp only [Option.some.injEq] at h
      subst h
      exact ⟨_, hz, frzs_cell_ofCells hc, frzs_ofCells _⟩
    · cases h
  · rename_i v hn hz
    split at h
    · rename_i hc
      simp only [Option.some.injEq] at h
      subst h
      refine ⟨v, hz, frzs_cell_ofCells (vs := [v]) (by simp [cellBs, hc]), ?_⟩
      intro w U ρ
      have h1 : VR w U ρ (ofCell v) v := VR_ofCell v
      have h2 := cells_one (VR_cell hc h1)
      rw [h2]
      exact frzs_ofCells [v]
    · cases h
  · cases h
/-- Operands stand for what they are read as. -/
def Vals (w : World) (U : Nat → Nat → Prop) (ρ : Rho) (s : St) (a : Act) : Prop := ∀ t, VR w U ρ (s.get t) (a.tmps.getD t undef)
variable {s : St} {a : Act}
theorem VR_opd (hv : Vals w U ρ s a) {x : Operand} {y : Opd} (h : opd x = some y) : VR w U ρ (s.ev y) (a.eval x) := by
  cases x with
  | tmp t => simp only [opd, Option.some.injEq] at h; subst h; exact hv t
  | const v => simp only [opd, Option.some.injEq] at h; subst h; exact VR_ofConst v
  | global g => simp [opd] at h
  | func f =>
    simp only [opd, Option.some.injEq] at h
    subst h
    simp only [St.ev, Act.eval, VR]
    exact ⟨_, _, rfl, by simp [VRs], by simp [VRs]⟩
theorem VRs_opds (hv : Vals w U ρ s a) : ∀ {xs : List Operand} {ys : List Opd}, opds xs = some ys → VRs w U ρ (s.evs ys) (xs.map a.eval)
  | [], ys, h => by simp only [opds, Option.some.injEq] at h; subst h; simp [St.evs, VRs]
  | x :: xs, ys, h => by
    simp only [opds] at h
    split at h
    · rename_i y l h1 h2
      simp only [Option.some.injEq] at h
      subst h
      simp only [St.evs, List.map_cons, VRs]
      exact ⟨_, _, rfl, VR_opd hv h1, VRs_opds hv h2⟩
    · cases h
theorem VRo_oopd (hv : Vals w U ρ s a) {x : Option Operand} {y : Option Opd} (h : oopd x = some y) : VRo w U ρ (s.evo y) (x.map a.eval) := by
  cases x with
  | none => simp only [oopd, Option.some.injEq] at h; subst h; trivial
  | some x =>
    simp only [oopd] at h
    split at h
    · rename_i y' h1
      simp only [Option.some.injEq] at h
      subst h
      exact VR_opd hv h1
    · cases h
theorem VRp_placed (hv : Vals w U ρ s a) {d : TypeDesc} : ∀ {pl : List (Nat × Operand)} {ps : List (Nat × Opd)} {l : List (Nat × Nat × Opd)}, partsOf pl = some ps → placedOf P d ps = some l →
    VRp w U ρ (s.evq l) (pl.map fun p => (p.1, a.eval p.2)) (placeOf P d)
  | [], ps, l, h1, h2 => by
    simp only [partsOf, Option.some.injEq] at h1
    subst h1
    simp only [placedOf, Option.some.injEq] at h2
    subst h2
    simp [St.evq, VRp]
  | (i, x) :: pl, ps, l, h1, h2 => by
    simp only [partsOf] at h1
    split at h1
    · rename_i y q e1 e2
      simp only [Option.some.injEq] at h1
      subst h1
      simp only [placedOf] at h2
      split at h2
      · rename_i off size l' e3 e4
        simp only [Option.some.injEq] at h2
        subst h2
        simp only [St.evq, List.map_cons, VRp]
        exact ⟨i, _, _, rfl, e3, VR_opd hv e1, VRp_placed hv e2 e4⟩
      · cases h2
    · cases h1
theorem VRp_congr {place place' : Nat → Option (Nat × Nat)} (h : ∀ i x, place i = some x → place' i = some x) : ∀ {l : List (Nat × Nat × AV)} {ps : List (Nat × Value)}, VRp w U ρ l ps place → VRp w U ρ l ps place'
  | [], ps, hp => by simpa [VRp] using hp
  | (off, size, a) :: l, ps, hp => by
    simp only [VRp] at hp ⊢
    obtain ⟨i, x, q, h1, h2, h3, h4⟩ := hp
    exact ⟨i, x, q, h1, h _ _ h2, h3, VRp_congr h h4⟩
theorem run_mapM {α β : Type} (f : α → Sem β) (g : α → β) (w : World) : ∀ (l : List α), (∀ x ∈ l, (f x).run P w = .ok (g x) w) → (l.mapM f).run P w = .ok (l.map g) w
  | [], _ => by simp
  | x :: l, h => by
    rw [List.mapM_cons]
    simp only [Sem.run_bind, h x (by simp), Result.andThen_ok, run_mapM f g w l (fun y hy => h y (by simp [hy])), Sem.run_pure, List.map_cons]
theorem run_places {fs : Array Field} (h : fieldsOk P (.struct fs) = true) : ∃ pl : Array (Nat × Nat), (fs.mapM fun f => do pure (f.offset, ← sizeOf f.type) : Sem (Array (Nat × Nat))).run P w = .ok pl w ∧ ∀ i x, placeOf P (.struct fs) i = some x → pl[i]? = some x := by
  simp only [fieldsOk, List.all_eq_true] at h
  refine ⟨(fs.toList.map fun f => (f.offset, ((tyOf P f.type).map (·.size)).getD 0)).toArray, ?_, ?_⟩
  · rw [Array.mapM_eq_mapM_toList]
    rw [Sem.run_map, run_mapM _ (fun f => (f.offset, ((tyOf P f.type).map (·.size)).getD 0)) w fs.toList]
    · rfl
    · intro f hf
      obtain ⟨x, hx⟩ := Option.isSome_iff_exists.1 (h f hf)
      simp only [Sem.run_bind, run_sizeOf' hx, Result.andThen_ok, Sem.run_pure, hx, Option.map_some, Option.getD_some]
  · intro i x hx
    simp only [placeOf] at hx
    split at hx
    · rename_i f hf
      split at hx
      · rename_i xf hxf
        simp only [Option.some.injEq] at hx
        subst hx
        have hf' : fs.toList[i]? = some f := by simpa using hf
        simp [hf', hxf]
      · cases hx
    · cases hx
theorem snd_build (hv : Vals w U ρ s a) {t : TypeId} {ti : TI} (ht : tyOf P t = some ti) {parts : Array (Nat × Operand)} {ps : List (Nat × Opd)} (hp : partsOf parts.toList = some ps) {z : List AV} (hz : zeroCells ti = some z)
    {l : List (Nat × Nat × Opd)} (hl : placedOf P ti.desc ps = some l) (hagg : aggB ti.desc = true) (hok : fieldsOk P ti.desc = true) {v : AV} (h : buildAV z (s.evq l) = some v) :
    ∃ x, (Instr.build t (parts.map fun (i, x) => (i, a.eval x))).run P w = .ok x w ∧ VR w U ρ v x := by
  unfold buildAV at h
  split at h
  · rename_i cs hcs
    simp only [Option.some.injEq] at h
    subst h
    obtain ⟨zv, hzv, _, hz2⟩ := zeroCells_spec hz
    have h3 := run_underlying' ht w
    have hpl := VRp_placed (P := P) hv hp hl
    have hmap : (parts.map fun (i, x) => (i, a.eval x)).toList = parts.toList.map fun p => (p.1, a.eval p.2) := by simp
    cases hd : ti.desc with
    | struct fs =>
      rw [hd] at h3 hok hpl
      obtain ⟨pl, hr, hpc⟩ := run_places (P := P) (w := w) hok
      obtain ⟨ys, h1, h2⟩ := fill_spec (VRp_congr hpc hpl) (hz2 (w := w) (U := U) (ρ := ρ)) hcs
      refine ⟨.agg ys, ?_, by simp only [VR]; exact ⟨ys, rfl, h2⟩⟩
      simp only [Instr.build, Sem.run_bind, run_zero' ht hzv, h3, Result.andThen_ok, hr, hmap, h1, Sem.run_pure]
    | array n e =>
      rw [hd] at h3 hok hpl
      obtain ⟨x, hx⟩ := Option.isSome_iff_exists.1 (by simpa [fieldsOk] using hok)
      have hpc : ∀ i y, placeOf P (.array n e) i = some y → (fun i => some (i * x.size, x.size) : Nat → Option (Nat × Nat)) i = some y := by
        intro i y hy
        simpa [placeOf, hx] using hy
      obtain ⟨ys, h1, h2⟩ := fill_spec (VRp_congr hpc hpl) (hz2 (w := w) (U := U) (ρ := ρ)) hcs
      refine ⟨.agg ys, ?_, by simp only [VR]; exact ⟨ys, rfl, h2⟩⟩
      simp only [Instr.build, Sem.run_bind, run_zero' ht hzv, h3, Result.andThen_ok, run_sizeOf' hx, hmap, h1, Sem.run_pure]
    | _ => rw [hd] at hagg; simp [aggB] at hagg
  · cases h
end
end Go.Proofs.Ytefjblgmnoheiaa.R

