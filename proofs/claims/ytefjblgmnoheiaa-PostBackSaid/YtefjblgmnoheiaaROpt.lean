/- More operations that touch no memory. -/
import Derived.Test.YtefjblgmnoheiaaROps
set_option linter.unusedVariables false
set_option linter.unusedSectionVars false
set_option linter.unusedSimpArgs false
noncomputable section
namespace Go.Proofs.Ytefjblgmnoheiaa.R
open Go
section
variable {P : Program} {w : World} {U : Nat → Nat → Prop} {ρ : Rho}

theorem snd_ngt {X : Value} {a v : AV} (ha : VR w U ρ a X) (h : ngtAV a = some v) : ∃ z, (Op.unary .neg X).run P w = .ok z w ∧ VR w U ρ v z := by
  unfold ngtAV at h
  split at h
  · simp only [VR] at ha
    subst ha
    simp only [numV_eq, Option.some.injEq] at h
    subst h
    exact ⟨_, by simp only [Op.unary, Op.intArith]; rfl, VR_valOf rfl⟩
  · cases h
theorem snd_nt {X : Value} {a v : AV} (ha : VR w U ρ a X) (h : ntAV a = some v) : ∃ z, (Op.unary .not X).run P w = .ok z w ∧ VR w U ρ v z := by
  unfold ntAV at h
  split at h
  · simp only [VR] at ha
    subst ha
    simp only [truV_eq, Option.some.injEq] at h
    subst h
    exact ⟨_, by simp only [Op.unary]; rfl, VR_valOf rfl⟩
  · cases h
theorem snd_cvt {s d : TypeId} {xs xd : TI} (hs : tyOf P s = some xs) (hd : tyOf P d = some xd) {k : IntKind} (hk : xd.desc = .int k) {X : Value} {a v : AV} (ha : VR w U ρ a X) (h : cvtAV k a = some v) :
    ∃ z, (convert s d X).run P w = .ok z w ∧ VR w U ρ v z := by
  unfold cvtAV at h
  split at h
  · simp only [VR] at ha
    subst ha
    simp only [numV_eq, Option.some.injEq] at h
    subst h
    refine ⟨_, ?_, VR_valOf rfl⟩
    have h2 := run_underlying' hd w
    rw [hk] at h2
    simp only [convert, Sem.run_bind, run_underlying' hs w, h2, Result.andThen_ok]
    rfl
  · cases h
theorem snd_cst {s d : TypeId} {xs xd : TI} (hs : tyOf P s = some xs) (hd : tyOf P d = some xd) (hk : xd.desc = .string) {X : Value} {a v : AV} (ha : VR w U ρ a X) (h : cstAV a = some v) :
    ∃ z, (convert s d X).run P w = .ok z w ∧ VR w U ρ v z := by
  unfold cstAV at h
  split at h
  · simp only [VR] at ha
    subst ha
    simp only [Option.some.injEq] at h
    subst h
    refine ⟨_, ?_, VR_valOf rfl⟩
    have h2 := run_underlying' hd w
    rw [hk] at h2
    simp only [convert, Sem.run_bind, run_underlying' hs w, h2, Result.andThen_ok]
    rfl
  · cases h
theorem snd_pick {B X Y : Value} {b x y v : AV} (hb : VR w U ρ b B) (hx : VR w U ρ x X) (hy : VR w U ρ y Y) (h : pickAV b x y = some v) :
    ∃ z, (do pure (.value (if ← asBool B then X else Y)) : Sem Next).run P w = .ok (.value z) w ∧ VR w U ρ v z := by
  unfold pickAV at h
  split at h
  · rename_i b
    simp only [VR] at hb
    subst hb
    simp only [Option.some.injEq] at h
    subst h
    refine ⟨if b = true then X else Y, by simp only [asBool, Sem.run_bind, Sem.run_pure, Result.andThen_ok], ?_⟩
    cases b <;> simp <;> assumption
  · cases h
/-- A part of a row. -/
theorem snd_part {t : TypeId} {x : TI} (ht : tyOf P t = some x) {cs : Array Value} {as : List AV} {off : Nat} {v : AV} (ha : VRs w U ρ as cs.toList) (h : part (aggB x.desc) x.size as off = some v) :
    ∃ z, (Go.part t cs off).run P w = .ok z w ∧ VR w U ρ v z := by
  unfold part at h
  split at h
  · rename_i hagg
    split at h
    · simp only [Option.some.injEq] at h
      subst h
      refine ⟨.agg (cs.extract off (off + x.size)), ?_, ?_⟩
      · simp only [Go.part, Sem.run_bind, run_isAgg' ht, hagg, Result.andThen_ok, if_true, run_sizeOf' ht, Sem.run_pure]
      · simp only [VR]
        refine ⟨_, rfl, ?_⟩
        have := VRs_take x.size (VRs_drop off ha)
        rw [Array.toList_extract, List.extract_eq_take_drop, Nat.add_sub_cancel_left]
        exact this
    · cases h
  · rename_i hagg
    split at h
    · rename_i v' hv'
      split at h
      · simp only [Option.some.injEq] at h
        subst h
        obtain ⟨X, hX, vX⟩ := VRs_get ha hv'
        have hX' : cs[off]? = some X := by simpa using hX
        have hagg' : aggB x.desc = false := by simpa using hagg
        refine ⟨X, ?_, vX⟩
        simp [Go.part, run_isAgg' ht, hagg', hX']
      · cases h
    · cases h
theorem snd_fld {t : TypeId} {ti : TI} (ht : tyOf P t = some ti) {fs : Array Field} (hd : ti.desc = .struct fs) {f : Nat} {fl : Field} (hf : fs[f]? = some fl) {x : TI} (hx : tyOf P fl.type = some x)
    {X : Value} {a v : AV} (ha : VR w U ρ a X) (h : fldAV (aggB x.desc) x.size fl.offset a = some v) : ∃ z, (Instr.field t X f).run P w = .ok z w ∧ VR w U ρ v z := by
  unfold fldAV at h
  split at h
  · simp only [VR] at ha
    obtain ⟨xs, rfl, ha⟩ := ha
    obtain ⟨z, h1, h2⟩ := snd_part hx ha h
    refine ⟨z, ?_, h2⟩
    have h3 := run_underlying' ht w
    rw [hd] at h3
    simp only [Instr.field, Sem.run_bind, h3, Result.andThen_ok, hf, asAgg, Sem.run_pure]
    exact h1
  · cases h
theorem snd_ext {i : Nat} {X : Value} {a v : AV} (ha : VR w U ρ a X) (h : extAV i a = some v) : ∃ z, (Instr.extract X i).run P w = .ok z w ∧ VR w U ρ v z := by
  unfold extAV at h
  split at h
  · simp only [VR] at ha
    obtain ⟨xs, rfl, ha⟩ := ha
    obtain ⟨z, h1, h2⟩ := VRs_get ha h
    have h1' : xs[i]? = some z := by simpa using h1
    exact ⟨z, by simp [Instr.extract, h1'], h2⟩
  · cases h
theorem add_off (b o n : Nat) : (⟨b, o, none⟩ : Addr).add n = ⟨b, o + n, none⟩ := by unfold Addr.add; split <;> simp_all
theorem snd_fa {t : TypeId} {ti : TI} (ht : tyOf P t = some ti) {fs : Array Field} (hd : ti.desc = .struct fs) {f : Nat} {fl : Field} (hf : fs[f]? = some fl) {x : TI} (hx : tyOf P fl.type = some x) (hz : 0 < x.size)
    {X : Value} {a v : AV} (ha : VR w U ρ a X) (h : faAV fl.offset a = some v) : ∃ z, (Instr.fieldAt t X f).run P w = .ok z w ∧ VR w U ρ v z := by
  have key : ∀ b o, X = .pointer (some ⟨b, o, none⟩) → (Instr.fieldAt t X f).run P w = .ok (.pointer (some ⟨b, o + fl.offset, none⟩)) w := by
    rintro b o rfl
    have h3 := run_underlying' ht w
    rw [hd] at h3
    have hne : ¬ x.size = 0 := by omega
    simp [Instr.fieldAt, h3, hf, Instr.sureAddr, fieldPlace, run_sizeOf' hx, hne, add_off]
  unfold faAV at h
  split at h <;> simp only [Option.some.injEq, reduceCtorEq] at h
  · subst h
    simp only [VR] at ha
    obtain ⟨b, es, h1, h2⟩ := ha
    exact ⟨_, key b _ h2, by simp only [VR]; exact ⟨b, es, h1, rfl⟩⟩
  · subst h
    simp only [VR] at ha
    obtain ⟨b, es, h1, h2⟩ := ha
    exact ⟨_, key b _ h2, by simp only [VR]; exact ⟨b, es, h1, by rw [Nat.add_assoc]⟩⟩
  · subst h
    simp only [VR] at ha
    obtain ⟨b, o, h2, h1⟩ := ha
    exact ⟨_, key b _ h2, by simp only [VR]; exact ⟨b, o, by rw [Nat.add_assoc], h1⟩⟩
theorem snd_ias {t : TypeId} {ti : TI} (ht : tyOf P t = some ti) {e : TypeId} (hd : ti.desc = .slice e) {x : TI} (hx : tyOf P e = some x)
    {X I : Value} {a i v : AV} (ha : VR w U ρ a X) (hi : VR w U ρ i I) (h : iasAV x.size a i = some v) : ∃ z, (Instr.indexAt t X I).run P w = .ok z w ∧ VR w U ρ v z := by
  have h3 := run_underlying' ht w
  rw [hd] at h3
  have key : ∀ b o len c k n, X = .slice (some ⟨b, o, none⟩) len c → I = .int k n → 0 ≤ n → n < (len : Int) → (Instr.indexAt t X I).run P w = .ok (.pointer (some ⟨b, o + n.toNat * x.size, none⟩)) w := by
    rintro b o len c k n rfl rfl h0 h1
    simp [Instr.indexAt, asIntOf, h3, h0, h1, run_sizeOf' hx, add_off]
  unfold iasAV at h
  split at h
  · rename_i es rows ex k n
    split at h
    · rename_i hc
      obtain ⟨rfl, h0⟩ := hc
      split at h
      · rename_i row hrow
        simp only [Option.some.injEq] at h
        subst h
        simp only [VR] at ha hi
        obtain ⟨A, c, h1, h2, _, h4⟩ := ha
        have hlt : n.toNat < rows.length := by
          rcases Nat.lt_or_ge n.toNat rows.length with hl | hl
          · exact hl
          · rw [List.getElem?_eq_none hl] at hrow; cases hrow
        rcases h4 with rfl | ⟨b, o, rfl, h5⟩
        · simp at hlt
        · have := RWs_get h5 hrow
          exact ⟨_, key b o _ c k n h1 hi h0 (by omega), by simp only [VR]; exact ⟨b, o + n.toNat * x.size, rfl, this.2⟩⟩
      · cases h
    · cases h
  · rename_i es id off len ex k n
    split at h
    · rename_i hc
      obtain ⟨rfl, h0, hl⟩ := hc
      simp only [Option.some.injEq] at h
      subst h
      simp only [VR] at ha hi
      obtain ⟨A, c, h1, h2, _, h4⟩ := ha
      rcases h4 with ⟨rfl, rfl⟩ | ⟨b, C, e', fr, h5, rfl, h6, h7⟩
      · simp at hl; omega
      · exact ⟨_, key b _ _ c k n h1 hi h0 hl, by simp only [VR]; exact ⟨b, x.size, h5, by rw [Nat.add_mul, Nat.add_zero]⟩⟩
    · cases h
  · cases h
theorem snd_iaa {t : TypeId} {ti : TI} (ht : tyOf P t = some ti) {e : TypeId} {n : Nat} (hd : ti.desc = .array n e) {x : TI} (hx : tyOf P e = some x)
    {X I : Value} {a i v : AV} (ha : VR w U ρ a X) (hi : VR w U ρ i I) (h : iaaAV x.size n a i = some v) : ∃ z, (Instr.indexAt t X I).run P w = .ok z w ∧ VR w U ρ v z := by
  have h3 := run_underlying' ht w
  rw [hd] at h3
  have key : ∀ b o k m, X = .pointer (some ⟨b, o, none⟩) → I = .int k m → 0 ≤ m → m < (n : Int) → (Instr.indexAt t X I).run P w = .ok (.pointer (some ⟨b, o + m.toNat * x.size, none⟩)) w := by
    rintro b o k m rfl rfl h0 h1
    simp [Instr.indexAt, asIntOf, h3, Instr.sureAddr, h0, h1, run_sizeOf' hx, add_off]
  unfold iaaAV at h
  split at h
  all_goals first
    | (cases h; done)
    | skip
  all_goals
    split at h
    · rename_i hc
      obtain ⟨h0, hl⟩ := hc
      simp only [Option.some.injEq] at h
      subst h
      simp only [VR] at ha hi
      first
        | (obtain ⟨b, es, h1, h2⟩ := ha
           exact ⟨_, key b _ _ _ h2 hi h0 hl, by simp only [VR]; exact ⟨b, es, h1, by simp [Nat.add_assoc]⟩⟩)
        | (obtain ⟨b, o, h2, h1⟩ := ha
           exact ⟨_, key b _ _ _ h2 hi h0 hl, by simp only [VR]; exact ⟨b, o, by rw [Nat.add_assoc], h1⟩⟩)
    · cases h
theorem snd_ixs {t : TypeId} {ti : TI} (ht : tyOf P t = some ti) (hd : ti.desc = .string) {X I : Value} {a i v : AV} (ha : VR w U ρ a X) (hi : VR w U ρ i I) (h : ixsAV a i = some v) :
    ∃ z, (Instr.index t X I).run P w = .ok z w ∧ VR w U ρ v z := by
  have h3 := run_underlying' ht w
  rw [hd] at h3
  unfold ixsAV at h
  split at h
  · rename_i s k n
    split at h
    · rename_i h0
      split at h
      · rename_i b hb
        simp only [Option.some.injEq] at h
        subst h
        simp only [VR] at ha hi
        subst ha; subst hi
        refine ⟨.int .u8 b.toNat, ?_, by simp [VR]⟩
        have hb' : s[n.toNat]? = some b := by
          have hlt : n.toNat < s.data.toList.length := by
            rcases Nat.lt_or_ge n.toNat s.data.toList.length with hl | hl
            · exact hl
            · rw [List.getElem?_eq_none hl] at hb; cases hb
          rw [List.getElem?_eq_getElem hlt] at hb
          have hlt' : n.toNat < s.size := by simpa using hlt
          rw [getElem?_pos s n.toNat hlt']
          have hb2 : s.data[n.toNat] = b := by simpa using hb
          exact congrArg some hb2
        simp [Instr.index, asIntOf, h3, h0, hb']
      · cases h
    · cases h
  · cases h
theorem snd_ixa {t : TypeId} {ti : TI} (ht : tyOf P t = some ti) {e : TypeId} {n : Nat} (hd : ti.desc = .array n e) {x : TI} (hx : tyOf P e = some x)
    {X I : Value} {a i v : AV} (ha : VR w U ρ a X) (hi : VR w U ρ i I) (h : ixaAV (aggB x.desc) x.size n a i = some v) : ∃ z, (Instr.index t X I).run P w = .ok z w ∧ VR w U ρ v z := by
  have h3 := run_underlying' ht w
  rw [hd] at h3
  unfold ixaAV at h
  split at h
  · rename_i cs k m
    split at h
    · rename_i hc
      simp only [VR] at ha hi
      obtain ⟨xs, rfl, ha⟩ := ha
      subst hi
      obtain ⟨z, h1, h2⟩ := snd_part hx ha h
      exact ⟨z, by simp [Instr.index, asIntOf, h3, hc, run_sizeOf' hx, h1], h2⟩
    · cases h
  · cases h
theorem snd_nc {X : Value} {a v : AV} (ha : VR w U ρ a X) (h : ncAV a = some v) :
    ∃ z, (match X with
      | .pointer none | .nilIface | .nilFunc => runtimePanic .nilDeref
      | .func (.method name) first captured =>
        match (first[0]? : Option Value) with
        | some .nilIface => runtimePanic .nilDeref
        | some (.iface t w) => do
          if (← nilAhead ((← program).types.size + Made.depth) t w name) != some false then
            unsupported (.noEntry "op/nilCheck.the method's receiver behind this interface value is a nil pointer, or cannot be seen to be none, and the arguments act or may panic (ledger 612)")
          pure (.value (.func (.method name) first captured))
        | _ => pure (.value (.func (.method name) first captured))
      | x => pure (.value x) : Sem Next).run P w = .ok (.value z) w ∧ VR w U ρ v z := by
  unfold ncAV at h
  split at h <;> simp only [Option.some.injEq, reduceCtorEq] at h
  all_goals
    subst h
    have ha' := ha
    simp only [VR] at ha
  · obtain ⟨b, es, h1, rfl⟩ := ha
    exact ⟨_, rfl, ha'⟩
  · obtain ⟨b, es, h1, rfl⟩ := ha
    exact ⟨_, rfl, ha'⟩
  · obtain ⟨b, o, rfl, h1⟩ := ha
    exact ⟨_, rfl, ha'⟩
  · obtain ⟨xs, ys, rfl, h1, h2⟩ := ha
    exact ⟨_, rfl, ha'⟩
theorem snd_lens {t ty : TypeId} {ti : TI} (ht : tyOf P t = some ti) (hd : ti.desc = .string) {X : Value} {a v : AV} (ha : VR w U ρ a X) (h : lensAV a = some v) :
    ∃ z, (Builtin.len_ #[t] ty #[X]).run P w = .ok z w ∧ VR w U ρ v z := by
  have h3 := run_underlying' ht w
  rw [hd] at h3
  unfold lensAV at h
  split at h <;> simp only [Option.some.injEq, reduceCtorEq] at h
  subst h
  simp only [VR] at ha
  subst ha
  exact ⟨_, by simp only [Builtin.len_, Sem.run_bind, List.getElem?_toArray, List.getElem?_cons_zero, h3, Result.andThen_ok]; rfl, VR_valOf rfl⟩
theorem snd_lenl {t ty : TypeId} {ti : TI} (ht : tyOf P t = some ti) {e : TypeId} (hd : ti.desc = .slice e) {X : Value} {a v : AV} (ha : VR w U ρ a X) (h : lenlAV a = some v) :
    ∃ z, (Builtin.len_ #[t] ty #[X]).run P w = .ok z w ∧ VR w U ρ v z := by
  have h3 := run_underlying' ht w
  rw [hd] at h3
  have key : ∀ A n c, X = .slice A n c → (Builtin.len_ #[t] ty #[X]).run P w = .ok (.int .i64 n) w := by
    rintro A n c rfl
    simp only [Builtin.len_, Sem.run_bind, List.getElem?_toArray, List.getElem?_cons_zero, h3, Result.andThen_ok]
    rfl
  unfold lenlAV at h
  split at h <;> simp only [Option.some.injEq, reduceCtorEq] at h <;> subst h <;> simp only [VR] at ha
  · exact ⟨_, key _ _ _ ha, by simp [VR, intV]⟩
  · obtain ⟨A, c, h1, _⟩ := ha
    exact ⟨_, key _ _ _ h1, by simp [VR, intV]⟩
  · obtain ⟨A, c, h1, _⟩ := ha
    exact ⟨_, key _ _ _ h1, by simp [VR, intV]⟩
theorem snd_mx {ts : Array TypeId} {ty : TypeId} {X Y : Value} {a b v : AV} (ha : VR w U ρ a X) (hb : VR w U ρ b Y) (h : mxAV a b = some v) :
    ∃ z, (Builtin.max_ ts ty #[X, Y]).run P w = .ok z w ∧ VR w U ρ v z := by
  unfold mxAV at h
  split at h
  · split at h
    · rename_i hk
      subst hk
      simp only [numV_eq, Option.some.injEq] at h
      subst h
      simp only [VR] at ha hb
      subst ha; subst hb
      exact ⟨_, by simp [Builtin.max_, Builtin.max2]; rfl, VR_valOf rfl⟩
    · cases h
  · cases h
theorem snd_mn {ts : Array TypeId} {ty : TypeId} {X Y : Value} {a b v : AV} (ha : VR w U ρ a X) (hb : VR w U ρ b Y) (h : mnAV a b = some v) :
    ∃ z, (Builtin.min_ ts ty #[X, Y]).run P w = .ok z w ∧ VR w U ρ v z := by
  unfold mnAV at h
  split at h
  · split at h
    · rename_i hk
      subst hk
      simp only [numV_eq, Option.some.injEq] at h
      subst h
      simp only [VR] at ha hb
      subst ha; subst hb
      exact ⟨_, by simp [Builtin.min_, Builtin.min2]; rfl, VR_valOf rfl⟩
    · cases h
  · cases h
end
end Go.Proofs.Ytefjblgmnoheiaa.R
