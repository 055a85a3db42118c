/- Slice expressions, and structs that are built. -/
import Derived.Test.YtefjblgmnoheiaaROpt
set_option linter.unusedVariables false
set_option linter.unusedSectionVars false
set_option linter.unusedSimpArgs false
noncomputable section
namespace Go.Proofs.Ytefjblgmnoheiaa.R
open Go
def VRo (w : World) (U : Nat → Nat → Prop) (ρ : Rho) (a : Option AV) (x : Option Value) : Prop :=
  match a, x with
  | none, none => True
  | some a, some x => VR w U ρ a x
  | _, _ => False
section
variable {P : Program} {w : World} {U : Nat → Nat → Prop} {ρ : Rho}
theorem optI_spec {a : Option AV} {x : Option Value} {r : Option Int} (hv : VRo w U ρ a x) (h : optI a = some r) : (r = none ∧ x = none) ∨ ∃ k n, r = some n ∧ x = some (.int k n) := by
  cases a with
  | none =>
    cases x with
    | none => simp [optI] at h; exact .inl ⟨h.symm, rfl⟩
    | some x => simp [VRo] at hv
  | some a =>
    cases x with
    | none => simp [VRo] at hv
    | some x =>
      simp only [VRo] at hv
      cases a <;> simp [optI, asI] at h
      rename_i k n
      simp only [VR] at hv
      subst hv; subst h
      exact .inr ⟨k, n, rfl, rfl⟩
theorem run_bound {k : IntKind} {i : Int} {y : Nat} {code : BoundsCode} (h0 : 0 ≤ i) (h1 : i ≤ y) : (Instr.sliceBound (.int k i) y code).run P w = .ok i.toNat w := by
  simp [Instr.sliceBound, asIntOf, h0, h1]
theorem snd_bnds {lo hi mx : Option AV} {LO HI MX : Option Value} {b ex ex' : Bool} {n c l h : Nat} (hl : VRo w U ρ lo LO) (hh : VRo w U ρ hi HI) (hm : VRo w U ρ mx MX) (hb : bnds n ex lo hi mx = some (l, h, ex')) (hc : n ≤ c) (hex : ex = true → c = n) :
    ∃ m, (Instr.sliceBounds b n c LO HI MX).run P w = .ok (l, h, m) w ∧ l ≤ h ∧ h ≤ n ∧ h ≤ m ∧ m ≤ c ∧ (ex' = true → m = h) := by
  unfold bnds at hb
  split at hb
  · rename_i r1 r2 r3 e1 e2 e3
    split at hb
    · rename_i hcond
      obtain ⟨c1, c2, c3, c4, c5⟩ := hcond
      simp only [Option.some.injEq, Prod.mk.injEq] at hb
      obtain ⟨rfl, rfl, rfl⟩ := hb
      rcases optI_spec hl e1 with ⟨rfl, rfl⟩ | ⟨k1, n1, rfl, rfl⟩ <;> rcases optI_spec hh e2 with ⟨rfl, rfl⟩ | ⟨k2, n2, rfl, rfl⟩ <;> rcases optI_spec hm e3 with ⟨rfl, rfl⟩ | ⟨k3, n3, rfl, rfl⟩ <;>
        simp only [Option.getD_some, Option.getD_none, Option.isSome_some, Option.isSome_none, Bool.false_eq_true, forall_const, true_imp_iff, false_imp_iff] at c1 c2 c3 c4 c5 ⊢
      · refine ⟨c, by simp [Instr.sliceBounds], by omega, by omega, by omega, by omega, ?_⟩
        intro h; simp at h; exact hex h
      · refine ⟨c, ?_, by omega, by omega, by omega, by omega, ?_⟩
        · have : n2 ≤ (c : Int) := by omega
          simp only [Instr.sliceBounds, Sem.run_bind, Sem.run_pure, Result.andThen_ok, run_bound (P := P) (w := w) (k := k2) (y := c) (by omega) this]
          simp
        · intro h; simp at h; have := hex h.1; omega
      · refine ⟨n3.toNat, ?_, by omega, by omega, by omega, by omega, ?_⟩
        · have : n2 ≤ (n3.toNat : Int) := by omega
          simp only [Instr.sliceBounds, Sem.run_bind, Sem.run_pure, Result.andThen_ok, run_bound (P := P) (w := w) (k := k3) (i := n3) (y := c) (by omega) (by omega), run_bound (P := P) (w := w) (k := k2) (y := n3.toNat) (by omega) this]
          simp
        · intro h; simp at h; omega
      · refine ⟨c, ?_, by omega, by omega, by omega, by omega, ?_⟩
        · simp only [Instr.sliceBounds, Sem.run_bind, Sem.run_pure, Result.andThen_ok, run_bound (P := P) (w := w) (k := k1) (i := n1) (y := n) (by omega) (by omega)]
          simp
        · intro h; simp at h; exact hex h
      · refine ⟨c, ?_, by omega, by omega, by omega, by omega, ?_⟩
        · simp only [Instr.sliceBounds, Sem.run_bind, Sem.run_pure, Result.andThen_ok, run_bound (P := P) (w := w) (k := k2) (i := n2) (y := c) (by omega) (by omega), run_bound (P := P) (w := w) (k := k1) (i := n1) (y := n2.toNat) (by omega) (by omega)]
        · intro h; simp at h; have := hex h.1; omega
      · refine ⟨n3.toNat, ?_, by omega, by omega, by omega, by omega, ?_⟩
        · simp only [Instr.sliceBounds, Sem.run_bind, Sem.run_pure, Result.andThen_ok, run_bound (P := P) (w := w) (k := k3) (i := n3) (y := c) (by omega) (by omega), run_bound (P := P) (w := w) (k := k2) (i := n2) (y := n3.toNat) (by omega) (by omega), run_bound (P := P) (w := w) (k := k1) (i := n1) (y := n2.toNat) (by omega) (by omega)]
        · intro h; simp at h; omega
    · cases hb
  · cases hb
theorem VRs_rows_sub {b o es : Nat} {rows : List (List AV)} {l h : Nat} (hr : RWs w U rows b o es) : RWs w U ((rows.take h).drop l) b (o + l * es) es := by
  refine RWs_mk fun i r hi => ?_
  rw [List.getElem?_drop, List.getElem?_take] at hi
  split at hi
  · have := RWs_get hr hi
    rw [Nat.add_mul] at this
    rw [Nat.add_assoc]
    exact this
  · cases hi
theorem snd_sls {t : TypeId} {ti : TI} (ht : tyOf P t = some ti) (hd : ti.desc = .string) {X : Value} {a v : AV} {lo hi : Option AV} {LO HI : Option Value} (ha : VR w U ρ a X) (hl : VRo w U ρ lo LO) (hh : VRo w U ρ hi HI) (h : slsAV a lo hi = some v) :
    ∃ z, (Instr.sliceAt t X LO HI none).run P w = .ok z w ∧ VR w U ρ v z := by
  have h3 := run_underlying' ht w
  rw [hd] at h3
  unfold slsAV at h
  split at h
  · rename_i s
    split at h
    · rename_i l hb ex hbn
      simp only [Option.some.injEq] at h
      subst h
      simp only [VR] at ha
      subst ha
      obtain ⟨m, h1, _⟩ := snd_bnds (P := P) (b := false) (mx := none) (MX := none) hl hh (show VRo w U ρ none none from True.intro) hbn (Nat.le_refl _) (fun h => rfl)
      refine ⟨.string (s.extract l hb), ?_, by simp [VR]⟩
      simp only [Instr.sliceAt, Instr.slice, Sem.run_bind, h3, Result.andThen_ok, Option.isSome_none, Bool.false_eq_true, if_false, h1, Sem.run_pure]
    · cases h
  · cases h
theorem snd_sll {t : TypeId} {ti : TI} (ht : tyOf P t = some ti) {e : TypeId} (hd : ti.desc = .slice e) {x : TI} (hx : tyOf P e = some x) (hz : 0 < x.size)
    {X : Value} {a v : AV} {lo hi mx : Option AV} {LO HI MX : Option Value} (ha : VR w U ρ a X) (hl : VRo w U ρ lo LO) (hh : VRo w U ρ hi HI) (hm : VRo w U ρ mx MX) (h : sllAV x.size a lo hi mx = some v) :
    ∃ z, (Instr.sliceAt t X LO HI MX).run P w = .ok z w ∧ VR w U ρ v z := by
  have h3 := run_underlying' ht w
  rw [hd] at h3
  have key : ∀ A n c l h m, X = .slice A n c → (Instr.sliceBounds true n c LO HI MX).run P w = .ok (l, h, m) w →
      (Instr.sliceAt t X LO HI MX).run P w = .ok (.slice (if m = l then A else A.map (·.add (l * x.size))) (h - l) (m - l)) w := by
    rintro A n c l h m rfl hb
    simp only [Instr.sliceAt, Instr.slice, Sem.run_bind, h3, Result.andThen_ok, hb, run_sizeOf' hx, Sem.run_pure]
  unfold sllAV at h
  split at h
  · split at h
    · rename_i r hbn
      obtain ⟨l, hb, ex'⟩ := r
      simp only [Option.some.injEq] at h
      subst h
      simp only [VR] at ha
      obtain ⟨m, h1, h2, h4, h5, h6, h7⟩ := snd_bnds (P := P) (b := true) hl hh hm hbn (Nat.le_refl _) (fun _ => rfl)
      refine ⟨_, key none 0 0 l hb m ha h1, ?_⟩
      have : m = 0 := by omega
      have : l = 0 := by omega
      have : hb = 0 := by omega
      subst_vars
      simp [VR]
    · cases h
  · rename_i es rows ex
    split at h
    · rename_i hes
      have hes := esFit_or hes
      split at h
      · rename_i l hb ex' hbn
        simp only [Option.some.injEq] at h
        subst h
        simp only [VR] at ha
        obtain ⟨A, c, hX, g1, g2, g3⟩ := ha
        obtain ⟨m, h1, h2, h4, h5, h6, h7⟩ := snd_bnds (P := P) (b := true) hl hh hm hbn g1 g2
        refine ⟨_, key A _ c l hb m hX h1, ?_⟩
        simp only [VR]
        have hlen : ((rows.take hb).drop l).length = hb - l := by
          rw [List.length_drop, List.length_take]; omega
        refine ⟨_, m - l, by rw [hlen], by omega, fun he => by rw [hlen, h7 he], ?_⟩
        by_cases hml : m = l
        · left
          apply List.eq_nil_of_length_eq_zero
          rw [hlen]; omega
        · rcases g3 with rfl | ⟨b, o, rfl, g4⟩
          · left; simp
          · rcases hes with rfl | rfl
            · left; simp
            · have g5 := VRs_rows_sub (l := l) (h := hb) g4
              rcases RWs_es g5 with g6 | g6
              · exact .inl g6
              · right
                rw [g6]
                exact ⟨b, o + l * x.size, by simp [hml, add_off], g5⟩
      · cases h
    · cases h
  · rename_i es id off len ex
    split at h
    · rename_i hes
      subst hes
      split at h
      · rename_i l hb ex' hbn
        simp only [Option.some.injEq] at h
        subst h
        simp only [VR] at ha
        obtain ⟨A, c, hX, g1, g2, g3⟩ := ha
        obtain ⟨m, h1, h2, h4, h5, h6, h7⟩ := snd_bnds (P := P) (b := true) hl hh hm hbn g1 g2
        refine ⟨_, key A _ c l hb m hX h1, ?_⟩
        simp only [VR]
        refine ⟨_, m - l, rfl, by omega, fun he => by rw [h7 he], ?_⟩
        by_cases hml : m = l
        · left
          omega
        · rcases g3 with ⟨rfl, rfl⟩ | ⟨b, C, e', fr, g4, rfl, g5, g6⟩
          · left; omega
          · right
            refine ⟨b, C, e', fr, g4, by simp [hml, add_off, Nat.add_mul], g5, ?_⟩
            have : (off + l + (m - l)) * x.size ≤ (off + c) * x.size := Nat.mul_le_mul_right _ (by omega)
            omega
      · cases h
    · cases h
  · cases h

/-! ### Structs and arrays that are built -/
theorem setAt_length : ∀ (cs : List AV) (n : Nat) (vs : List AV), (setAt cs n vs).length = cs.length
  | [], _, _ => rfl
  | c :: cs, 0, v :: vs => by simp [setAt, setAt_length cs 0 vs]
  | c :: cs, 0, [] => rfl
  | c :: cs, n + 1, vs => by simp [setAt, setAt_length cs n vs]
theorem setAt_get : ∀ (cs : List AV) (n : Nat) (vs : List AV) (i : Nat), (setAt cs n vs)[i]? = if n ≤ i ∧ i < n + vs.length ∧ i < cs.length then vs[i - n]? else cs[i]?
  | [], n, vs, i => by simp [setAt]
  | c :: cs, 0, v :: vs, 0 => by simp [setAt]
  | c :: cs, 0, v :: vs, i + 1 => by
    simp only [setAt, List.getElem?_cons_succ, setAt_get cs 0 vs i, Nat.zero_le, true_and, Nat.sub_zero, List.length_cons, Nat.zero_add]
    by_cases h : i < vs.length ∧ i < cs.length
    · rw [if_pos h, if_pos (by omega)]
    · rw [if_neg h, if_neg (by omega)]
  | c :: cs, 0, [], i => by simp [setAt]
  | c :: cs, n + 1, vs, 0 => by simp [setAt]
  | c :: cs, n + 1, vs, i + 1 => by
    simp only [setAt, List.getElem?_cons_succ, setAt_get cs n vs i, List.length_cons]
    by_cases h : n ≤ i ∧ i < n + vs.length ∧ i < cs.length
    · rw [if_pos h, if_pos (by omega)]; congr 1; omega
    · rw [if_neg h, if_neg (by omega)]
theorem VRs_of_get : ∀ {as : List AV} {xs : List Value}, as.length = xs.length → (∀ (i : Nat) (a : AV), as[i]? = some a → ∃ x, xs[i]? = some x ∧ VR w U ρ a x) → VRs w U ρ as xs
  | [], [], _, _ => by simp [VRs]
  | a :: as, [], h, _ => by simp at h
  | [], x :: xs, h, _ => by simp at h
  | a :: as, x :: xs, hl, h => by
    simp only [VRs]
    obtain ⟨y, hy, vy⟩ := h 0 a rfl
    simp at hy
    subst hy
    exact ⟨x, xs, rfl, vy, VRs_of_get (by simpa using hl) fun i a' hi => by
      obtain ⟨y, hy, vy⟩ := h (i + 1) a' (by simpa using hi)
      exact ⟨y, by simpa using hy, vy⟩⟩
/-- The values of cells, laid into others. -/
def putVals (cs : Array Value) (off : Nat) (vs : List Value) : Array Value := (vs.zipIdx).foldl (fun cs p => cs.setIfInBounds (off + p.2) p.1) cs
theorem putVals_get (vs : List Value) : ∀ (k off : Nat) (cs : Array Value) (i : Nat), ((vs.zipIdx k).foldl (fun (cs : Array Value) (p : Value × Nat) => cs.setIfInBounds (off + p.2) p.1) cs)[i]? =
    if off + k ≤ i ∧ i < off + k + vs.length ∧ i < cs.size then vs[i - (off + k)]? else cs[i]? := by
  induction vs with
  | nil => intro k off cs i; simp; intro h1 h2; omega
  | cons v vs ih =>
    intro k off cs i
    simp only [List.zipIdx_cons, List.foldl_cons, ih (k + 1) off, List.length_cons, Array.size_setIfInBounds]
    by_cases h1 : i = off + k
    · subst h1
      by_cases h2 : off + k < cs.size
      · simp [h2]
        omega
      · have : cs[off + k]? = none := Array.getElem?_eq_none (by omega)
        simp [h2, this]
    · have hne : ¬ off + k = i := fun e => h1 e.symm
      rw [Array.getElem?_setIfInBounds_ne hne]
      by_cases h3 : off + (k + 1) ≤ i ∧ i < off + (k + 1) + vs.length ∧ i < cs.size
      · rw [if_pos h3, if_pos (by omega)]
        rw [show i - (off + k) = (i - (off + (k + 1))) + 1 by omega, List.getElem?_cons_succ]
      · rw [if_neg h3, if_neg (by omega)]
theorem putVals_size (cs : Array Value) (off : Nat) : ∀ (vs : List Value) (k : Nat), ((vs.zipIdx k).foldl (fun (cs : Array Value) (p : Value × Nat) => cs.setIfInBounds (off + p.2) p.1) cs).size = cs.size := by
  intro vs
  induction vs generalizing cs with
  | nil => intro k; rfl
  | cons v vs ih => intro k; simp [List.zipIdx_cons, ih]
theorem VRs_setAt {as vs : List AV} {xs : Array Value} {ys : List Value} {off : Nat} (ha : VRs w U ρ as xs.toList) (hv : VRs w U ρ vs ys) (hl : off + vs.length ≤ as.length) :
    VRs w U ρ (setAt as off vs) (putVals xs off ys).toList := by
  have hlen := VRs_length ha
  have hlen2 := VRs_length hv
  refine VRs_of_get ?_ fun i a hi => ?_
  · rw [setAt_length, hlen]
    simp [putVals, putVals_size]
  · rw [setAt_get] at hi
    have hg := putVals_get ys 0 off xs i
    simp only [Nat.add_zero] at hg
    have hg' : (putVals xs off ys).toList[i]? = if off ≤ i ∧ i < off + ys.length ∧ i < xs.size then ys[i - off]? else xs[i]? := by
      rw [← hg]; simp [putVals]
    rw [hg']
    split at hi
    · rename_i hc
      rw [if_pos (by simp at hlen; omega)]
      exact VRs_get hv hi
    · rename_i hc
      rw [if_neg (by simp at hlen; omega)]
      obtain ⟨x, h1, h2⟩ := VRs_get ha hi
      exact ⟨x, by simpa using h1, h2⟩
/-- The parts of a struct, with their places. -/
def VRp (w : World) (U : Nat → Nat → Prop) (ρ : Rho) : List (Nat × Nat × AV) → List (Nat × Value) → (Nat → Option (Nat × Nat)) → Prop
  | [], ps, _ => ps = []
  | (off, size, a) :: r, ps, place => ∃ i x q, ps = (i, x) :: q ∧ place i = some (off, size) ∧ VR w U ρ a x ∧ VRp w U ρ r q place
theorem fill_spec {place : Nat → Option (Nat × Nat)} : ∀ {parts : List (Nat × Nat × AV)} {ps : List (Nat × Value)} {as r : List AV} {xs : Array Value}, VRp w U ρ parts ps place → VRs w U ρ as xs.toList → fillA as parts = some r →
    ∃ ys, Instr.fill place xs ps = some ys ∧ VRs w U ρ r ys.toList
  | [], ps, as, r, xs, hp, ha, h => by
    simp only [VRp] at hp
    subst hp
    simp only [fillA, Option.some.injEq] at h
    subst h
    exact ⟨xs, rfl, ha⟩
  | (off, size, a) :: q, ps, as, r, xs, hp, ha, h => by
    simp only [VRp] at hp
    obtain ⟨i, x, q', rfl, hpl, hv, hp⟩ := hp
    simp only [fillA] at h
    split at h
    · rename_i vs hvs
      split at h
      · rename_i hc
        have hcs := VRs_cells hvs hv
        have hl := VRs_length hcs
        have hl2 := VRs_length ha
        obtain ⟨ys, h1, h2⟩ := fill_spec hp (VRs_setAt ha hcs (by omega)) h
        refine ⟨ys, ?_, h2⟩
        simp only [Instr.fill, hpl]
        have c1 : x.cells.size = size := by simp at hl; omega
        have c2 : ¬ (off + x.cells.size > xs.size) := by simp at hl2; omega
        rw [if_neg (by simp only [c1, ne_eq, not_true_eq_false, false_or]; simpa [c1] using c2)]
        rw [← h1]
        congr 1
        simp only [putVals, ← Array.foldl_toList, Array.toList_zipIdx]
      · cases h
    · cases h
end
end Go.Proofs.Ytefjblgmnoheiaa.R
