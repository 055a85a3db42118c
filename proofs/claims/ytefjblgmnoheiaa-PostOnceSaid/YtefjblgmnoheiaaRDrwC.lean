/- Regions that draw their order: one operation, two neighbours. -/
import Derived.Test.YtefjblgmnoheiaaRDrwB
set_option linter.unusedVariables false
set_option linter.unusedSectionVars false
set_option linter.unusedSimpArgs false
noncomputable section
namespace Go.Proofs.Ytefjblgmnoheiaa.R
open Go
theorem atN_ev (s : St) (q : Nat) (x : Opd) : (atN s q).ev x = s.ev x := by cases x <;> rfl
theorem atN_evs (s : St) (q : Nat) : ∀ l : List Opd, (atN s q).evs l = s.evs l := fun l => evs_congr fun x _ => atN_ev s q x
theorem atN_evp (s : St) (q : Nat) (l : List (Nat × Opd)) : (atN s q).evp l = s.evp l := evp_congr fun x _ => atN_ev s q x
theorem atN_want (s : St) (q : Nat) (g : Option (Nat × Bool)) : wantA (atN s q) g = wantA s g := rfl
theorem atN_foot (c : Cfg) (s : St) (q : Nat) (ip : IP) : foot c (atN s q) ip = foot c s ip := by
  cases ip <;> simp only [foot, atN_ev, atN_evs, atN_evp] <;> rfl
section
variable {c : Cfg} {cl : Callee} {nt base : Nat} {s s' u : St} {v : AV} {o : Iop} {f : Foot}
theorem evIO_inv (h : evIO c cl nt o s = some s') : dstOk nt o.dst = true ∧ ((wantA s o.guard = some true ∧ ∃ v s1, evOp c cl s o.op = some (v, s1) ∧ s' = s1.putO o.dst v) ∨ (wantA s o.guard = some false ∧ s' = s.putO o.dst .un)) := by
  unfold evIO at h
  rw [cond_eq_ite] at h
  split at h
  · rename_i hd
    refine ⟨hd, ?_⟩
    split at h
    · rename_i b hb
      rw [cond_eq_ite] at h
      cases b with
      | true =>
        simp only [if_true] at h
        split at h
        · rename_i v s1 hv
          rw [nowS_eq] at h
          simp only [Option.some.injEq] at h
          exact .inl ⟨hb, v, s1, hv, h.symm⟩
        · cases h
      | false =>
        simp only [Bool.false_eq_true, if_false] at h
        rw [nowS_eq] at h
        simp only [Option.some.injEq] at h
        exact .inr ⟨hb, h.symm⟩
    · cases h
  · cases h
theorem evIO_yes {s1 : St} (hd : dstOk nt o.dst = true) (hw : wantA s o.guard = some true) (h : evOp c cl s o.op = some (v, s1)) : evIO c cl nt o s = some (s1.putO o.dst v) := by
  unfold evIO
  rw [hd, hw]
  simp only [cond_true, h, nowS_eq]
theorem evIO_no (hd : dstOk nt o.dst = true) (hw : wantA s o.guard = some false) : evIO c cl nt o s = some (s.putO o.dst .un) := by
  unfold evIO
  rw [hd, hw]
  simp only [cond_true, cond_false, nowS_eq]
/-- What an operation looks at is the same. -/
def Look (o : Iop) (s u : St) : Prop := ∀ t, lookB t o = true → u.get t = s.get t
theorem readB_mem {n : Nat} : ∀ {l : List Opd}, Opd.t n ∈ l → readB n l = true
  | .t m :: r, h => by
    simp only [readB, Bool.or_eq_true]
    rcases List.mem_cons.1 h with h | h
    · cases h
      exact .inl (Nat.beq_refl n)
    · exact .inr (readB_mem h)
  | .c v :: r, h => by
    simp only [readB]
    rcases List.mem_cons.1 h with h | h
    · cases h
    · exact readB_mem h
theorem Look.ev (h : Look o s u) : ∀ x ∈ opsOf o.op, u.ev x = s.ev x := fun x hx => by
  cases x with
  | c v => rfl
  | t n =>
    refine h n ?_
    simp only [lookB, readB_mem hx, Bool.true_or]
theorem Look.want (h : Look o s u) : wantA u o.guard = wantA s o.guard := by
  cases hg : o.guard with
  | none => rfl
  | some p =>
    obtain ⟨d, b⟩ := p
    have := h d (by simp [lookB, hg])
    simp only [wantA, this]
theorem put_step {s1 : St} (hd : Disj s1) (d : Option Nat) (x : AV) (he : s1.env = s.env) (hl : s1.loc = s.loc) : (∀ t, (s1.putO d x).get t = if d = some t then x else s.get t) ∧ Disj (s1.putO d x) ∧ (s1.putO d x).H = s1.H ∧ (s1.putO d x).nx = s1.nx := by
  obtain ⟨h1, h2, h3, h4⟩ := putO_spec hd d x
  refine ⟨fun t => ?_, h2, h3, h4⟩
  rw [h1]
  split
  · rfl
  · rw [get_eq, get_eq, he, hl]
theorem disj_of {s1 : St} (hd : Disj s) (he : s1.env = s.env) (hl : s1.loc = s.loc) : Disj s1 := by
  intro t x hx
  rw [he] at hx
  rw [hl]
  exact hd t x hx
theorem evN_inv {i : Nat} (h : evN c cl nt base i o s = some s') : evIO c cl nt o (atN s (base + i * 64)) = some s' ∧ s'.nx ≤ base + i * 64 + 64 := by
  unfold evN at h
  split at h
  · rename_i s1 h1
    split at h
    · rename_i hle
      obtain rfl := Option.some.inj h
      exact ⟨h1, hle⟩
    · cases h
  · cases h
theorem evN_mk {i : Nat} (h : evIO c cl nt o (atN s (base + i * 64)) = some s') (hle : s'.nx ≤ base + i * 64 + 64) : evN c cl nt base i o s = some s' := by
  unfold evN
  rw [h]
  exact if_pos hle
/-- How many places an operation may take. -/
def wd (ip : IP) : Nat := if (valB ip || ldB ip) = true then 0 else 64
theorem wd_le (ip : IP) : wd ip ≤ 64 := by unfold wd; split <;> omega
theorem wd_nx {s1 : St} {ip : IP} (h : evOp c cl s ip = some (v, s1)) (hq : (valB ip || ldB ip) = true) : s1.nx = s.nx := by
  by_cases hv : valB ip = true
  · obtain ⟨rfl, _⟩ := p_cong (s' := s) hv h (fun _ _ => rfl)
    rfl
  · cases ip <;> simp [valB, ldB] at hv hq
    obtain ⟨_, rfl⟩ := keep_inv h
    rfl
theorem upd_none {H H1 : Heap} {id : Nat} {o x : Ob} (hid : lk H id = some x) (h : upd H id o = some H1) {k : Nat} (hk : lk H k = none) : lk H1 k = none := by
  rw [lk_upd h, if_neg]
  · exact hk
  · intro e; subst e; rw [hk] at hid; cases hid
/-- Nothing comes to be but at the places that are an operation's own. -/
theorem op_dom {s1 : St} {ip : IP} (hf : foot c s ip = some f) (h : evOp c cl s ip = some (v, s1)) (hfr : Fresh s.nx s1.nx s.H) {k : Nat} (hk : lk s.H k = none) (hn : ¬ (s.nx ≤ k ∧ k < s1.nx)) : lk s1.H k = none := by
  obtain ⟨g, hL⟩ := loc_op hf h hfr
  by_cases hw : k ∈ f.w
  · have call : ∀ {fn : Nat} {L : List AV}, footC c s fn L = some f → callAV c cl s fn L = some (v, s1) → lk s1.H k = none := by
      intro fn L hf h
      unfold footC at hf
      split at hf
      · simp only [Option.some.injEq] at hf
        subst hf
        simp at hw
      · split at hf
        · rename_i l hl
          simp only [Option.some.injEq] at hf
          subst hf
          obtain ⟨_, _, q3⟩ := reach_spec s.H fuelR L [] List.nodup_nil
          rw [reachM_eq hl] at q3
          rcases q3 k hw with hh | ⟨o, ho⟩
          · simp at hh
          · rw [hk] at ho; cases ho
        · cases hf
    cases ip <;> simp only [foot, Option.some.injEq] at hf
    case ld a size p => subst hf; simp at hw
    case b2s x => subst hf; simp at hw
    case cln es x => subst hf; simp at hw
    case clr es z x =>
      subst hf
      simp only [evOp] at h
      unfold clrAV at h
      split at h
      · split at h
        · split at h
          · rename_i hid
            split at h
            · split at h
              · rename_i H1 hu
                simp only [Option.some.injEq, Prod.mk.injEq] at h
                obtain ⟨rfl, rfl⟩ := h
                exact upd_none hid hu hk
              · cases h
            · cases h
          · rename_i hid
            split at h
            · split at h
              · rename_i H1 hu
                simp only [Option.some.injEq, Prod.mk.injEq] at h
                obtain ⟨rfl, rfl⟩ := h
                exact upd_none hid hu hk
              · cases h
            · cases h
          · cases h
        · cases h
      · simp only [Option.some.injEq, Prod.mk.injEq] at h
        obtain ⟨rfl, rfl⟩ := h
        exact hk
      · cases h
    case bsl es z len ps => subst hf; simp at hw
    case st size p x =>
      subst hf
      simp only [evOp] at h
      split at h
      · rename_i H1 hs
        simp only [Option.some.injEq, Prod.mk.injEq] at h
        obtain ⟨rfl, rfl⟩ := h
        show lk H1 k = none
        unfold storeH at hs
        split at hs
        · split at hs
          · rename_i hid _
            split at hs
            · exact upd_none hid hs hk
            · cases hs
          · cases hs
        · obtain ⟨g, _, hg⟩ := leakV_ids (s.ev x)
          split at hs
          · rename_i hid
            split at hs
            · split at hs
              · exact upd_none hid hs (by rw [hg, hk]; rfl)
              · cases hs
            · cases hs
          · rename_i hid
            unfold storeX at hs
            split at hs
            · split at hs
              · exact upd_none (lk_leakX hid) hs hk
              · cases hs
            · cases hs
          · cases hs
        · cases hs
      · cases h
    case app es x y =>
      subst hf
      simp only [evOp] at h
      have hnew : ∀ rows, newArr s es rows = some (v, s1) → lk s1.H k = none := by
        intro rows h
        obtain ⟨_, _, rfl⟩ := newArr_inv h
        simp only [St.add, lk_cons]
        rw [if_neg (fun e => hn ⟨by omega, by simp [St.add]; omega⟩)]
        exact hk
      unfold appAV at h
      repeat' split at h
      all_goals first
        | (cases h; done)
        | exact hnew _ h
        | (simp only [Option.some.injEq, Prod.mk.injEq] at h
           obtain ⟨rfl, rfl⟩ := h
           simp only [St.add, St.setH, lk_cons, lk_rmv]
           rw [if_neg (fun e => hn ⟨by omega, by simp [St.add, St.setH]; omega⟩)]
           split
           · rfl
           · exact hk)
    case cpy es x y =>
      subst hf
      simp only [evOp] at h
      unfold cpyAV at h
      split at h
      · split at h
        · split at h
          · rename_i hid
            split at h
            · split at h
              · rename_i H1 hu
                simp only [Option.some.injEq, Prod.mk.injEq] at h
                obtain ⟨rfl, rfl⟩ := h
                exact upd_none hid hu hk
              · cases h
            · cases h
          · cases h
        · cases h
      · simp only [Option.some.injEq, Prod.mk.injEq] at h
        obtain ⟨rfl, rfl⟩ := h
        exact hk
      · cases h
    case call fn args =>
      simp only [evOp] at h
      exact call hf h
    case callv q args =>
      simp only [evOp] at h
      split at hf
      · rename_i hq
        rw [hq] at h
        exact call hf h
      · cases hf
    all_goals (subst hf; simp [noFoot] at hw)
  · rw [hL.eff k, if_neg (fun hh => hh.elim hw hn), hk]
    rfl
/-- What one operation does, here and elsewhere. -/
structure Step (c : Cfg) (cl : Callee) (nt base i : Nat) (o : Iop) (s s' : St) (f : Foot) (v : AV) (g : Nat → Nat) (n : Nat) : Prop where
  get : ∀ t, s'.get t = if o.dst = some t then v else s.get t
  disj : Disj s'
  lo : base + i * 64 ≤ n
  hi : n ≤ base + i * 64 + wd o.op
  g0 : ∀ k, k ∉ f.l → g k = 0
  dom : ∀ k, lk s.H k = none → ¬ (base + i * 64 ≤ k ∧ k < base + i * 64 + wd o.op) → lk s'.H k = none
  eff : Eff f g (base + i * 64) n s'.H s.H s'.H
  same : ∀ u, Disj u → Look o s u → Agree f s.H u.H → Fresh (base + i * 64) (base + i * 64 + wd o.op) u.H → footO c u o = some f ∧ ∃ u', evN c cl nt base i o u = some u' ∧ (∀ t, u'.get t = if o.dst = some t then v else u.get t) ∧ Disj u' ∧ Eff f g (base + i * 64) n s'.H u.H u'.H
theorem step {i : Nat} (hd : Disj s) (h : evN c cl nt base i o s = some s') (hf : footO c s o = some f) (hfr : Fresh (base + i * 64) (base + i * 64 + wd o.op) s.H) : ∃ v g n, Step c cl nt base i o s s' f v g n := by
  obtain ⟨h1, hle⟩ := evN_inv h
  obtain ⟨hdst, ⟨hw, v, s1, hv, rfl⟩ | ⟨hw, rfl⟩⟩ := evIO_inv h1
  · rw [atN_want] at hw
    unfold footO at hf
    rw [hw] at hf
    simp only at hf
    have hnx : (s1.putO o.dst v).nx = s1.nx := by
      cases o.dst with
      | none => rfl
      | some d =>
        simp only [St.putO, St.put]
        cases upd s1.env d v <;> rfl
    rw [hnx] at hle
    have hwd : s1.nx ≤ base + i * 64 + wd o.op := by
      unfold wd
      split
      · rename_i hq
        have := wd_nx hv hq
        rw [this]
        exact Nat.le_refl _
      · exact hle
    have hfr1 : Fresh (atN s (base + i * 64)).nx s1.nx (atN s (base + i * 64)).H := fun k h1 h2 => hfr k h1 (Nat.lt_of_lt_of_le h2 hwd)
    have hf1 : foot c (atN s (base + i * 64)) o.op = some f := by rw [atN_foot]; exact hf
    obtain ⟨g, hL⟩ := loc_op hf1 hv hfr1
    obtain ⟨p1, p2, p3, p4⟩ := put_step (s := s) (disj_of (s := atN s (base + i * 64)) hd hL.env hL.loc) o.dst v hL.env hL.loc
    refine ⟨v, g, s1.nx, p1, p2, hL.nx, hwd, hL.g0, fun k hk hn => by rw [p3]; exact op_dom hf1 hv hfr1 hk (fun hh => hn ⟨hh.1, Nat.lt_of_lt_of_le hh.2 hwd⟩), by rw [p3]; exact hL.eff, fun u hdu hl ha hfu => ?_⟩
    obtain ⟨k1, u1, k2, k3, k4, k5, k6⟩ := hL.same (atN u (base + i * 64)) (fun x hx => by rw [atN_ev, atN_ev]; exact hl.ev x hx) rfl ha (fun k h1 h2 => hfu k h1 (Nat.lt_of_lt_of_le h2 hwd))
    obtain ⟨r1, r2, r3, r4⟩ := put_step (s := u) (disj_of (s := atN u (base + i * 64)) hdu k3 k4) o.dst v k3 k4
    refine ⟨?_, u1.putO o.dst v, evN_mk (evIO_yes hdst (by rw [atN_want, hl.want]; exact hw) k2) (by rw [r4, k5]; exact hle), r1, r2, by rw [r3, p3]; exact k6⟩
    unfold footO
    rw [hl.want, hw]
    rw [atN_foot] at k1
    exact k1
  · rw [atN_want] at hw
    unfold footO at hf
    rw [hw] at hf
    simp only [Option.some.injEq] at hf
    subst hf
    obtain ⟨p1, p2, p3, p4⟩ := put_step (s := s) (s1 := atN s (base + i * 64)) hd o.dst .un rfl rfl
    refine ⟨.un, R.g0, base + i * 64, p1, p2, Nat.le_refl _, Nat.le_add_right _ _, fun _ _ => rfl, fun k hk _ => by rw [p3]; exact hk, by rw [p3]; exact Eff.same (f := noFoot) (by simp [noFoot]), fun u hdu hl ha hfu => ?_⟩
    obtain ⟨r1, r2, r3, r4⟩ := put_step (s := u) (s1 := atN u (base + i * 64)) hdu o.dst .un rfl rfl
    refine ⟨by unfold footO; rw [hl.want, hw], _, evN_mk (evIO_no hdst (by rw [atN_want, hl.want]; exact hw)) (by rw [r4]; exact Nat.le_add_right _ _), r1, r2, by rw [r3]; exact Eff.same (f := noFoot) (by simp [noFoot])⟩
/-- The same values, the same heap. -/
structure Eqv (s u : St) : Prop where
  get : ∀ t, s.get t = u.get t
  heap : ∀ j, lk s.H j = lk u.H j
  disj : Disj u
theorem Eqv.trans {s u v : St} (h : Eqv s u) (h' : Eqv u v) : Eqv s v := ⟨fun t => (h.get t).trans (h'.get t), fun j => (h.heap j).trans (h'.heap j), h'.disj⟩
structure Apart (x y : Iop) : Prop where
  a1 : ∀ d, x.dst = some d → lookB d y = false
  a2 : ∀ d, x.dst = some d → y.dst ≠ some d
  a3 : ∀ d, y.dst = some d → lookB d x = false
theorem apart_spec {x y : Iop} (h : apartB x y = true) : Apart x y := by
  unfold apartB at h
  simp only [Bool.and_eq_true] at h
  obtain ⟨h1, h2⟩ := h
  refine ⟨fun d hd => ?_, fun d hd => ?_, fun d hd => ?_⟩
  · simp only [hd, Bool.and_eq_true] at h1
    simpa using h1.1
  · intro hy
    simp only [hd, hy, Bool.and_eq_true] at h1
    have := h1.2
    simp [Nat.beq_refl] at this
  · simp only [hd] at h2
    simpa using h2
theorem Eff.fresh {g : Nat → Nat} {q n : Nat} {H1 H H' : Heap} (h : Eff f g q n H1 H H') {a b : Nat} (hf : Fresh a b H) (ho : ∀ id ∈ f.w, id < a ∨ b ≤ id) (hd : n ≤ a ∨ b ≤ q) : Fresh a b H' := by
  intro k h1 h2
  rw [h k, if_neg, hf k h1 h2]
  · rfl
  · rintro (hh | hh)
    · have := ho k hh; omega
    · omega
/-- Two operations apart from one another. -/
structure Free (base i j wx wy : Nat) (x y : Foot) : Prop where
  xw : ∀ id ∈ x.w, id ∉ y.r ∧ id ∉ y.l ∧ id ∉ y.w
  yw : ∀ id ∈ y.w, id ∉ x.r ∧ id ∉ x.l
  xo : ∀ id, (id ∈ y.r ∨ id ∈ y.l ∨ id ∈ y.w) → id < base + i * 64 ∨ base + i * 64 + wx ≤ id
  yo : ∀ id, (id ∈ x.r ∨ id ∈ x.l ∨ id ∈ x.w) → id < base + j * 64 ∨ base + j * 64 + wy ≤ id
theorem memN_spec {x : Nat} : ∀ {l : List Nat}, memN x l = false → x ∉ l
  | [], _ => by simp
  | y :: r, h => by
    simp only [memN, Bool.or_eq_false_iff] at h
    intro hm
    rcases List.mem_cons.1 hm with rfl | hm
    · rw [Nat.beq_refl] at h; cases h.1
    · exact memN_spec h.2 hm
theorem djB_spec : ∀ {a b : List Nat}, djB a b = true → ∀ id ∈ a, id ∉ b
  | [], b, _ => by simp
  | x :: r, b, h => by
    simp only [djB, Bool.and_eq_true, Bool.not_eq_true'] at h
    intro id hid
    rcases List.mem_cons.1 hid with rfl | hid
    · exact memN_spec h.1
    · exact djB_spec h.2 id hid
theorem offB_spec {q : Nat} : ∀ {a : List Nat}, offB q a = true → ∀ id ∈ a, id < q ∨ q + 64 ≤ id
  | [], _ => by simp
  | x :: r, h => by
    simp only [offB, Bool.and_eq_true, Bool.or_eq_true, Nat.blt_eq, Nat.ble_eq] at h
    intro id hid
    rcases List.mem_cons.1 hid with rfl | hid
    · exact h.1
    · exact offB_spec h.2 id hid
theorem pairF_spec {base i j wx wy : Nat} {x y : Foot} (hx : wx ≤ 64) (hy : wy ≤ 64) (h : pairF base i j x y = true) : Free base i j wx wy x y := by
  simp only [pairF, Bool.and_eq_true] at h
  obtain ⟨h1, h2, h3, h4⟩ := h
  refine ⟨fun id hid => ?_, fun id hid => ?_, fun id hid => ?_, fun id hid => ?_⟩
  · have := djB_spec h1 id hid
    simpa [not_or] using this
  · have := djB_spec h2 id hid
    simpa [not_or] using this
  · have := offB_spec h3 id (by simpa using hid)
    omega
  · have := offB_spec h4 id (by simpa using hid)
    omega
theorem footO_val (hv : valB o.op = true) (hf : footO c s o = some f) : f = noFoot := by
  unfold footO at hf
  split at hf
  · rw [foot_val hv] at hf
    exact (Option.some.inj hf).symm
  · exact (Option.some.inj hf).symm
theorem footO_ld (hv : ldB o.op = true) (hf : footO c s o = some f) : f.w = [] ∧ f.l = [] := by
  unfold footO at hf
  split at hf
  · cases ho : o.op <;> rw [ho] at hv hf <;> simp [ldB] at hv
    simp only [foot, Option.some.injEq] at hf
    subst hf
    exact ⟨rfl, rfl⟩
  · simp only [Option.some.injEq] at hf
    subst hf
    exact ⟨rfl, rfl⟩
end
section
variable {c : Cfg} {cl : Callee} {nt base : Nat} {s s1 s2 s' u : St} {v : AV} {o x y : Iop} {fx fy : Foot}
theorem look_back (ha : Apart x y) (hg : ∀ t, s1.get t = if x.dst = some t then v else s.get t) : Look y s1 s := by
  intro t ht
  rw [hg, if_neg]
  intro hx
  rw [ha.a1 t hx] at ht
  cases ht
theorem look_forth (ha : Apart x y) (hg : ∀ t, u.get t = if y.dst = some t then v else s.get t) : Look x s u := by
  intro t ht
  rw [hg, if_neg]
  intro hy
  rw [ha.a3 t hy] at ht
  cases ht
theorem get_swap (ha : Apart x y) {vx vy : AV} {u1 u2 : St} (g1 : ∀ t, s1.get t = if x.dst = some t then vx else s.get t) (g2 : ∀ t, s2.get t = if y.dst = some t then vy else s1.get t) (g3 : ∀ t, u1.get t = if y.dst = some t then vy else s.get t) (g4 : ∀ t, u2.get t = if x.dst = some t then vx else u1.get t) : ∀ t, s2.get t = u2.get t := by
  intro t
  rw [g2, g4, g1, g3]
  by_cases hx : x.dst = some t
  · have := ha.a2 t hx
    rw [if_neg this, if_pos hx, if_pos hx]
  · rw [if_neg hx, if_neg hx]
/-- Two neighbours change places. -/
theorem swap {clx cly : Callee} {i j : Nat} (hij : i ≠ j) (ha : Apart x y) (hF : Free base i j (wd x.op) (wd y.op) fx fy) (hds : Disj s) (hfi : Fresh (base + i * 64) (base + i * 64 + wd x.op) s.H) (hfj : Fresh (base + j * 64) (base + j * 64 + wd y.op) s.H)
    (h1 : evN c clx nt base i x s = some s1) (f1 : footO c s x = some fx) (h2 : evN c cly nt base j y s1 = some s2) (f2 : footO c s1 y = some fy) :
    ∃ u1 u2, evN c cly nt base j y s = some u1 ∧ footO c s y = some fy ∧ evN c clx nt base i x u1 = some u2 ∧ footO c u1 x = some fx ∧ Eqv s2 u2 := by
  have hsep : base + i * 64 + 64 ≤ base + j * 64 ∨ base + j * 64 + 64 ≤ base + i * 64 := by omega
  obtain ⟨vx, gx, nx, tx⟩ := step hds h1 f1 hfi
  have hxlo := tx.lo
  have hxhi := tx.hi
  have hwx := wd_le x.op
  have hwy := wd_le y.op
  have hfj1 : Fresh (base + j * 64) (base + j * 64 + wd y.op) s1.H := fun k h1 h2 => tx.dom k (hfj k h1 h2) (by omega)
  obtain ⟨vy, gy, ny, ty⟩ := step tx.disj h2 f2 hfj1
  have hylo := ty.lo
  have hyhi := ty.hi
  have ex : ∀ k, ¬ (k ∈ fx.w ∨ (base + i * 64 ≤ k ∧ k < nx)) → lk s1.H k = (lk s.H k).map (leakOb (gx k)) := fun k hk => by rw [tx.eff k, if_neg hk]
  have nrx : ∀ k, (k ∈ fy.r ∨ k ∈ fy.l ∨ k ∈ fy.w) → ¬ (k ∈ fx.w ∨ (base + i * 64 ≤ k ∧ k < nx)) := by
    rintro k hk (hh | hh)
    · obtain ⟨a1, a2, a3⟩ := hF.xw k hh
      rcases hk with hk | hk | hk
      · exact a1 hk
      · exact a2 hk
      · exact a3 hk
    · have := hF.xo k hk; omega
  have agy : Agree fy s1.H s.H := by
    refine ⟨fun id hid => ?_, fun id hid => ?_, fun id hid => ?_⟩
    · rw [ex id (nrx id (.inr (.inr hid))), tx.g0 id (hF.yw id hid).2, leak_id]
    · rw [ex id (nrx id (.inl hid))]
      exact (LEq.leak _ _).symm
    · rw [ex id (nrx id (.inr (.inl hid)))]
      exact (LEq.leak _ _).symm
  obtain ⟨b0, u1, b1, b2, b3, b4⟩ := ty.same s hds (look_back ha tx.get) agy hfj
  have ey : ∀ k, ¬ (k ∈ fy.w ∨ (base + j * 64 ≤ k ∧ k < ny)) → lk u1.H k = (lk s.H k).map (leakOb (gy k)) := fun k hk => by rw [b4 k, if_neg hk]
  have nry : ∀ k, (k ∈ fx.r ∨ k ∈ fx.l ∨ k ∈ fx.w) → ¬ (k ∈ fy.w ∨ (base + j * 64 ≤ k ∧ k < ny)) := by
    rintro k hk (hh | hh)
    · obtain ⟨a1, a2⟩ := hF.yw k hh
      rcases hk with hk | hk | hk
      · exact a1 hk
      · exact a2 hk
      · exact (hF.xw k hk).2.2 hh
    · have := hF.yo k hk; omega
  have agx : Agree fx s.H u1.H := by
    refine ⟨fun id hid => ?_, fun id hid => ?_, fun id hid => ?_⟩
    · rw [ey id (nry id (.inr (.inr hid))), ty.g0 id (hF.xw id hid).2.1, leak_id]
    · rw [ey id (nry id (.inl hid))]
      exact LEq.leak _ _
    · rw [ey id (nry id (.inr (.inl hid)))]
      exact LEq.leak _ _
  have hfi1 : Fresh (base + i * 64) (base + i * 64 + wd x.op) u1.H := b4.fresh hfi (fun id hid => hF.xo id (.inr (.inr hid))) (by omega)
  obtain ⟨c0, u2, c1, c2, c3, c4⟩ := tx.same u1 b3 (look_forth ha b2) agx hfi1
  refine ⟨u1, u2, b1, b0, c1, c0, get_swap ha tx.get ty.get b2 c2, fun k => ?_, c3⟩
  by_cases hky : k ∈ fy.w ∨ (base + j * 64 ≤ k ∧ k < ny)
  · have hnx : ¬ (k ∈ fx.w ∨ (base + i * 64 ≤ k ∧ k < nx)) := by
      rintro (hh | hh)
      · rcases hky with hk | hk
        · exact (hF.xw k hh).2.2 hk
        · have := hF.yo k (.inr (.inr hh)); omega
      · rcases hky with hk | hk
        · have := hF.xo k (.inr (.inr hk)); omega
        · omega
    have hgx : gx k = 0 := tx.g0 k fun hl => by
      rcases hky with hk | hk
      · exact (hF.yw k hk).2 hl
      · have := hF.yo k (.inr (.inl hl)); omega
    rw [c4 k, if_neg hnx, b4 k, if_pos hky, hgx, leak_id]
  · by_cases hkx : k ∈ fx.w ∨ (base + i * 64 ≤ k ∧ k < nx)
    · have hgy : gy k = 0 := ty.g0 k fun hl => by
        rcases hkx with hk | hk
        · exact (hF.xw k hk).2.1 hl
        · have := hF.xo k (.inr (.inl hl)); omega
      rw [ty.eff k, if_neg hky, c4 k, if_pos hkx, hgy, leak_id]
    · rw [ty.eff k, if_neg hky, c4 k, if_neg hkx, ex k hkx, ey k hky, leak_add, leak_add, Nat.max_comm]
end
end Go.Proofs.Ytefjblgmnoheiaa.R
