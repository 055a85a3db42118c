/- States that tell less, in one form: slots forgotten, slices read as they are, empty slices as arrays, places named anew. -/
import Derived.Test.YtefjblgmnoheiaaRTab
set_option linter.unusedVariables false
set_option linter.unusedSectionVars false
set_option linter.unusedSimpArgs false
noncomputable section
namespace Go.Proofs.Ytefjblgmnoheiaa.R
open Go
/-- How a value is told in one form. virt: an empty slice as an array of one's own; frz: read as it is. -/
inductive WV where
  | virt (es : Nat)
  | frz
/-- kill: slots forgotten; at: a slot's value; cell: a cell of the box that a slot leads to; mov: the array of one's own that a slot holds, as a new place; movc: so, in a cell of the box that a slot leads to; drop: places forgotten; cut: so many elements of an array are told of, no more; toX, unX: an array whose elements lead, or do not lead, to other places; rowf: an element of such an array as it is now; tidy: places named anew, in their order. -/
inductive WA where
  | kill (ts : List Nat)
  | at (t : Nat) (v : WV)
  | cell (t off : Nat) (v : WV)
  | mov (t : Nat)
  | movc (t off : Nat)
  | drop (ids : List Nat)
  | cut (id n : Nat)
  | toX (id : Nat)
  | rowf (id i : Nat)
  | unX (id : Nat)
  | tidy
def inB (t : Nat) : List Nat → Bool
  | [] => false
  | x :: r => Nat.beq x t || inB t r
def killE (ts : List Nat) : List (Nat × AV) → List (Nat × AV)
  | [] => []
  | (t, v) :: r => (if inB t ts = true then (t, .bad) else (t, v)) :: killE ts r
/-- A value in one form, the heap, the next place. -/
def wkV (k : WV) (v : AV) (H : Heap) (nx : Nat) : AV × Heap × Nat :=
  match k with
  | .frz => (frz H v, leakV H v, nx)
  | .virt es =>
    match v with
    | .nil => (.own es nx 0 0 false, (nx, .arr es [] 0) :: H, nx + 1)
    | .own es' id off len _ => (.own es' id off len false, H, nx)
    | v => (v, H, nx)
def evW1 (m : Nat) (x : WA) (s : St) : Option St :=
  match x with
  | .kill ts => some { s with env := killE ts s.env }
  | .at t k =>
    match lk s.env t with
    | some v => match upd s.env t (wkV k v s.H s.nx).1 with | some e => some { s with env := e, H := (wkV k v s.H s.nx).2.1, nx := (wkV k v s.H s.nx).2.2 } | none => none
    | none => none
  | .cell t off k =>
    match lk s.env t with
    | some (.ptr id o) =>
      match lk s.H id with
      | some (.box cells) =>
        match cells[o + off]? with
        | some v => match upd (wkV k v s.H s.nx).2.1 id (.box (setAt cells (o + off) [(wkV k v s.H s.nx).1])) with | some H => some { s with H := H, nx := (wkV k v s.H s.nx).2.2 } | none => none
        | none => none
      | _ => none
    | _ => none
  | .mov t =>
    match lk s.env t with
    | some (.own es id off len ex) =>
      match lk s.H id, upd s.env t (.own es s.nx off len ex) with
      | some (.arr es' rows leak), some e => some { s with env := e, H := (s.nx, .arr es' rows leak) :: rmv s.H id, nx := s.nx + 1 }
      | _, _ => none
    | _ => none
  | .movc t off =>
    match lk s.env t with
    | some (.ptr id o) =>
      match lk s.H id with
      | some (.box cells) =>
        match cells[o + off]? with
        | some (.own es j f len ex) =>
          match lk s.H j, upd s.H id (.box (setAt cells (o + off) [.own es s.nx f len ex])) with
          | some (.arr es' rows leak), some H => some { s with H := (s.nx, .arr es' rows leak) :: rmv H j, nx := s.nx + 1 }
          | _, _ => none
        | _ => none
      | _ => none
    | _ => none
  | .drop ids => some { s with H := dropAll s.H ids }
  | .cut id n =>
    match lk s.H id with
    | some (.arr es rows leak) => match upd s.H id (.arr es (rows.take n) leak) with | some H => some { s with H := H } | none => none
    | _ => none
  | .toX id =>
    match lk s.H id with
    | some (.arr es rows 0) => match upd s.H id (.arx es rows) with | some H => some { s with H := H } | none => none
    | _ => none
  | .rowf id i =>
    match lk s.H id with
    | some (.arx es rows) =>
      match rows[i]? with
      | some row => match upd (leakVs s.H row) id (.arx es (rows.set i (frzs s.H row))) with | some H => some { s with H := H } | none => none
      | none => none
    | _ => none
  | .unX id =>
    match lk s.H id with
    | some (.arx es rows) => if rows.all idFrees = true then (match upd s.H id (.arr es rows 0) with | some H => some { s with H := H } | none => none) else none
    | _ => none
  | .tidy =>
    match s.tidy m with
    | ⟨e, l, H, n⟩ => some ⟨e, l, canG H n, n⟩
def evW (m : Nat) : List WA → St → Option St
  | [], s => some s
  | x :: r, s => match evW1 m x s with | some s' => evW m r s' | none => none

section
variable {A : Nat → Nat → Prop} {E : Entry} {nt : Nat} {a : Act} {w : World} {s s' : St} {ρ : Rho} {H H' : Heap} {nx : Nat}
theorem lk_killE (ts : List Nat) : ∀ (e : List (Nat × AV)) (t : Nat), lk (killE ts e) t = (lk e t).map (fun v => if inB t ts = true then .bad else v)
  | [], t => by simp [killE]
  | (k, v) :: r, t => by
    simp only [killE]
    by_cases h : inB k ts = true
    · rw [if_pos h, lk_cons, lk_cons]
      by_cases hk : k = t
      · subst hk; simp [h]
      · simp only [hk, if_false]
        exact lk_killE ts r t
    · rw [if_neg h, lk_cons, lk_cons]
      by_cases hk : k = t
      · subst hk; simp [h]
      · simp only [hk, if_false]
        exact lk_killE ts r t
theorem SR_kill (h : SR A E nt s a w) (ts : List Nat) : SR A E nt { s with env := killE ts s.env } a w := by
  obtain ⟨ρ, hr, hv, hx, hf⟩ := h.ex
  refine ⟨fun t x hx => ?_, h.size, h.defers, ρ, hr, fun t => ?_, hx, hf⟩
  · have hx : lk (killE ts s.env) t = some x := hx
    rw [lk_killE] at hx
    cases he : lk s.env t with
    | none => rw [he] at hx; cases hx
    | some y => exact h.disj t y he
  · have h1 := hv t
    rw [get_eq] at h1 ⊢
    show VR w _ ρ ((lk s.loc t).getD ((lk (killE ts s.env) t).getD .bad)) _
    rw [lk_killE]
    cases hl : lk s.loc t with
    | some y => rw [hl] at h1; exact h1
    | none =>
      rw [hl] at h1
      cases he : lk s.env t with
      | none => simp [VR]
      | some y =>
        rw [he] at h1
        simp only [Option.map_some, Option.getD_none, Option.getD_some] at h1 ⊢
        split
        · simp [VR]
        · exact h1
/-- A value in one form stands for the same. -/
theorem wkV_spec (hr : Rep A ρ H nx w) (k : WV) (v : AV) : Rep A ρ (wkV k v H nx).2.1 (wkV k v H nx).2.2 w ∧ (∀ b o, Wr ρ (wkV k v H nx).2.1 b o → Wr ρ H b o) ∧ nx ≤ (wkV k v H nx).2.2 ∧
    (∀ x, VR w (UU A ρ H) ρ v x → VR w (UU A ρ (wkV k v H nx).2.1) ρ (wkV k v H nx).1 x) ∧
    (∀ id cells, lk H id = some (.box cells) → lk (wkV k v H nx).2.1 id = some (.box cells)) := by
  cases k with
  | frz =>
    have hl := leakV_leaked v H
    refine ⟨Rep_leak hr hl, fun b o => Wr_leak hl, Nat.le_refl _, fun x hx => ?_, fun id cells h => ?_⟩
    · have := VR_frz hr v H (Leaked.refl _) (leakV H v) (Leaked.refl _) x hx
      exact VR_mono (Stay.refl _ _) _ _ _ _ (fun _ _ h => by simp [noRho] at h) this
    · obtain ⟨n, h1⟩ := hl.get id _ h
      simpa [leakOb, wkV] using h1
  | virt es =>
    cases v with
    | nil =>
      obtain ⟨h1, h2⟩ := Rep_none hr (.arr es [] 0)
      have hw : ∀ b o, Wr ρ ((nx, .arr es [] 0) :: H) b o → Wr ρ H b o := by
        intro b o hh
        obtain ⟨id, es', ob, g1, g2, g3⟩ := hh
        rcases lk_new g1 with ⟨rfl, rfl⟩ | ⟨h5, h6⟩
        · have := hr.ltR _ _ g2; omega
        · exact ⟨id, es', ob, h6, g2, g3⟩
      refine ⟨h1, hw, Nat.le_succ _, fun x hx => ?_, fun id cells h => ?_⟩
      · simp only [wkV, VR] at hx ⊢
        subst hx
        exact ⟨none, 0, rfl, Nat.le_refl _, by simp, .inl (by simp)⟩
      · have := hr.ltH _ _ h
        simp only [wkV, lk_cons]
        rw [if_neg (by omega)]
        exact h
    | own es' id off len ex =>
      refine ⟨hr, fun _ _ h => h, Nat.le_refl _, fun x hx => ?_, fun _ _ h => h⟩
      simp only [wkV, VR] at hx ⊢
      obtain ⟨B, c, h1, h2, h3, h4⟩ := hx
      exact ⟨B, c, h1, h2, by simp, h4⟩
    | _ => exact ⟨hr, fun _ _ h => h, Nat.le_refl _, fun x hx => hx, fun _ _ h => h⟩
theorem Stay_less_wr (h : ∀ b o, Wr ρ H' b o → Wr ρ H b o) : Stay w (UU A ρ H) w (UU A ρ H') := Stay.less fun b o hu => hu.imp_right (h b o)
/-- A box whose cells are told otherwise. -/
theorem Rep_box (hr : Rep A ρ H nx w) {id : Nat} {cells cells' : List AV} (hid : lk H id = some (.box cells)) (hH : ∀ k, lk H' k = if k = id then some (.box cells') else lk H k)
    (hc : ∀ xs, VRs w (UU A ρ H) ρ cells xs → VRs w (UU A ρ H) ρ cells' xs) : Rep A ρ H' nx w ∧ ∀ b o, Wr ρ H' b o → Wr ρ H b o := by
  have hw : ∀ b o, Wr ρ H' b o → Wr ρ H b o := by
    rintro b' o ⟨id', es', o', g1, g2, g3⟩
    rw [hH] at g1
    by_cases hi : id' = id
    · subst hi
      exact ⟨id', es', _, hid, g2, trivial⟩
    · rw [if_neg hi] at g1
      exact ⟨id', es', o', g1, g2, g3⟩
  have old : ∀ k o, lk H' k = some o → ∃ o', lk H k = some o' := by
    intro k o hk
    rw [hH] at hk
    by_cases hi : k = id
    · subst hi; exact ⟨_, hid⟩
    · rw [if_neg hi] at hk; exact ⟨o, hk⟩
  refine ⟨?_, hw⟩
  exact
    { ob := fun i o b' es' g1 g2 => by
        rw [hH] at g1
        by_cases hi : i = id
        · subst hi
          rw [if_pos rfl] at g1
          obtain rfl := Option.some.inj g1
          obtain ⟨C, e, fr, k1, k2, k3⟩ := hr.ob _ _ b' es' hid g2
          exact ⟨C, e, fr, k1, k2, VRs_mono (Stay_less_wr hw) _ _ _ _ (Ext.refl _) (hc _ k3)⟩
        · rw [if_neg hi] at g1
          exact ObR_mono (Stay_less_wr hw) (Ext.refl _) rfl (hr.ob i o b' es' g1 g2)
      inj := fun i j oi oj b' ei ej g1 g2 g3 g4 => by
        obtain ⟨o1, g5⟩ := old i oi g1
        obtain ⟨o2, g6⟩ := old j oj g2
        exact hr.inj i j o1 o2 b' ei ej g5 g6 g3 g4
      ltH := fun i o g1 => by
        obtain ⟨o1, g5⟩ := old i o g1
        exact hr.ltH i o1 g5
      ltR := hr.ltR
      ltA := hr.ltA
      apart := fun i o b' es' off g1 g2 => by
        obtain ⟨o1, g5⟩ := old i o g1
        exact hr.apart i o1 b' es' off g5 g2 }
theorem SR_at (h : SR A E nt s a w) {t : Nat} {k : WV} {v : AV} (hv0 : lk s.env t = some v) {e : List (Nat × AV)} (he : upd s.env t (wkV k v s.H s.nx).1 = some e) :
    SR A E nt { s with env := e, H := (wkV k v s.H s.nx).2.1, nx := (wkV k v s.H s.nx).2.2 } a w := by
  obtain ⟨ρ, hr, hv, hx, hf⟩ := h.ex
  obtain ⟨g1, g2, g3, g4, _⟩ := wkV_spec hr k v
  have hle := lk_upd he
  refine ⟨fun t' x hx => ?_, h.size, h.defers, ρ, g1, fun t' => ?_, ⟨hx.ext, hx.cl, Nat.le_trans hx.le g3⟩, hf.trans (Fr_less g2)⟩
  · have hx : lk e t' = some x := hx
    rw [hle] at hx
    by_cases ht : t' = t
    · subst ht; exact h.disj _ _ hv0
    · rw [if_neg ht] at hx; exact h.disj _ _ hx
  · have h1 := hv t'
    rw [get_eq] at h1 ⊢
    show VR w _ ρ ((lk s.loc t').getD ((lk e t').getD .bad)) _
    rw [hle]
    by_cases ht : t' = t
    · subst ht
      have hl := h.disj _ _ hv0
      rw [hl, hv0] at h1
      rw [hl, if_pos rfl]
      exact g4 _ h1
    · rw [if_neg ht]
      exact VR_mono (Stay_less_wr g2) _ _ _ _ (Ext.refl _) h1
theorem VRs_set1 {w : World} {U : Nat → Nat → Prop} {as : List AV} {xs : List Value} {i : Nat} {v v' : AV} (h : VRs w U ρ as xs) (hi : as[i]? = some v) (hv : ∀ x, VR w U ρ v x → VR w U ρ v' x) : VRs w U ρ (setAt as i [v']) xs := by
  refine VRs_of_get (by rw [setAt_length]; exact VRs_length h) fun j b hb => ?_
  rw [setAt_get] at hb
  split at hb
  · rename_i hc
    simp only [List.length_cons, List.length_nil] at hc
    have : j = i := by omega
    subst this
    simp at hb
    subst hb
    obtain ⟨x, h1, h2⟩ := VRs_get h hi
    exact ⟨x, h1, hv x h2⟩
  · exact VRs_get h hb
theorem SR_cell (h : SR A E nt s a w) {id o : Nat} {k : WV} {v : AV} {cells : List AV} (hb : lk s.H id = some (.box cells)) (hc : cells[o]? = some v) {H : Heap} (hH : upd (wkV k v s.H s.nx).2.1 id (.box (setAt cells o [(wkV k v s.H s.nx).1])) = some H) :
    SR A E nt { s with H := H, nx := (wkV k v s.H s.nx).2.2 } a w := by
  obtain ⟨ρ, hr, hv, hx, hf⟩ := h.ex
  obtain ⟨g1, g2, g3, g4, g5⟩ := wkV_spec hr k v
  have hid := g5 id cells hb
  have hst : Stay w (UU A ρ s.H) w (UU A ρ (wkV k v s.H s.nx).2.1) := Stay_less_wr g2
  -- the cell's value stands for the same, where the box is one of the program's
  have hold : ∀ xs, VRs w (UU A ρ s.H) ρ cells xs → VRs w (UU A ρ (wkV k v s.H s.nx).2.1) ρ (setAt cells o [(wkV k v s.H s.nx).1]) xs := by
    intro xs hxs
    refine VRs_of_get (by rw [setAt_length]; exact VRs_length hxs) fun j b hbj => ?_
    rw [setAt_get] at hbj
    split at hbj
    · rename_i hcc
      simp only [List.length_cons, List.length_nil] at hcc
      have : j = o := by omega
      subst this
      simp at hbj
      subst hbj
      obtain ⟨x, h1, h2⟩ := VRs_get hxs hc
      exact ⟨x, h1, g4 x h2⟩
    · obtain ⟨x, h1, h2⟩ := VRs_get hxs hbj
      exact ⟨x, h1, VR_mono hst _ _ _ _ (Ext.refl _) h2⟩
  have hlk := lk_upd hH
  have hw : ∀ b o, Wr ρ H b o → Wr ρ (wkV k v s.H s.nx).2.1 b o := by
    rintro b' o' ⟨id', es', ob', q1, q2, q3⟩
    rw [hlk] at q1
    by_cases hi : id' = id
    · subst hi
      exact ⟨id', es', _, hid, q2, trivial⟩
    · rw [if_neg hi] at q1
      exact ⟨id', es', ob', q1, q2, q3⟩
  have old : ∀ k' o', lk H k' = some o' → ∃ o'', lk (wkV k v s.H s.nx).2.1 k' = some o'' := by
    intro k' o' hk
    rw [hlk] at hk
    by_cases hi : k' = id
    · subst hi; exact ⟨_, hid⟩
    · rw [if_neg hi] at hk; exact ⟨_, hk⟩
  have hrep : Rep A ρ H (wkV k v s.H s.nx).2.2 w :=
    { ob := fun i o' b' es' q1 q2 => by
        rw [hlk] at q1
        by_cases hi : i = id
        · subst hi
          rw [if_pos rfl] at q1
          obtain rfl := Option.some.inj q1
          obtain ⟨C, e, fr, k1, k2, k3⟩ := hr.ob _ _ b' es' hb q2
          exact ⟨C, e, fr, k1, k2, VRs_mono (Stay_less_wr hw) _ _ _ _ (Ext.refl _) (hold _ k3)⟩
        · rw [if_neg hi] at q1
          exact ObR_mono (Stay_less_wr hw) (Ext.refl _) rfl (g1.ob i o' b' es' q1 q2)
      inj := fun i j oi oj b' ei ej q1 q2 q3 q4 => by
        obtain ⟨o1, q5⟩ := old i oi q1
        obtain ⟨o2, q6⟩ := old j oj q2
        exact g1.inj i j o1 o2 b' ei ej q5 q6 q3 q4
      ltH := fun i o' q1 => by
        obtain ⟨o1, q5⟩ := old i o' q1
        exact g1.ltH i o1 q5
      ltR := g1.ltR
      ltA := g1.ltA
      apart := fun i o' b' es' off q1 q2 => by
        obtain ⟨o1, q5⟩ := old i o' q1
        exact g1.apart i o1 b' es' off q5 q2 }
  have hww : ∀ b o, Wr ρ H b o → Wr ρ s.H b o := fun b o hh => g2 b o (hw b o hh)
  refine ⟨h.disj, h.size, h.defers, ρ, hrep, fun t' => ?_, ⟨hx.ext, hx.cl, Nat.le_trans hx.le g3⟩, hf.trans (Fr_less hww)⟩
  have h1 := hv t'
  exact VR_mono (Stay_less_wr hww) _ _ _ _ (Ext.refl _) h1
theorem SR_can (h : SR A E nt s a w) : SR A E nt ⟨s.env, s.loc, canG s.H s.nx, s.nx⟩ a w := by
  obtain ⟨ρ, hr, hv, hx, hf⟩ := h.ex
  have hk : ∀ k o, lk (canG s.H s.nx) k = some o → lk s.H k = some o := by
    intro k o hk
    rw [lk_canG] at hk
    split at hk
    · exact hk
    · cases hk
  refine ⟨h.disj, h.size, h.defers, ρ, Rep_sub hr hk, fun t => ?_, hx, hf.trans (Fr_less fun b o => Wr_sub hk)⟩
  have h1 := hv t
  exact VR_mono (Stay_less_wr fun b o => Wr_sub hk) _ _ _ _ (Ext.refl _) h1
/-- An array of one's own as a new place. -/
theorem mov_core (hr : Rep A ρ H nx w) {id es' leak : Nat} {rows : List (List AV)} (ho : lk H id = some (.arr es' rows leak)) :
    ∃ ρ', Rep A ρ' ((nx, .arr es' rows leak) :: rmv H id) (nx + 1) w ∧ Ext2 ρ nx ρ' (nx + 1) ∧ Fr ρ H w ρ' ((nx, .arr es' rows leak) :: rmv H id) w ∧ ∀ x, ρ id = some x → ρ' nx = some x := by
  have hH : ∀ k, lk ((nx, Ob.arr es' rows leak) :: rmv H id) k = if k = nx then some (.arr es' rows leak) else if k = id then none else lk H k := by
    intro k
    rw [lk_cons, lk_rmv]
    by_cases hk : nx = k
    · subst hk; simp
    · have : ¬ k = nx := fun e => hk e.symm
      simp [hk, this]
  cases hρ : ρ id with
  | none =>
    have sub : ∀ k o, lk (rmv H id) k = some o → lk H k = some o := by
      intro k o hk
      rw [lk_rmv] at hk
      split at hk
      · cases hk
      · exact hk
    obtain ⟨g1, g2⟩ := Rep_none (Rep_sub hr sub) (.arr es' rows leak)
    exact ⟨ρ, g1, Ext2.more _ _, (Fr_less fun b o => Wr_sub sub).trans g2, fun x hx => by cases hx⟩
  | some x =>
    obtain ⟨b, es2⟩ := x
    obtain ⟨g1, g2⟩ := Rep_move hr ho hρ hH (by intro c; simp)
    refine ⟨_, g1, hr.ext2 _, { size := Nat.le_refl _, os := rfl, tape := rfl, output := rfl, cells := fun b C e fr h => ⟨C, h, rfl, fun _ _ => rfl⟩, other := fun b ob h _ => h, shrink := fun b o _ hw => g2 b o hw }, fun y hy => ?_⟩
    rw [putRho_new]; exact hy
theorem own_moved {U U' : Nat → Nat → Prop} {ρ' : Rho} {id nx es off len : Nat} {ex : Bool} {x : Value} (gid : ∀ y, ρ id = some y → ρ' nx = some y) (h : VR w U ρ (.own es id off len ex) x) : VR w U' ρ' (.own es nx off len ex) x := by
  simp only [VR] at h ⊢
  obtain ⟨B, c, k1, k2, k3, k4⟩ := h
  refine ⟨B, c, k1, k2, k3, ?_⟩
  rcases k4 with k4 | ⟨b, C, e', fr, q1, q2⟩
  · exact .inl k4
  · exact .inr ⟨b, C, e', fr, gid _ q1, q2⟩
theorem SR_mov (h : SR A E nt s a w) {t es id off len leak es' : Nat} {ex : Bool} {rows : List (List AV)} (hv0 : lk s.env t = some (.own es id off len ex)) (ho : lk s.H id = some (.arr es' rows leak)) {e : List (Nat × AV)} (he : upd s.env t (.own es s.nx off len ex) = some e) :
    SR A E nt { s with env := e, H := (s.nx, .arr es' rows leak) :: rmv s.H id, nx := s.nx + 1 } a w := by
  obtain ⟨ρ, hr, hv, hx, hf⟩ := h.ex
  have hle := lk_upd he
  have hl0 := h.disj _ _ hv0
  have hvt := hv t
  rw [get_eq, hl0, hv0] at hvt
  obtain ⟨ρ', g1, gx2, gf, gid⟩ := mov_core hr ho
  refine ⟨fun t' x hx => ?_, h.size, h.defers, ρ', g1, fun t' => ?_, hx.trans gx2, hf.trans gf⟩
  · have hx : lk e t' = some x := hx
    rw [hle] at hx
    by_cases ht : t' = t
    · subst ht; exact hl0
    · rw [if_neg ht] at hx; exact h.disj _ _ hx
  · have h1 := hv t'
    rw [get_eq] at h1 ⊢
    show VR w _ ρ' ((lk s.loc t').getD ((lk e t').getD .bad)) _
    rw [hle]
    by_cases ht : t' = t
    · subst ht
      rw [hl0, if_pos rfl]
      exact own_moved gid hvt
    · rw [if_neg ht]
      exact VR_fr gf gx2.ext h1
theorem SR_movc (h : SR A E nt s a w) {id o j es f len leak es' : Nat} {ex : Bool} {rows : List (List AV)} {cells : List AV} (hb : lk s.H id = some (.box cells)) (hc : cells[o]? = some (.own es j f len ex)) (hj : lk s.H j = some (.arr es' rows leak))
    {H' : Heap} (hH' : upd s.H id (.box (setAt cells o [.own es s.nx f len ex])) = some H') :
    SR A E nt { s with H := (s.nx, .arr es' rows leak) :: rmv H' j, nx := s.nx + 1 } a w := by
  obtain ⟨ρ, hr, hv, hx, hf⟩ := h.ex
  obtain ⟨ρ', g1, gx2, gf, gid⟩ := mov_core hr hj
  have hne : id ≠ j := fun e => by rw [e, hj] at hb; cases hb
  have hnx : id ≠ s.nx := fun e => by have := hr.ltH _ _ hb; omega
  have hid1 : lk ((s.nx, Ob.arr es' rows leak) :: rmv s.H j) id = some (.box cells) := by
    rw [lk_cons, if_neg (fun e => hnx e.symm), lk_rmv, if_neg hne]; exact hb
  have hle := lk_upd hH'
  have hH2 : ∀ k, lk ((s.nx, Ob.arr es' rows leak) :: rmv H' j) k = if k = id then some (.box (setAt cells o [.own es s.nx f len ex])) else lk ((s.nx, Ob.arr es' rows leak) :: rmv s.H j) k := by
    intro k
    rw [lk_cons, lk_cons, lk_rmv, lk_rmv, hle]
    by_cases hk : k = id
    · subst hk
      rw [if_neg (fun e => hnx e.symm), if_neg hne, if_pos rfl, if_pos rfl]
    · rw [if_neg hk, if_neg hk]
  obtain ⟨q1, q2⟩ := Rep_box g1 hid1 hH2 fun xs hxs => VRs_set1 hxs hc fun x hx => by
    simp only [VR] at hx ⊢
    obtain ⟨B, c, k1, k2, k3, k4⟩ := hx
    refine ⟨B, c, k1, k2, k3, ?_⟩
    rcases k4 with k4 | ⟨b, C, e', fr, q1, q2⟩
    · exact .inl k4
    · refine .inr ⟨b, C, e', fr, ?_, q2⟩
      cases hρ : ρ j with
      | some y =>
        have h1 := gx2.ext _ _ hρ
        rw [h1] at q1
        exact gid _ (by rw [hρ]; exact q1)
      | none =>
        have := gx2.cl j (hr.ltH _ _ hj) hρ
        rw [this] at q1; cases q1
  have gf2 := gf.trans (Fr_less q2)
  exact ⟨h.disj, h.size, h.defers, ρ', q1, fun t' => VR_fr gf2 gx2.ext (hv t'), hx.trans gx2, hf.trans gf2⟩
theorem lk_dropS : ∀ (ids : List Nat) (H : Heap) (k : Nat) (o : Ob), lk (dropAll H ids) k = some o → lk H k = some o
  | [], _, _, _, h => h
  | i :: r, H, k, o, h => by
    have h1 := lk_dropS r (rmv H i) k o h
    rw [lk_rmv] at h1
    split at h1
    · cases h1
    · exact h1
theorem SR_drop (h : SR A E nt s a w) (ids : List Nat) : SR A E nt { s with H := dropAll s.H ids } a w := by
  obtain ⟨ρ, hr, hv, hx, hf⟩ := h.ex
  have hk := lk_dropS ids s.H
  exact ⟨h.disj, h.size, h.defers, ρ, Rep_sub hr hk, fun t => VR_mono (Stay_less_wr fun b o => Wr_sub hk) _ _ _ _ (Ext.refl _) (hv t), hx, hf.trans (Fr_less fun b o => Wr_sub hk)⟩
/-- An array that is told otherwise. -/
theorem SR_obj (h : SR A E nt s a w) {H1 : Heap} (hl : Leaked s.H H1) {id : Nat} {ob ob' : Ob} (hid : lk s.H id = some ob) (hid1 : lk H1 id = some ob) {H : Heap} (hH : upd H1 id ob' = some H) (hwr : ∀ es o, wrOb es o ob' → wrOb es o ob)
    (hob : ∀ ρ b es, Rep A ρ s.H s.nx w → ObR w (UU A ρ s.H) ρ b es ob → ObR w (UU A ρ H1) ρ b es ob') : SR A E nt { s with H := H } a w := by
  obtain ⟨ρ, hr, hv, hx, hf⟩ := h.ex
  have hr1 := Rep_leak hr hl
  have hlk := lk_upd hH
  have hw : ∀ b o, Wr ρ H b o → Wr ρ H1 b o := by
    rintro b o ⟨i, es', o', g1, g2, g3⟩
    rw [hlk] at g1
    by_cases hi : i = id
    · subst hi
      rw [if_pos rfl] at g1
      obtain rfl := Option.some.inj g1
      exact ⟨i, es', _, hid1, g2, hwr _ _ g3⟩
    · rw [if_neg hi] at g1
      exact ⟨i, es', o', g1, g2, g3⟩
  have old : ∀ k o, lk H k = some o → ∃ o', lk H1 k = some o' := by
    intro k o hk
    rw [hlk] at hk
    by_cases hi : k = id
    · subst hi; exact ⟨_, hid1⟩
    · rw [if_neg hi] at hk; exact ⟨_, hk⟩
  have hrep : Rep A ρ H s.nx w :=
    { ob := fun i o b es' g1 g2 => by
        rw [hlk] at g1
        by_cases hi : i = id
        · subst hi
          rw [if_pos rfl] at g1
          obtain rfl := Option.some.inj g1
          exact ObR_mono (Stay_less_wr hw) (Ext.refl _) rfl (hob ρ b es' hr (hr.ob i _ b es' hid g2))
        · rw [if_neg hi] at g1
          exact ObR_mono (Stay_less_wr hw) (Ext.refl _) rfl (hr1.ob i o b es' g1 g2)
      inj := fun i j oi oj b ei ej g1 g2 g3 g4 => by
        obtain ⟨o1, g5⟩ := old i oi g1
        obtain ⟨o2, g6⟩ := old j oj g2
        exact hr1.inj i j o1 o2 b ei ej g5 g6 g3 g4
      ltH := fun i o g1 => by
        obtain ⟨o1, g5⟩ := old i o g1
        exact hr1.ltH i o1 g5
      ltR := hr1.ltR
      ltA := hr1.ltA
      apart := fun i o b es' off g1 g2 => by
        obtain ⟨o1, g5⟩ := old i o g1
        exact hr1.apart i o1 b es' off g5 g2 }
  have hww : ∀ b o, Wr ρ H b o → Wr ρ s.H b o := fun b o hh => Wr_leak hl (hw b o hh)
  refine ⟨h.disj, h.size, h.defers, ρ, hrep, fun t' => ?_, ⟨hx.ext, hx.cl, hx.le⟩, hf.trans (Fr_less hww)⟩
  exact VR_mono (Stay_less_wr hww) _ _ _ _ (Ext.refl _) (hv t')
theorem leakOb_arx (n es : Nat) (rows : List (List AV)) : leakOb n (.arx es rows) = .arx es rows := rfl
theorem SR_toX (h : SR A E nt s a w) {id es : Nat} {rows : List (List AV)} (hid : lk s.H id = some (.arr es rows 0)) {H : Heap} (hH : upd s.H id (.arx es rows) = some H) : SR A E nt { s with H := H } a w :=
  SR_obj h (Leaked.refl _) hid hid hH (fun es' o _ => by simp [wrOb]) fun ρ b es' hr ho => by
    obtain ⟨q1, q2, C, e, fr, q3, q4, q5⟩ := ho
    exact ⟨q1, q2, C, e, fr, q3, q4, AXs_of ρ q5⟩
theorem SR_rowf (h : SR A E nt s a w) {id es i : Nat} {rows : List (List AV)} {row : List AV} (hid : lk s.H id = some (.arx es rows)) (hi : rows[i]? = some row) {H : Heap} (hH : upd (leakVs s.H row) id (.arx es (rows.set i (frzs s.H row))) = some H) : SR A E nt { s with H := H } a w := by
  have hl := leakVs_leaked row s.H
  obtain ⟨n, hid1⟩ := hl.get _ _ hid
  rw [leakOb_arx] at hid1
  refine SR_obj h hl hid hid1 hH (fun es' o h => h) fun ρ b es' hr ho => ?_
  obtain ⟨q1, q2, C, e, fr, q3, q4, q5⟩ := ho
  have hst : Stay w (UU A ρ s.H) w (UU A ρ (leakVs s.H row)) := Stay_less_wr fun b o => Wr_leak hl
  refine ⟨q1, q2, C, e, fr, q3, q4, AXs_mk fun j r hj => ?_⟩
  rw [List.getElem?_set] at hj
  split at hj
  · rename_i hij
    subst hij
    split at hj
    · simp only [Option.some.injEq] at hj
      subst hj
      obtain ⟨g1, g2, g3, g4⟩ := AXs_get q5 hi
      have hz := VRs_frz hr row s.H (Leaked.refl _) (leakVs s.H row) (Leaked.refl _) _ g3
      refine ⟨?_, g2, VRs_mono (Stay.refl _ _) _ _ _ _ (fun _ _ h => by simp [noRho] at h) hz, g4⟩
      rw [VRs_length hz, ← VRs_length g3]
      exact g1
    · cases hj
  · obtain ⟨g1, g2, g3, g4⟩ := AXs_get q5 hj
    exact ⟨g1, g2, VRs_mono hst _ _ _ _ (Ext.refl _) g3, g4⟩
theorem SR_unX (h : SR A E nt s a w) {id es : Nat} {rows : List (List AV)} (hid : lk s.H id = some (.arx es rows)) (hf : rows.all idFrees = true) {H : Heap} (hH : upd s.H id (.arr es rows 0) = some H) : SR A E nt { s with H := H } a w :=
  SR_obj h (Leaked.refl _) hid hid hH (fun es' o _ => by simp [wrOb]) fun ρ b es' hr ho => by
    obtain ⟨q1, q2, C, e, fr, q3, q4, q5⟩ := ho
    refine ⟨q1, q2, C, e, fr, q3, q4, ARs_mk fun j r hj => ?_⟩
    obtain ⟨g1, g2, g3, g4⟩ := AXs_get q5 hj
    exact ⟨g1, g2, VRs_free _ _ (List.all_eq_true.1 hf r (List.mem_of_getElem? hj)) g3, g4⟩
theorem SR_cut (h : SR A E nt s a w) {id n es leak : Nat} {rows : List (List AV)} (hid : lk s.H id = some (.arr es rows leak)) {H : Heap} (hH : upd s.H id (.arr es (rows.take n) leak) = some H) : SR A E nt { s with H := H } a w := by
  obtain ⟨ρ, hr, hv, hx, hf⟩ := h.ex
  have hlk := lk_upd hH
  have hw : ∀ b o, Wr ρ H b o → Wr ρ s.H b o := by
    rintro b o ⟨i, es', ob, g1, g2, g3⟩
    rw [hlk] at g1
    by_cases hi : i = id
    · subst hi
      rw [if_pos rfl] at g1
      obtain rfl := Option.some.inj g1
      exact ⟨i, es', _, hid, g2, g3⟩
    · rw [if_neg hi] at g1
      exact ⟨i, es', ob, g1, g2, g3⟩
  have old : ∀ k o, lk H k = some o → ∃ o', lk s.H k = some o' := by
    intro k o hk
    rw [hlk] at hk
    by_cases hi : k = id
    · subst hi; exact ⟨_, hid⟩
    · rw [if_neg hi] at hk; exact ⟨_, hk⟩
  have hrep : Rep A ρ H s.nx w :=
    { ob := fun i o b es' g1 g2 => by
        rw [hlk] at g1
        by_cases hi : i = id
        · subst hi
          rw [if_pos rfl] at g1
          obtain rfl := Option.some.inj g1
          refine ObR_mono (Stay_less_wr hw) (Ext.refl _) rfl ?_
          obtain ⟨e1, e2, C, e, fr, k1, k2, k3⟩ := hr.ob i _ b es' hid g2
          exact ⟨e1, e2, C, e, fr, k1, k2, ARs_head k3 n⟩
        · rw [if_neg hi] at g1
          exact ObR_mono (Stay_less_wr hw) (Ext.refl _) rfl (hr.ob i o b es' g1 g2)
      inj := fun i j oi oj b ei ej g1 g2 g3 g4 => by
        obtain ⟨o1, g5⟩ := old i oi g1
        obtain ⟨o2, g6⟩ := old j oj g2
        exact hr.inj i j o1 o2 b ei ej g5 g6 g3 g4
      ltH := fun i o g1 => by
        obtain ⟨o1, g5⟩ := old i o g1
        exact hr.ltH i o1 g5
      ltR := hr.ltR
      ltA := hr.ltA
      apart := fun i o b es' off g1 g2 => by
        obtain ⟨o1, g5⟩ := old i o g1
        exact hr.apart i o1 b es' off g5 g2 }
  exact ⟨h.disj, h.size, h.defers, ρ, hrep, fun t => VR_mono (Stay_less_wr hw) _ _ _ _ (Ext.refl _) (hv t), hx, hf.trans (Fr_less hw)⟩
theorem weak1 {m : Nat} {x : WA} (h : evW1 m x s = some s') : Weak m s s' := by
  intro nt A E a w hm hE hs
  cases x with
  | kill ts =>
    simp only [evW1, Option.some.injEq] at h
    subst h
    exact SR_kill hs ts
  | «at» t k =>
    simp only [evW1] at h
    split at h
    · rename_i v hv
      split at h
      · rename_i e he
        simp only [Option.some.injEq] at h
        subst h
        exact SR_at hs hv he
      · cases h
    · cases h
  | cell t off k =>
    simp only [evW1] at h
    split at h
    · rename_i id o hv
      split at h
      · rename_i cells hb
        split at h
        · rename_i v hc
          split at h
          · rename_i H hH
            simp only [Option.some.injEq] at h
            subst h
            exact SR_cell hs hb hc hH
          · cases h
        · cases h
      · cases h
    · cases h
  | mov t =>
    simp only [evW1] at h
    split at h
    · rename_i es id off len ex hv
      split at h
      · rename_i es' rows leak e ho he
        simp only [Option.some.injEq] at h
        subst h
        exact SR_mov hs hv ho he
      · cases h
    · cases h
  | movc t off =>
    simp only [evW1] at h
    split at h
    · rename_i id o hv
      split at h
      · rename_i cells hb
        split at h
        · rename_i es j f len ex hc
          split at h
          · rename_i es' rows leak H' hj hH
            simp only [Option.some.injEq] at h
            subst h
            exact SR_movc hs hb hc hj hH
          · cases h
        · cases h
      · cases h
    · cases h
  | drop ids =>
    simp only [evW1, Option.some.injEq] at h
    subst h
    exact SR_drop hs ids
  | cut id n =>
    simp only [evW1] at h
    split at h
    · rename_i es rows leak hid
      split at h
      · rename_i H hH
        simp only [Option.some.injEq] at h
        subst h
        exact SR_cut hs hid hH
      · cases h
    · cases h
  | toX id =>
    simp only [evW1] at h
    split at h
    · rename_i es rows hid
      split at h
      · rename_i H hH
        simp only [Option.some.injEq] at h
        subst h
        exact SR_toX hs hid hH
      · cases h
    · cases h
  | rowf id i =>
    simp only [evW1] at h
    split at h
    · rename_i es rows hid
      split at h
      · rename_i row hi
        split at h
        · rename_i H hH
          simp only [Option.some.injEq] at h
          subst h
          exact SR_rowf hs hid hi hH
        · cases h
      · cases h
    · cases h
  | unX id =>
    simp only [evW1] at h
    split at h
    · rename_i es rows hid
      split at h
      · rename_i hf
        split at h
        · rename_i H hH
          simp only [Option.some.injEq] at h
          subst h
          exact SR_unX hs hid hf hH
        · cases h
      · cases h
    · cases h
  | tidy =>
    simp only [evW1, Option.some.injEq] at h
    subst h
    subst hm
    exact SR_can (SR_tidy hE hs)
theorem weak {m : Nat} : ∀ {l : List WA} {s s' : St}, evW m l s = some s' → Weak m s s'
  | [], s, s', h => by
    simp only [evW, Option.some.injEq] at h
    subst h
    exact Weak.refl _ _
  | x :: r, s, s', h => by
    simp only [evW] at h
    split at h
    · rename_i s1 h1
      exact (weak1 h1).trans (weak h)
    · cases h
end
end Go.Proofs.Ytefjblgmnoheiaa.R
