/- Other names for places: what stays true. -/
import Derived.Test.YtefjblgmnoheiaaROp
set_option linter.unusedVariables false
set_option linter.unusedSectionVars false
set_option linter.unusedSimpArgs false
noncomputable section
namespace Go.Proofs.Ytefjblgmnoheiaa.R
open Go
theorem pos_get : ∀ {l : List Nat} {t j : Nat}, pos l t = some j → l[j]? = some t
  | [], t, j, h => by simp at h
  | x :: r, t, j, h => by
    rw [pos_cons] at h
    split at h
    · rename_i hx
      obtain rfl := Option.some.inj h
      simp [hx]
    · cases hp : pos r t with
      | none => simp [hp] at h
      | some k =>
        simp only [hp, Option.map_some, Option.some.injEq] at h
        subst h
        simpa using pos_get hp
theorem get_pos : ∀ {l : List Nat} {t j : Nat}, l.Nodup → l[j]? = some t → pos l t = some j
  | [], t, j, _, h => by simp at h
  | x :: r, t, j, hn, h => by
    rw [pos_cons]
    rw [List.nodup_cons] at hn
    cases j with
    | zero => simp at h; simp [h]
    | succ j =>
      simp only [List.getElem?_cons_succ] at h
      have hne : x ≠ t := fun e => hn.1 (e ▸ List.mem_of_getElem? h)
      rw [if_neg hne, get_pos hn.2 h]
      rfl
theorem pos_inj {l : List Nat} {i i' j : Nat} (h : pos l i = some j) (h' : pos l i' = some j) : i = i' := by
  have h1 := pos_get h
  have h2 := pos_get h'
  rw [h1] at h2
  exact Option.some.inj h2
theorem pos_lt {l : List Nat} {i j : Nat} (h : pos l i = some j) : j < l.length := by
  have h1 := pos_get h
  rcases Nat.lt_or_ge j l.length with h2 | h2
  · exact h2
  · rw [List.getElem?_eq_none h2] at h1; cases h1
def Inj (f : Nat → Option Nat) : Prop := ∀ i i' j, f i = some j → f i' = some j → i = i'
theorem lk_renH {f : Nat → Option Nat} (hf : Inj f) : ∀ {H : Heap} {j : Nat} {o' : Ob}, lk (renH f H) j = some o' → ∃ i o, lk H i = some o ∧ f i = some j ∧ o' = renOb f o
  | [], j, o', h => by simp [renH] at h
  | (i0, o0) :: r, j, o', h => by
    simp only [renH] at h
    split at h
    · rename_i j0 hj0
      rw [lk_cons] at h
      split at h
      · rename_i he
        subst he
        exact ⟨i0, o0, by simp, hj0, (Option.some.inj h).symm⟩
      · rename_i hne
        obtain ⟨i, o, h1, h2, h3⟩ := lk_renH hf h
        refine ⟨i, o, ?_, h2, h3⟩
        rw [lk_cons, if_neg]
        · exact h1
        · intro e
          subst e
          rw [hj0] at h2
          exact hne (Option.some.inj h2)
    · rename_i hj0
      obtain ⟨i, o, h1, h2, h3⟩ := lk_renH hf h
      refine ⟨i, o, ?_, h2, h3⟩
      rw [lk_cons, if_neg]
      · exact h1
      · intro e
        subst e
        rw [hj0] at h2
        cases h2
theorem lk_append {α : Type} : ∀ {l l' : List (Nat × α)} {k : Nat} {o : α}, lk (l ++ l') k = some o → lk l k = some o ∨ lk l' k = some o
  | [], l', k, o, h => .inr h
  | (i, x) :: r, l', k, o, h => by
    rw [List.cons_append, lk_cons] at h
    rw [lk_cons]
    split at h
    · rename_i he
      rw [if_pos he]
      exact .inl h
    · rename_i he
      rw [if_neg he]
      exact lk_append h
theorem lk_dropAll : ∀ {l : List Nat} {H : Heap} {k : Nat} {o : Ob}, lk (dropAll H l) k = some o → lk H k = some o ∧ k ∉ l
  | [], H, k, o, h => ⟨h, by simp⟩
  | i :: r, H, k, o, h => by
    simp only [dropAll] at h
    obtain ⟨h1, h2⟩ := lk_dropAll h
    rw [lk_rmv] at h1
    split at h1
    · cases h1
    · rename_i hne
      exact ⟨h1, by simp [hne, h2]⟩
theorem rens_length (f : Nat → Option Nat) : ∀ r : List AV, (rens f r).length = r.length
  | [] => rfl
  | _ :: r => by simp only [rens, List.length_cons]; rw [rens_length f r]
theorem AXs_ren {w : World} {U U' : Nat → Nat → Prop} {ρ ρ' : Rho} {f : Nat → Option Nat} (hf : ∀ id j x, f id = some j → ρ id = some x → ρ' j = some x) (hU : ∀ b o, U' b o → U b o) {es : Nat} {rows : List (List AV)} {C : List Value} (h : AXs w U ρ es rows C) : AXs w U' ρ' es (rows.map (rens f)) C :=
  AXs_mk fun i r hi => by
    rw [List.getElem?_map] at hi
    cases hr : rows[i]? with
    | none => rw [hr] at hi; cases hi
    | some r0 =>
      rw [hr] at hi
      obtain rfl := Option.some.inj hi
      obtain ⟨g1, g2, g3, g4⟩ := AXs_get h hr
      exact ⟨by rw [← g1]; exact rens_length f r0, g2, VRs_mono (Stay.less hU) _ _ ρ' ρ' (Ext.refl _) (VRs_ren hf r0 _ g3), g4⟩
theorem wrOb_ren {f : Nat → Option Nat} {es o : Nat} {ob : Ob} : wrOb es o (renOb f ob) ↔ wrOb es o ob := by
  cases ob <;> simp [renOb, wrOb]
section
variable {w : World} {A A' : Nat → Nat → Prop} {ρ ρ' : Rho} {H : Heap} {nx n : Nat} {f : Nat → Option Nat}
theorem ObR_ren {U U' : Nat → Nat → Prop} (hf : ∀ i j, f i = some j → ρ' j = ρ i) (hU : ∀ b o, U' b o → U b o) {b es : Nat} {o : Ob} (h : ObR w U ρ b es o) : ObR w U' ρ' b es (renOb f o) := by
  cases o with
  | box cells =>
    obtain ⟨C, e, fr, h1, h2, h3⟩ := h
    refine ⟨C, e, fr, h1, h2, ?_⟩
    have := VRs_ren (f := f) (ρ' := ρ') (fun id j x hj hx => by rw [hf _ _ hj]; exact hx) cells _ h3
    exact VRs_mono (Stay.less hU) _ _ ρ' ρ' (Ext.refl _) this
  | arr es' rows leak =>
    obtain ⟨h0, h0', C, e, fr, h1, h2, h3⟩ := h
    exact ⟨h0, h0', C, e, fr, h1, h2, ARs_mono (Stay.less hU) h3⟩
  | arx es' rows =>
    obtain ⟨h0, h0', C, e, fr, h1, h2, h3⟩ := h
    exact ⟨h0, h0', C, e, fr, h1, h2, AXs_ren (fun id j x hj hx => by rw [hf _ _ hj]; exact hx) hU h3⟩
theorem Wr_ren (hi : Inj f) (hf : ∀ i j, f i = some j → ρ' j = ρ i) {b o : Nat} (h : Wr ρ' (renH f H) b o) : ∃ i j es ob, lk H i = some ob ∧ f i = some j ∧ ρ i = some (b, es) ∧ wrOb es o ob := by
  obtain ⟨j, es, ob, h1, h2, h3⟩ := h
  obtain ⟨i, o', h4, h5, rfl⟩ := lk_renH hi h1
  rw [hf _ _ h5] at h2
  exact ⟨i, j, es, o', h4, h5, h2, wrOb_ren.1 h3⟩
theorem Rep_ren (hr : Rep A ρ H nx w) (hi : Inj f) (hf : ∀ i j, f i = some j → ρ' j = ρ i) (hn : ∀ i j, f i = some j → j < n) (hR : ∀ j x, ρ' j = some x → j < n)
    (hA : ∀ b o, A' b o → b < w.heap.size) (hAU : ∀ b o, A' b o → UU A ρ H b o) (hap : ∀ i j o b es off, f i = some j → lk H i = some o → ρ i = some (b, es) → ¬ A' b off) :
    Rep A' ρ' (renH f H) n w ∧ ∀ b o, UU A' ρ' (renH f H) b o → UU A ρ H b o := by
  have hU : ∀ b o, UU A' ρ' (renH f H) b o → UU A ρ H b o := by
    rintro b o (h | h)
    · exact hAU b o h
    · obtain ⟨i, j, es, ob, h1, _, h2, h3⟩ := Wr_ren hi hf h
      exact .inr ⟨i, es, ob, h1, h2, h3⟩
  refine ⟨?_, hU⟩
  exact
    { ob := fun j o b es h1 h2 => by
        obtain ⟨i, o', h3, h4, rfl⟩ := lk_renH hi h1
        rw [hf _ _ h4] at h2
        exact ObR_ren hf hU (hr.ob i o' b es h3 h2)
      inj := fun j j' oj oj' b e e' h1 h2 h3 h4 => by
        obtain ⟨i, o, g1, g2, _⟩ := lk_renH hi h1
        obtain ⟨i', o', g3, g4, _⟩ := lk_renH hi h2
        rw [hf _ _ g2] at h3
        rw [hf _ _ g4] at h4
        have := hr.inj i i' o o' b e e' g1 g3 h3 h4
        subst this
        rw [g2] at g4
        exact Option.some.inj g4
      ltH := fun j o h1 => by
        obtain ⟨i, o', _, h4, _⟩ := lk_renH hi h1
        exact hn _ _ h4
      ltR := hR
      ltA := hA
      apart := fun j o b es off h1 h2 => by
        obtain ⟨i, o', h3, h4, rfl⟩ := lk_renH hi h1
        rw [hf _ _ h4] at h2
        exact hap i j o' b es off h4 h3 h2 }
end
/-! ### What can be come to -/
theorem reach_spec (H : Heap) : ∀ (n : Nat) (todo : List AV) (acc : List Nat), acc.Nodup →
    (reach H n todo acc).Nodup ∧ (∃ t, reach H n todo acc = acc ++ t) ∧ ∀ id ∈ reach H n todo acc, id ∈ acc ∨ ∃ o, lk H id = some o
  | 0, todo, acc, h => by
    simp only [reach]
    exact ⟨h, ⟨[], by simp⟩, fun id hi => .inl hi⟩
  | n + 1, [], acc, h => by
    simp only [reach]
    exact ⟨h, ⟨[], by simp⟩, fun id hi => .inl hi⟩
  | n + 1, v :: todo, acc, h => by
    have step : ∀ (id : Nat) (o : Ob) (todo' : List AV), id ∉ acc → lk H id = some o →
        (reach H n todo' (acc ++ [id])).Nodup ∧ (∃ t, reach H n todo' (acc ++ [id]) = acc ++ t) ∧ ∀ i ∈ reach H n todo' (acc ++ [id]), i ∈ acc ∨ ∃ o, lk H i = some o := by
      intro id o todo' hid ho
      have hn : (acc ++ [id]).Nodup := by
        rw [List.nodup_append]
        refine ⟨h, by simp, fun a ha b hb => ?_⟩
        simp at hb
        subst hb
        exact fun e => hid (e ▸ ha)
      obtain ⟨g1, ⟨t, g2⟩, g3⟩ := reach_spec H n todo' (acc ++ [id]) hn
      refine ⟨g1, ⟨[id] ++ t, by rw [g2]; simp⟩, fun i hi => ?_⟩
      rcases g3 i hi with h4 | h4
      · rcases List.mem_append.1 h4 with h5 | h5
        · exact .inl h5
        · simp at h5; subst h5; exact .inr ⟨o, ho⟩
      · exact .inr h4
    have same : ∀ todo', (reach H n todo' acc).Nodup ∧ (∃ t, reach H n todo' acc = acc ++ t) ∧ ∀ id ∈ reach H n todo' acc, id ∈ acc ∨ ∃ o, lk H id = some o :=
      fun todo' => reach_spec H n todo' acc h
    cases v <;> simp only [reach]
    case own es id off len ex =>
      split
      · exact same _
      · rename_i hid
        split
        · rename_i o ho; exact step id o _ hid ho
        · exact same _
    case eptr id i f =>
      split
      · exact same _
      · rename_i hid
        split
        · rename_i o ho; exact step id o _ hid ho
        · exact same _
    case ptr id off =>
      split
      · exact same _
      · rename_i hid
        split
        · rename_i cells ho; exact step id _ _ hid ho
        · rename_i o _ ho; exact step id o _ hid ho
        · exact same _
    all_goals exact same _
theorem places_spec (H : Heap) (m : Nat) (roots : List AV) : (places H m roots).Nodup ∧ ∀ j, j < m → pos (places H m roots) j = some j := by
  obtain ⟨h1, ⟨t, h2⟩, _⟩ := reach_spec H fuelR ((List.range m).flatMap (boxCells H) ++ roots) (List.range m) List.nodup_range
  refine ⟨h1, fun j hj => get_pos h1 ?_⟩
  unfold places
  rw [h2, List.getElem?_append_left (by simpa using hj), List.getElem?_range hj]
/-- The places, anew: what a state is behind that. -/
def rhoOf (l : List Nat) (ρ : Rho) : Rho := fun j => match l[j]? with | some i => ρ i | none => none
theorem rhoOf_pos {l : List Nat} {ρ : Rho} {i j : Nat} (h : pos l i = some j) : rhoOf l ρ j = ρ i := by
  simp [rhoOf, pos_get h]
theorem rhoOf_lt {l : List Nat} {ρ : Rho} {j : Nat} {x : Nat × Nat} (h : rhoOf l ρ j = some x) : j < l.length := by
  unfold rhoOf at h
  rcases Nat.lt_or_ge j l.length with h2 | h2
  · exact h2
  · rw [List.getElem?_eq_none h2] at h; cases h
section
variable {w : World} {A : Nat → Nat → Prop} {ρ : Rho} {H : Heap} {nx : Nat} {l : List Nat}
theorem Rep_pos (hr : Rep A ρ H nx w) : Rep A (rhoOf l ρ) (renH (pos l) H) l.length w ∧ (∀ b o, UU A (rhoOf l ρ) (renH (pos l) H) b o → UU A ρ H b o) ∧ Fr ρ H w (rhoOf l ρ) (renH (pos l) H) w := by
  have hi : Inj (pos l) := fun i i' j h h' => pos_inj h h'
  obtain ⟨h1, h2⟩ := Rep_ren (A' := A) (ρ' := rhoOf l ρ) (n := l.length) hr hi (fun i j h => rhoOf_pos h) (fun i j h => pos_lt h) (fun j x h => rhoOf_lt h) hr.ltA (fun b o h => .inl h) (fun i j o b es off _ ho hρ => hr.apart i o b es off ho hρ)
  refine ⟨h1, h2, ?_⟩
  exact
    { size := Nat.le_refl _
      os := rfl
      tape := rfl
      output := rfl
      cells := fun b C e fr hb => ⟨C, hb, rfl, fun _ _ => rfl⟩
      other := fun b ob hb _ => hb
      shrink := fun b o _ h => by
        obtain ⟨i, j, es, ob, g1, _, g2, g3⟩ := Wr_ren hi (fun i j h => rhoOf_pos h) h
        exact ⟨i, es, ob, g1, g2, g3⟩ }
theorem VR_pos (hr : Rep A ρ H nx w) {v : AV} {x : Value} (h : VR w (UU A ρ H) ρ v x) : VR w (UU A (rhoOf l ρ) (renH (pos l) H)) (rhoOf l ρ) (ren (pos l) v) x := by
  have h1 := VR_ren (f := pos l) (ρ' := rhoOf l ρ) (fun id j y hj hy => by rw [rhoOf_pos hj]; exact hy) v x h
  exact VR_mono (Stay.less (Rep_pos (l := l) hr).2.1) _ _ _ _ (Ext.refl _) h1
theorem Ext_pos {ρ0 : Rho} {m n : Nat} (h : Ext2 ρ0 m ρ n) (hm : ∀ i x, ρ0 i = some x → i < m) (hl : ∀ j, j < m → pos l j = some j) : Ext2 ρ0 m (rhoOf l ρ) l.length where
  ext i x hx := by
    rw [rhoOf_pos (hl i (hm i x hx))]
    exact h.ext i x hx
  cl k hk h0 := by
    rw [rhoOf_pos (hl k hk)]
    exact h.cl k hk h0
  le := by
    rcases Nat.eq_zero_or_pos m with h0 | h0
    · omega
    · have := pos_lt (hl (m - 1) (by omega))
      omega
end
theorem lk_app {α : Type} : ∀ (l l' : List (Nat × α)) (t : Nat), lk (l ++ l') t = (lk l t).or (lk l' t)
  | [], l', t => by simp
  | (k, v) :: r, l', t => by
    simp only [List.cons_append, lk_cons]
    split
    · rfl
    · exact lk_app r l' t
theorem lk_canG (H : Heap) : ∀ (n t : Nat), lk (canG H n) t = if t < n then lk H t else none
  | 0, t => by simp [canG]
  | n + 1, t => by
    simp only [canG]
    have ih := lk_canG H n t
    cases hn : lk H n with
    | none =>
      simp only
      rw [ih]
      by_cases h : t < n
      · rw [if_pos h, if_pos (by omega)]
      · rw [if_neg h]
        by_cases h2 : t = n
        · subst h2; simp [hn]
        · rw [if_neg (by omega)]
    | some o =>
      simp only
      rw [lk_app, ih, lk_cons]
      by_cases h : t < n
      · have h1 : t < n + 1 := by omega
        have h2 : ¬ n = t := by omega
        simp only [h, h1, h2, if_true, if_false, lk_nil]
        cases lk H t <;> rfl
      · by_cases h2 : t = n
        · subst h2; simp [hn]
        · have h1 : ¬ t < n + 1 := by omega
          have h3 : ¬ n = t := by omega
          simp [h, h1, h3]
end Go.Proofs.Ytefjblgmnoheiaa.R
