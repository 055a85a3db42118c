/- Regions that draw their order: what an operation touches, and that it does the same elsewhere. -/
import Derived.Test.YtefjblgmnoheiaaRMain
set_option linter.unusedVariables false
set_option linter.unusedSectionVars false
set_option linter.unusedSimpArgs false
noncomputable section
namespace Go.Proofs.Ytefjblgmnoheiaa.R
open Go
section
variable {c : Cfg} {cl : Callee} {s s' s1 : St} {v : AV}
theorem evs_congr : ∀ {l : List Opd}, (∀ x ∈ l, s'.ev x = s.ev x) → s'.evs l = s.evs l
  | [], _ => rfl
  | x :: r, h => by
    simp only [St.evs]
    rw [h x (by simp), evs_congr fun y hy => h y (by simp [hy])]
theorem evp_congr : ∀ {l : List (Nat × Opd)}, (∀ x ∈ l.map (fun p => p.2), s'.ev x = s.ev x) → s'.evp l = s.evp l
  | [], _ => rfl
  | (i, x) :: r, h => by
    simp only [St.evp]
    rw [h x (by simp), evp_congr fun y hy => h y (by rw [List.map_cons]; exact List.mem_cons_of_mem _ hy)]
theorem evq_congr : ∀ {l : List (Nat × Nat × Opd)}, (∀ x ∈ l.map (fun p => p.2.2), s'.ev x = s.ev x) → s'.evq l = s.evq l
  | [], _ => rfl
  | (i, j, x) :: r, h => by
    simp only [St.evq]
    rw [h x (by simp), evq_congr fun y hy => h y (by rw [List.map_cons]; exact List.mem_cons_of_mem _ hy)]
theorem evo_congr {x : Option Opd} (h : ∀ y ∈ x.toList, s'.ev y = s.ev y) : s'.evo x = s.evo x := by
  cases x with
  | none => rfl
  | some y => simp only [St.evo]; rw [h y (by simp)]
/-- Operations of values alone. -/
theorem p_cong {ip : IP} (hp : valB ip = true) (h : evOp c cl s ip = some (v, s1)) (he : ∀ x ∈ opsOf ip, s'.ev x = s.ev x) : s1 = s ∧ evOp c cl s' ip = some (v, s') := by
  cases ip
  case mv x =>
    simp only [evOp, Option.some.injEq, Prod.mk.injEq] at h
    obtain ⟨rfl, rfl⟩ := h
    exact ⟨rfl, by simp only [evOp]; rw [he x (by simp [opsOf])]⟩
  case mkf f pre post =>
    simp only [evOp, Option.some.injEq, Prod.mk.injEq] at h
    obtain ⟨rfl, rfl⟩ := h
    refine ⟨rfl, ?_⟩
    simp only [evOp]
    rw [evs_congr fun x hx => he x (by simp only [opsOf]; exact List.mem_append_left _ hx), evs_congr fun x hx => he x (by simp only [opsOf]; exact List.mem_append_right _ hx)]
  case build z ps =>
    obtain ⟨hg, rfl⟩ := keep_inv h
    refine ⟨rfl, ?_⟩
    simp only [evOp]
    rw [evq_congr (by simpa [opsOf] using he), hg]
    rfl
  case sls x lo hi =>
    obtain ⟨hg, rfl⟩ := keep_inv h
    refine ⟨rfl, ?_⟩
    simp only [evOp]
    rw [he x (by simp [opsOf]), evo_congr fun y hy => he y (by simp only [opsOf]; exact List.mem_cons_of_mem _ (List.mem_append_left _ hy)), evo_congr fun y hy => he y (by simp only [opsOf]; exact List.mem_cons_of_mem _ (List.mem_append_right _ hy)), hg]
    rfl
  case sll size x lo hi mx =>
    obtain ⟨hg, rfl⟩ := keep_inv h
    refine ⟨rfl, ?_⟩
    simp only [evOp]
    rw [he x (by simp [opsOf]), evo_congr fun y hy => he y (by simp only [opsOf]; exact List.mem_cons_of_mem _ (List.mem_append_left _ hy)), evo_congr fun y hy => he y (by simp only [opsOf]; exact List.mem_cons_of_mem _ (List.mem_append_right _ (List.mem_append_left _ hy))), evo_congr fun y hy => he y (by simp only [opsOf]; exact List.mem_cons_of_mem _ (List.mem_append_right _ (List.mem_append_right _ hy))), hg]
    rfl
  case ld => simp [valB] at hp
  case call => simp [valB] at hp
  case bsl => simp [valB] at hp
  case alloc => simp [valB] at hp
  case st => simp [valB] at hp
  case app => simp [valB] at hp
  case box => simp [valB] at hp
  case mks => simp [valB] at hp
  case s2b => simp [valB] at hp
  case b2s => simp [valB] at hp
  case cpy => simp [valB] at hp
  case cln => simp [valB] at hp
  case clr => simp [valB] at hp
  case no => simp [valB] at hp
  case callv => simp [valB] at hp
  all_goals
    obtain ⟨hg, rfl⟩ := keep_inv h
    refine ⟨rfl, ?_⟩
    simp only [opsOf, List.mem_cons, List.not_mem_nil, or_false, forall_eq_or_imp, forall_eq] at he
    simp only [evOp, he, hg]
    rfl
/-! ### Objects, but for how much is read elsewhere -/
def strip : Ob → Ob
  | .arr es rows _ => .arr es rows 0
  | o => o
def LEq (a b : Option Ob) : Prop := a.map strip = b.map strip
theorem LEq.refl (a : Option Ob) : LEq a a := rfl
theorem LEq.of {a b : Option Ob} (h : a = b) : LEq a b := by rw [h]; exact LEq.refl _
theorem LEq.trans {a b d : Option Ob} (h : LEq a b) (h' : LEq b d) : LEq a d := Eq.trans h h'
theorem LEq.symm {a b : Option Ob} (h : LEq a b) : LEq b a := Eq.symm h
theorem strip_leak (n : Nat) (o : Ob) : strip (leakOb n o) = strip o := by cases o <;> rfl
theorem LEq.leak (a : Option Ob) (n : Nat) : LEq (a.map (leakOb n)) a := by
  cases a with
  | none => rfl
  | some o => simp [LEq, strip_leak]
/-- The rows of an array, as they are now. -/
def rowsAt (H : Heap) (id : Nat) : Option (List (List AV)) := match lk H id with | some (.arr _ rows _) => some rows | _ => none
theorem LEq.rows {H H' : Heap} {id : Nat} (h : LEq (lk H' id) (lk H id)) : rowsAt H' id = rowsAt H id := by
  unfold LEq at h
  unfold rowsAt
  cases h1 : lk H' id with
  | none =>
    rw [h1] at h
    cases h2 : lk H id with
    | none => rfl
    | some o => rw [h2] at h; cases h
  | some o' =>
    rw [h1] at h
    cases h2 : lk H id with
    | none => rw [h2] at h; cases h
    | some o =>
      rw [h2] at h
      cases o <;> cases o' <;> simp [strip] at h ⊢
      exact h.2
theorem load_ids {a : Bool} {size : Nat} {H H' : Heap} {p : AV} (h : ∀ id ∈ idL p, LEq (lk H' id) (lk H id)) : loadAV a size H' p = loadAV a size H p := by
  unfold loadAV
  cases p <;> simp only
  case ptr id off =>
    have := h id (by simp [idL])
    unfold LEq at this
    cases h1 : lk H' id with
    | none =>
      rw [h1] at this
      cases h2 : lk H id with
      | none => rfl
      | some o => rw [h2] at this; cases this
    | some o' =>
      rw [h1] at this
      cases h2 : lk H id with
      | none => rw [h2] at this; cases this
      | some o =>
        rw [h2] at this
        cases o <;> cases o' <;> simp [strip] at this ⊢
        rw [this]
  case eptr id i f =>
    have := h id (by simp [idL])
    unfold LEq at this
    cases h1 : lk H' id with
    | none =>
      rw [h1] at this
      cases h2 : lk H id with
      | none => rfl
      | some o => rw [h2] at this; cases this
    | some o' =>
      rw [h1] at this
      cases h2 : lk H id with
      | none => rw [h2] at this; cases this
      | some o =>
        rw [h2] at this
        simp only [Option.map_some, Option.some.injEq] at this
        cases o <;> cases o' <;> simp only [strip, reduceCtorEq, Ob.arr.injEq, Ob.arx.injEq] at this ⊢
        · rw [this.2.1]
        · rw [this.2]
theorem frz_own (H : Heap) (es id off len : Nat) (ex : Bool) : frz H (.own es id off len ex) = match rowsAt H id with | some rows => if off + len ≤ rows.length then canI ((rows.drop off).take len) else .bad | none => .bad := by
  simp only [frz, rowsAt]
  cases lk H id with
  | none => rfl
  | some o => cases o <;> rfl
mutual
theorem frz_ids {H H' : Heap} : ∀ (v : AV), (∀ id ∈ idsV v, rowsAt H' id = rowsAt H id) → frz H' v = frz H v
  | .own es id off len ex, h => by rw [frz_own, frz_own, h id (by simp [idsV])]
  | .agg cs, h => by simp only [frz]; rw [frzs_ids cs (by simpa [idsV] using h)]
  | .tup cs, h => by simp only [frz]; rw [frzs_ids cs (by simpa [idsV] using h)]
  | .bad, _ => rfl
  | .un, _ => rfl
  | .bool _, _ => rfl
  | .int _ _, _ => rfl
  | .str _, _ => rfl
  | .nil, _ => rfl
  | .oth _, _ => rfl
  | .imm _ _ _, _ => rfl
  | .ptr _ _, _ => rfl
  | .eptr _ _ _, _ => rfl
  | .iptr _ _, _ => rfl
  | .fn _ _ _, _ => rfl
theorem frzs_ids {H H' : Heap} : ∀ (vs : List AV), (∀ id ∈ idsVs vs, rowsAt H' id = rowsAt H id) → frzs H' vs = frzs H vs
  | [], _ => rfl
  | v :: r, h => by
    simp only [frzs]
    rw [frz_ids v fun id hid => h id (by simp [idsVs, hid]), frzs_ids r fun id hid => h id (by simp [idsVs, hid])]
end
theorem leak_add (n m : Nat) (o : Option Ob) : (o.map (leakOb n)).map (leakOb m) = o.map (leakOb (max n m)) := by
  cases o with
  | none => rfl
  | some o => simp [leakOb_leakOb]
theorem leak_id (o : Option Ob) : o.map (leakOb 0) = o := by cases o <;> simp [leakOb_zero]
def LeakF (l : List Nat) (g : Nat → Nat) (F : Heap → Heap) : Prop := (∀ k, k ∉ l → g k = 0) ∧ ∀ (H : Heap) (k : Nat), lk (F H) k = (lk H k).map (leakOb (g k))
theorem LeakF.none : LeakF [] (fun _ => 0) (fun H => H) := ⟨fun _ _ => rfl, fun H k => (leak_id _).symm⟩
theorem LeakF.comp {l1 l2 : List Nat} {g1 g2 : Nat → Nat} {F1 F2 : Heap → Heap} (h1 : LeakF l1 g1 F1) (h2 : LeakF l2 g2 F2) : LeakF (l1 ++ l2) (fun k => max (g1 k) (g2 k)) (fun H => F2 (F1 H)) := by
  refine ⟨fun k hk => ?_, fun H k => ?_⟩
  · rw [List.mem_append, not_or] at hk
    simp [h1.1 k hk.1, h2.1 k hk.2]
  · rw [h2.2, h1.2, leak_add]
mutual
theorem leakV_ids : ∀ (v : AV), ∃ g, LeakF (idsV v) g (fun H => leakV H v)
  | .own es id off len ex => by
    refine ⟨fun k => if k = id then off + len else 0, fun k hk => ?_, fun H k => ?_⟩
    · simp only [idsV, List.mem_singleton] at hk
      simp [hk]
    · simp only [leakV, lk_leakAt]
      cases lk H k with
      | none => rfl
      | some o =>
        by_cases hk : k = id
        · simp [hk]
        · simp [hk, leakOb_zero]
  | .agg cs => by
    obtain ⟨g, h⟩ := leakVs_ids cs
    exact ⟨g, by simpa only [idsV, leakV] using h⟩
  | .tup cs => by
    obtain ⟨g, h⟩ := leakVs_ids cs
    exact ⟨g, by simpa only [idsV, leakV] using h⟩
  | .bad => ⟨_, by simpa only [idsV, leakV] using LeakF.none⟩
  | .un => ⟨_, by simpa only [idsV, leakV] using LeakF.none⟩
  | .bool _ => ⟨_, by simpa only [idsV, leakV] using LeakF.none⟩
  | .int _ _ => ⟨_, by simpa only [idsV, leakV] using LeakF.none⟩
  | .str _ => ⟨_, by simpa only [idsV, leakV] using LeakF.none⟩
  | .nil => ⟨_, by simpa only [idsV, leakV] using LeakF.none⟩
  | .oth _ => ⟨_, by simpa only [idsV, leakV] using LeakF.none⟩
  | .imm _ _ _ => ⟨_, by simpa only [idsV, leakV] using LeakF.none⟩
  | .ptr _ _ => ⟨_, by simpa only [idsV, leakV] using LeakF.none⟩
  | .eptr _ _ _ => ⟨_, by simpa only [idsV, leakV] using LeakF.none⟩
  | .iptr _ _ => ⟨_, by simpa only [idsV, leakV] using LeakF.none⟩
  | .fn _ _ _ => ⟨_, by simpa only [idsV, leakV] using LeakF.none⟩
theorem leakVs_ids : ∀ (vs : List AV), ∃ g, LeakF (idsVs vs) g (fun H => leakVs H vs)
  | [] => ⟨_, by simpa only [idsVs, leakVs] using LeakF.none⟩
  | v :: r => by
    obtain ⟨g1, h1⟩ := leakV_ids v
    obtain ⟨g2, h2⟩ := leakVs_ids r
    exact ⟨_, by simpa only [idsVs, leakVs] using h1.comp h2⟩
end
theorem leakAll_ids : ∀ (ps : List (Nat × AV)), ∃ g, LeakF (idsVs (valsOf ps)) g (fun H => leakAll H ps)
  | [] => ⟨_, by simpa only [idsVs, valsOf, leakAll] using LeakF.none⟩
  | (i, v) :: r => by
    obtain ⟨g1, h1⟩ := leakV_ids v
    obtain ⟨g2, h2⟩ := leakAll_ids r
    exact ⟨_, by simpa only [idsVs, valsOf, leakAll] using h1.comp h2⟩
theorem fillRows_ids {H H' : Heap} {es : Nat} : ∀ {ps : List (Nat × AV)} {rows : List (List AV)}, (∀ id ∈ idsVs (valsOf ps), rowsAt H' id = rowsAt H id) → fillRows es H' rows ps = fillRows es H rows ps
  | [], rows, _ => rfl
  | (i, v) :: r, rows, h => by
    simp only [fillRows]
    rw [frz_ids v fun id hid => h id (by simp [valsOf, idsVs, hid])]
    cases cellsOf (frz H v) with
    | none => rfl
    | some vs =>
      simp only
      split
      · exact fillRows_ids fun id hid => h id (by simp [valsOf, idsVs, hid])
      · rfl
theorem rowsOf_ids {H H' : Heap} {es : Nat} (v : AV) (h : ∀ id ∈ idsV v, rowsAt H' id = rowsAt H id) : rowsOf es H' v = rowsOf es H v := by
  cases v
  case own es' id off len ex =>
    have := h id (by simp [idsV])
    unfold rowsAt at this
    simp only [rowsOf]
    split
    · cases ha : lk H' id with
      | none =>
        rw [ha] at this
        cases hb : lk H id with
        | none => rfl
        | some o => cases o <;> rw [hb] at this <;> first | rfl | cases this
      | some o =>
        rw [ha] at this
        cases hb : lk H id with
        | none => cases o <;> rw [hb] at this <;> first | rfl | cases this
        | some o' => cases o <;> cases o' <;> rw [hb] at this <;> first | rfl | (simp only [Option.some.injEq] at this; subst this; rfl) | cases this
    · rfl
  all_goals rfl
theorem srcRows_ids {H H' : Heap} {es : Nat} (v : AV) (h : ∀ id ∈ idsV v, rowsAt H' id = rowsAt H id) : srcRows es H' v = srcRows es H v := by
  unfold srcRows
  split
  · rfl
  · exact rowsOf_ids v h
/-! ### What is come to -/
theorem reachM_eq {H : Heap} : ∀ {n : Nat} {todo : List AV} {acc l : List Nat}, reachM H n todo acc = some l → reach H n todo acc = l
  | 0, _, _, _, h => by simp [reachM] at h
  | n + 1, [], acc, l, h => by simpa [reachM, reach] using h
  | n + 1, v :: todo, acc, l, h => by
    cases v <;> simp only [reachM, reach] at h ⊢
    case own es id off len ex =>
      split at h
      · rename_i hid; rw [if_pos hid]; exact reachM_eq h
      · rename_i hid
        rw [if_neg hid]
        split at h
        · exact reachM_eq h
        · cases h
    case eptr id i f =>
      split at h
      · rename_i hid; rw [if_pos hid]; exact reachM_eq h
      · rename_i hid
        rw [if_neg hid]
        split at h
        · exact reachM_eq h
        · cases h
    case ptr id off =>
      split at h
      · rename_i hid; rw [if_pos hid]; exact reachM_eq h
      · rename_i hid
        rw [if_neg hid]
        split at h
        · exact reachM_eq h
        · exact reachM_eq h
        · cases h
    all_goals exact reachM_eq h
theorem reachM_sub {H : Heap} : ∀ {n : Nat} {todo : List AV} {acc l : List Nat}, reachM H n todo acc = some l → ∀ id ∈ acc, id ∈ l
  | 0, _, _, _, h => by simp [reachM] at h
  | n + 1, [], acc, l, h => by simp only [reachM, Option.some.injEq] at h; subst h; exact fun _ h => h
  | n + 1, v :: todo, acc, l, h => by
    intro id hid
    cases v <;> simp only [reachM] at h
    case own es i off len ex =>
      split at h
      · exact reachM_sub h id hid
      · split at h
        · exact reachM_sub h id (by simp [hid])
        · cases h
    case eptr i _ f =>
      split at h
      · exact reachM_sub h id hid
      · split at h
        · exact reachM_sub h id (by simp [hid])
        · cases h
    case ptr i off =>
      split at h
      · exact reachM_sub h id hid
      · split at h
        · exact reachM_sub h id (by simp [hid])
        · exact reachM_sub h id (by simp [hid])
        · cases h
    all_goals exact reachM_sub h id hid
theorem reachM_same {H H' : Heap} : ∀ {n : Nat} {todo : List AV} {acc l : List Nat}, reachM H n todo acc = some l → (∀ id ∈ l, lk H' id = lk H id) → reachM H' n todo acc = some l
  | 0, _, _, _, h, _ => by simp [reachM] at h
  | n + 1, [], acc, l, h, _ => by simpa [reachM] using h
  | n + 1, v :: todo, acc, l, h, he => by
    cases v <;> simp only [reachM] at h ⊢
    case own es id off len ex =>
      split at h
      · rename_i hid; rw [if_pos hid]; exact reachM_same h he
      · rename_i hid
        rw [if_neg hid]
        split at h
        · rename_i o ho
          rw [he id (reachM_sub h id (by simp)), ho]
          exact reachM_same h he
        · cases h
    case eptr id i f =>
      split at h
      · rename_i hid; rw [if_pos hid]; exact reachM_same h he
      · rename_i hid
        rw [if_neg hid]
        split at h
        · rename_i o ho
          rw [he id (reachM_sub h id (by simp)), ho]
          exact reachM_same h he
        · cases h
    case ptr id off =>
      split at h
      · rename_i hid; rw [if_pos hid]; exact reachM_same h he
      · rename_i hid
        rw [if_neg hid]
        split at h
        · rename_i cells ho
          rw [he id (reachM_sub h id (by simp)), ho]
          exact reachM_same h he
        · rename_i o hne ho
          rw [he id (reachM_sub h id (by simp)), ho]
          cases o with
          | box cells => exact absurd rfl (hne cells)
          | arr es rows leak => exact reachM_same h he
          | arx es rows => exact reachM_same h he
        · cases h
    all_goals exact reachM_same h he
theorem renH_lk {f : Nat → Option Nat} (hf : Inj f) : ∀ (H : Heap) {id j : Nat}, f id = some j → lk (renH f H) j = (lk H id).map (renOb f)
  | [], id, j, h => by simp [renH]
  | (i, o) :: r, id, j, h => by
    simp only [renH]
    cases hi : f i with
    | none =>
      simp only
      have : i ≠ id := fun e => by subst e; rw [h] at hi; cases hi
      rw [lk_cons, if_neg this]
      exact renH_lk hf r h
    | some k =>
      simp only [lk_cons]
      by_cases hk : i = id
      · subst hk
        rw [h] at hi
        obtain rfl := Option.some.inj hi
        simp
      · have : ¬ k = j := fun e => by subst e; exact hk (hf _ _ _ hi h)
        rw [if_neg this, if_neg hk]
        exact renH_lk hf r h
theorem renH_no {f : Nat → Option Nat} : ∀ (H : Heap) {j : Nat}, (∀ id, f id ≠ some j) → lk (renH f H) j = none
  | [], j, h => by simp [renH]
  | (i, o) :: r, j, h => by
    simp only [renH]
    cases hi : f i with
    | none => exact renH_no r h
    | some k =>
      simp only [lk_cons]
      have : ¬ k = j := fun e => by subst e; exact h i hi
      rw [if_neg this]
      exact renH_no r h
theorem canG_same {H H' : Heap} : ∀ {n : Nat}, (∀ t, t < n → lk H' t = lk H t) → canG H' n = canG H n
  | 0, _ => rfl
  | n + 1, h => by
    simp only [canG]
    rw [h n (by omega), canG_same fun t ht => h t (by omega)]
theorem lent_same {H H' : Heap} {l : List Nat} (hl : l.Nodup) (h : ∀ id ∈ l, lk H' id = lk H id) : canG (renH (pos l) H') l.length = canG (renH (pos l) H) l.length := by
  refine canG_same fun t ht => ?_
  have hi : Inj (pos l) := fun i i' j h h' => pos_inj h h'
  have hp : pos l l[t] = some t := get_pos hl (List.getElem?_eq_getElem ht)
  rw [renH_lk hi H' hp, renH_lk hi H hp, h _ (List.getElem_mem ht)]
theorem lk_dropAll_eq : ∀ (l : List Nat) (H : Heap) (k : Nat), lk (dropAll H l) k = if k ∈ l then none else lk H k
  | [], H, k => by simp [dropAll]
  | i :: r, H, k => by
    simp only [dropAll]
    rw [lk_dropAll_eq r, lk_rmv]
    by_cases h1 : k ∈ r
    · simp [h1]
    · by_cases h2 : k = i
      · simp [h2]
      · simp [h1, h2]
theorem lk_app_eq {α : Type} : ∀ (l l' : List (Nat × α)) (t : Nat), lk (l ++ l') t = match lk l t with | some x => some x | none => lk l' t
  | [], l', t => by simp
  | (k, x) :: r, l', t => by
    rw [List.cons_append, lk_cons, lk_cons]
    by_cases h : k = t
    · simp [h]
    · rw [if_neg h, if_neg h]
      exact lk_app_eq r l' t
end
end Go.Proofs.Ytefjblgmnoheiaa.R
