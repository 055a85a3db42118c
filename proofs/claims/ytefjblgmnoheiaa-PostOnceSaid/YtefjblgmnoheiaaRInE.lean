/- slices.Insert of one more element. -/
import Derived.Test.YtefjblgmnoheiaaRTab
set_option linter.unusedVariables false
set_option linter.unusedSectionVars false
set_option linter.unusedSimpArgs false
noncomputable section
namespace Go.Proofs.Ytefjblgmnoheiaa.R
open Go
/-- What is asked of such a function: its four ways. -/
structure InsLaw (P : Program) (f : Nat) (E : TypeId) : Prop where
  fn : ∃ fn, P.funcs[f]? = some fn ∧ (fn.name == "runtime.NumGoroutine") = false ∧ fn.body.isNone = false
  room : ∀ (b off n c vb voff vc : Nat) (v : Value) (w : World), n + 1 ≤ c → n + 1 ≤ limN → (w.cell? ⟨b, off + n, none⟩).isSome = true → w.frozen? ⟨b, off + n, none⟩ = false → w.cell? ⟨vb, voff, none⟩ = some v → v.oneCell' = true →
    Calls P f #[.slice (some ⟨b, off, none⟩) n c, .int .i64 n, .slice (some ⟨vb, voff, none⟩) 1 vc] w fun e w' => e = .returned (.slice (some ⟨b, off, none⟩) (n + 1) c) ∧ w' = w.setCells b (off + n) [v]
  end_ : ∀ (base : Option Addr) (n c vb voff vc : Nat) (cs : List Value) (v : Value) (w : World), n ≤ c → c < n + 1 → n + 1 ≤ limN → cs.length = n → (base = none → n = 0) → (∀ a, base = some a → ∀ j v, cs[j]? = some v → w.cell? (a.add j) = some v) → w.cell? ⟨vb, voff, none⟩ = some v → v.oneCell' = true →
    Calls P f #[.slice base n c, .int .i64 n, .slice (some ⟨vb, voff, none⟩) 1 vc] w fun e w' => ∃ (G : Nat) (D : List Value), n + 1 + D.length = G ∧ e = .returned (.slice (some ⟨w.heap.size, 0, none⟩) (n + 1) G) ∧ w' = w.drew.alloc (.cells (cs ++ [v] ++ D).toArray E)
  shift : ∀ (b off n c i vb voff vc : Nat) (cs : List Value) (v : Value) (w : World), i < n → n + 1 ≤ c → n + 1 ≤ limN → vb ≠ b → cs.length = n → (∀ j v, cs[j]? = some v → w.cell? ⟨b, off + j, none⟩ = some v) → (∀ j, j < n + 1 → (w.cell? ⟨b, off + j, none⟩).isSome = true) → (∀ j, i ≤ j → j < n + 1 → w.frozen? ⟨b, off + j, none⟩ = false) →
    w.cell? ⟨vb, voff, none⟩ = some v → (∀ v ∈ cs, v.oneCell' = true) → v.oneCell' = true → ∀ (tA tB : TypeId) (kA kB : Nat), w.shape? vb = some (tA, kA) → w.shape? b = some (tB, kB) → kB ≠ 0 → w.frozen? ⟨vb, voff, none⟩ = false → w.frozen? ⟨vb, kA, none⟩ = false →
    Calls P f #[.slice (some ⟨b, off, none⟩) n c, .int .i64 i, .slice (some ⟨vb, voff, none⟩) 1 vc] w fun e w' => e = .returned (.slice (some ⟨b, off, none⟩) (n + 1) c) ∧ w' = (w.drew.setCells b (off + (i + 1)) (cs.drop i)).setCells b (off + i) [v]
  grow : ∀ (b off n c i vb voff vc : Nat) (cs : List Value) (v : Value) (w : World), i < n → n ≤ c → c < n + 1 → n + 1 ≤ limN → cs.length = n → (∀ j v, cs[j]? = some v → w.cell? ⟨b, off + j, none⟩ = some v) → w.cell? ⟨vb, voff, none⟩ = some v → (∀ v ∈ cs, v.oneCell' = true) → v.oneCell' = true →
    Calls P f #[.slice (some ⟨b, off, none⟩) n c, .int .i64 i, .slice (some ⟨vb, voff, none⟩) 1 vc] w fun e w' => ∃ (G : Nat) (R : Array Value), n + 1 ≤ G ∧ R.size = G ∧ (∀ j, j < i → R[j]? = cs[j]?) ∧ e = .returned (.slice (some ⟨w.heap.size, 0, none⟩) (n + 1) G) ∧
      w' = (((w.alloc (.cells R E)).drew.setCells w.heap.size i [v]).drew).setCells w.heap.size (i + 1) (cs.drop i)
section
variable {P : Program} {f : Nat} {E : TypeId} {w : World} {A : Nat → Nat → Prop} {ρ : Rho}
theorem setCells_push (w : World) (e : TypeId) (fr : Nat × Nat) : ∀ (vs : List Value) (o : Nat) (C : Array Value), (pushW w (.cells C e fr)).setCells w.heap.size o vs = pushW w (.cells (putV C o vs) e fr)
  | [], _, _ => rfl
  | v :: r, o, C => by
    have h : (pushW w (.cells C e fr)).setCell ⟨w.heap.size, o, none⟩ v = pushW w (.cells (C.setIfInBounds o v) e fr) := by
      simp only [World.setCell, pushW, push_modify]
      rfl
    rw [World.setCells, h, setCells_push w e fr r (o + 1)]
    rfl
end
end Go.Proofs.Ytefjblgmnoheiaa.R

/- slices.Delete of some elements. -/
set_option linter.unusedVariables false
set_option linter.unusedSectionVars false
set_option linter.unusedSimpArgs false
noncomputable section
namespace Go.Proofs.Ytefjblgmnoheiaa.R
open Go
/-- What a function that takes elements away answers: the slice is shorter, in its own memory. -/
def delAV (s : St) (base : AV) (i j : Int) : Option (AV × St) :=
  match base with
  | .own es id off len _ =>
    match lk s.H id with
    | some (.arr es2 rows leak) =>
      if es2 = es ∧ 0 < es ∧ off = 0 ∧ 0 ≤ i ∧ i < j ∧ j.toNat ≤ len ∧ len ≤ rows.length ∧ leak ≤ i.toNat ∧ len ≤ limN then
        match upd s.H id (.arr es ((rows.take len).take i.toNat ++ (rows.take len).drop j.toNat) leak) with
        | some H => some (.own es id 0 (len - (j.toNat - i.toNat)) false, s.setH H)
        | none => none
      else none
    | _ => none
  | _ => none
/-- What is asked of such a function, at elements of so many cells. -/
structure DelLaw (P : Program) (f es : Nat) : Prop where
  fn : ∃ fn, P.funcs[f]? = some fn ∧ (fn.name == "runtime.NumGoroutine") = false ∧ fn.body.isNone = false
  run : ∀ (b n c i j k : Nat) (cs : List Value) (w : World), i < j → j ≤ n → n ≤ c → n ≤ limN → cs.length = n * es → (∀ q v, cs[q]? = some v → w.cell? ⟨b, q, none⟩ = some v) → (∀ q, q ≤ n * es → w.frozen? ⟨b, q, none⟩ = false) → (∀ v ∈ cs, v.oneCell' = true) → (∃ t, w.shape? b = some (t, k)) → n * es ≤ k →
    Calls P f #[.slice (some ⟨b, 0, none⟩) n c, .int .i64 i, .int .i64 j] w fun e w' => e = .returned (.slice (some ⟨b, 0, none⟩) (n - (j - i)) c) ∧ ∃ Z : List Value, Z.length = (j - i) * es ∧ w' = (w.drew.setCells b (i * es) (cs.drop (j * es))).setCells b ((n - (j - i)) * es) Z
section
variable {P : Program} {f : Nat} {w : World} {A : Nat → Nat → Prop} {ρ : Rho}
theorem del_list {C : Array Value} {es len i j : Nat} {Z : List Value} (hij : i < j) (hj : j ≤ len) (hl : len * es ≤ C.size) (hZ : Z.length = (j - i) * es) :
    ∃ T, (putV (putV C (i * es) ((C.toList.take (len * es)).drop (j * es))) ((len - (j - i)) * es) Z).toList = (C.toList.take (len * es)).take (i * es) ++ (C.toList.take (len * es)).drop (j * es) ++ T := by
  have hcl : C.toList.length = C.size := by simp
  have m1 : i * es ≤ j * es := Nat.mul_le_mul_right _ (by omega)
  have m2 : j * es ≤ len * es := Nat.mul_le_mul_right _ hj
  have m3 : (len - (j - i)) * es = len * es - j * es + i * es := by
    rw [← Nat.sub_mul, ← Nat.add_mul]
    congr 1
    omega
  have m4 : (j - i) * es = j * es - i * es := Nat.sub_mul _ _ _
  rw [m4] at hZ
  rw [m3]
  generalize i * es = I at *
  generalize j * es = J at *
  generalize len * es = N at *
  have hd : ((C.toList.take N).drop J).length = N - J := by rw [List.length_drop, List.length_take]; omega
  have ht : ((C.toList.take N).take I).length = I := by rw [List.length_take, List.length_take]; omega
  refine ⟨Z ++ C.toList.drop N, ?_⟩
  apply List.ext_getElem?
  intro k
  rw [Array.getElem?_toList, putV_get, putV_get, putV_size, hd, hZ]
  by_cases h1 : k < I
  · rw [if_neg (by omega), if_neg (by omega), List.append_assoc, List.getElem?_append_left (by omega), List.getElem?_take, if_pos h1, List.getElem?_take, if_pos (by omega), Array.getElem?_toList]
  · by_cases h2 : k < N - J + I
    · rw [if_neg (by omega), if_pos (by omega), List.append_assoc, List.getElem?_append_right (by omega), ht, List.getElem?_append_left (by omega)]
    · by_cases h3 : k < N
      · rw [if_pos (by omega), List.getElem?_append_right (by rw [List.length_append, ht, hd]; omega), List.length_append, ht, hd, List.getElem?_append_left (by omega)]
        congr 1
        omega
      · rw [if_neg (by omega), if_neg (by omega), List.getElem?_append_right (by rw [List.length_append, ht, hd]; omega), List.length_append, ht, hd, List.getElem?_append_right (by omega), List.getElem?_drop, Array.getElem?_toList]
        congr 1
        omega
theorem snd_del {es0 : Nat} (L : DelLaw P f es0) {s s' : St} (hr : Rep A ρ s.H s.nx w) {y v : AV} {i j : Int} {Y : Value} (hy : VR w (UU A ρ s.H) ρ y Y) (h : delAV s y i j = some (v, s')) (hes : ∀ es id off len ex, y = .own es id off len ex → es = es0) :
    Calls P f #[Y, .int .i64 i, .int .i64 j] w (PostE A ρ s w v s') := by
  unfold delAV at h
  split at h
  · rename_i es id off len ex
    obtain rfl := hes _ _ _ _ _ rfl
    split at h
    · rename_i es2 rows leak hid
      split at h
      · rename_i hc
        obtain ⟨rfl, hz, rfl, hi0, hij, hjl, hle, hleak, hlim⟩ := hc
        split at h
        · rename_i H hup
          simp only [Option.some.injEq, Prod.mk.injEq] at h
          obtain ⟨rfl, rfl⟩ := h
          obtain ⟨i, rfl⟩ : ∃ i' : Nat, i = i' := ⟨i.toNat, by omega⟩
          obtain ⟨j, rfl⟩ : ∃ j' : Nat, j = j' := ⟨j.toNat, by omega⟩
          simp only [Int.toNat_natCast] at hjl hleak hup ⊢
          have hij : i < j := by omega
          simp only [VR] at hy
          obtain ⟨B, c, rfl, g1, g2, g3⟩ := hy
          rcases g3 with ⟨h0, rfl⟩ | ⟨b, C, e, fr, g4, rfl, g5, g6⟩
          · omega
          obtain ⟨_, q2, C', e', fr', q3, q4, q5⟩ := hr.ob id _ b es2 hid g4
          rw [g5] at q3
          simp only [Option.some.injEq, Obj.cells.injEq] at q3
          obtain ⟨rfl, rfl, rfl⟩ := q3
          simp only [Nat.zero_add, Nat.zero_mul] at g6 ⊢
          have hcl : C.toList.length = C.size := by simp
          have hsz : len * es2 ≤ C.size := Nat.le_trans (Nat.mul_le_mul_right _ g1) g6
          have m1 : i * es2 ≤ j * es2 := Nat.mul_le_mul_right _ (by omega)
          have m2 : j * es2 ≤ len * es2 := Nat.mul_le_mul_right _ hjl
          have mk : leak * es2 ≤ i * es2 := Nat.mul_le_mul_right _ hleak
          have hol : (C.toList.take (len * es2)).length = len * es2 := by rw [List.length_take]; omega
          have hcs : ∀ q u, (C.toList.take (len * es2))[q]? = some u → w.cell? ⟨b, q, none⟩ = some u := by
            intro q u hq
            rw [List.getElem?_take] at hq
            split at hq
            · rw [cell_of_block g5, ← Array.getElem?_toList]; exact hq
            · cases hq
          have hrl : (rows.take len).length = len := by rw [List.length_take]; omega
          have hA1 : ARs w (UU A ρ s.H) es2 (rows.take len) (C.toList.take (len * es2)) := ARs_take (ARs_head q5 len) (by rw [hrl]; omega)
          have hones : ∀ u ∈ C.toList.take (len * es2), u.oneCell' = true := fun u hu => oneCell_of_oneB (ARs_one hA1 (by rw [hol, hrl]) u hu)
          refine (L.run b len c i j C.size (C.toList.take (len * es2)) w hij hjl g1 hlim hol hcs (fun q hq => frozen_of_block g5 q4 (by omega)) hones ⟨e, by simp [World.shape?, g5]⟩ hsz).mono fun e' w' hh => ?_
          obtain ⟨rfl, Z, hZ, rfl⟩ := hh
          obtain ⟨t1, t2, t3, t4, t5, t6⟩ := setCells_heap b e fr ((C.toList.take (len * es2)).drop (j * es2)) (i * es2) w.drew C g5
          obtain ⟨u1, u2, u3, u4, u5, u6⟩ := setCells_heap b e fr Z ((len - (j - i)) * es2) _ _ t1
          obtain ⟨T, hT⟩ := del_list (Z := Z) hij hjl hsz hZ
          have hd : ((C.toList.take (len * es2)).drop (j * es2)).length = len * es2 - j * es2 := by rw [List.length_drop, hol]
          have m3 : (len - (j - i)) * es2 = len * es2 - j * es2 + i * es2 := by
            rw [← Nat.sub_mul, ← Nat.add_mul]
            congr 1
            omega
          have m4 : (j - i) * es2 = j * es2 - i * es2 := Nat.sub_mul _ _ _
          have hwrite : ∀ o, ¬ wrOb es2 o (.arr es2 rows leak) → (putV (putV C (i * es2) ((C.toList.take (len * es2)).drop (j * es2))) ((len - (j - i)) * es2) Z)[o]? = C[o]? := by
            intro o ho
            simp only [wrOb] at ho
            rw [putV_get, if_neg, putV_get, if_neg]
            · rintro ⟨a1, a2, a3⟩
              exact ho (by omega)
            · rintro ⟨a1, a2, a3⟩
              exact ho (by omega)
          have hH1 : ∀ k, lk H k = if k = id then some (.arr es2 ((rows.take len).take i ++ (rows.take len).drop j) leak) else lk s.H k := fun k => lk_upd hup k
          obtain ⟨hfr, hrep⟩ := blk_update (H' := H) (ob' := .arr es2 ((rows.take len).take i ++ (rows.take len).drop j) leak) hr hid g4 g5 u1 (fun k hk => (u2 k hk).trans (t2 k hk)) (u3.trans t3) (u4.trans t4) (u5.trans t5) (u6.trans t6) (by rw [putV_size, putV_size]) hwrite hH1 (by intro o; simp only [wrOb]; exact fun h => h)
          have hrep1 := hrep ⟨rfl, hz, _, e, fr, u1, by rw [putV_size, putV_size]; exact q4, by
            rw [hT]
            have a1 := ARs_mono hfr.stay hA1
            have a2 := ARs_append (ARs_take (k := i * es2) (ARs_head a1 i) (by rw [List.length_take, hrl]; exact Nat.mul_le_mul_right _ (by omega))) (by rw [List.length_take, hol, List.length_take, hrl, Nat.min_eq_left (by omega), Nat.min_eq_left (by omega)]) (ARs_drop a1 j)
            exact ARs_app a2⟩
          refine ⟨rfl, rfl, ρ, hrep1, ?_, Ext2.refl _ _, hfr⟩
          simp only [VR]
          refine ⟨_, c, rfl, by omega, by simp, .inr ⟨b, _, e, fr, g4, by simp, u1, by rw [putV_size, putV_size]; simpa using g6⟩⟩
        · cases h
      · cases h
    · cases h
  · cases h
/-- Functions that take elements away, for the evaluator. -/
def delP (fs : List (Nat × Nat)) : Callee := fun f args H m =>
  match args with
  | [.own es id off len ex, .int .i64 i, .int .i64 j] =>
    if fs.contains (f, es) = true then
      match delAV ⟨[], [], H, m⟩ (.own es id off len ex) i j with
      | some (v, s') => some (v, s'.H, s'.nx)
      | none => none
    else none
  | _ => none
theorem delP_sound {fs : List (Nat × Nat)} (h : ∀ p ∈ fs, DelLaw P p.1 p.2) : Sound P (delP fs) := by
  refine ⟨clnOk P, fun {f args H m r} hx => ?_, fun {f args H m r H' n'} hx A ρ w xs hr hv => ?_⟩
  · unfold delP at hx
    split at hx
    · split at hx
      · rename_i hf
        exact (h _ (by simpa using hf)).fn
      · cases hx
    · cases hx
  · unfold delP at hx
    split at hx
    · rename_i es id off len ex i j
      split at hx
      · rename_i hf
        have hL := h _ (by simpa using hf)
        split at hx
        · rename_i v s' hi
          simp only [Option.some.injEq, Prod.mk.injEq] at hx
          obtain ⟨rfl, rfl, rfl⟩ := hx
          simp only [VRs] at hv
          obtain ⟨Y, r1, e1, v1, I, r2, e2, v2, J, r3, e3, v3, e4⟩ := hv
          simp only [VR] at v2 v3
          subst e4 e3 e2 v2 v3
          have : xs = #[Y, .int .i64 i, .int .i64 j] := by
            apply Array.ext'
            rw [e1]
          subst this
          refine (snd_del hL (s := ⟨[], [], H, m⟩) hr v1 hi (fun es' id' off' len' ex' e => by cases e; rfl)).mono fun e w' hp => ?_
          cases e with
          | returned x' =>
            obtain ⟨_, _, ρ', p1, p2, p3, p4⟩ := hp
            exact ⟨ρ', p1, p2, p3, p4⟩
          | _ => exact hp.elim
        · cases hx
      · cases hx
    · cases hx
end
end Go.Proofs.Ytefjblgmnoheiaa.R

/- slices.Insert of one more element of six cells: what is asked of it. -/
set_option linter.unusedVariables false
set_option linter.unusedSectionVars false
set_option linter.unusedSimpArgs false
noncomputable section
namespace Go.Proofs.Ytefjblgmnoheiaa.R
open Go
/-- What a function that inserts one element answers. -/
def insKE (s : St) (len : Nat) (rows : List (List AV)) (k : Nat) (r : List AV) (leak : Nat) : AV × St :=
  (.own 6 s.nx 0 (len + 1) false, s.add (.arr 6 ((rows.take len).take k ++ r :: (rows.take len).drop k) leak))
def insAVE (s : St) (base : AV) (k : Int) (x : AV) : Option (AV × St) :=
  match x with
  | .own es iv off n _ =>
    if es = 6 ∧ off = 0 ∧ n = 1 then
      match lk s.H iv with
      | some (.arr es2 (r :: _) _) =>
        match base with
        | .nil => if k = 0 then some (insKE s 0 [] 0 r 0) else none
        | .own es3 id off3 len _ =>
          match lk s.H id with
          | some (.arr es4 rows leak) =>
            if es3 = 6 ∧ off3 = 0 ∧ id ≠ iv ∧ 0 ≤ k ∧ k.toNat ≤ len ∧ len ≤ rows.length ∧ leak ≤ k.toNat ∧ len + 1 ≤ limN then
              some (insKE (s.setH (rmv s.H id)) len rows k.toNat r leak)
            else none
          | _ => none
        | _ => none
      | _ => none
    else none
  | _ => none
/-- What is asked of such a function: its four ways. -/
structure InsLawE (P : Program) (f : Nat) (E : TypeId) : Prop where
  fn : ∃ fn, P.funcs[f]? = some fn ∧ (fn.name == "runtime.NumGoroutine") = false ∧ fn.body.isNone = false
  room : ∀ (b n c vb vc : Nat) (vs : List Value) (w : World), vs.length = 6 → n + 1 ≤ c → n + 1 ≤ limN → (∀ j, j < 6 → (w.cell? ⟨b, n * 6 + j, none⟩).isSome = true) → (∀ j, j < 6 → w.frozen? ⟨b, n * 6 + j, none⟩ = false) → (∀ j u, vs[j]? = some u → w.cell? ⟨vb, j, none⟩ = some u) → (∀ u ∈ vs, u.oneCell' = true) →
    Calls P f #[.slice (some ⟨b, 0, none⟩) n c, .int .i64 n, .slice (some ⟨vb, 0, none⟩) 1 vc] w fun e w' => e = .returned (.slice (some ⟨b, 0, none⟩) (n + 1) c) ∧ w' = w.setCells b (n * 6) vs
  end_ : ∀ (base : Option Addr) (n c vb vc : Nat) (cs vs : List Value) (w : World), vs.length = 6 → n ≤ c → c < n + 1 → n + 1 ≤ limN → cs.length = n * 6 → (base = none → n = 0) → (∀ a, base = some a → ∀ j u, cs[j]? = some u → w.cell? (a.add j) = some u) → (∀ j u, vs[j]? = some u → w.cell? ⟨vb, j, none⟩ = some u) → (∀ u ∈ vs, u.oneCell' = true) →
    Calls P f #[.slice base n c, .int .i64 n, .slice (some ⟨vb, 0, none⟩) 1 vc] w fun e w' => ∃ (G : Nat) (D : List Value), (n + 1) * 6 + D.length = G * 6 ∧ e = .returned (.slice (some ⟨w.heap.size, 0, none⟩) (n + 1) G) ∧ w' = w.drew.alloc (.cells (cs ++ vs ++ D).toArray E)
  shift : ∀ (b n c i vb vc : Nat) (cs vs : List Value) (w : World), vs.length = 6 → i < n → n + 1 ≤ c → n + 1 ≤ limN → vb ≠ b → cs.length = n * 6 → (∀ j u, cs[j]? = some u → w.cell? ⟨b, j, none⟩ = some u) → (∀ j, j < (n + 1) * 6 → (w.cell? ⟨b, j, none⟩).isSome = true) → (∀ j, i * 6 ≤ j → j < (n + 1) * 6 → w.frozen? ⟨b, j, none⟩ = false) →
    (∀ j u, vs[j]? = some u → w.cell? ⟨vb, j, none⟩ = some u) → (∀ u ∈ cs, u.oneCell' = true) → (∀ u ∈ vs, u.oneCell' = true) → ∀ (tA tB : TypeId) (kA kB : Nat), w.shape? vb = some (tA, kA) → w.shape? b = some (tB, kB) → kB ≠ 0 → w.frozen? ⟨vb, 0, none⟩ = false → w.frozen? ⟨vb, kA, none⟩ = false →
    Calls P f #[.slice (some ⟨b, 0, none⟩) n c, .int .i64 i, .slice (some ⟨vb, 0, none⟩) 1 vc] w fun e w' => e = .returned (.slice (some ⟨b, 0, none⟩) (n + 1) c) ∧ w' = (w.drew.setCells b ((i + 1) * 6) (cs.drop (i * 6))).setCells b (i * 6) vs
  grow : ∀ (b n c i vb vc : Nat) (cs vs : List Value) (w : World), vs.length = 6 → i < n → n ≤ c → c < n + 1 → n + 1 ≤ limN → cs.length = n * 6 → (∀ j u, cs[j]? = some u → w.cell? ⟨b, j, none⟩ = some u) → (∀ j u, vs[j]? = some u → w.cell? ⟨vb, j, none⟩ = some u) → (∀ u ∈ cs, u.oneCell' = true) → (∀ u ∈ vs, u.oneCell' = true) →
    Calls P f #[.slice (some ⟨b, 0, none⟩) n c, .int .i64 i, .slice (some ⟨vb, 0, none⟩) 1 vc] w fun e w' => ∃ (G : Nat) (R : Array Value), n + 1 ≤ G ∧ R.size = G * 6 ∧ (∀ j, j < i * 6 → R[j]? = cs[j]?) ∧ e = .returned (.slice (some ⟨w.heap.size, 0, none⟩) (n + 1) G) ∧
      w' = (((w.alloc (.cells R E)).drew.setCells w.heap.size (i * 6) vs).drew).setCells w.heap.size ((i + 1) * 6) (cs.drop (i * 6))
section
variable {P : Program} {f : Nat} {E : TypeId} {w : World} {A : Nat → Nat → Prop} {ρ : Rho}
/-- One more element, at its place. -/
theorem putInE_list {C : Array Value} {len k : Nat} {vs : List Value} (hv : vs.length = 6) (hk : k ≤ len) (hl : (len + 1) * 6 ≤ C.size) :
    ∃ T, (putV (putV C ((k + 1) * 6) ((C.toList.take (len * 6)).drop (k * 6))) (k * 6) vs).toList = (C.toList.take (len * 6)).take (k * 6) ++ vs ++ (C.toList.take (len * 6)).drop (k * 6) ++ T := by
  have hcl : C.toList.length = C.size := by simp
  refine ⟨C.toList.drop ((len + 1) * 6), ?_⟩
  apply List.ext_getElem?
  intro i
  have hd : ((C.toList.take (len * 6)).drop (k * 6)).length = (len - k) * 6 := by rw [List.length_drop, List.length_take]; omega
  have ht : ((C.toList.take (len * 6)).take (k * 6)).length = k * 6 := by rw [List.length_take, List.length_take]; omega
  rw [Array.getElem?_toList, putV_get, putV_get, putV_size]
  simp only [hv, hd]
  by_cases h1 : i < k * 6
  · rw [if_neg (by omega), if_neg (by omega), List.append_assoc, List.append_assoc, List.getElem?_append_left (by omega), List.getElem?_take, if_pos h1, List.getElem?_take, if_pos (by omega), Array.getElem?_toList]
  · by_cases h2 : i < (k + 1) * 6
    · rw [if_pos (by omega), List.append_assoc, List.append_assoc, List.getElem?_append_right (by omega), ht, List.getElem?_append_left (by omega)]
    · by_cases h3 : i < (len + 1) * 6
      · rw [if_neg (by omega), if_pos (by omega), List.append_assoc, List.append_assoc, List.getElem?_append_right (by omega), ht, List.getElem?_append_right (by omega), List.getElem?_append_left (by rw [hd]; omega), hv]
        congr 1
        omega
      · rw [if_neg (by omega), if_neg (by omega), List.getElem?_append_right (by rw [List.length_append, List.length_append, ht, hd]; omega), List.length_append, List.length_append, ht, hd, List.getElem?_drop, Array.getElem?_toList, hv]
        congr 1
        omega
theorem putInE_new {R : Array Value} {cs vs : List Value} {k n : Nat} (hv : vs.length = 6) (hn : cs.length = n * 6) (hk : k < n) (hl : (n + 1) * 6 ≤ R.size) (h : ∀ j, j < k * 6 → R[j]? = cs[j]?) :
    ∃ T, (putV (putV R (k * 6) vs) ((k + 1) * 6) (cs.drop (k * 6))).toList = cs.take (k * 6) ++ vs ++ cs.drop (k * 6) ++ T := by
  refine ⟨R.toList.drop ((n + 1) * 6), ?_⟩
  apply List.ext_getElem?
  intro i
  have hd : (cs.drop (k * 6)).length = (n - k) * 6 := by rw [List.length_drop]; omega
  have ht : (cs.take (k * 6)).length = k * 6 := by rw [List.length_take]; omega
  rw [Array.getElem?_toList, putV_get, putV_get, putV_size]
  simp only [hv, hd]
  by_cases h1 : i < k * 6
  · rw [if_neg (by omega), if_neg (by omega), List.append_assoc, List.append_assoc, List.getElem?_append_left (by omega), List.getElem?_take, if_pos h1, h i h1]
  · by_cases h2 : i < (k + 1) * 6
    · rw [if_neg (by omega), if_pos (by omega), List.append_assoc, List.append_assoc, List.getElem?_append_right (by omega), ht, List.getElem?_append_left (by omega)]
    · by_cases h3 : i < (n + 1) * 6
      · rw [if_pos (by omega), List.append_assoc, List.append_assoc, List.getElem?_append_right (by omega), ht, List.getElem?_append_right (by omega), List.getElem?_append_left (by rw [hd]; omega), hv]
        congr 1
        omega
      · rw [if_neg (by omega), if_neg (by omega), List.getElem?_append_right (by rw [List.length_append, List.length_append, ht, hd]; omega), List.length_append, List.length_append, ht, hd, List.getElem?_drop, Array.getElem?_toList, hv]
        congr 1
        omega
theorem ARs_ins {U : Nat → Nat → Prop} {len k : Nat} {rows : List (List AV)} {cs vs : List Value} {r : List AV} (hA : ARs w U 6 rows cs) (hrl : rows.length = len) (hol : cs.length = len * 6) (hk : k ≤ len) (hnew : ARs w U 6 [r] vs) (hv : vs.length = 6) :
    ARs w U 6 (rows.take k ++ r :: rows.drop k) (cs.take (k * 6) ++ vs ++ cs.drop (k * 6)) := by
  have a1 := ARs_append (ARs_append (ARs_take (k := k * 6) (ARs_head hA k) (by rw [List.length_take, hrl, Nat.min_eq_left hk]; exact Nat.le_refl _)) (by rw [List.length_take, hol, List.length_take, hrl, Nat.min_eq_left (by omega), Nat.min_eq_left hk]) hnew) (by rw [List.length_append, List.length_append, List.length_take, List.length_take, hol, hrl, hv, List.length_singleton, Nat.min_eq_left (by omega), Nat.min_eq_left hk]; omega) (ARs_drop hA k)
  rw [show (rows.take k ++ [r]) ++ rows.drop k = rows.take k ++ r :: rows.drop k by simp] at a1
  exact a1
/-- Put in in place. -/
theorem post_putE {s : St} (hr : Rep A ρ s.H s.nx w) {id b c len k leak : Nat} {rows : List (List AV)} {r : List AV} {vs : List Value} (hid : lk s.H id = some (.arr 6 rows leak)) (hρ : ρ id = some (b, 6)) {C : Array Value} {e : TypeId} {fr : Nat × Nat} (hb : w.heap[b]? = some (Obj.cells C e fr)) (hu : unfr fr C.size)
    (hA : ARs w (UU A ρ s.H) 6 rows C.toList) (hle : len ≤ rows.length) (hk : k ≤ len) (hleak : leak ≤ k) (hc : len + 1 ≤ c) (hcs : c * 6 ≤ C.size) (hnew : ARs w (UU A ρ s.H) 6 [r] vs) (hv : vs.length = 6)
    {w' : World} (u1 : w'.heap[b]? = some (Obj.cells (putV (putV C ((k + 1) * 6) ((C.toList.take (len * 6)).drop (k * 6))) (k * 6) vs) e fr)) (u2 : ∀ j, j ≠ b → w'.heap[j]? = w.heap[j]?) (u3 : w'.heap.size = w.heap.size) (u4 : w'.os = w.os) (u5 : w'.tape = w.tape) (u6 : w'.output = w.output) :
    Post A ρ s w (insKE (s.setH (rmv s.H id)) len rows k r leak).1 (insKE (s.setH (rmv s.H id)) len rows k r leak).2 (.slice (some ⟨b, 0, none⟩) (len + 1) c) w' := by
  have hcl : C.toList.length = C.size := by simp
  have hd : ((C.toList.take (len * 6)).drop (k * 6)).length = (len - k) * 6 := by rw [List.length_drop, List.length_take]; omega
  have hwrite : ∀ o, ¬ wrOb 6 o (.arr 6 rows leak) → (putV (putV C ((k + 1) * 6) ((C.toList.take (len * 6)).drop (k * 6))) (k * 6) vs)[o]? = C[o]? := by
    intro o ho
    simp only [wrOb] at ho
    rw [putV_get, if_neg, putV_get, if_neg]
    · intro hh; omega
    · intro hh; omega
  have hH1 : ∀ j, lk ((id, Ob.arr 6 ((rows.take len).take k ++ r :: (rows.take len).drop k) leak) :: rmv s.H id) j = if j = id then some (.arr 6 ((rows.take len).take k ++ r :: (rows.take len).drop k) leak) else lk s.H j := by
    intro j
    rw [lk_cons, lk_rmv]
    by_cases hj : id = j
    · subst hj; simp
    · have : ¬ j = id := fun e => hj e.symm
      simp [hj, this]
  obtain ⟨hfr, hrep⟩ := blk_update (H' := (id, Ob.arr 6 ((rows.take len).take k ++ r :: (rows.take len).drop k) leak) :: rmv s.H id) (ob' := .arr 6 ((rows.take len).take k ++ r :: (rows.take len).drop k) leak) hr hid hρ hb u1 u2 u3 u4 u5 u6 (by rw [putV_size, putV_size]) hwrite hH1 (fun _ hh => hh)
  have hrep1 := hrep ⟨rfl, by decide, _, e, fr, u1, by rw [putV_size, putV_size]; exact hu, by
    obtain ⟨T, hT⟩ := putInE_list (C := C) hv hk (by omega : (len + 1) * 6 ≤ C.size)
    rw [hT]
    have hrl : (rows.take len).length = len := by rw [List.length_take]; omega
    have hA' := ARs_mono hfr.stay hA
    have hA1 := ARs_take (k := len * 6) (ARs_head hA' len) (by rw [hrl]; exact Nat.le_refl _)
    exact ARs_app (ARs_ins hA1 hrl (by rw [List.length_take]; omega) hk (ARs_mono hfr.stay hnew) hv)⟩
  obtain ⟨hrep2, hw2⟩ := Rep_move (ob := Ob.arr 6 ((rows.take len).take k ++ r :: (rows.take len).drop k) leak) (H' := (s.nx, Ob.arr 6 ((rows.take len).take k ++ r :: (rows.take len).drop k) leak) :: rmv s.H id) hrep1 (by simp) hρ (fun j => by
    by_cases hj : j = s.nx
    · simp [hj]
    · have e1 : ¬ s.nx = j := fun e => hj e.symm
      by_cases hj2 : j = id
      · subst hj2; simp [lk_rmv, hj, e1]
      · have e2 : ¬ id = j := fun e => hj2 e.symm
        simp [lk_rmv, hj, e1, hj2, e2]) (by simp)
  refine ⟨rfl, rfl, putRho ρ s.nx (b, 6), hrep2, ?_, hr.ext2 _, hfr.trans ?_⟩
  · simp only [insKE, VR]
    refine ⟨_, c, rfl, hc, by simp, .inr ⟨b, _, e, fr, putRho_new _ _ _, by simp, u1, by rw [putV_size, putV_size]; simpa using hcs⟩⟩
  · exact
      { size := Nat.le_refl _
        os := rfl
        tape := rfl
        output := rfl
        cells := fun b' C e fr hb => ⟨C, hb, rfl, fun _ _ => rfl⟩
        other := fun b' o hb _ => hb
        shrink := fun b' o _ hw => hw2 b' o hw }
theorem snd_insE (L : InsLawE P f E) {s s' : St} (hr : Rep A ρ s.H s.nx w) {y x v : AV} {k : Int} {Y X : Value} (hy : VR w (UU A ρ s.H) ρ y Y) (hx : VR w (UU A ρ s.H) ρ x X) (h : insAVE s y k x = some (v, s')) :
    Calls P f #[Y, .int .i64 k, X] w (PostE A ρ s w v s') := by
  unfold insAVE at h
  split at h
  · rename_i es iv off n ex
    split at h
    · rename_i hc
      obtain ⟨rfl, rfl, rfl⟩ := hc
      split at h
      · rename_i es2 r tl leakv hiv
        -- the new element
        simp only [VR] at hx
        obtain ⟨A', vc, rfl, x1, x2, x3⟩ := hx
        rcases x3 with ⟨x3, _⟩ | ⟨vb, Cv, ev, frv, x4, rfl, x5, x6⟩
        · omega
        obtain ⟨rfl, _, Cv', ev', frv', y1, y2, y3⟩ := hr.ob iv _ vb 6 hiv x4
        rw [x5] at y1
        simp only [Option.some.injEq, Obj.cells.injEq] at y1
        obtain ⟨rfl, rfl, rfl⟩ := y1
        simp only [ARs] at y3
        obtain ⟨z0, z1, z2, _⟩ := y3
        obtain ⟨vs, hvs0⟩ : ∃ vs, vs = Cv.toList.take 6 := ⟨_, rfl⟩
        have hv : vs.length = 6 := by rw [hvs0, List.length_take]; omega
        have hvs : ∀ j u, vs[j]? = some u → w.cell? ⟨vb, j, none⟩ = some u := by
          intro j u hj
          rw [hvs0, List.getElem?_take] at hj
          split at hj
          · rw [cell_of_block x5, ← Array.getElem?_toList]; exact hj
          · cases hj
        rw [← hvs0] at z2
        have hone : ∀ u ∈ vs, u.oneCell' = true := fun u hu => oneCell_of_oneB (z2.2 u hu)
        simp only [Nat.zero_mul] at *
        have hnew : ARs w (UU A ρ s.H) 6 [r] vs := by
          simp only [ARs, and_true]
          have e : vs.take 6 = vs := List.take_of_length_le (by omega)
          rw [e]
          exact ⟨z0, by omega, z2⟩
        split at h
        · split at h
          · rename_i hk
            subst hk
            simp only [Option.some.injEq] at h
            simp only [VR] at hy
            subst hy
            refine (L.end_ none 0 0 vb vc [] vs w hv (by omega) (by omega) (by decide) rfl (fun _ => rfl) (fun a ha => by cases ha) hvs hone).mono fun e w' hh => ?_
            obtain ⟨G, D, g1, rfl, rfl⟩ := hh
            have := post_grow (A := A) (D := D) (e := E) (cap := G) hr (rows := []) (new := [r]) (by decide : 0 < 6) (olds := []) (by simp [ARs]) hnew (by simp) (by simp [hv]) (by simp; omega) (by simp; omega) 0
            simp only [insKE, Prod.mk.injEq] at h
            obtain ⟨rfl, rfl⟩ := h
            exact this
          · cases h
        · rename_i es3 id off3 len ex3
          split at h
          · rename_i es4 rows leak hid
            split at h
            · rename_i hc
              obtain ⟨rfl, rfl, hne, hk0, hkl, hle, hleak, hlim⟩ := hc
              simp only [Option.some.injEq] at h
              obtain ⟨k, rfl⟩ : ∃ k' : Nat, k = k' := ⟨k.toNat, by omega⟩
              simp only [Int.toNat_natCast] at hkl hleak h
              simp only [VR] at hy
              obtain ⟨B, c, rfl, g1, g2, g3⟩ := hy
              have hsub : ∀ j o, lk (rmv s.H id) j = some o → lk s.H j = some o := by
                intro j o hj
                rw [lk_rmv] at hj
                split at hj
                · cases hj
                · exact hj
              have hr' : Rep A ρ (s.setH (rmv s.H id)).H (s.setH (rmv s.H id)).nx w := Rep_sub hr hsub
              have hwsub : ∀ b o, Wr ρ (s.setH (rmv s.H id)).H b o → Wr ρ s.H b o := fun b o => Wr_sub hsub
              have hU : Stay w (UU A ρ s.H) w (UU A ρ (s.setH (rmv s.H id)).H) := Stay.less fun b o hu => hu.imp_right (hwsub b o)
              rcases g3 with ⟨h0, rfl⟩ | ⟨b, C, e, fr, g4, rfl, g5, g6⟩
              · subst h0
                obtain rfl : k = 0 := by omega
                refine (L.end_ B 0 0 vb vc [] vs w hv (by omega) (by omega) (by decide) rfl (fun _ => rfl) (fun a ha j u hj => by simp at hj) hvs hone).mono fun e w' hh => ?_
                obtain ⟨G, D, q1, rfl, rfl⟩ := hh
                have := post_grow (A := A) (D := D) (e := E) (cap := G) hr' (rows := []) (new := [r]) (by decide : 0 < 6) (olds := []) (by simp [ARs]) (ARs_mono hU hnew) (by simp) (by simp [hv]) (by simp; omega) (by simp; omega) leak
                simp only [insKE, Prod.mk.injEq] at h
                obtain ⟨rfl, rfl⟩ := h
                refine Post.sub (s1 := s.setH (rmv s.H id)) rfl rfl rfl hwsub ?_
                simp at this ⊢
                exact this
              · obtain ⟨rfl, q2, C', e', fr', q3, q4, q5⟩ := hr.ob id _ b 6 hid g4
                rw [g5] at q3
                simp only [Option.some.injEq, Obj.cells.injEq] at q3
                obtain ⟨rfl, rfl, rfl⟩ := q3
                simp only [Nat.zero_add] at g6 ⊢
                have hvb : vb ≠ b := by
                  rintro rfl
                  exact hne (hr.inj id iv _ _ vb 6 6 hid hiv g4 x4)
                have hcl : C.toList.length = C.size := by simp
                have hol : (C.toList.take (len * 6)).length = len * 6 := by rw [List.length_take]; omega
                have hcs : ∀ j u, (C.toList.take (len * 6))[j]? = some u → w.cell? ⟨b, j, none⟩ = some u := by
                  intro j u hj
                  rw [List.getElem?_take] at hj
                  split at hj
                  · rw [cell_of_block g5, ← Array.getElem?_toList]; exact hj
                  · cases hj
                have hrl : (rows.take len).length = len := by rw [List.length_take]; omega
                have hA1 : ARs w (UU A ρ s.H) 6 (rows.take len) (C.toList.take (len * 6)) := ARs_take (ARs_head q5 len) (by rw [hrl]; exact Nat.le_refl _)
                have hones : ∀ u ∈ C.toList.take (len * 6), u.oneCell' = true := fun u hu => oneCell_of_oneB (ARs_one hA1 (by rw [hol, hrl]) u hu)
                have hkk : k = len ∨ k < len := by omega
                have e1 : (rows.take len).take len = rows.take len := List.take_of_length_le (by omega)
                have e2 : (rows.take len).drop len = [] := List.drop_eq_nil_of_le (by omega)
                have e3 : (C.toList.take (len * 6)).drop (len * 6) = [] := List.drop_eq_nil_of_le (by omega)
                have hv' : v = (insKE (s.setH (rmv s.H id)) len rows k r leak).1 := by rw [h]
                have hs' : s' = (insKE (s.setH (rmv s.H id)) len rows k r leak).2 := by rw [h]
                rw [hv', hs']
                rcases Nat.lt_or_ge c (len + 1) with hg | hg
                · rcases hkk with rfl | hkk
                  · refine (L.end_ (some ⟨b, 0, none⟩) k c vb vc (C.toList.take (k * 6)) vs w hv g1 hg hlim hol (fun hh => by cases hh) (fun a ha j u hj => by
                        simp only [Option.some.injEq] at ha
                        subst ha
                        rw [Addr.add_lit, Nat.zero_add]
                        exact hcs j u hj) hvs hone).mono fun e' w' hh => ?_
                    obtain ⟨G, D, p1, rfl, rfl⟩ := hh
                    have := post_grow (A := A) (D := D) (e := E) (cap := G) hr' (rows := rows.take k) (new := [r]) (by decide : 0 < 6) (olds := C.toList.take (k * 6)) (ARs_mono hU hA1) (ARs_mono hU hnew) (by rw [hol, hrl]) (by simp [hv]) (by rw [hrl]; simp; omega) (by rw [hrl]; simp; omega) leak
                    refine Post.sub (s1 := s.setH (rmv s.H id)) rfl rfl rfl hwsub ?_
                    simp only [insKE, e1, e2]
                    rw [hrl] at this
                    exact this
                  · refine (L.grow b len c k vb vc (C.toList.take (len * 6)) vs w hv hkk g1 hg hlim hol hcs hvs hones hone).mono fun e' w' hh => ?_
                    obtain ⟨G, R, p1, p2, p3, rfl, rfl⟩ := hh
                    refine Post.sub (s1 := s.setH (rmv s.H id)) rfl rfl rfl hwsub ?_
                    have hw : (((w.alloc (.cells R E)).drew.setCells w.heap.size (k * 6) vs).drew).setCells w.heap.size ((k + 1) * 6) ((C.toList.take (len * 6)).drop (k * 6)) = pushW { w with drawn := w.drawn + 1 + 1 } (.cells (putV (putV R (k * 6) vs) ((k + 1) * 6) ((C.toList.take (len * 6)).drop (k * 6))) E) := by
                      have h1 := setCells_push { w with drawn := w.drawn + 1 } E (0, 0) vs (k * 6) R
                      have h2 := setCells_push { w with drawn := w.drawn + 1 + 1 } E (0, 0) ((C.toList.take (len * 6)).drop (k * 6)) ((k + 1) * 6) (putV R (k * 6) vs)
                      rw [← h2]
                      show World.setCells (World.drew (World.setCells (pushW { w with drawn := w.drawn + 1 } (.cells R E)) w.heap.size (k * 6) vs)) w.heap.size ((k + 1) * 6) _ = _
                      have h1' : World.setCells (pushW { w with drawn := w.drawn + 1 } (.cells R E)) w.heap.size (k * 6) vs = pushW { w with drawn := w.drawn + 1 } (.cells (putV R (k * 6) vs) E) := h1
                      rw [h1']
                      rfl
                    rw [hw]
                    have hs := SameMem.drawn w (w.drawn + 1 + 1)
                    obtain ⟨T, hT⟩ := putInE_new (R := R) (cs := C.toList.take (len * 6)) (k := k) (n := len) hv hol hkk (by omega) p3
                    have hAn : ARs { w with drawn := w.drawn + 1 + 1 } (UU A ρ (s.setH (rmv s.H id)).H) 6 ((rows.take len).take k ++ r :: (rows.take len).drop k) (putV (putV R (k * 6) vs) ((k + 1) * 6) ((C.toList.take (len * 6)).drop (k * 6))).toList := by
                      rw [hT]
                      exact ARs_mono (hs.stay _) (ARs_app (ARs_ins (ARs_mono hU hA1) hrl hol (by omega) (ARs_mono hU hnew) hv))
                    have hnl : ((rows.take len).take k ++ r :: (rows.take len).drop k).length = len + 1 := by
                      simp only [List.length_append, List.length_take, List.length_cons, List.length_drop]; omega
                    have := snd_newBlock (A := A) (fr := (0, 0)) (e := E) (s := s.setH (rmv s.H id)) (hs.rep hr') (by decide : 0 < 6) hAn (unfr_none _) (cap := G) (ex := false) (by rw [putV_size, putV_size, p2]; omega) (by rw [hnl]; exact p1) (by simp) leak
                    rw [hnl] at this
                    exact Post.pre hs this
                · have hfz : ∀ j, j ≤ C.size → w.frozen? ⟨b, j, none⟩ = false := fun j hj => frozen_of_block g5 q4 hj
                  have hsm : ∀ j, j < (len + 1) * 6 → (w.cell? ⟨b, j, none⟩).isSome = true := fun j hj => by
                    rw [cell_of_block g5]
                    simp
                    omega
                  rcases hkk with rfl | hkk
                  · refine (L.room b k c vb vc vs w hv hg hlim (fun j hj => hsm _ (by omega)) (fun j hj => hfz _ (by omega)) hvs hone).mono fun e' w' hh => ?_
                    obtain ⟨rfl, rfl⟩ := hh
                    obtain ⟨u1, u2, u3, u4, u5, u6⟩ := setCells_heap b e fr vs (k * 6) w C g5
                    exact post_putE hr hid g4 g5 q4 q5 hle (Nat.le_refl _) hleak hg g6 hnew hv (by rw [e3, putV]; simpa using u1) u2 u3 u4 u5 u6
                  · refine (L.shift b len c k vb vc (C.toList.take (len * 6)) vs w hv hkk hg hlim hvb hol hcs hsm (fun j _ hj => hfz j (by omega)) hvs hones hone ev e Cv.size C.size (by simp [World.shape?, x5]) (by simp [World.shape?, g5]) (by omega)
                      (frozen_of_block x5 y2 (by omega)) (frozen_of_block x5 y2 (Nat.le_refl _))).mono fun e' w' hh => ?_
                    obtain ⟨rfl, rfl⟩ := hh
                    obtain ⟨t1, t2, t3, t4, t5, t6⟩ := setCells_heap b e fr ((C.toList.take (len * 6)).drop (k * 6)) ((k + 1) * 6) w.drew C g5
                    obtain ⟨u1, u2, u3, u4, u5, u6⟩ := setCells_heap b e fr vs (k * 6) _ _ t1
                    exact post_putE hr hid g4 g5 q4 q5 hle hkl hleak hg g6 hnew hv (by simpa using u1) (fun j hj => (u2 j hj).trans (t2 j hj)) (u3.trans t3) (u4.trans t4) (u5.trans t5) (u6.trans t6)
            · cases h
          · cases h
        · cases h
      · cases h
    · cases h
  · cases h
/-- Functions that insert one element, for the evaluator. -/
def insPE (fs : List Nat) : Callee := fun f args H m =>
  if fs.contains f = true then
    match args with
    | [y, .int .i64 k, x] =>
      match insAVE ⟨[], [], H, m⟩ y k x with
      | some (v, s') => some (v, s'.H, s'.nx)
      | none => none
    | _ => none
  else none
theorem insPE_sound {fs : List Nat} (h : ∀ f ∈ fs, ∃ E, InsLawE P f E) : Sound P (insPE fs) := by
  refine ⟨clnOk P, fun {f args H m r} hx => ?_, fun {f args H m r H' n'} hx A ρ w xs hr hv => ?_⟩
  · unfold insPE at hx
    split at hx
    · rename_i hf
      obtain ⟨E, hL⟩ := h f (by simpa using hf)
      exact hL.fn
    · cases hx
  · unfold insPE at hx
    split at hx
    · rename_i hf
      obtain ⟨E, hL⟩ := h f (by simpa using hf)
      split at hx
      · rename_i y k x
        split at hx
        · rename_i v s' hi
          simp only [Option.some.injEq, Prod.mk.injEq] at hx
          obtain ⟨rfl, rfl, rfl⟩ := hx
          simp only [VRs, VR] at hv
          obtain ⟨Y, r1, e1, v1, K, r2, e2, v2, X, r3, e3, v3, e4⟩ := hv
          subst e4 e3 e2 v2
          have : xs = #[Y, .int .i64 k, X] := by
            apply Array.ext'
            rw [e1]
          subst this
          refine (snd_insE hL (s := ⟨[], [], H, m⟩) hr v1 v3 hi).mono fun e w' hp => ?_
          cases e with
          | returned x' =>
            obtain ⟨_, _, ρ', p1, p2, p3, p4⟩ := hp
            exact ⟨ρ', p1, p2, p3, p4⟩
          | _ => exact hp.elim
        · cases hx
      · cases hx
    · cases hx
theorem insE_spec {fs : List Nat} (hS : Sound P (insPE fs)) {f : Nat} {base : AV} {k : Int} {H H' : Heap} {m n' : Nat} {v : AV} {x : AV} (h : insPE fs f [base, .int .i64 k, x] H m = some (v, H', n')) : Spec P f [base, .int .i64 k, x] H m v H' n' :=
  ⟨hS.fn h, fun hr hx => hS.calls h hr hx⟩
theorem del_spec {fs : List (Nat × Nat)} (hS : Sound P (delP fs)) {f : Nat} {base : AV} {i j : Int} {H H' : Heap} {m n' : Nat} {v : AV} (h : delP fs f [base, .int .i64 i, .int .i64 j] H m = some (v, H', n')) : Spec P f [base, .int .i64 i, .int .i64 j] H m v H' n' :=
  ⟨hS.fn h, fun hr hx => hS.calls h hr hx⟩
end
end Go.Proofs.Ytefjblgmnoheiaa.R

