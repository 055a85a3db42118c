/- slices.Insert of one more element. -/
import Derived.Test.YtjhnlgelcfplaaaRTab
set_option linter.unusedVariables false
set_option linter.unusedSectionVars false
set_option linter.unusedSimpArgs false
noncomputable section
namespace Go.Proofs.Ytjhnlgelcfplaaa.R
open Go
/-- What a function that inserts one element answers. -/
def insK (s : St) (len : Nat) (rows : List (List AV)) (k : Nat) (v : AV) (leak : Nat) : AV × St :=
  (.own 1 s.nx 0 (len + 1) false, s.add (.arr 1 ((rows.take len).take k ++ [v] :: (rows.take len).drop k) leak))
def insAV (s : St) (base : AV) (k : Int) (x : AV) : Option (AV × St) :=
  match x with
  | .own es iv off n _ =>
    if es = 1 ∧ off = 0 ∧ n = 1 then
      match lk s.H iv with
      | some (.arr es2 ([v] :: _) _) =>
        match base with
        | .nil => if k = 0 then some (insK s 0 [] 0 v 0) else none
        | .own es3 id off3 len _ =>
          match lk s.H id with
          | some (.arr es4 rows leak) =>
            if es3 = 1 ∧ off3 = 0 ∧ id ≠ iv ∧ 0 ≤ k ∧ k.toNat ≤ len ∧ len ≤ rows.length ∧ leak ≤ k.toNat ∧ len + 1 ≤ limN then
              some (insK (s.setH (rmv s.H id)) len rows k.toNat v leak)
            else none
          | _ => none
        | _ => none
      | _ => none
    else none
  | _ => none
/-- What is asked of such a function: its four ways. -/
structure InsLaw (P : Program) (f : Nat) (E : TypeId) : Prop where
  fn : ∃ fn, P.funcs[f]? = some fn ∧ (fn.name == "runtime.NumGoroutine") = false ∧ fn.body.isNone = false
  room : ∀ (b off n c vb voff vc : Nat) (v : Value) (w : World), n + 1 ≤ c → n + 1 ≤ limN → (w.cell? ⟨b, off + n, none⟩).isSome = true → w.frozen? ⟨b, off + n, none⟩ = false → w.cell? ⟨vb, voff, none⟩ = some v → v.oneCell' = true →
    Calls P f #[.slice (some ⟨b, off, none⟩) n c, .int .i64 n, .slice (some ⟨vb, voff, none⟩) 1 vc] w fun e w' => e = .returned (.slice (some ⟨b, off, none⟩) (n + 1) c) ∧ w' = w.setCells b (off + n) [v]
  end_ : ∀ (base : Option Addr) (n c vb voff vc : Nat) (cs : List Value) (v : Value) (w : World), n ≤ c → c < n + 1 → n + 1 ≤ limN → cs.length = n → (base = none → n = 0) → (∀ a, base = some a → ∀ j v, cs[j]? = some v → w.cell? (a.add j) = some v) → w.cell? ⟨vb, voff, none⟩ = some v → v.oneCell' = true →
    Calls P f #[.slice base n c, .int .i64 n, .slice (some ⟨vb, voff, none⟩) 1 vc] w fun e w' => ∃ (G : Nat) (D : List Value), n + 1 + D.length = G ∧ e = .returned (.slice (some ⟨w.heap.size, 0, none⟩) (n + 1) G) ∧ w' = w.drew.alloc (.cells (cs ++ [v] ++ D).toArray E)
  shift : ∀ (b off n c i vb voff vc : Nat) (cs : List Value) (v : Value) (w : World), i < n → n + 1 ≤ c → n + 1 ≤ limN → vb ≠ b → cs.length = n → (∀ j v, cs[j]? = some v → w.cell? ⟨b, off + j, none⟩ = some v) → (∀ j, j < n + 1 → (w.cell? ⟨b, off + j, none⟩).isSome = true) → (∀ j, i ≤ j → j < n + 1 → w.frozen? ⟨b, off + j, none⟩ = false) →
    w.cell? ⟨vb, voff, none⟩ = some v → (∀ v ∈ cs, v.oneCell' = true) → v.oneCell' = true → ∀ (tA tB : TypeId) (kA kB : Nat), w.shape? vb = some (tA, kA) → w.shape? b = some (tB, kB) → kB ≠ 0 → w.frozen? ⟨vb, voff, none⟩ = false → w.frozen? ⟨vb, kA, none⟩ = false →
    Calls P f #[.slice (some ⟨b, off, none⟩) n c, .int .i64 i, .slice (some ⟨vb, voff, none⟩) 1 vc] w fun e w' => e = .returned (.slice (some ⟨b, off, none⟩) (n + 1) c) ∧ w' = (w.drew.setCells b (off + (i + 1)) (cs.drop i)).setCells b (off + i) [v]
  grow : ∀ (b off n c i vb voff vc : Nat) (cs : List Value) (v : Value) (w : World), i < n → n ≤ c → c < n + 1 → n + 1 ≤ limN → cs.length = n → (∀ j v, cs[j]? = some v → w.cell? ⟨b, off + j, none⟩ = some v) → w.cell? ⟨vb, voff, none⟩ = some v → (∀ v ∈ cs, v.oneCell' = true) → v.oneCell' = true →
    Calls P f #[.slice (some ⟨b, off, none⟩) n c, .int .i64 i, .slice (some ⟨vb, voff, none⟩) 1 vc] w fun e w' => ∃ (G : Nat) (R : Array Value), n + 1 ≤ G ∧ R.size = G ∧ (∀ j, j < i → R[j]? = cs[j]?) ∧ e = .returned (.slice (some ⟨w.heap.size, 0, none⟩) (n + 1) G) ∧
      w' = (((w.alloc (.cells R E)).drew.setCells w.heap.size i [v]).drew).setCells w.heap.size (i + 1) (cs.drop i)
section
variable {P : Program} {f : Nat} {E : TypeId} {w : World} {A : Nat → Nat → Prop} {ρ : Rho}
/-- One more element, at its place. -/
theorem putIn_list {C : Array Value} {len k : Nat} {v : Value} (hk : k ≤ len) (hl : len + 1 ≤ C.size) :
    ∃ T, (putV (putV C (k + 1) ((C.toList.take len).drop k)) k [v]).toList = (C.toList.take len).take k ++ [v] ++ (C.toList.take len).drop k ++ T := by
  have hcl : C.toList.length = C.size := by simp
  refine ⟨C.toList.drop (len + 1), ?_⟩
  apply List.ext_getElem?
  intro i
  have hd : ((C.toList.take len).drop k).length = len - k := by rw [List.length_drop, List.length_take]; omega
  have ht : ((C.toList.take len).take k).length = k := by rw [List.length_take, List.length_take]; omega
  rw [Array.getElem?_toList, putV_get, putV_get, putV_size]
  simp only [List.length_singleton, hd]
  by_cases h1 : i < k
  · rw [if_neg (by omega), if_neg (by omega), List.append_assoc, List.append_assoc, List.getElem?_append_left (by omega), List.getElem?_take, if_pos h1, List.getElem?_take, if_pos (by omega), Array.getElem?_toList]
  · by_cases h2 : i = k
    · subst h2
      rw [if_pos (by omega), List.append_assoc, List.append_assoc, List.getElem?_append_right (by omega), ht]
      simp
    · by_cases h3 : i < len + 1
      · rw [if_neg (by omega), if_pos (by omega), List.append_assoc, List.append_assoc, List.getElem?_append_right (by omega), ht, List.getElem?_append_right (by simp; omega), List.getElem?_append_left (by rw [hd]; simp; omega)]
        simp only [List.length_singleton]
        congr 1 <;> omega
      · rw [if_neg (by omega), if_neg (by omega), List.getElem?_append_right (by rw [List.length_append, List.length_append, ht, hd]; simp; omega), List.length_append, List.length_append, ht, hd, List.getElem?_drop, Array.getElem?_toList]
        simp only [List.length_singleton]
        congr 1 <;> omega
/-- Put in in place. -/
theorem post_put {s : St} (hr : Rep A ρ s.H s.nx w) {id b c len k leak : Nat} {rows : List (List AV)} {vv : AV} {xv : Value} (hid : lk s.H id = some (.arr 1 rows leak)) (hρ : ρ id = some (b, 1)) {C : Array Value} {e : TypeId} {fr : Nat × Nat} (hb : w.heap[b]? = some (Obj.cells C e fr)) (hu : unfr fr C.size)
    (hA : ARs w (UU A ρ s.H) 1 rows C.toList) (hle : len ≤ rows.length) (hk : k ≤ len) (hleak : leak ≤ k) (hc : len + 1 ≤ c) (hcs : c ≤ C.size) (hv : VR w (UU A ρ s.H) noRho vv xv) (h1 : oneB xv = true)
    {w' : World} (u1 : w'.heap[b]? = some (Obj.cells (putV (putV C (k + 1) ((C.toList.take len).drop k)) k [xv]) e fr)) (u2 : ∀ j, j ≠ b → w'.heap[j]? = w.heap[j]?) (u3 : w'.heap.size = w.heap.size) (u4 : w'.os = w.os) (u5 : w'.tape = w.tape) (u6 : w'.output = w.output) :
    Post A ρ s w (insK (s.setH (rmv s.H id)) len rows k vv leak).1 (insK (s.setH (rmv s.H id)) len rows k vv leak).2 (.slice (some ⟨b, 0, none⟩) (len + 1) c) w' := by
  have hcl : C.toList.length = C.size := by simp
  have hwrite : ∀ o, ¬ wrOb 1 o (.arr 1 rows leak) → (putV (putV C (k + 1) ((C.toList.take len).drop k)) k [xv])[o]? = C[o]? := by
    intro o ho
    rw [putV_get, if_neg, putV_get, if_neg]
    · intro hh
      apply ho
      simp only [wrOb]
      omega
    · intro hh
      apply ho
      simp only [wrOb]
      omega
  have hH1 : ∀ j, lk ((id, Ob.arr 1 ((rows.take len).take k ++ [vv] :: (rows.take len).drop k) leak) :: rmv s.H id) j = if j = id then some (.arr 1 ((rows.take len).take k ++ [vv] :: (rows.take len).drop k) leak) else lk s.H j := by
    intro j
    rw [lk_cons, lk_rmv]
    by_cases hj : id = j
    · subst hj; simp
    · have : ¬ j = id := fun e => hj e.symm
      simp [hj, this]
  obtain ⟨hfr, hrep⟩ := blk_update (H' := (id, Ob.arr 1 ((rows.take len).take k ++ [vv] :: (rows.take len).drop k) leak) :: rmv s.H id) (ob' := .arr 1 ((rows.take len).take k ++ [vv] :: (rows.take len).drop k) leak) hr hid hρ hb u1 u2 u3 u4 u5 u6 (by rw [putV_size, putV_size]) hwrite hH1 (fun _ hh => hh)
  have hrep1 := hrep ⟨rfl, by decide, _, e, fr, u1, by rw [putV_size, putV_size]; exact hu, by
    obtain ⟨T, hT⟩ := putIn_list (C := C) (v := xv) hk (by omega : len + 1 ≤ C.size)
    rw [hT]
    have hA' := ARs_mono hfr.stay hA
    have hA1 := ARs_take (k := len) (ARs_head hA' len) (by rw [List.length_take]; omega)
    have hlen : (C.toList.take len).length = (rows.take len).length := by rw [List.length_take, List.length_take]; omega
    have hsplit : ARs w' (UU A ρ ((id, Ob.arr 1 ((rows.take len).take k ++ [vv] :: (rows.take len).drop k) leak) :: rmv s.H id)) 1 ((rows.take len).take k) ((C.toList.take len).take k) ∧ ARs w' (UU A ρ ((id, Ob.arr 1 ((rows.take len).take k ++ [vv] :: (rows.take len).drop k) leak) :: rmv s.H id)) 1 ((rows.take len).drop k) ((C.toList.take len).drop k) := by
      refine ⟨ARs_take (ARs_head hA1 k) (by rw [List.length_take, List.length_take]; omega), ARs_mk fun i r hi => ?_⟩
      rw [List.getElem?_drop] at hi
      obtain ⟨g1, g2, g3⟩ := ARs_get hA1 hi
      rw [List.drop_drop]
      rw [Nat.mul_one] at g2 g3 ⊢
      refine ⟨g1, ?_, by rw [Nat.mul_one]; exact g3⟩
      rw [List.length_drop]
      omega
    have hnew : ARs w' (UU A ρ ((id, Ob.arr 1 ((rows.take len).take k ++ [vv] :: (rows.take len).drop k) leak) :: rmv s.H id)) 1 [[vv]] [xv] := by
      simp only [ARs, List.length_singleton, Nat.le_refl, true_and, and_true]
      exact ⟨by simpa [VRs] using VR_mono hfr.stay _ _ _ _ (Ext.refl _) hv, by simpa using h1⟩
    refine ARs_app ?_
    have key := ARs_append (ARs_append hsplit.1 (by simp only [List.length_take, Nat.mul_one, hcl]; omega) hnew) (by simp only [List.length_append, List.length_take, List.length_singleton, Nat.mul_one, hcl]; omega) hsplit.2
    rw [show ((rows.take len).take k ++ [[vv]]) ++ (rows.take len).drop k = (rows.take len).take k ++ [vv] :: (rows.take len).drop k by simp] at key
    exact key⟩
  obtain ⟨hrep2, hw2⟩ := Rep_move (ob := Ob.arr 1 ((rows.take len).take k ++ [vv] :: (rows.take len).drop k) leak) (H' := (s.nx, Ob.arr 1 ((rows.take len).take k ++ [vv] :: (rows.take len).drop k) leak) :: rmv s.H id) hrep1 (by simp) hρ (fun j => by
    by_cases hj : j = s.nx
    · simp [hj]
    · have e1 : ¬ s.nx = j := fun e => hj e.symm
      by_cases hj2 : j = id
      · subst hj2; simp [lk_rmv, hj, e1]
      · have e2 : ¬ id = j := fun e => hj2 e.symm
        simp [lk_rmv, hj, e1, hj2, e2]) (by simp)
  refine ⟨rfl, rfl, putRho ρ s.nx (b, 1), hrep2, ?_, hr.ext2 _, hfr.trans ?_⟩
  · simp only [insK, VR]
    refine ⟨_, c, rfl, hc, by simp, .inr ⟨b, _, e, fr, putRho_new _ _ _, by simp, u1, by rw [putV_size, putV_size]; simpa using hcs⟩⟩
  · exact
      { size := Nat.le_refl _
        os := rfl
        tape := rfl
        output := rfl
        cells := fun b' C e fr hb => ⟨C, hb, rfl, fun _ _ => rfl⟩
        other := fun b' o hb _ => hb
        shrink := fun b' o _ hw => hw2 b' o hw }
theorem setCells_push (w : World) (e : TypeId) (fr : Nat × Nat) : ∀ (vs : List Value) (o : Nat) (C : Array Value), (pushW w (.cells C e fr)).setCells w.heap.size o vs = pushW w (.cells (putV C o vs) e fr)
  | [], _, _ => rfl
  | v :: r, o, C => by
    have h : (pushW w (.cells C e fr)).setCell ⟨w.heap.size, o, none⟩ v = pushW w (.cells (C.setIfInBounds o v) e fr) := by
      simp only [World.setCell, pushW, push_modify]
      rfl
    rw [World.setCells, h, setCells_push w e fr r (o + 1)]
    rfl
theorem ARs_drop1 {w : World} {U : Nat → Nat → Prop} {rows : List (List AV)} {C : List Value} (h : ARs w U 1 rows C) (k : Nat) : ARs w U 1 (rows.drop k) (C.drop k) := by
  refine ARs_mk fun i r hi => ?_
  rw [List.getElem?_drop] at hi
  obtain ⟨g1, g2, g3⟩ := ARs_get h hi
  rw [List.drop_drop]
  rw [Nat.mul_one] at g2 g3 ⊢
  refine ⟨g1, ?_, by rw [Nat.mul_one]; exact g3⟩
  rw [List.length_drop]
  omega
theorem putIn_new {R : Array Value} {cs : List Value} {k : Nat} {v : Value} (hk : k < cs.length) (hl : cs.length + 1 ≤ R.size) (h : ∀ j, j < k → R[j]? = cs[j]?) :
    ∃ T, (putV (putV R k [v]) (k + 1) (cs.drop k)).toList = cs.take k ++ [v] ++ cs.drop k ++ T := by
  refine ⟨R.toList.drop (cs.length + 1), ?_⟩
  apply List.ext_getElem?
  intro i
  have hd : (cs.drop k).length = cs.length - k := by rw [List.length_drop]
  have ht : (cs.take k).length = k := by rw [List.length_take]; omega
  rw [Array.getElem?_toList, putV_get, putV_get, putV_size]
  simp only [List.length_singleton, hd]
  by_cases h1 : i < k
  · rw [if_neg (by omega), if_neg (by omega), List.append_assoc, List.append_assoc, List.getElem?_append_left (by omega), List.getElem?_take, if_pos h1, h i h1]
  · by_cases h2 : i = k
    · subst h2
      rw [if_neg (by omega), if_pos (by omega), List.append_assoc, List.append_assoc, List.getElem?_append_right (by omega), ht]
      simp
    · by_cases h3 : i < cs.length + 1
      · rw [if_pos (by omega), List.append_assoc, List.append_assoc, List.getElem?_append_right (by omega), ht, List.getElem?_append_right (by simp; omega), List.getElem?_append_left (by rw [hd]; simp; omega)]
        simp only [List.length_singleton]
        congr 1 <;> omega
      · rw [if_neg (by omega), if_neg (by omega), List.getElem?_append_right (by rw [List.length_append, List.length_append, ht, hd]; simp; omega), List.length_append, List.length_append, ht, hd, List.getElem?_drop, Array.getElem?_toList]
        simp only [List.length_singleton]
        congr 1 <;> omega
theorem list_of_one {xs : List Value} {C : List Value} (h : xs = C.take 1) (h1 : 1 ≤ C.length) : ∃ x r, C = x :: r ∧ xs = [x] := by
  cases C with
  | nil => simp at h1
  | cons x r => exact ⟨x, r, rfl, by simpa using h⟩
theorem snd_ins (L : InsLaw P f E) {s s' : St} (hr : Rep A ρ s.H s.nx w) {y x v : AV} {k : Int} {Y X : Value} (hy : VR w (UU A ρ s.H) ρ y Y) (hx : VR w (UU A ρ s.H) ρ x X) (h : insAV s y k x = some (v, s')) :
    Calls P f #[Y, .int .i64 k, X] w (PostE A ρ s w v s') := by
  unfold insAV at h
  split at h
  · rename_i es iv off n ex
    split at h
    · rename_i hc
      obtain ⟨rfl, rfl, rfl⟩ := hc
      split at h
      · rename_i es2 vv tl leakv hiv
        -- the new element
        simp only [VR] at hx
        obtain ⟨A', vc, rfl, x1, x2, x3⟩ := hx
        rcases x3 with ⟨x3, _⟩ | ⟨vb, Cv, ev, frv, x4, rfl, x5, x6⟩
        · omega
        obtain ⟨rfl, _, Cv', ev', frv', y1, y2, y3⟩ := hr.ob iv _ vb 1 hiv x4
        rw [x5] at y1
        simp only [Option.some.injEq, Obj.cells.injEq] at y1
        obtain ⟨rfl, rfl, rfl⟩ := y1
        simp only [ARs] at y3
        obtain ⟨_, z1, ⟨z2, z3⟩, _⟩ := y3
        obtain ⟨xv, rest, z4, z5⟩ := list_of_one rfl z1
        rw [z5] at z2 z3
        simp only [VRs, List.cons.injEq] at z2
        obtain ⟨x', r', ⟨rfl, rfl⟩, z6, _⟩ := z2
        have hone : oneB xv = true := z3 xv (by simp)
        have hcell : w.cell? ⟨vb, 0, none⟩ = some xv := by
          rw [cell_of_block x5, ← Array.getElem?_toList, z4]
          rfl
        simp only [Nat.zero_mul] at *
        have hnew : ARs w (UU A ρ s.H) 1 [[vv]] [xv] := by
          simp only [ARs, List.length_singleton, Nat.le_refl, true_and, and_true]
          exact ⟨by simpa [VRs] using z6, by simpa using hone⟩
        split at h
        · split at h
          · rename_i hk
            subst hk
            simp only [Option.some.injEq] at h
            simp only [VR] at hy
            subst hy
            refine (L.end_ none 0 0 vb 0 vc [] xv w (by omega) (by omega) (by decide) rfl (fun _ => rfl) (fun a ha => by cases ha) hcell (oneCell_of_oneB hone)).mono fun e w' hh => ?_
            obtain ⟨G, D, g1, rfl, rfl⟩ := hh
            have := post_grow (A := A) (D := D) (e := E) (cap := G) hr (rows := []) (new := [[vv]]) (by decide : 0 < 1) (olds := []) (by simp [ARs]) hnew (by simp) (by simp) (by simp; omega) (by simp; omega) 0
            simp only [insK, Prod.mk.injEq] at h
            obtain ⟨rfl, rfl⟩ := h
            exact this
          · cases h
        · rename_i es3 id off3 len ex3
          split at h
          · rename_i es4 rows leak hid
            split at h
            · rename_i hc
              obtain ⟨rfl, rfl, hne, hk0, hkl, hle, hleak, hlim⟩ := hc
              simp only [Option.some.injEq] at h
              obtain ⟨k, rfl⟩ : ∃ k' : Nat, k = k' := ⟨k.toNat, by omega⟩
              simp only [Int.toNat_natCast] at hkl hleak h
              simp only [VR] at hy
              obtain ⟨B, c, rfl, g1, g2, g3⟩ := hy
              have hsub : ∀ j o, lk (rmv s.H id) j = some o → lk s.H j = some o := by
                intro j o hj
                rw [lk_rmv] at hj
                split at hj
                · cases hj
                · exact hj
              have hr' : Rep A ρ (s.setH (rmv s.H id)).H (s.setH (rmv s.H id)).nx w := Rep_sub hr hsub
              have hwsub : ∀ b o, Wr ρ (s.setH (rmv s.H id)).H b o → Wr ρ s.H b o := fun b o => Wr_sub hsub
              have hU : Stay w (UU A ρ s.H) w (UU A ρ (s.setH (rmv s.H id)).H) := Stay.less fun b o hu => hu.imp_right (hwsub b o)
              rcases g3 with ⟨h0, rfl⟩ | ⟨b, C, e, fr, g4, rfl, g5, g6⟩
              · subst h0
                obtain rfl : k = 0 := by omega
                refine (L.end_ B 0 0 vb 0 vc [] xv w (by omega) (by omega) (by decide) rfl (fun _ => rfl) (fun a ha j u hj => by simp at hj) hcell (oneCell_of_oneB hone)).mono fun e w' hh => ?_
                obtain ⟨G, D, q1, rfl, rfl⟩ := hh
                have := post_grow (A := A) (D := D) (e := E) (cap := G) hr' (rows := []) (new := [[vv]]) (by decide : 0 < 1) (olds := []) (by simp [ARs]) (ARs_mono hU hnew) (by simp) (by simp) (by simp; omega) (by simp; omega) leak
                simp only [insK, Prod.mk.injEq] at h
                obtain ⟨rfl, rfl⟩ := h
                refine Post.sub (s1 := s.setH (rmv s.H id)) rfl rfl rfl hwsub ?_
                simp at this ⊢
                exact this
              · obtain ⟨rfl, q2, C', e', fr', q3, q4, q5⟩ := hr.ob id _ b 1 hid g4
                rw [g5] at q3
                simp only [Option.some.injEq, Obj.cells.injEq] at q3
                obtain ⟨rfl, rfl, rfl⟩ := q3
                simp only [Nat.zero_add, Nat.mul_one] at g6 ⊢
                have hvb : vb ≠ b := by
                  rintro rfl
                  exact hne (hr.inj id iv _ _ vb 1 1 hid hiv g4 x4)
                have hcl : C.toList.length = C.size := by simp
                have hol : (C.toList.take len).length = len := by rw [List.length_take]; omega
                have hcs : ∀ j u, (C.toList.take len)[j]? = some u → w.cell? ⟨b, j, none⟩ = some u := by
                  intro j u hj
                  rw [List.getElem?_take] at hj
                  split at hj
                  · rw [cell_of_block g5, ← Array.getElem?_toList]; exact hj
                  · cases hj
                have hA1 : ARs w (UU A ρ s.H) 1 (rows.take len) (C.toList.take len) := ARs_take (ARs_head q5 len) (by rw [List.length_take]; omega)
                have hones : ∀ u ∈ C.toList.take len, u.oneCell' = true := fun u hu => oneCell_of_oneB (ARs_one hA1 (by rw [hol, List.length_take]; omega) u hu)
                have hcs0 : ∀ j u, (C.toList.take len)[j]? = some u → w.cell? ⟨b, 0 + j, none⟩ = some u := fun j u hj => by rw [Nat.zero_add]; exact hcs j u hj
                have hkk : k = len ∨ k < len := by omega
                have e1 : (rows.take len).take len = rows.take len := List.take_of_length_le (by rw [List.length_take]; omega)
                have e2 : (rows.take len).drop len = [] := List.drop_eq_nil_of_le (by rw [List.length_take]; omega)
                have e3 : (C.toList.take len).drop len = [] := List.drop_eq_nil_of_le (by rw [List.length_take]; omega)
                have hrl : (rows.take len).length = len := by rw [List.length_take]; omega
                have hv : v = (insK (s.setH (rmv s.H id)) len rows k vv leak).1 := by rw [h]
                have hs' : s' = (insK (s.setH (rmv s.H id)) len rows k vv leak).2 := by rw [h]
                rw [hv, hs']
                rcases Nat.lt_or_ge c (len + 1) with hg | hg
                · rcases hkk with rfl | hkk
                  · refine (L.end_ (some ⟨b, 0, none⟩) k c vb 0 vc (C.toList.take k) xv w g1 hg hlim hol (fun hh => by cases hh) (fun a ha j u hj => by
                        simp only [Option.some.injEq] at ha
                        subst ha
                        rw [Addr.add_lit]
                        exact hcs0 j u hj) hcell (oneCell_of_oneB hone)).mono fun e' w' hh => ?_
                    obtain ⟨G, D, p1, rfl, rfl⟩ := hh
                    have := post_grow (A := A) (D := D) (e := E) (cap := G) hr' (rows := rows.take k) (new := [[vv]]) (by decide : 0 < 1) (olds := C.toList.take k) (ARs_mono hU hA1) (ARs_mono hU hnew) (by rw [hol, hrl, Nat.mul_one]) (by simp) (by rw [hrl]; simp; omega) (by rw [hrl]; simp; omega) leak
                    refine Post.sub (s1 := s.setH (rmv s.H id)) rfl rfl rfl hwsub ?_
                    simp only [insK, e1, e2]
                    rw [hrl] at this
                    exact this
                  · refine (L.grow b 0 len c k vb 0 vc (C.toList.take len) xv w hkk g1 hg hlim hol hcs0 hcell hones (oneCell_of_oneB hone)).mono fun e' w' hh => ?_
                    obtain ⟨G, R, p1, p2, p3, rfl, rfl⟩ := hh
                    refine Post.sub (s1 := s.setH (rmv s.H id)) rfl rfl rfl hwsub ?_
                    have hw : (((w.alloc (.cells R E)).drew.setCells w.heap.size k [xv]).drew).setCells w.heap.size (k + 1) ((C.toList.take len).drop k) = pushW { w with drawn := w.drawn + 1 + 1 } (.cells (putV (putV R k [xv]) (k + 1) ((C.toList.take len).drop k)) E) := by
                      have h1 := setCells_push { w with drawn := w.drawn + 1 } E (0, 0) [xv] k R
                      have h2 := setCells_push { w with drawn := w.drawn + 1 + 1 } E (0, 0) ((C.toList.take len).drop k) (k + 1) (putV R k [xv])
                      rw [← h2]
                      show World.setCells (World.drew (World.setCells (pushW { w with drawn := w.drawn + 1 } (.cells R E)) w.heap.size k [xv])) w.heap.size (k + 1) _ = _
                      have h1' : World.setCells (pushW { w with drawn := w.drawn + 1 } (.cells R E)) w.heap.size k [xv] = pushW { w with drawn := w.drawn + 1 } (.cells (putV R k [xv]) E) := h1
                      rw [h1']
                      rfl
                    rw [hw]
                    have hs := SameMem.drawn w (w.drawn + 1 + 1)
                    obtain ⟨T, hT⟩ := putIn_new (R := R) (cs := C.toList.take len) (v := xv) (k := k) (by rw [hol]; omega) (by rw [hol]; omega) p3
                    have hAn : ARs { w with drawn := w.drawn + 1 + 1 } (UU A ρ (s.setH (rmv s.H id)).H) 1 ((rows.take len).take k ++ [vv] :: (rows.take len).drop k) (putV (putV R k [xv]) (k + 1) ((C.toList.take len).drop k)).toList := by
                      rw [hT]
                      have a1 := ARs_mono hU hA1
                      have a2 := ARs_append (ARs_append (ARs_take (k := k) (ARs_head a1 k) (by rw [List.length_take, hrl]; omega)) (by simp only [List.length_take, Nat.mul_one, hcl]; omega) (ARs_mono hU hnew)) (by simp only [List.length_append, List.length_take, List.length_singleton, Nat.mul_one, hcl]; omega) (ARs_drop1 a1 k)
                      rw [show ((rows.take len).take k ++ [[vv]]) ++ (rows.take len).drop k = (rows.take len).take k ++ [vv] :: (rows.take len).drop k by simp] at a2
                      exact ARs_mono (hs.stay _) (ARs_app a2)
                    have hnl : ((rows.take len).take k ++ [vv] :: (rows.take len).drop k).length = len + 1 := by
                      simp only [List.length_append, List.length_take, List.length_cons, List.length_drop]; omega
                    have := snd_newBlock (A := A) (fr := (0, 0)) (e := E) (s := s.setH (rmv s.H id)) (hs.rep hr') (by decide : 0 < 1) hAn (unfr_none _) (cap := G) (ex := false) (by rw [putV_size, putV_size, p2]; omega) (by rw [hnl]; exact p1) (by simp) leak
                    rw [hnl] at this
                    exact Post.pre hs this
                · have hfz : ∀ j, j ≤ C.size → w.frozen? ⟨b, j, none⟩ = false := fun j hj => frozen_of_block g5 q4 hj
                  have hsm : ∀ j, j < len + 1 → (w.cell? ⟨b, j, none⟩).isSome = true := fun j hj => by
                    rw [cell_of_block g5]
                    simp
                    omega
                  rcases hkk with rfl | hkk
                  · refine (L.room b 0 k c vb 0 vc xv w hg hlim (by rw [Nat.zero_add]; exact hsm _ (by omega)) (by rw [Nat.zero_add]; exact hfz _ (by omega)) hcell (oneCell_of_oneB hone)).mono fun e' w' hh => ?_
                    obtain ⟨rfl, rfl⟩ := hh
                    obtain ⟨u1, u2, u3, u4, u5, u6⟩ := setCells_heap b e fr [xv] (0 + k) w C g5
                    exact post_put hr hid g4 g5 q4 q5 hle (Nat.le_refl _) hleak hg g6 z6 hone (by rw [e3, putV]; simpa using u1) u2 u3 u4 u5 u6
                  · refine (L.shift b 0 len c k vb 0 vc (C.toList.take len) xv w hkk hg hlim hvb hol hcs0 (fun j hj => by rw [Nat.zero_add]; exact hsm j hj) (fun j _ hj => by rw [Nat.zero_add]; exact hfz j (by omega)) hcell hones (oneCell_of_oneB hone) ev e Cv.size C.size (by simp [World.shape?, x5]) (by simp [World.shape?, g5]) (by omega)
                      (frozen_of_block x5 y2 (by omega)) (frozen_of_block x5 y2 (Nat.le_refl _))).mono fun e' w' hh => ?_
                    obtain ⟨rfl, rfl⟩ := hh
                    obtain ⟨t1, t2, t3, t4, t5, t6⟩ := setCells_heap b e fr ((C.toList.take len).drop k) (0 + (k + 1)) w.drew C g5
                    obtain ⟨u1, u2, u3, u4, u5, u6⟩ := setCells_heap b e fr [xv] (0 + k) _ _ t1
                    exact post_put hr hid g4 g5 q4 q5 hle hkl hleak hg g6 z6 hone (by simpa using u1) (fun j hj => (u2 j hj).trans (t2 j hj)) (u3.trans t3) (u4.trans t4) (u5.trans t5) (u6.trans t6)
            · cases h
          · cases h
        · cases h
      · cases h
    · cases h
  · cases h
/-- Functions that insert one element, for the evaluator. -/
def insP (fs : List Nat) : Callee := fun f args H m =>
  if fs.contains f = true then
    match args with
    | [y, .int .i64 k, x] =>
      match insAV ⟨[], [], H, m⟩ y k x with
      | some (v, s') => some (v, s'.H, s'.nx)
      | none => none
    | _ => none
  else none
theorem insP_sound {fs : List Nat} (h : ∀ f ∈ fs, ∃ E, InsLaw P f E) : Sound P (insP fs) := by
  refine ⟨clnOk P, fun {f args H m r} hx => ?_, fun {f args H m r H' n'} hx A ρ w xs hr hv => ?_⟩
  · unfold insP at hx
    split at hx
    · rename_i hf
      obtain ⟨E, hL⟩ := h f (by simpa using hf)
      exact hL.fn
    · cases hx
  · unfold insP at hx
    split at hx
    · rename_i hf
      obtain ⟨E, hL⟩ := h f (by simpa using hf)
      split at hx
      · rename_i y k x
        split at hx
        · rename_i v s' hi
          simp only [Option.some.injEq, Prod.mk.injEq] at hx
          obtain ⟨rfl, rfl, rfl⟩ := hx
          simp only [VRs, VR] at hv
          obtain ⟨Y, r1, e1, v1, K, r2, e2, v2, X, r3, e3, v3, e4⟩ := hv
          subst e4 e3 e2 v2
          have : xs = #[Y, .int .i64 k, X] := by
            apply Array.ext'
            rw [e1]
          subst this
          refine (snd_ins hL (s := ⟨[], [], H, m⟩) hr v1 v3 hi).mono fun e w' hp => ?_
          cases e with
          | returned x' =>
            obtain ⟨_, _, ρ', p1, p2, p3, p4⟩ := hp
            exact ⟨ρ', p1, p2, p3, p4⟩
          | _ => exact hp.elim
        · cases hx
      · cases hx
    · cases hx
/-- One more element at a number. -/
theorem ins_spec {fs : List Nat} (hS : Sound P (insP fs)) {f : Nat} (hf : fs.contains f = true) {base : AV} {k : Int} {H H' : Heap} {m n' : Nat} {v : AV} {x : AV} (h : insP fs f [base, .int .i64 k, x] H m = some (v, H', n')) : Spec P f [base, .int .i64 k, x] H m v H' n' :=
  ⟨hS.fn h, fun hr hx => hS.calls h hr hx⟩
end
end Go.Proofs.Ytjhnlgelcfplaaa.R
