/- slices.Insert of one more element, on the machine. -/
import Derived.Test.YtjhnlgelcfplaaaProg
import Derived.Test.YtjhnlgelcfplaaaRIns
import Derived.Shelf.Spec.SlicesInsert
import Derived.Lib.AppendZerosOnto
import Derived.Laws.NewBlocks
set_option linter.unusedVariables false
set_option linter.unusedSimpArgs false
set_option maxRecDepth 100000
namespace Go.Proofs.Ytjhnlgelcfplaaa.R
open Go Go.Shelf Go.RowKit Go.Lib
noncomputable abbrev PI : Program := Go.Proofs.Try.prog
theorem mixI : (PI).follows .mixedOrders = true := by kernel_rfl
theorem inf9 : (PI.info? 9).map (fun i => (i.zero, i.size, i.bytes)) = some (some (Value.string { data := #[] }), 1, 16) := by kernel_rfl
theorem src9 {vb voff vc : Nat} {v : Value} {w : World} (hvs : w.cell? ⟨vb, voff, none⟩ = some v) (h1v : v.oneCell' = true) : Src PI 1 22 (.slice (some ⟨vb, voff, none⟩) 1 vc) 1 [v] w :=
  Src.ofSlice w Go.Proofs.Try.underlying22 ⟨vb, voff, none⟩ 1 vc [v] (by simp) (fun j u hj => by
    cases j with
    | zero => simp only [List.getElem?_cons_zero, Option.some.injEq] at hj; subst hj; exact hvs
    | succ j => simp at hj) (by simpa using h1v)
set_option maxHeartbeats 4000000 in
theorem ins68_room (b off n c vb voff vc : Nat) (v : Value) (w : World) (hroom : n + 1 ≤ c) (hlim : n + 1 ≤ 549755813888)
    (hsp : (w.cell? ⟨b, off + n, none⟩).isSome = true) (hfz : w.frozen? ⟨b, off + n, none⟩ = false)
    (hvs : w.cell? ⟨vb, voff, none⟩ = some v) (h1v : v.oneCell' = true) :
    Calls PI 68 #[.slice (some ⟨b, off, none⟩) n c, .int .i64 n, .slice (some ⟨vb, voff, none⟩) 1 vc] w fun e w' =>
      e = .returned (.slice (some ⟨b, off, none⟩) (n + 1) c) ∧ w' = w.setCells b (off + n) [v] := by
  have ut := run_underlying Go.Proofs.Try.underlying22
  have ue := run_underlying Go.Proofs.Try.underlying9
  have u3 := run_underlying Go.Proofs.Try.underlying3
  have u4 := run_underlying Go.Proofs.Try.underlying4
  have mixed := mixI
  have hsrc := src9 (vc := vc) hvs h1v
  have hsp' : ∀ j, j < 1 → (w.cell? ⟨b, off + n + j, none⟩).isSome = true := by
    intro j hj
    obtain rfl : j = 0 := by omega
    exact hsp
  have hfz' : ∀ j, j < 1 → w.frozen? ⟨b, off + n + j, none⟩ = false := by
    intro j hj
    obtain rfl : j = 0 := by omega
    exact hfz
  go_enter Go.Proofs.Try.func68, Go.Proofs.Try.ntmps68
  go_wp2_with (at_builtin; refine wpList_append_room1 _ rfl _ _ 22 22 rfl 9 _ _ Go.Proofs.Try.underlying22 inf9 b off n c rfl _ rfl 1 [v] hsrc hroom hsp' hfz' ?_)
  go_ret
  exact ⟨rfl, rfl⟩
set_option maxHeartbeats 4000000 in
theorem ins68_end (base : Option Addr) (n c vb voff vc : Nat) (cs : List Value) (v : Value) (w : World) (hnc : n ≤ c) (hroom : c < n + 1) (hbig : (n + 1) * 16 ≤ 140737488355328)
    (hcl : cs.length = n) (hnil : base = none → n = 0) (hcs : ∀ a, base = some a → ∀ j v, cs[j]? = some v → w.cell? (a.add j) = some v)
    (hvs : w.cell? ⟨vb, voff, none⟩ = some v) (h1v : v.oneCell' = true) :
    Calls PI 68 #[.slice base n c, .int .i64 n, .slice (some ⟨vb, voff, none⟩) 1 vc] w fun e w' =>
      e = .returned (.slice (some ⟨w.heap.size, 0, none⟩) (n + 1) (grownCap w (n + 1) c 9)) ∧
      w' = w.drew.alloc (.cells ((cs ++ [v]).toArray ++ Builtin.zeroCells ((Value.string { data := #[] })).cells (grownCap w (n + 1) c 9 - (n + 1))) 9) := by
  have ut := run_underlying Go.Proofs.Try.underlying22
  have ue := run_underlying Go.Proofs.Try.underlying9
  have u3 := run_underlying Go.Proofs.Try.underlying3
  have u4 := run_underlying Go.Proofs.Try.underlying4
  have mixed := mixI
  obtain ⟨i0, hi0, hz0, hzs, hzb⟩ := info_parts inf9
  have hsrc : Src PI i0.size 22 (.slice (some ⟨vb, voff, none⟩) 1 vc) 1 [v] w := by
    rw [hzs]
    exact src9 hvs h1v
  have hold : (Builtin.firstCells i0.size n (.slice base n c)).run PI w.drew = .ok cs.toArray w.drew := by
    rw [hzs]
    cases base with
    | none =>
      obtain rfl := hnil rfl
      rw [List.eq_nil_of_length_eq_zero hcl]
      exact run_firstCells_none w.drew 1 0 0 c
    | some a => exact run_firstCells_some w.drew 1 n a n c cs (by omega) (fun j v hj => hcs a rfl j v hj)
  have hrun : ∀ ty, (Builtin.append_ #[22, 22] ty #[.slice base n c, .slice (some ⟨vb, voff, none⟩) 1 vc]).run PI w = _ := fun ty =>
    run_append_grow_src w 22 22 ty 9 i0 _ Go.Proofs.Try.underlying22 hi0 hz0 base n c cs hold _ 1 [v] hsrc hroom (by omega) (by rw [hzb]; exact growslice_fits hroom hbig)
  go_enter Go.Proofs.Try.func68, Go.Proofs.Try.ntmps68
  cases base with
  | none =>
    obtain rfl := hnil rfl
    go_wp2_with (at_builtin; refine Lib.wpList_append_run _ rfl _ _ _ _ rfl _ _ rfl rfl _ _ (hrun _) ?_)
    go_ret
    exact ⟨rfl, rfl⟩
  | some a =>
    obtain ⟨ab, ao, asp⟩ := a
    go_wp2_with (at_builtin; refine Lib.wpList_append_run _ rfl _ _ _ _ rfl _ _ rfl rfl _ _ (hrun _) ?_)
    all_goals (go_ret; exact ⟨rfl, rfl⟩)
set_option maxHeartbeats 4000000 in
theorem ins68_shift (b off n c i vb voff vc : Nat) (cs : List Value) (v : Value) (w : World) (hi : i < n) (hroom : n + 1 ≤ c) (hlim : n + 1 ≤ 549755813888) (hvb : vb ≠ b) (hcl : cs.length = n)
    (hcs : ∀ j v, cs[j]? = some v → w.cell? ⟨b, off + j, none⟩ = some v) (hsp : ∀ j, j < n + 1 → (w.cell? ⟨b, off + j, none⟩).isSome = true) (hfz : ∀ j, i ≤ j → j < n + 1 → w.frozen? ⟨b, off + j, none⟩ = false)
    (hvs : w.cell? ⟨vb, voff, none⟩ = some v) (h1c : ∀ v ∈ cs, v.oneCell' = true) (h1v : v.oneCell' = true)
    (tA tB : TypeId) (kA kB : Nat) (hsa : w.shape? vb = some (tA, kA)) (hsb : w.shape? b = some (tB, kB)) (hkB : kB ≠ 0) (hfa : w.frozen? ⟨vb, voff, none⟩ = false) (hfe : w.frozen? ⟨vb, kA, none⟩ = false) :
    Calls PI 68 #[.slice (some ⟨b, off, none⟩) n c, .int .i64 i, .slice (some ⟨vb, voff, none⟩) 1 vc] w fun e w' =>
      e = .returned (.slice (some ⟨b, off, none⟩) (n + 1) c) ∧ w' = (w.drew.setCells b (off + (i + 1)) (cs.drop i)).setCells b (off + i) [v] := by
  have ut := run_underlying Go.Proofs.Try.underlying22
  have ue := run_underlying Go.Proofs.Try.underlying9
  have u3 := run_underlying Go.Proofs.Try.underlying3
  have u4 := run_underlying Go.Proofs.Try.underlying4
  have mixed := mixI
  have hsz : (PI.info? 9).map (·.size) = some 1 := by
    obtain ⟨i0, hi0, _, h1, _⟩ := info_parts inf9
    rw [hi0]
    simp [h1]
  -- the neighbour is no part of the slice
  have hov : ∀ lb cb, (callFunc 107 #[.slice (some ⟨vb, voff, none⟩) 1 vc, .slice (some ⟨b, off + (i + 1), none⟩) lb cb]).run PI w = .ok (.value (.bool false)) w := fun lb cb => by
    rw [run_callFunc_extern Go.Proofs.Try.func107 (by kernel_rfl) (by kernel_rfl) (by kernel_rfl) (e := Extern.SlicesOverlaps.overlaps #[22, 22] #[4]) (by kernel_rfl),
      Lib.run_overlaps_apart w 22 4 9 Go.Proofs.Try.underlying22 1 (by first | exact Go.Proofs.Try.sizeOf9 | exact fun w => by kernel_rfl) ⟨vb, voff, none⟩ ⟨b, off + (i + 1), none⟩ 1 vc lb cb hvb tA tB kA kB hsa hsb hkB hfa hfe]
    rfl
  have hdl : (cs.drop i).length = n - i := by rw [List.length_drop, hcl]
  have e1 : IntKind.i64.wrap ((i : Int) + 1) = (i : Int) + 1 := by rw [IntKind.wrap_i64]; omega
  have e2 : (0 : Int) ≤ (i : Int) + 1 := by omega
  have e3 : ((i : Int) + 1).toNat = i + 1 := by omega
  have e4 : (i : Int) ≤ (n : Int) + 1 := by omega
  have e5 : ¬ c = i + 1 := by omega
  have e6 : ¬ c = i := by omega
  have e7 : ¬ (i : Int) = (n : Int) := by omega
  have e8 : i ≤ n := by omega
  -- what stood behind goes one place on
  have first : ∀ ty dc sc, (Builtin.copy_ #[22, 22] ty #[.slice (some ⟨b, off + (i + 1), none⟩) (n - i) dc, .slice (some ⟨b, off + i, none⟩) (n + 1 - i) sc]).run PI w.drew = .ok (goInt (cs.drop i).length) (w.drew.setCells b (off + (i + 1)) (cs.drop i)) := fun ty dc sc =>
    run_copy_cells w.drew _ _ ty 9 b (off + (i + 1)) (n - i) dc ⟨b, off + i, none⟩ (n + 1 - i) sc (cs.drop i) Go.Proofs.Try.underlying22 hsz (by rw [hdl]; simp only [Nat.min_def]; split <;> omega)
      (fun j x hj => by
        rw [Addr.add_lit, Nat.add_assoc]
        rw [List.getElem?_drop] at hj
        exact hcs (i + j) x hj)
      (fun j hj => by rw [Nat.add_assoc]; exact hsp _ (by omega)) (fun j hj => by rw [Nat.add_assoc]; exact hfz _ (by omega) (by omega)) (fun x hx => h1c x (List.mem_of_mem_drop hx))
  obtain ⟨W1, hW1⟩ : ∃ W1, W1 = w.drew.setCells b (off + (i + 1)) (cs.drop i) := ⟨_, rfl⟩
  have hsp1 : (W1.cell? ⟨b, off + i, none⟩).isSome = true := by
    rw [hW1]
    exact isSome_setCells b _ _ _ (fun j hj => by rw [Nat.add_assoc]; exact hsp _ (by omega)) _ (hsp i (by omega))
  have second : ∀ (W : World), (∀ x, W.cell? x = W1.cell? x) → (∀ x, W.frozen? x = W1.frozen? x) → ∀ ty dc, (Builtin.copy_ #[22, 22] ty #[.slice (some ⟨b, off + i, none⟩) (n + 1 - i) dc, .slice (some ⟨vb, voff, none⟩) 1 vc]).run PI W = .ok (goInt ([v] : List Value).length) (W.setCells b (off + i) [v]) := fun W hWc hWf ty dc =>
    run_copy_cells W _ _ ty 9 b (off + i) (n + 1 - i) dc ⟨vb, voff, none⟩ 1 vc [v] Go.Proofs.Try.underlying22 hsz (by simp only [Nat.min_def, List.length_singleton]; split <;> omega)
      (fun j x hj => by
        cases j with
        | zero =>
          simp only [List.getElem?_cons_zero, Option.some.injEq] at hj
          subst hj
          rw [Addr.add_lit, hWc, hW1, World.cell?_setCells_out b _ _ _ _ (fun h _ => absurd h hvb)]
          exact hvs
        | succ j => simp at hj)
      (fun j hj => by
        obtain rfl : j = 0 := by simpa using hj
        rw [hWc]
        exact hsp1)
      (fun j hj => by
        obtain rfl : j = 0 := by simpa using hj
        rw [hWf, hW1, World.frozen?_setCells]
        exact hfz _ (Nat.le_refl _) (by omega)) (by simpa using h1v)
  rw [← hW1] at first
  go_enter Go.Proofs.Try.func68, Go.Proofs.Try.ntmps68
  go_wp2_with (simp only [hov])
  go_region_law_o (refine step_copy_runI rfl _ _ 22 22 rfl _ _ (by simp [Act.eval, Act.put]) (by simp [Act.eval, Act.put]) (first _ _ _) ?_)
  go_wp2_with (at_builtin; refine wpList_copy_runI _ rfl _ _ 22 22 rfl _ _ rfl rfl (second _ (fun _ => rfl) (fun _ => rfl) _ _) ?_)
  go_ret
  first | exact ⟨rfl, rfl⟩ | exact ⟨rfl, by rw [hW1]⟩
set_option maxHeartbeats 4000000 in
theorem ins68_grow (b off n c i vb voff vc : Nat) (cs : List Value) (v : Value) (w : World) (hi : i < n) (hnc : n ≤ c) (hroom : c < n + 1) (hbig : (n + 1) * 16 ≤ 140737488355328) (hcl : cs.length = n)
    (hcs : ∀ j v, cs[j]? = some v → w.cell? ⟨b, off + j, none⟩ = some v) (hvs : w.cell? ⟨vb, voff, none⟩ = some v) (h1c : ∀ v ∈ cs, v.oneCell' = true) (h1v : v.oneCell' = true) :
    Calls PI 68 #[.slice (some ⟨b, off, none⟩) n c, .int .i64 i, .slice (some ⟨vb, voff, none⟩) 1 vc] w fun e w' => ∃ D : Array Value, n + 1 + D.size = grownCap w (n + 1) c 9 ∧
      e = .returned (.slice (some ⟨w.heap.size, 0, none⟩) (n + 1) (grownCap w (n + 1) c 9)) ∧
      w' = (((w.alloc (.cells ((cs.take i).toArray ++ Builtin.zeroCells ((Value.string { data := #[] })).cells (n + 1 - i) ++ D) 9)).drew.setCells w.heap.size i [v]).drew).setCells w.heap.size (i + 1) (cs.drop i) := by
  have ut := run_underlying Go.Proofs.Try.underlying22
  have ue := run_underlying Go.Proofs.Try.underlying9
  have u3 := run_underlying Go.Proofs.Try.underlying3
  have u4 := run_underlying Go.Proofs.Try.underlying4
  have mixed := mixI
  obtain ⟨i0, hi0, hz0, hzs, hzb⟩ := info_parts inf9
  have hsz : (PI.info? 9).map (·.size) = some 1 := by rw [hi0]; simp [hzs]
  have hdl : (cs.drop i).length = n - i := by rw [List.length_drop, hcl]
  have hbw : b < w.heap.size := block_lt_of_cell (hcs 0 _ (List.getElem?_eq_getElem (by omega)))
  have hvw : vb < w.heap.size := block_lt_of_cell hvs
  have hbN : b ≠ w.heap.size := by omega
  have hG1 : n + 1 ≤ grownCap w (n + 1) c 9 := grownCap_ge w _ _ _
  have hG2 := grownCap_le_maxLen w (n + 1) c 9 (by unfold maxLen; omega)
  have hz : (Builtin.zeroCells ((Value.string { data := #[] })).cells (grownCap w (n + 1) c 9 - (n + 1))).size = grownCap w (n + 1) c 9 - (n + 1) := by simp [Builtin.zeroCells, Value.cells]
  -- the new row
  have row : ∀ ty, (Builtin.append_ #[22, 3] ty #[.slice (some ⟨b, off, none⟩) i c, .int .i64 ((n : Int) + 1 - (i : Int))]).run PI w =
      .ok (.slice (some ⟨w.heap.size, 0, none⟩) (n + 1) (grownCap w (n + 1) c 9)) (w.drew.alloc (.cells ((cs.take i).toArray ++ Builtin.zeroCells ((Value.string { data := #[] })).cells (n + 1 - i) ++ Builtin.zeroCells ((Value.string { data := #[] })).cells (grownCap w (n + 1) c 9 - (n + 1))) 9)) := fun ty => by
    have hold : (Builtin.firstCells i0.size i (.slice (some ⟨b, off, none⟩) i c)).run PI w.drew = .ok (cs.take i).toArray w.drew := by
      rw [hzs]
      refine run_firstCells_some w.drew 1 i ⟨b, off, none⟩ i c (cs.take i) (by rw [List.length_take]; omega) (fun j x hj => ?_)
      rw [Addr.add_lit]
      rw [List.getElem?_take] at hj
      split at hj
      · exact hcs j x hj
      · cases hj
    have hik : i + (n + 1 - i) = n + 1 := by omega
    have h := Lib.run_append_grow_zeros w 22 3 ty 9 i0 _ .i64 .i64 Go.Proofs.Try.underlying22 Go.Proofs.Try.underlying3 hi0 hz0 (some ⟨b, off, none⟩) i c (cs.take i) hold (n + 1 - i) (by omega) (by omega) (by omega) (by omega) (by rw [hzb]; omega) (by rw [hzb, hik]; exact growslice_fits hroom hbig)
    rw [hik] at h
    rw [show (n : Int) + 1 - (i : Int) = ((n + 1 - i : Nat) : Int) by omega]
    exact h
  refine Calls.mono ?_ (fun e w' h => ⟨_, by rw [hz]; omega, h⟩)
  generalize Builtin.zeroCells ((Value.string { data := #[] })).cells (grownCap w (n + 1) c 9 - (n + 1)) = D at row hz ⊢
  generalize grownCap w (n + 1) c 9 = G at row hz hG1 hG2 ⊢
  obtain ⟨R, hR⟩ : ∃ R : Array Value, R = (cs.take i).toArray ++ Builtin.zeroCells ((Value.string { data := #[] })).cells (n + 1 - i) ++ D := ⟨_, rfl⟩
  rw [← hR] at row ⊢
  have hRl : n + 1 ≤ R.size := by
    rw [hR]
    simp [Builtin.zeroCells, Value.cells]
    omega
  obtain ⟨W1, hW1⟩ : ∃ W1, W1 = w.drew.alloc (.cells R 9) := ⟨_, rfl⟩
  rw [← hW1] at row
  have new1 : ∀ j, j < n + 1 → (W1.cell? ⟨w.heap.size, j, none⟩).isSome = true := fun j hj => by
    rw [hW1, World.cell?_alloc_at (w := w.drew) R _ w.heap.size j rfl, Array.getElem?_eq_getElem (by omega)]; rfl
  have new2 : ∀ j, W1.frozen? ⟨w.heap.size, j, none⟩ = false := fun j => by rw [hW1]; exact World.frozen?_alloc_at (w := w.drew) R _ w.heap.size j rfl
  have old1 : ∀ j x, w.cell? ⟨b, j, none⟩ = some x → W1.cell? ⟨b, j, none⟩ = some x := fun j x h => by rw [hW1, World.cell?_alloc_past (w := w.drew) _ b j hbw]; exact h
  have old2 : W1.cell? ⟨vb, voff, none⟩ = some v := by rw [hW1, World.cell?_alloc_past (w := w.drew) _ vb voff hvw]; exact hvs
  have cpA : ∀ (W : World), (∀ x, W.cell? x = W1.cell? x) → (∀ x, W.frozen? x = W1.frozen? x) → ∀ ty dc, (Builtin.copy_ #[22, 22] ty #[.slice (some ⟨w.heap.size, i, none⟩) (n + 1 - i) dc, .slice (some ⟨vb, voff, none⟩) 1 vc]).run PI W = .ok (goInt ([v] : List Value).length) (W.setCells w.heap.size i [v]) := fun W hWc hWf ty dc =>
    run_copy_cells W _ _ ty 9 w.heap.size i (n + 1 - i) dc ⟨vb, voff, none⟩ 1 vc [v] Go.Proofs.Try.underlying22 hsz (by simp only [Nat.min_def, List.length_singleton]; split <;> omega)
      (fun j x hj => by
        cases j with
        | zero =>
          simp only [List.getElem?_cons_zero, Option.some.injEq] at hj
          subst hj
          rw [Addr.add_lit, hWc]
          exact old2
        | succ j => simp at hj)
      (fun j hj => by
        obtain rfl : j = 0 := by simpa using hj
        rw [hWc]
        exact new1 _ (by omega))
      (fun j hj => by rw [hWf]; exact new2 _) (by simpa using h1v)
  have cpB : ∀ (W : World), (∀ x, W.cell? x = (W1.setCells w.heap.size i [v]).cell? x) → (∀ x, W.frozen? x = (W1.setCells w.heap.size i [v]).frozen? x) → ∀ ty dc sc, (Builtin.copy_ #[22, 22] ty #[.slice (some ⟨w.heap.size, i + 1, none⟩) (n - i) dc, .slice (some ⟨b, off + i, none⟩) (n - i) sc]).run PI W = .ok (goInt (cs.drop i).length) (W.setCells w.heap.size (i + 1) (cs.drop i)) := fun W hWc hWf ty dc sc =>
    run_copy_cells W _ _ ty 9 w.heap.size (i + 1) (n - i) dc ⟨b, off + i, none⟩ (n - i) sc (cs.drop i) Go.Proofs.Try.underlying22 hsz (by rw [hdl]; simp only [Nat.min_def]; split <;> omega)
      (fun j x hj => by
        rw [Addr.add_lit, hWc, World.cell?_setCells_out _ _ _ _ _ (fun h _ => absurd h hbN), Nat.add_assoc]
        rw [List.getElem?_drop] at hj
        exact old1 _ x (hcs (i + j) x hj))
      (fun j hj => by rw [hWc]; exact isSome_setCells _ _ _ _ (fun t ht => new1 _ (by simp at ht; omega)) _ (new1 _ (by omega)))
      (fun j hj => by rw [hWf, World.frozen?_setCells]; exact new2 _) (fun x hx => h1c x (List.mem_of_mem_drop hx))
  subst hW1
  have q1 : ∀ x, ((w.alloc (.cells R 9)).drew).cell? x = (w.drew.alloc (.cells R 9)).cell? x := fun x => rfl
  have q2 : ∀ x, ((w.alloc (.cells R 9)).drew).frozen? x = (w.drew.alloc (.cells R 9)).frozen? x := fun x => rfl
  have q3 : ∀ x, (((w.alloc (.cells R 9)).drew.setCells w.heap.size i [v]).drew).cell? x = ((w.drew.alloc (.cells R 9)).setCells w.heap.size i [v]).cell? x := fun x => rfl
  have q4 : ∀ x, (((w.alloc (.cells R 9)).drew.setCells w.heap.size i [v]).drew).frozen? x = ((w.drew.alloc (.cells R 9)).setCells w.heap.size i [v]).frozen? x := fun x => rfl
  have e1 : IntKind.i64.wrap ((i : Int) + 1) = (i : Int) + 1 := by rw [IntKind.wrap_i64]; omega
  have e2 : (0 : Int) ≤ (i : Int) + 1 := by omega
  have e3 : ((i : Int) + 1).toNat = i + 1 := by omega
  have e4 : (i : Int) ≤ (n : Int) := by omega
  have e5 : ¬ G = i + 1 := by omega
  have e6 : ¬ G = i := by omega
  have e7 : ¬ (i : Int) = (n : Int) := by omega
  have e8 : i ≤ n := by omega
  have e9 : ¬ c = i := by omega
  have e10 : (c : Int) < (n : Int) + 1 := by omega
  unfold maxLen at hG2
  clear hR hRl new1 new2 old1 old2
  go_enter Go.Proofs.Try.func68, Go.Proofs.Try.ntmps68
  go_wp2_with (first
    | (at_builtin; refine Lib.wpList_append_run _ rfl _ _ _ _ rfl _ _ rfl rfl _ _ (row _) ?_)
    | (at_builtin; refine wpList_copy_runI _ rfl _ _ 22 22 rfl _ _ rfl rfl (cpA _ q1 q2 _ _) ?_)
    | (at_builtin; refine wpList_copy_runI _ rfl _ _ 22 22 rfl _ _ rfl rfl (cpB _ (fun _ => rfl) (fun _ => rfl) _ _ _) ?_))
  go_region_law_o (refine step_copy_runI rfl _ _ 22 22 rfl (.slice (some ⟨w.heap.size, i + 1, none⟩) (n - i) (G - (i + 1))) (.slice (some ⟨b, off + i, none⟩) (n - i) (c - i)) (by simp [Act.eval, Act.put]) (by simp [Act.eval, Act.put]) (cpB _ q3 q4 3 (G - (i + 1)) (c - i)) ?_)
  go_wp2
  go_ret
  exact ⟨rfl, rfl⟩
theorem law68 : InsLaw PI 68 9 where
  fn := ⟨_, Go.Proofs.Try.func68, by kernel_rfl, by kernel_rfl⟩
  room := fun b off n c vb voff vc v w h1 h2 h3 h4 h5 h6 => ins68_room b off n c vb voff vc v w h1 h2 h3 h4 h5 h6
  end_ := fun base n c vb voff vc cs v w h1 h2 h3 h4 h5 h6 h7 h8 => by
    refine (ins68_end base n c vb voff vc cs v w h1 h2 (by unfold limN at h3; omega) h4 h5 h6 h7 h8).mono fun e w' h => ?_
    obtain ⟨rfl, rfl⟩ := h
    have hG := grownCap_ge w (n + 1) c 9
    refine ⟨_, (Builtin.zeroCells ((Value.string { data := #[] })).cells (grownCap w (n + 1) c 9 - (n + 1))).toList, ?_, rfl, ?_⟩
    · rw [Array.length_toList]
      simp [Builtin.zeroCells, Value.cells]
      omega
    · congr 2
      apply Array.ext'
      simp
  shift := fun b off n c i vb voff vc cs v w h1 h2 h3 h4 h5 h6 h7 h8 h9 h10 h11 tA tB kA kB h12 h13 h14 h15 h16 => ins68_shift b off n c i vb voff vc cs v w h1 h2 h3 h4 h5 h6 h7 h8 h9 h10 h11 tA tB kA kB h12 h13 h14 h15 h16
  grow := fun b off n c i vb voff vc cs v w h1 h2 h3 h4 h5 h6 h7 h8 h9 => by
    refine (ins68_grow b off n c i vb voff vc cs v w h1 h2 h3 (by unfold limN at h4; omega) h5 h6 h7 h8 h9).mono fun e w' h => ?_
    obtain ⟨D, hD, rfl, rfl⟩ := h
    have hG := grownCap_ge w (n + 1) c 9
    refine ⟨_, _, hG, ?_, ?_, rfl, rfl⟩
    · simp [Builtin.zeroCells, Value.cells]
      omega
    · intro j hj
      rw [Array.append_assoc, Array.getElem?_append_left (by simp; omega)]
      simp [hj]

theorem inf2 : (PI.info? 2).map (fun i => (i.zero, i.size, i.bytes)) = some (some (Value.int IntKind.i64 0), 1, 8) := by kernel_rfl
theorem src2 {vb voff vc : Nat} {v : Value} {w : World} (hvs : w.cell? ⟨vb, voff, none⟩ = some v) (h1v : v.oneCell' = true) : Src PI 1 23 (.slice (some ⟨vb, voff, none⟩) 1 vc) 1 [v] w :=
  Src.ofSlice w Go.Proofs.Try.underlying23 ⟨vb, voff, none⟩ 1 vc [v] (by simp) (fun j u hj => by
    cases j with
    | zero => simp only [List.getElem?_cons_zero, Option.some.injEq] at hj; subst hj; exact hvs
    | succ j => simp at hj) (by simpa using h1v)
set_option maxHeartbeats 4000000 in
theorem ins69_room (b off n c vb voff vc : Nat) (v : Value) (w : World) (hroom : n + 1 ≤ c) (hlim : n + 1 ≤ 549755813888)
    (hsp : (w.cell? ⟨b, off + n, none⟩).isSome = true) (hfz : w.frozen? ⟨b, off + n, none⟩ = false)
    (hvs : w.cell? ⟨vb, voff, none⟩ = some v) (h1v : v.oneCell' = true) :
    Calls PI 69 #[.slice (some ⟨b, off, none⟩) n c, .int .i64 n, .slice (some ⟨vb, voff, none⟩) 1 vc] w fun e w' =>
      e = .returned (.slice (some ⟨b, off, none⟩) (n + 1) c) ∧ w' = w.setCells b (off + n) [v] := by
  have ut := run_underlying Go.Proofs.Try.underlying23
  have ue := run_underlying Go.Proofs.Try.underlying2
  have u3 := run_underlying Go.Proofs.Try.underlying3
  have u4 := run_underlying Go.Proofs.Try.underlying4
  have mixed := mixI
  have hsrc := src2 (vc := vc) hvs h1v
  have hsp' : ∀ j, j < 1 → (w.cell? ⟨b, off + n + j, none⟩).isSome = true := by
    intro j hj
    obtain rfl : j = 0 := by omega
    exact hsp
  have hfz' : ∀ j, j < 1 → w.frozen? ⟨b, off + n + j, none⟩ = false := by
    intro j hj
    obtain rfl : j = 0 := by omega
    exact hfz
  go_enter Go.Proofs.Try.func69, Go.Proofs.Try.ntmps69
  go_wp2_with (at_builtin; refine wpList_append_room1 _ rfl _ _ 23 23 rfl 2 _ _ Go.Proofs.Try.underlying23 inf2 b off n c rfl _ rfl 1 [v] hsrc hroom hsp' hfz' ?_)
  go_ret
  exact ⟨rfl, rfl⟩
set_option maxHeartbeats 4000000 in
theorem ins69_end (base : Option Addr) (n c vb voff vc : Nat) (cs : List Value) (v : Value) (w : World) (hnc : n ≤ c) (hroom : c < n + 1) (hbig : (n + 1) * 8 ≤ 140737488355328)
    (hcl : cs.length = n) (hnil : base = none → n = 0) (hcs : ∀ a, base = some a → ∀ j v, cs[j]? = some v → w.cell? (a.add j) = some v)
    (hvs : w.cell? ⟨vb, voff, none⟩ = some v) (h1v : v.oneCell' = true) :
    Calls PI 69 #[.slice base n c, .int .i64 n, .slice (some ⟨vb, voff, none⟩) 1 vc] w fun e w' =>
      e = .returned (.slice (some ⟨w.heap.size, 0, none⟩) (n + 1) (grownCap w (n + 1) c 2)) ∧
      w' = w.drew.alloc (.cells ((cs ++ [v]).toArray ++ Builtin.zeroCells ((Value.int IntKind.i64 0)).cells (grownCap w (n + 1) c 2 - (n + 1))) 2) := by
  have ut := run_underlying Go.Proofs.Try.underlying23
  have ue := run_underlying Go.Proofs.Try.underlying2
  have u3 := run_underlying Go.Proofs.Try.underlying3
  have u4 := run_underlying Go.Proofs.Try.underlying4
  have mixed := mixI
  obtain ⟨i0, hi0, hz0, hzs, hzb⟩ := info_parts inf2
  have hsrc : Src PI i0.size 23 (.slice (some ⟨vb, voff, none⟩) 1 vc) 1 [v] w := by
    rw [hzs]
    exact src2 hvs h1v
  have hold : (Builtin.firstCells i0.size n (.slice base n c)).run PI w.drew = .ok cs.toArray w.drew := by
    rw [hzs]
    cases base with
    | none =>
      obtain rfl := hnil rfl
      rw [List.eq_nil_of_length_eq_zero hcl]
      exact run_firstCells_none w.drew 1 0 0 c
    | some a => exact run_firstCells_some w.drew 1 n a n c cs (by omega) (fun j v hj => hcs a rfl j v hj)
  have hrun : ∀ ty, (Builtin.append_ #[23, 23] ty #[.slice base n c, .slice (some ⟨vb, voff, none⟩) 1 vc]).run PI w = _ := fun ty =>
    run_append_grow_src w 23 23 ty 2 i0 _ Go.Proofs.Try.underlying23 hi0 hz0 base n c cs hold _ 1 [v] hsrc hroom (by omega) (by rw [hzb]; exact growslice_fits hroom hbig)
  go_enter Go.Proofs.Try.func69, Go.Proofs.Try.ntmps69
  cases base with
  | none =>
    obtain rfl := hnil rfl
    go_wp2_with (at_builtin; refine Lib.wpList_append_run _ rfl _ _ _ _ rfl _ _ rfl rfl _ _ (hrun _) ?_)
    go_ret
    exact ⟨rfl, rfl⟩
  | some a =>
    obtain ⟨ab, ao, asp⟩ := a
    go_wp2_with (at_builtin; refine Lib.wpList_append_run _ rfl _ _ _ _ rfl _ _ rfl rfl _ _ (hrun _) ?_)
    all_goals (go_ret; exact ⟨rfl, rfl⟩)
set_option maxHeartbeats 4000000 in
theorem ins69_shift (b off n c i vb voff vc : Nat) (cs : List Value) (v : Value) (w : World) (hi : i < n) (hroom : n + 1 ≤ c) (hlim : n + 1 ≤ 549755813888) (hvb : vb ≠ b) (hcl : cs.length = n)
    (hcs : ∀ j v, cs[j]? = some v → w.cell? ⟨b, off + j, none⟩ = some v) (hsp : ∀ j, j < n + 1 → (w.cell? ⟨b, off + j, none⟩).isSome = true) (hfz : ∀ j, i ≤ j → j < n + 1 → w.frozen? ⟨b, off + j, none⟩ = false)
    (hvs : w.cell? ⟨vb, voff, none⟩ = some v) (h1c : ∀ v ∈ cs, v.oneCell' = true) (h1v : v.oneCell' = true)
    (tA tB : TypeId) (kA kB : Nat) (hsa : w.shape? vb = some (tA, kA)) (hsb : w.shape? b = some (tB, kB)) (hkB : kB ≠ 0) (hfa : w.frozen? ⟨vb, voff, none⟩ = false) (hfe : w.frozen? ⟨vb, kA, none⟩ = false) :
    Calls PI 69 #[.slice (some ⟨b, off, none⟩) n c, .int .i64 i, .slice (some ⟨vb, voff, none⟩) 1 vc] w fun e w' =>
      e = .returned (.slice (some ⟨b, off, none⟩) (n + 1) c) ∧ w' = (w.drew.setCells b (off + (i + 1)) (cs.drop i)).setCells b (off + i) [v] := by
  have ut := run_underlying Go.Proofs.Try.underlying23
  have ue := run_underlying Go.Proofs.Try.underlying2
  have u3 := run_underlying Go.Proofs.Try.underlying3
  have u4 := run_underlying Go.Proofs.Try.underlying4
  have mixed := mixI
  have hsz : (PI.info? 2).map (·.size) = some 1 := by
    obtain ⟨i0, hi0, _, h1, _⟩ := info_parts inf2
    rw [hi0]
    simp [h1]
  -- the neighbour is no part of the slice
  have hov : ∀ lb cb, (callFunc 109 #[.slice (some ⟨vb, voff, none⟩) 1 vc, .slice (some ⟨b, off + (i + 1), none⟩) lb cb]).run PI w = .ok (.value (.bool false)) w := fun lb cb => by
    rw [run_callFunc_extern Go.Proofs.Try.func109 (by kernel_rfl) (by kernel_rfl) (by kernel_rfl) (e := Extern.SlicesOverlaps.overlaps #[23, 23] #[4]) (by kernel_rfl),
      Lib.run_overlaps_apart w 23 4 2 Go.Proofs.Try.underlying23 1 (by first | exact Go.Proofs.Try.sizeOf2 | exact fun w => by kernel_rfl) ⟨vb, voff, none⟩ ⟨b, off + (i + 1), none⟩ 1 vc lb cb hvb tA tB kA kB hsa hsb hkB hfa hfe]
    rfl
  have hdl : (cs.drop i).length = n - i := by rw [List.length_drop, hcl]
  have e1 : IntKind.i64.wrap ((i : Int) + 1) = (i : Int) + 1 := by rw [IntKind.wrap_i64]; omega
  have e2 : (0 : Int) ≤ (i : Int) + 1 := by omega
  have e3 : ((i : Int) + 1).toNat = i + 1 := by omega
  have e4 : (i : Int) ≤ (n : Int) + 1 := by omega
  have e5 : ¬ c = i + 1 := by omega
  have e6 : ¬ c = i := by omega
  have e7 : ¬ (i : Int) = (n : Int) := by omega
  have e8 : i ≤ n := by omega
  -- what stood behind goes one place on
  have first : ∀ ty dc sc, (Builtin.copy_ #[23, 23] ty #[.slice (some ⟨b, off + (i + 1), none⟩) (n - i) dc, .slice (some ⟨b, off + i, none⟩) (n + 1 - i) sc]).run PI w.drew = .ok (goInt (cs.drop i).length) (w.drew.setCells b (off + (i + 1)) (cs.drop i)) := fun ty dc sc =>
    run_copy_cells w.drew _ _ ty 2 b (off + (i + 1)) (n - i) dc ⟨b, off + i, none⟩ (n + 1 - i) sc (cs.drop i) Go.Proofs.Try.underlying23 hsz (by rw [hdl]; simp only [Nat.min_def]; split <;> omega)
      (fun j x hj => by
        rw [Addr.add_lit, Nat.add_assoc]
        rw [List.getElem?_drop] at hj
        exact hcs (i + j) x hj)
      (fun j hj => by rw [Nat.add_assoc]; exact hsp _ (by omega)) (fun j hj => by rw [Nat.add_assoc]; exact hfz _ (by omega) (by omega)) (fun x hx => h1c x (List.mem_of_mem_drop hx))
  obtain ⟨W1, hW1⟩ : ∃ W1, W1 = w.drew.setCells b (off + (i + 1)) (cs.drop i) := ⟨_, rfl⟩
  have hsp1 : (W1.cell? ⟨b, off + i, none⟩).isSome = true := by
    rw [hW1]
    exact isSome_setCells b _ _ _ (fun j hj => by rw [Nat.add_assoc]; exact hsp _ (by omega)) _ (hsp i (by omega))
  have second : ∀ (W : World), (∀ x, W.cell? x = W1.cell? x) → (∀ x, W.frozen? x = W1.frozen? x) → ∀ ty dc, (Builtin.copy_ #[23, 23] ty #[.slice (some ⟨b, off + i, none⟩) (n + 1 - i) dc, .slice (some ⟨vb, voff, none⟩) 1 vc]).run PI W = .ok (goInt ([v] : List Value).length) (W.setCells b (off + i) [v]) := fun W hWc hWf ty dc =>
    run_copy_cells W _ _ ty 2 b (off + i) (n + 1 - i) dc ⟨vb, voff, none⟩ 1 vc [v] Go.Proofs.Try.underlying23 hsz (by simp only [Nat.min_def, List.length_singleton]; split <;> omega)
      (fun j x hj => by
        cases j with
        | zero =>
          simp only [List.getElem?_cons_zero, Option.some.injEq] at hj
          subst hj
          rw [Addr.add_lit, hWc, hW1, World.cell?_setCells_out b _ _ _ _ (fun h _ => absurd h hvb)]
          exact hvs
        | succ j => simp at hj)
      (fun j hj => by
        obtain rfl : j = 0 := by simpa using hj
        rw [hWc]
        exact hsp1)
      (fun j hj => by
        obtain rfl : j = 0 := by simpa using hj
        rw [hWf, hW1, World.frozen?_setCells]
        exact hfz _ (Nat.le_refl _) (by omega)) (by simpa using h1v)
  rw [← hW1] at first
  go_enter Go.Proofs.Try.func69, Go.Proofs.Try.ntmps69
  go_wp2_with (simp only [hov])
  go_region_law_o (refine step_copy_runI rfl _ _ 23 23 rfl _ _ (by simp [Act.eval, Act.put]) (by simp [Act.eval, Act.put]) (first _ _ _) ?_)
  go_wp2_with (at_builtin; refine wpList_copy_runI _ rfl _ _ 23 23 rfl _ _ rfl rfl (second _ (fun _ => rfl) (fun _ => rfl) _ _) ?_)
  go_ret
  first | exact ⟨rfl, rfl⟩ | exact ⟨rfl, by rw [hW1]⟩
set_option maxHeartbeats 4000000 in
theorem ins69_grow (b off n c i vb voff vc : Nat) (cs : List Value) (v : Value) (w : World) (hi : i < n) (hnc : n ≤ c) (hroom : c < n + 1) (hbig : (n + 1) * 8 ≤ 140737488355328) (hcl : cs.length = n)
    (hcs : ∀ j v, cs[j]? = some v → w.cell? ⟨b, off + j, none⟩ = some v) (hvs : w.cell? ⟨vb, voff, none⟩ = some v) (h1c : ∀ v ∈ cs, v.oneCell' = true) (h1v : v.oneCell' = true) :
    Calls PI 69 #[.slice (some ⟨b, off, none⟩) n c, .int .i64 i, .slice (some ⟨vb, voff, none⟩) 1 vc] w fun e w' => ∃ D : Array Value, n + 1 + D.size = grownCap w (n + 1) c 2 ∧
      e = .returned (.slice (some ⟨w.heap.size, 0, none⟩) (n + 1) (grownCap w (n + 1) c 2)) ∧
      w' = (((w.alloc (.cells ((cs.take i).toArray ++ Builtin.zeroCells ((Value.int IntKind.i64 0)).cells (n + 1 - i) ++ D) 2)).drew.setCells w.heap.size i [v]).drew).setCells w.heap.size (i + 1) (cs.drop i) := by
  have ut := run_underlying Go.Proofs.Try.underlying23
  have ue := run_underlying Go.Proofs.Try.underlying2
  have u3 := run_underlying Go.Proofs.Try.underlying3
  have u4 := run_underlying Go.Proofs.Try.underlying4
  have mixed := mixI
  obtain ⟨i0, hi0, hz0, hzs, hzb⟩ := info_parts inf2
  have hsz : (PI.info? 2).map (·.size) = some 1 := by rw [hi0]; simp [hzs]
  have hdl : (cs.drop i).length = n - i := by rw [List.length_drop, hcl]
  have hbw : b < w.heap.size := block_lt_of_cell (hcs 0 _ (List.getElem?_eq_getElem (by omega)))
  have hvw : vb < w.heap.size := block_lt_of_cell hvs
  have hbN : b ≠ w.heap.size := by omega
  have hG1 : n + 1 ≤ grownCap w (n + 1) c 2 := grownCap_ge w _ _ _
  have hG2 := grownCap_le_maxLen w (n + 1) c 2 (by unfold maxLen; omega)
  have hz : (Builtin.zeroCells ((Value.int IntKind.i64 0)).cells (grownCap w (n + 1) c 2 - (n + 1))).size = grownCap w (n + 1) c 2 - (n + 1) := by simp [Builtin.zeroCells, Value.cells]
  -- the new row
  have row : ∀ ty, (Builtin.append_ #[23, 3] ty #[.slice (some ⟨b, off, none⟩) i c, .int .i64 ((n : Int) + 1 - (i : Int))]).run PI w =
      .ok (.slice (some ⟨w.heap.size, 0, none⟩) (n + 1) (grownCap w (n + 1) c 2)) (w.drew.alloc (.cells ((cs.take i).toArray ++ Builtin.zeroCells ((Value.int IntKind.i64 0)).cells (n + 1 - i) ++ Builtin.zeroCells ((Value.int IntKind.i64 0)).cells (grownCap w (n + 1) c 2 - (n + 1))) 2)) := fun ty => by
    have hold : (Builtin.firstCells i0.size i (.slice (some ⟨b, off, none⟩) i c)).run PI w.drew = .ok (cs.take i).toArray w.drew := by
      rw [hzs]
      refine run_firstCells_some w.drew 1 i ⟨b, off, none⟩ i c (cs.take i) (by rw [List.length_take]; omega) (fun j x hj => ?_)
      rw [Addr.add_lit]
      rw [List.getElem?_take] at hj
      split at hj
      · exact hcs j x hj
      · cases hj
    have hik : i + (n + 1 - i) = n + 1 := by omega
    have h := Lib.run_append_grow_zeros w 23 3 ty 2 i0 _ .i64 .i64 Go.Proofs.Try.underlying23 Go.Proofs.Try.underlying3 hi0 hz0 (some ⟨b, off, none⟩) i c (cs.take i) hold (n + 1 - i) (by omega) (by omega) (by omega) (by omega) (by rw [hzb]; omega) (by rw [hzb, hik]; exact growslice_fits hroom hbig)
    rw [hik] at h
    rw [show (n : Int) + 1 - (i : Int) = ((n + 1 - i : Nat) : Int) by omega]
    exact h
  refine Calls.mono ?_ (fun e w' h => ⟨_, by rw [hz]; omega, h⟩)
  generalize Builtin.zeroCells ((Value.int IntKind.i64 0)).cells (grownCap w (n + 1) c 2 - (n + 1)) = D at row hz ⊢
  generalize grownCap w (n + 1) c 2 = G at row hz hG1 hG2 ⊢
  obtain ⟨R, hR⟩ : ∃ R : Array Value, R = (cs.take i).toArray ++ Builtin.zeroCells ((Value.int IntKind.i64 0)).cells (n + 1 - i) ++ D := ⟨_, rfl⟩
  rw [← hR] at row ⊢
  have hRl : n + 1 ≤ R.size := by
    rw [hR]
    simp [Builtin.zeroCells, Value.cells]
    omega
  obtain ⟨W1, hW1⟩ : ∃ W1, W1 = w.drew.alloc (.cells R 2) := ⟨_, rfl⟩
  rw [← hW1] at row
  have new1 : ∀ j, j < n + 1 → (W1.cell? ⟨w.heap.size, j, none⟩).isSome = true := fun j hj => by
    rw [hW1, World.cell?_alloc_at (w := w.drew) R _ w.heap.size j rfl, Array.getElem?_eq_getElem (by omega)]; rfl
  have new2 : ∀ j, W1.frozen? ⟨w.heap.size, j, none⟩ = false := fun j => by rw [hW1]; exact World.frozen?_alloc_at (w := w.drew) R _ w.heap.size j rfl
  have old1 : ∀ j x, w.cell? ⟨b, j, none⟩ = some x → W1.cell? ⟨b, j, none⟩ = some x := fun j x h => by rw [hW1, World.cell?_alloc_past (w := w.drew) _ b j hbw]; exact h
  have old2 : W1.cell? ⟨vb, voff, none⟩ = some v := by rw [hW1, World.cell?_alloc_past (w := w.drew) _ vb voff hvw]; exact hvs
  have cpA : ∀ (W : World), (∀ x, W.cell? x = W1.cell? x) → (∀ x, W.frozen? x = W1.frozen? x) → ∀ ty dc, (Builtin.copy_ #[23, 23] ty #[.slice (some ⟨w.heap.size, i, none⟩) (n + 1 - i) dc, .slice (some ⟨vb, voff, none⟩) 1 vc]).run PI W = .ok (goInt ([v] : List Value).length) (W.setCells w.heap.size i [v]) := fun W hWc hWf ty dc =>
    run_copy_cells W _ _ ty 2 w.heap.size i (n + 1 - i) dc ⟨vb, voff, none⟩ 1 vc [v] Go.Proofs.Try.underlying23 hsz (by simp only [Nat.min_def, List.length_singleton]; split <;> omega)
      (fun j x hj => by
        cases j with
        | zero =>
          simp only [List.getElem?_cons_zero, Option.some.injEq] at hj
          subst hj
          rw [Addr.add_lit, hWc]
          exact old2
        | succ j => simp at hj)
      (fun j hj => by
        obtain rfl : j = 0 := by simpa using hj
        rw [hWc]
        exact new1 _ (by omega))
      (fun j hj => by rw [hWf]; exact new2 _) (by simpa using h1v)
  have cpB : ∀ (W : World), (∀ x, W.cell? x = (W1.setCells w.heap.size i [v]).cell? x) → (∀ x, W.frozen? x = (W1.setCells w.heap.size i [v]).frozen? x) → ∀ ty dc sc, (Builtin.copy_ #[23, 23] ty #[.slice (some ⟨w.heap.size, i + 1, none⟩) (n - i) dc, .slice (some ⟨b, off + i, none⟩) (n - i) sc]).run PI W = .ok (goInt (cs.drop i).length) (W.setCells w.heap.size (i + 1) (cs.drop i)) := fun W hWc hWf ty dc sc =>
    run_copy_cells W _ _ ty 2 w.heap.size (i + 1) (n - i) dc ⟨b, off + i, none⟩ (n - i) sc (cs.drop i) Go.Proofs.Try.underlying23 hsz (by rw [hdl]; simp only [Nat.min_def]; split <;> omega)
      (fun j x hj => by
        rw [Addr.add_lit, hWc, World.cell?_setCells_out _ _ _ _ _ (fun h _ => absurd h hbN), Nat.add_assoc]
        rw [List.getElem?_drop] at hj
        exact old1 _ x (hcs (i + j) x hj))
      (fun j hj => by rw [hWc]; exact isSome_setCells _ _ _ _ (fun t ht => new1 _ (by simp at ht; omega)) _ (new1 _ (by omega)))
      (fun j hj => by rw [hWf, World.frozen?_setCells]; exact new2 _) (fun x hx => h1c x (List.mem_of_mem_drop hx))
  subst hW1
  have q1 : ∀ x, ((w.alloc (.cells R 2)).drew).cell? x = (w.drew.alloc (.cells R 2)).cell? x := fun x => rfl
  have q2 : ∀ x, ((w.alloc (.cells R 2)).drew).frozen? x = (w.drew.alloc (.cells R 2)).frozen? x := fun x => rfl
  have q3 : ∀ x, (((w.alloc (.cells R 2)).drew.setCells w.heap.size i [v]).drew).cell? x = ((w.drew.alloc (.cells R 2)).setCells w.heap.size i [v]).cell? x := fun x => rfl
  have q4 : ∀ x, (((w.alloc (.cells R 2)).drew.setCells w.heap.size i [v]).drew).frozen? x = ((w.drew.alloc (.cells R 2)).setCells w.heap.size i [v]).frozen? x := fun x => rfl
  have e1 : IntKind.i64.wrap ((i : Int) + 1) = (i : Int) + 1 := by rw [IntKind.wrap_i64]; omega
  have e2 : (0 : Int) ≤ (i : Int) + 1 := by omega
  have e3 : ((i : Int) + 1).toNat = i + 1 := by omega
  have e4 : (i : Int) ≤ (n : Int) := by omega
  have e5 : ¬ G = i + 1 := by omega
  have e6 : ¬ G = i := by omega
  have e7 : ¬ (i : Int) = (n : Int) := by omega
  have e8 : i ≤ n := by omega
  have e9 : ¬ c = i := by omega
  have e10 : (c : Int) < (n : Int) + 1 := by omega
  unfold maxLen at hG2
  clear hR hRl new1 new2 old1 old2
  go_enter Go.Proofs.Try.func69, Go.Proofs.Try.ntmps69
  go_wp2_with (first
    | (at_builtin; refine Lib.wpList_append_run _ rfl _ _ _ _ rfl _ _ rfl rfl _ _ (row _) ?_)
    | (at_builtin; refine wpList_copy_runI _ rfl _ _ 23 23 rfl _ _ rfl rfl (cpA _ q1 q2 _ _) ?_)
    | (at_builtin; refine wpList_copy_runI _ rfl _ _ 23 23 rfl _ _ rfl rfl (cpB _ (fun _ => rfl) (fun _ => rfl) _ _ _) ?_))
  go_region_law_o (refine step_copy_runI rfl _ _ 23 23 rfl (.slice (some ⟨w.heap.size, i + 1, none⟩) (n - i) (G - (i + 1))) (.slice (some ⟨b, off + i, none⟩) (n - i) (c - i)) (by simp [Act.eval, Act.put]) (by simp [Act.eval, Act.put]) (cpB _ q3 q4 3 (G - (i + 1)) (c - i)) ?_)
  go_wp2
  go_ret
  exact ⟨rfl, rfl⟩
theorem law69 : InsLaw PI 69 2 where
  fn := ⟨_, Go.Proofs.Try.func69, by kernel_rfl, by kernel_rfl⟩
  room := fun b off n c vb voff vc v w h1 h2 h3 h4 h5 h6 => ins69_room b off n c vb voff vc v w h1 h2 h3 h4 h5 h6
  end_ := fun base n c vb voff vc cs v w h1 h2 h3 h4 h5 h6 h7 h8 => by
    refine (ins69_end base n c vb voff vc cs v w h1 h2 (by unfold limN at h3; omega) h4 h5 h6 h7 h8).mono fun e w' h => ?_
    obtain ⟨rfl, rfl⟩ := h
    have hG := grownCap_ge w (n + 1) c 2
    refine ⟨_, (Builtin.zeroCells ((Value.int IntKind.i64 0)).cells (grownCap w (n + 1) c 2 - (n + 1))).toList, ?_, rfl, ?_⟩
    · rw [Array.length_toList]
      simp [Builtin.zeroCells, Value.cells]
      omega
    · congr 2
      apply Array.ext'
      simp
  shift := fun b off n c i vb voff vc cs v w h1 h2 h3 h4 h5 h6 h7 h8 h9 h10 h11 tA tB kA kB h12 h13 h14 h15 h16 => ins69_shift b off n c i vb voff vc cs v w h1 h2 h3 h4 h5 h6 h7 h8 h9 h10 h11 tA tB kA kB h12 h13 h14 h15 h16
  grow := fun b off n c i vb voff vc cs v w h1 h2 h3 h4 h5 h6 h7 h8 h9 => by
    refine (ins69_grow b off n c i vb voff vc cs v w h1 h2 h3 (by unfold limN at h4; omega) h5 h6 h7 h8 h9).mono fun e w' h => ?_
    obtain ⟨D, hD, rfl, rfl⟩ := h
    have hG := grownCap_ge w (n + 1) c 2
    refine ⟨_, _, hG, ?_, ?_, rfl, rfl⟩
    · simp [Builtin.zeroCells, Value.cells]
      omega
    · intro j hj
      rw [Array.append_assoc, Array.getElem?_append_left (by simp; omega)]
      simp [hj]

theorem insOk : Sound PI (insP [68, 69]) := insP_sound fun f hf => by
  simp only [List.mem_cons, List.not_mem_nil, or_false] at hf
  rcases hf with rfl | rfl
  · exact ⟨_, law68⟩
  · exact ⟨_, law69⟩

end Go.Proofs.Ytjhnlgelcfplaaa.R
