/- slices.Delete of some elements. -/
import Derived.Test.YtefjblgmnoheiaaRTab
import Derived.Test.YtefjblgmnoheiaaProg
import Derived.Shelf.Spec.SlicesInsert
import Derived.Lib.AppendZerosOnto
import Derived.Laws.NewBlocks
import Derived.Deep.RegionLaw
set_option linter.unusedVariables false
set_option linter.unusedSectionVars false
set_option linter.unusedSimpArgs false
noncomputable section
namespace Go.Proofs.Ytefjblgmnoheiaa.R
open Go
/-- What a function that takes elements away answers: the slice is shorter, in its own memory. -/
def delAV (s : St) (base : AV) (i j : Int) : Option (AV × St) :=
  match base with
  | .own es id off len _ =>
    match lk s.H id with
    | some (.arr es2 rows leak) =>
      if es2 = es ∧ 0 < es ∧ off = 0 ∧ 0 ≤ i ∧ i < j ∧ j.toNat ≤ len ∧ len ≤ rows.length ∧ leak ≤ i.toNat ∧ len ≤ limN then
        match upd s.H id (.arr es ((rows.take len).take i.toNat ++ (rows.take len).drop j.toNat) leak) with
        | some H => some (.own es id 0 (len - (j.toNat - i.toNat)) false, s.setH H)
        | none => none
      else none
    | _ => none
  | _ => none
/-- What is asked of such a function, at elements of so many cells. -/
structure DelLaw (P : Program) (f es : Nat) : Prop where
  fn : ∃ fn, P.funcs[f]? = some fn ∧ (fn.name == "runtime.NumGoroutine") = false ∧ fn.body.isNone = false
  run : ∀ (b n c i j k : Nat) (cs : List Value) (w : World), i < j → j ≤ n → n ≤ c → n ≤ limN → cs.length = n * es → (∀ q v, cs[q]? = some v → w.cell? ⟨b, q, none⟩ = some v) → (∀ q, q ≤ n * es → w.frozen? ⟨b, q, none⟩ = false) → (∀ v ∈ cs, v.oneCell' = true) → (∃ t, w.shape? b = some (t, k)) → n * es ≤ k →
    Calls P f #[.slice (some ⟨b, 0, none⟩) n c, .int .i64 i, .int .i64 j] w fun e w' => e = .returned (.slice (some ⟨b, 0, none⟩) (n - (j - i)) c) ∧ ∃ Z : List Value, Z.length = (j - i) * es ∧ w' = (w.drew.setCells b (i * es) (cs.drop (j * es))).setCells b ((n - (j - i)) * es) Z
section
variable {P : Program} {f : Nat} {w : World} {A : Nat → Nat → Prop} {ρ : Rho}
theorem del_list {C : Array Value} {es len i j : Nat} {Z : List Value} (hij : i < j) (hj : j ≤ len) (hl : len * es ≤ C.size) (hZ : Z.length = (j - i) * es) :
    ∃ T, (putV (putV C (i * es) ((C.toList.take (len * es)).drop (j * es))) ((len - (j - i)) * es) Z).toList = (C.toList.take (len * es)).take (i * es) ++ (C.toList.take (len * es)).drop (j * es) ++ T := by
  have hcl : C.toList.length = C.size := by simp
  have m1 : i * es ≤ j * es := Nat.mul_le_mul_right _ (by omega)
  have m2 : j * es ≤ len * es := Nat.mul_le_mul_right _ hj
  have m3 : (len - (j - i)) * es = len * es - j * es + i * es := by
    rw [← Nat.sub_mul, ← Nat.add_mul]
    congr 1
    omega
  have m4 : (j - i) * es = j * es - i * es := Nat.sub_mul _ _ _
  rw [m4] at hZ
  rw [m3]
  generalize i * es = I at *
  generalize j * es = J at *
  generalize len * es = N at *
  have hd : ((C.toList.take N).drop J).length = N - J := by rw [List.length_drop, List.length_take]; omega
  have ht : ((C.toList.take N).take I).length = I := by rw [List.length_take, List.length_take]; omega
  refine ⟨Z ++ C.toList.drop N, ?_⟩
  apply List.ext_getElem?
  intro k
  rw [Array.getElem?_toList, putV_get, putV_get, putV_size, hd, hZ]
  by_cases h1 : k < I
  · rw [if_neg (by omega), if_neg (by omega), List.append_assoc, List.getElem?_append_left (by omega), List.getElem?_take, if_pos h1, List.getElem?_take, if_pos (by omega), Array.getElem?_toList]
  · by_cases h2 : k < N - J + I
    · rw [if_neg (by omega), if_pos (by omega), List.append_assoc, List.getElem?_append_right (by omega), ht, List.getElem?_append_left (by omega)]
    · by_cases h3 : k < N
      · rw [if_pos (by omega), List.getElem?_append_right (by rw [List.length_append, ht, hd]; omega), List.length_append, ht, hd, List.getElem?_append_left (by omega)]
        congr 1
        omega
      · rw [if_neg (by omega), if_neg (by omega), List.getElem?_append_right (by rw [List.length_append, ht, hd]; omega), List.length_append, ht, hd, List.getElem?_append_right (by omega), List.getElem?_drop, Array.getElem?_toList]
        congr 1
        omega
theorem snd_del {es0 : Nat} (L : DelLaw P f es0) {s s' : St} (hr : Rep A ρ s.H s.nx w) {y v : AV} {i j : Int} {Y : Value} (hy : VR w (UU A ρ s.H) ρ y Y) (h : delAV s y i j = some (v, s')) (hes : ∀ es id off len ex, y = .own es id off len ex → es = es0) :
    Calls P f #[Y, .int .i64 i, .int .i64 j] w (PostE A ρ s w v s') := by
  unfold delAV at h
  split at h
  · rename_i es id off len ex
    obtain rfl := hes _ _ _ _ _ rfl
    split at h
    · rename_i es2 rows leak hid
      split at h
      · rename_i hc
        obtain ⟨rfl, hz, rfl, hi0, hij, hjl, hle, hleak, hlim⟩ := hc
        split at h
        · rename_i H hup
          simp only [Option.some.injEq, Prod.mk.injEq] at h
          obtain ⟨rfl, rfl⟩ := h
          obtain ⟨i, rfl⟩ : ∃ i' : Nat, i = i' := ⟨i.toNat, by omega⟩
          obtain ⟨j, rfl⟩ : ∃ j' : Nat, j = j' := ⟨j.toNat, by omega⟩
          simp only [Int.toNat_natCast] at hjl hleak hup ⊢
          have hij : i < j := by omega
          simp only [VR] at hy
          obtain ⟨B, c, rfl, g1, g2, g3⟩ := hy
          rcases g3 with ⟨h0, rfl⟩ | ⟨b, C, e, fr, g4, rfl, g5, g6⟩
          · omega
          obtain ⟨_, q2, C', e', fr', q3, q4, q5⟩ := hr.ob id _ b es2 hid g4
          rw [g5] at q3
          simp only [Option.some.injEq, Obj.cells.injEq] at q3
          obtain ⟨rfl, rfl, rfl⟩ := q3
          simp only [Nat.zero_add, Nat.zero_mul] at g6 ⊢
          have hcl : C.toList.length = C.size := by simp
          have hsz : len * es2 ≤ C.size := Nat.le_trans (Nat.mul_le_mul_right _ g1) g6
          have m1 : i * es2 ≤ j * es2 := Nat.mul_le_mul_right _ (by omega)
          have m2 : j * es2 ≤ len * es2 := Nat.mul_le_mul_right _ hjl
          have mk : leak * es2 ≤ i * es2 := Nat.mul_le_mul_right _ hleak
          have hol : (C.toList.take (len * es2)).length = len * es2 := by rw [List.length_take]; omega
          have hcs : ∀ q u, (C.toList.take (len * es2))[q]? = some u → w.cell? ⟨b, q, none⟩ = some u := by
            intro q u hq
            rw [List.getElem?_take] at hq
            split at hq
            · rw [cell_of_block g5, ← Array.getElem?_toList]; exact hq
            · cases hq
          have hrl : (rows.take len).length = len := by rw [List.length_take]; omega
          have hA1 : ARs w (UU A ρ s.H) es2 (rows.take len) (C.toList.take (len * es2)) := ARs_take (ARs_head q5 len) (by rw [hrl]; omega)
          have hones : ∀ u ∈ C.toList.take (len * es2), u.oneCell' = true := fun u hu => oneCell_of_oneB (ARs_one hA1 (by rw [hol, hrl]) u hu)
          refine (L.run b len c i j C.size (C.toList.take (len * es2)) w hij hjl g1 hlim hol hcs (fun q hq => frozen_of_block g5 q4 (by omega)) hones ⟨e, by simp [World.shape?, g5]⟩ hsz).mono fun e' w' hh => ?_
          obtain ⟨rfl, Z, hZ, rfl⟩ := hh
          obtain ⟨t1, t2, t3, t4, t5, t6⟩ := setCells_heap b e fr ((C.toList.take (len * es2)).drop (j * es2)) (i * es2) w.drew C g5
          obtain ⟨u1, u2, u3, u4, u5, u6⟩ := setCells_heap b e fr Z ((len - (j - i)) * es2) _ _ t1
          obtain ⟨T, hT⟩ := del_list (Z := Z) hij hjl hsz hZ
          have hd : ((C.toList.take (len * es2)).drop (j * es2)).length = len * es2 - j * es2 := by rw [List.length_drop, hol]
          have m3 : (len - (j - i)) * es2 = len * es2 - j * es2 + i * es2 := by
            rw [← Nat.sub_mul, ← Nat.add_mul]
            congr 1
            omega
          have m4 : (j - i) * es2 = j * es2 - i * es2 := Nat.sub_mul _ _ _
          have hwrite : ∀ o, ¬ wrOb es2 o (.arr es2 rows leak) → (putV (putV C (i * es2) ((C.toList.take (len * es2)).drop (j * es2))) ((len - (j - i)) * es2) Z)[o]? = C[o]? := by
            intro o ho
            simp only [wrOb] at ho
            rw [putV_get, if_neg, putV_get, if_neg]
            · rintro ⟨a1, a2, a3⟩
              exact ho (by omega)
            · rintro ⟨a1, a2, a3⟩
              exact ho (by omega)
          have hH1 : ∀ k, lk H k = if k = id then some (.arr es2 ((rows.take len).take i ++ (rows.take len).drop j) leak) else lk s.H k := fun k => lk_upd hup k
          obtain ⟨hfr, hrep⟩ := blk_update (H' := H) (ob' := .arr es2 ((rows.take len).take i ++ (rows.take len).drop j) leak) hr hid g4 g5 u1 (fun k hk => (u2 k hk).trans (t2 k hk)) (u3.trans t3) (u4.trans t4) (u5.trans t5) (u6.trans t6) (by rw [putV_size, putV_size]) hwrite hH1 (by intro o; simp only [wrOb]; exact fun h => h)
          have hrep1 := hrep ⟨rfl, hz, _, e, fr, u1, by rw [putV_size, putV_size]; exact q4, by
            rw [hT]
            have a1 := ARs_mono hfr.stay hA1
            have a2 := ARs_append (ARs_take (k := i * es2) (ARs_head a1 i) (by rw [List.length_take, hrl]; exact Nat.mul_le_mul_right _ (by omega))) (by rw [List.length_take, hol, List.length_take, hrl, Nat.min_eq_left (by omega), Nat.min_eq_left (by omega)]) (ARs_drop a1 j)
            exact ARs_app a2⟩
          refine ⟨rfl, rfl, ρ, hrep1, ?_, Ext2.refl _ _, hfr⟩
          simp only [VR]
          refine ⟨_, c, rfl, by omega, by simp, .inr ⟨b, _, e, fr, g4, by simp, u1, by rw [putV_size, putV_size]; simpa using g6⟩⟩
        · cases h
      · cases h
    · cases h
  · cases h
/-- Functions that take elements away, for the evaluator. -/
def delP (fs : List (Nat × Nat)) : Callee := fun f args H m =>
  match args with
  | [.own es id off len ex, .int .i64 i, .int .i64 j] =>
    if fs.contains (f, es) = true then
      match delAV ⟨[], [], H, m⟩ (.own es id off len ex) i j with
      | some (v, s') => some (v, s'.H, s'.nx)
      | none => none
    else none
  | _ => none
theorem delP_sound {fs : List (Nat × Nat)} (h : ∀ p ∈ fs, DelLaw P p.1 p.2) : Sound P (delP fs) := by
  refine ⟨clnOk P, fun {f args H m r} hx => ?_, fun {f args H m r H' n'} hx A ρ w xs hr hv => ?_⟩
  · unfold delP at hx
    split at hx
    · split at hx
      · rename_i hf
        exact (h _ (by simpa using hf)).fn
      · cases hx
    · cases hx
  · unfold delP at hx
    split at hx
    · rename_i es id off len ex i j
      split at hx
      · rename_i hf
        have hL := h _ (by simpa using hf)
        split at hx
        · rename_i v s' hi
          simp only [Option.some.injEq, Prod.mk.injEq] at hx
          obtain ⟨rfl, rfl, rfl⟩ := hx
          simp only [VRs] at hv
          obtain ⟨Y, r1, e1, v1, I, r2, e2, v2, J, r3, e3, v3, e4⟩ := hv
          simp only [VR] at v2 v3
          subst e4 e3 e2 v2 v3
          have : xs = #[Y, .int .i64 i, .int .i64 j] := by
            apply Array.ext'
            rw [e1]
          subst this
          refine (snd_del hL (s := ⟨[], [], H, m⟩) hr v1 hi (fun es' id' off' len' ex' e => by cases e; rfl)).mono fun e w' hp => ?_
          cases e with
          | returned x' =>
            obtain ⟨_, _, ρ', p1, p2, p3, p4⟩ := hp
            exact ⟨ρ', p1, p2, p3, p4⟩
          | _ => exact hp.elim
        · cases hx
      · cases hx
    · cases hx
end
end Go.Proofs.Ytefjblgmnoheiaa.R

/- slices.Delete of subscriptions, on the machine. -/
set_option linter.unusedVariables false
set_option linter.unusedSimpArgs false
set_option maxRecDepth 100000
namespace Go.Proofs.Ytefjblgmnoheiaa.R
open Go Go.Shelf Go.RowKit Go.Lib
noncomputable abbrev PI : Program := Go.Proofs.Try.prog
theorem mixI : (PI).follows .mixedOrders = true := by kernel_rfl
noncomputable abbrev zS : Value := .agg #[.int .i64 0, .int .i64 0, .int .i64 0, .string ⟨#[]⟩, .int .i64 0, .int .i64 0]
theorem infS : (PI.info? 45).map (fun i => (i.zero, i.size)) = some (some zS, 6) := by kernel_rfl
theorem clearS (w : World) (ty : TypeId) (b o m c : Nat) (hm : 0 < m) (hc : ∀ j, j < m * 6 → (w.cell? ⟨b, o + j, none⟩).isSome = true) (hf : ∀ j, j < m * 6 → w.frozen? ⟨b, o + j, none⟩ = false) :
    (Builtin.clear_ #[23] ty #[.slice (some ⟨b, o, none⟩) m c]).run PI w = .ok (.tuple #[]) (w.setCells b o (Builtin.zeroCells zS.cells m).toList) := by
  have ut := run_underlying (w := w) Go.Proofs.Try.underlying23
  obtain ⟨i, hi, hzz⟩ := Option.map_eq_some_iff.1 infS
  simp only [Prod.mk.injEq] at hzz
  have hlen : (Builtin.zeroCells zS.cells m).toList.length = m * 6 := by simp [Builtin.zeroCells, Value.cells]
  have hz : (zeroValue 45).run PI w = .ok zS w := by
    simp [zeroValue, typeInfo, hi, hzz.1, Sem.run_bind]
  have hst := run_storeCells_cells (P := PI) b o (Builtin.zeroCells zS.cells m).toList 0 w (by simpa [hlen] using hc) (by simpa [hlen] using hf) (by
    intro v hv
    simp only [Builtin.zeroCells, Array.toList_map, List.mem_map] at hv
    obtain ⟨q, _, rfl⟩ := hv
    have : q % zS.cells.size < 6 := Nat.mod_lt _ (by decide)
    generalize q % zS.cells.size = r at *
    match r, this with
    | 0, _ => rfl
    | 1, _ => rfl
    | 2, _ => rfl
    | 3, _ => rfl
    | 4, _ => rfl
    | 5, _ => rfl)
  simp only [Nat.add_zero] at hst
  obtain ⟨m, rfl⟩ : ∃ k, m = k + 1 := ⟨m - 1, by omega⟩
  simp [Builtin.clear_, ut, hz, hst]
set_option maxHeartbeats 4000000 in
theorem del67 (b n c i j k : Nat) (cs : List Value) (w : World) (hij : i < j) (hjn : j ≤ n) (hnc : n ≤ c) (hlim : n ≤ 549755813888) (hcl : cs.length = n * 6)
    (hcs : ∀ q v, cs[q]? = some v → w.cell? ⟨b, q, none⟩ = some v) (hfz : ∀ q, q ≤ n * 6 → w.frozen? ⟨b, q, none⟩ = false) (h1 : ∀ v ∈ cs, v.oneCell' = true) (hsh : ∃ t, w.shape? b = some (t, k)) (hk : n * 6 ≤ k) :
    Calls PI 67 #[.slice (some ⟨b, 0, none⟩) n c, .int .i64 i, .int .i64 j] w fun e w' => e = .returned (.slice (some ⟨b, 0, none⟩) (n - (j - i)) c) ∧ ∃ Z : List Value, Z.length = (j - i) * 6 ∧ w' = (w.drew.setCells b (i * 6) (cs.drop (j * 6))).setCells b ((n - (j - i)) * 6) Z := by
  have ut := run_underlying Go.Proofs.Try.underlying23
  have ue := run_underlying Go.Proofs.Try.underlying45
  have u3 := run_underlying Go.Proofs.Try.underlying3
  have u4 := run_underlying Go.Proofs.Try.underlying4
  have mixed := mixI
  obtain ⟨i0, hi0, hzz⟩ := Option.map_eq_some_iff.1 infS
  simp only [Prod.mk.injEq] at hzz
  have hsz := hzz.2
  have hdl : (cs.drop (j * 6)).length = (n - j) * 6 := by rw [List.length_drop, hcl]; omega
  obtain ⟨A, hA, hnews⟩ : ∃ A : Addr, (if c = j then some (⟨b, 0, none⟩ : Addr) else some ⟨b, j * 6, none⟩) = some A ∧ Hid (∀ q u, (cs.drop (j * 6))[q]? = some u → w.drew.cell? (A.add q) = some u) := by
    by_cases h : c = j
    · refine ⟨⟨b, 0, none⟩, by simp [h], fun q u hu => ?_⟩
      have h0 : (cs.drop (j * 6)).length = 0 := by rw [hdl]; omega
      rw [List.length_eq_zero_iff.1 h0] at hu
      simp at hu
    · refine ⟨⟨b, j * 6, none⟩, by simp [h], fun q u hu => ?_⟩
      rw [List.getElem?_drop] at hu
      rw [Addr.add_lit]
      exact hcs _ u hu
  have s1 : Hid ((cs.drop (j * 6)).length = (n - j) * 6) := hdl
  have s2 : Hid (∀ u ∈ cs.drop (j * 6), u.oneCell' = true) := fun u hu => h1 u (List.mem_of_mem_drop hu)
  have some1 : ∀ q, q < n * 6 → (w.cell? ⟨b, q, none⟩).isSome = true := fun q hq => by rw [hcs q _ (List.getElem?_eq_getElem (by omega))]; rfl
  have s3 : Hid (∀ q, q < (cs.drop (j * 6)).length → (w.drew.cell? ⟨b, 0 + i * 6 + q, none⟩).isSome = true ∧ w.drew.frozen? ⟨b, 0 + i * 6 + q, none⟩ = false) := by
    intro q hq
    rw [hdl] at hq
    rw [Nat.zero_add]
    exact ⟨some1 _ (by omega), hfz _ (by omega)⟩
  have hm : n - (i + (n - j)) = j - i := by omega
  have hclear : Hid (∀ ty cc, (Builtin.clear_ #[23] ty #[.slice (some ⟨b, (i + (n - j)) * 6, none⟩) (j - i) cc]).run PI (w.drew.setCells b (i * 6) (cs.drop (j * 6))) = .ok (.tuple #[]) ((w.drew.setCells b (i * 6) (cs.drop (j * 6))).setCells b ((i + (n - j)) * 6) (Builtin.zeroCells zS.cells (j - i)).toList)) := by
    intro ty cc
    refine clearS _ ty b _ _ cc (by omega) (fun q hq => ?_) (fun q hq => ?_)
    · exact isSome_setCells b _ _ _ (fun q hq => by rw [hdl] at hq; exact some1 _ (by omega)) _ (some1 _ (by omega))
    · rw [World.frozen?_setCells]
      exact hfz _ (by omega)
  have e1 : (0 : Int) ≤ (i : Int) := by omega
  have e2 : (i : Int) ≤ (j : Int) := by omega
  have e3 : ¬ (i : Int) = (j : Int) := by omega
  have e4 : (j : Int) ≤ (n : Int) := by omega
  have e5 : (n : Int) ≤ (c : Int) := by omega
  have e6 : i ≤ j := by omega
  have e7 : i ≤ c := by omega
  have e8 : j ≤ c := by omega
  have e9 : ¬ c = i + (n - j) := by omega
  have e10 : i + (n - j) ≤ n := by omega
  have e11 : ((i + (n - j) : Nat) : Int) ≤ (n : Int) := by omega
  have e12 : (i : Int) + ((n - j : Nat) : Int) ≤ (n : Int) := by omega
  have fin : n - (j - i) = i + (n - j) := by omega
  have hZ : (Builtin.zeroCells zS.cells (j - i)).toList.length = (j - i) * 6 := by simp [Builtin.zeroCells, Value.cells]
  clear hcs hfz h1 some1
  go_enter Go.Proofs.Try.func67, Go.Proofs.Try.ntmps67
  go_wp2_with fail
  go_region_law (refine step_append_room rfl (.tmp 22) (.tmp 25) 23 rfl 45 i0 6 Go.Proofs.Try.underlying23 hi0 hsz b 0 i c (by simp [Act.eval, Act.put]) A (n - j) (c - j) (cs.drop (j * 6)) (by simp [Act.eval, Act.put, hA]) s1.out hnews.out s2.out (by omega) s3.out ?_)
  all_goals go_wp2_with (simp only [hclear.out])
  all_goals (try go_ret)
  all_goals exact ⟨by rw [fin]; rfl, _, hZ, by rw [fin]; rfl⟩
theorem delLaw67 : DelLaw PI 67 6 :=
  ⟨⟨_, Go.Proofs.Try.func67, by kernel_rfl, by kernel_rfl⟩, fun b n c i j k cs w a1 a2 a3 a4 a5 a6 a7 a8 a9 a10 => del67 b n c i j k cs w a1 a2 a3 a4 a5 a6 a7 a8 a9 a10⟩
theorem delOk : Sound PI (delP [(67, 6)]) := delP_sound fun p hp => by
  simp only [List.mem_singleton] at hp
  subst hp
  exact delLaw67
end Go.Proofs.Ytefjblgmnoheiaa.R

