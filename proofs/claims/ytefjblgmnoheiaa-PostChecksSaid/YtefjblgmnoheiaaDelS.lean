/- slices.Delete of subscriptions, on the machine. -/
import Derived.Test.YtefjblgmnoheiaaProg
import Derived.Test.YtefjblgmnoheiaaRDel
import Derived.Shelf.Spec.SlicesInsert
import Derived.Lib.AppendZerosOnto
import Derived.Laws.NewBlocks
import Derived.Deep.RegionLaw
set_option linter.unusedVariables false
set_option linter.unusedSimpArgs false
set_option maxRecDepth 100000
namespace Go.Proofs.Ytefjblgmnoheiaa.R
open Go Go.Shelf Go.RowKit Go.Lib
noncomputable abbrev PI : Program := Go.Proofs.Try.prog
theorem mixI : (PI).follows .mixedOrders = true := by kernel_rfl
noncomputable abbrev zS : Value := .agg #[.int .i64 0, .int .i64 0, .int .i64 0, .string ⟨#[]⟩, .int .i64 0, .int .i64 0]
theorem infS : (PI.info? 45).map (fun i => (i.zero, i.size)) = some (some zS, 6) := by kernel_rfl
theorem clearS (w : World) (ty : TypeId) (b o m c : Nat) (hm : 0 < m) (hc : ∀ j, j < m * 6 → (w.cell? ⟨b, o + j, none⟩).isSome = true) (hf : ∀ j, j < m * 6 → w.frozen? ⟨b, o + j, none⟩ = false) :
    (Builtin.clear_ #[23] ty #[.slice (some ⟨b, o, none⟩) m c]).run PI w = .ok (.tuple #[]) (w.setCells b o (Builtin.zeroCells zS.cells m).toList) := by
  have ut := run_underlying (w := w) Go.Proofs.Try.underlying23
  obtain ⟨i, hi, hzz⟩ := Option.map_eq_some_iff.1 infS
  simp only [Prod.mk.injEq] at hzz
  have hlen : (Builtin.zeroCells zS.cells m).toList.length = m * 6 := by simp [Builtin.zeroCells, Value.cells]
  have hz : (zeroValue 45).run PI w = .ok zS w := by
    simp [zeroValue, typeInfo, hi, hzz.1, Sem.run_bind]
  have hst := run_storeCells_cells (P := PI) b o (Builtin.zeroCells zS.cells m).toList 0 w (by simpa [hlen] using hc) (by simpa [hlen] using hf) (by
    intro v hv
    simp only [Builtin.zeroCells, Array.toList_map, List.mem_map] at hv
    obtain ⟨q, _, rfl⟩ := hv
    have : q % zS.cells.size < 6 := Nat.mod_lt _ (by decide)
    generalize q % zS.cells.size = r at *
    match r, this with
    | 0, _ => rfl
    | 1, _ => rfl
    | 2, _ => rfl
    | 3, _ => rfl
    | 4, _ => rfl
    | 5, _ => rfl)
  simp only [Nat.add_zero] at hst
  obtain ⟨m, rfl⟩ : ∃ k, m = k + 1 := ⟨m - 1, by omega⟩
  simp [Builtin.clear_, ut, hz, hst]
set_option maxHeartbeats 4000000 in
theorem del67 (b n c i j k : Nat) (cs : List Value) (w : World) (hij : i < j) (hjn : j ≤ n) (hnc : n ≤ c) (hlim : n ≤ 549755813888) (hcl : cs.length = n * 6)
    (hcs : ∀ q v, cs[q]? = some v → w.cell? ⟨b, q, none⟩ = some v) (hfz : ∀ q, q ≤ n * 6 → w.frozen? ⟨b, q, none⟩ = false) (h1 : ∀ v ∈ cs, v.oneCell' = true) (hsh : ∃ t, w.shape? b = some (t, k)) (hk : n * 6 ≤ k) :
    Calls PI 67 #[.slice (some ⟨b, 0, none⟩) n c, .int .i64 i, .int .i64 j] w fun e w' => e = .returned (.slice (some ⟨b, 0, none⟩) (n - (j - i)) c) ∧ ∃ Z : List Value, Z.length = (j - i) * 6 ∧ w' = (w.drew.setCells b (i * 6) (cs.drop (j * 6))).setCells b ((n - (j - i)) * 6) Z := by
  have ut := run_underlying Go.Proofs.Try.underlying23
  have ue := run_underlying Go.Proofs.Try.underlying45
  have u3 := run_underlying Go.Proofs.Try.underlying3
  have u4 := run_underlying Go.Proofs.Try.underlying4
  have mixed := mixI
  obtain ⟨i0, hi0, hzz⟩ := Option.map_eq_some_iff.1 infS
  simp only [Prod.mk.injEq] at hzz
  have hsz := hzz.2
  have hdl : (cs.drop (j * 6)).length = (n - j) * 6 := by rw [List.length_drop, hcl]; omega
  obtain ⟨A, hA, hnews⟩ : ∃ A : Addr, (if c = j then some (⟨b, 0, none⟩ : Addr) else some ⟨b, j * 6, none⟩) = some A ∧ Hid (∀ q u, (cs.drop (j * 6))[q]? = some u → w.drew.cell? (A.add q) = some u) := by
    by_cases h : c = j
    · refine ⟨⟨b, 0, none⟩, by simp [h], fun q u hu => ?_⟩
      have h0 : (cs.drop (j * 6)).length = 0 := by rw [hdl]; omega
      rw [List.length_eq_zero_iff.1 h0] at hu
      simp at hu
    · refine ⟨⟨b, j * 6, none⟩, by simp [h], fun q u hu => ?_⟩
      rw [List.getElem?_drop] at hu
      rw [Addr.add_lit]
      exact hcs _ u hu
  have s1 : Hid ((cs.drop (j * 6)).length = (n - j) * 6) := hdl
  have s2 : Hid (∀ u ∈ cs.drop (j * 6), u.oneCell' = true) := fun u hu => h1 u (List.mem_of_mem_drop hu)
  have some1 : ∀ q, q < n * 6 → (w.cell? ⟨b, q, none⟩).isSome = true := fun q hq => by rw [hcs q _ (List.getElem?_eq_getElem (by omega))]; rfl
  have s3 : Hid (∀ q, q < (cs.drop (j * 6)).length → (w.drew.cell? ⟨b, 0 + i * 6 + q, none⟩).isSome = true ∧ w.drew.frozen? ⟨b, 0 + i * 6 + q, none⟩ = false) := by
    intro q hq
    rw [hdl] at hq
    rw [Nat.zero_add]
    exact ⟨some1 _ (by omega), hfz _ (by omega)⟩
  have hm : n - (i + (n - j)) = j - i := by omega
  have hclear : Hid (∀ ty cc, (Builtin.clear_ #[23] ty #[.slice (some ⟨b, (i + (n - j)) * 6, none⟩) (j - i) cc]).run PI (w.drew.setCells b (i * 6) (cs.drop (j * 6))) = .ok (.tuple #[]) ((w.drew.setCells b (i * 6) (cs.drop (j * 6))).setCells b ((i + (n - j)) * 6) (Builtin.zeroCells zS.cells (j - i)).toList)) := by
    intro ty cc
    refine clearS _ ty b _ _ cc (by omega) (fun q hq => ?_) (fun q hq => ?_)
    · exact isSome_setCells b _ _ _ (fun q hq => by rw [hdl] at hq; exact some1 _ (by omega)) _ (some1 _ (by omega))
    · rw [World.frozen?_setCells]
      exact hfz _ (by omega)
  have e1 : (0 : Int) ≤ (i : Int) := by omega
  have e2 : (i : Int) ≤ (j : Int) := by omega
  have e3 : ¬ (i : Int) = (j : Int) := by omega
  have e4 : (j : Int) ≤ (n : Int) := by omega
  have e5 : (n : Int) ≤ (c : Int) := by omega
  have e6 : i ≤ j := by omega
  have e7 : i ≤ c := by omega
  have e8 : j ≤ c := by omega
  have e9 : ¬ c = i + (n - j) := by omega
  have e10 : i + (n - j) ≤ n := by omega
  have e11 : ((i + (n - j) : Nat) : Int) ≤ (n : Int) := by omega
  have e12 : (i : Int) + ((n - j : Nat) : Int) ≤ (n : Int) := by omega
  have fin : n - (j - i) = i + (n - j) := by omega
  have hZ : (Builtin.zeroCells zS.cells (j - i)).toList.length = (j - i) * 6 := by simp [Builtin.zeroCells, Value.cells]
  clear hcs hfz h1 some1
  go_enter Go.Proofs.Try.func67, Go.Proofs.Try.ntmps67
  go_wp2_with fail
  go_region_law (refine step_append_room rfl (.tmp 22) (.tmp 25) 23 rfl 45 i0 6 Go.Proofs.Try.underlying23 hi0 hsz b 0 i c (by simp [Act.eval, Act.put]) A (n - j) (c - j) (cs.drop (j * 6)) (by simp [Act.eval, Act.put, hA]) s1.out hnews.out s2.out (by omega) s3.out ?_)
  all_goals go_wp2_with (simp only [hclear.out])
  all_goals (try go_ret)
  all_goals exact ⟨by rw [fin]; rfl, _, hZ, by rw [fin]; rfl⟩
theorem delLaw67 : DelLaw PI 67 6 :=
  ⟨⟨_, Go.Proofs.Try.func67, by kernel_rfl, by kernel_rfl⟩, fun b n c i j k cs w a1 a2 a3 a4 a5 a6 a7 a8 a9 a10 => del67 b n c i j k cs w a1 a2 a3 a4 a5 a6 a7 a8 a9 a10⟩
theorem delOk : Sound PI (delP [(67, 6)]) := delP_sound fun p hp => by
  simp only [List.mem_singleton] at hp
  subst hp
  exact delLaw67
end Go.Proofs.Ytefjblgmnoheiaa.R
