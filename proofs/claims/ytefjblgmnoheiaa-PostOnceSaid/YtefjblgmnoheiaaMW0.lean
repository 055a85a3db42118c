/- slices.Delete of subscriptions, on the machine. -/
import Derived.Test.YtefjblgmnoheiaaProg
import Derived.Test.YtefjblgmnoheiaaRInE
import Derived.Shelf.Spec.SlicesInsert
import Derived.Lib.AppendZerosOnto
import Derived.Laws.NewBlocks
import Derived.Deep.RegionLaw
import Derived.Test.YtefjblgmnoheiaaRBun
import Derived.Test.YtefjblgmnoheiaaRCfg
import Derived.KernelRfl
import Derived.Test.YtefjblgmnoheiaaRAuto
set_option linter.unusedVariables false
set_option linter.unusedSimpArgs false
set_option maxRecDepth 100000
namespace Go.Proofs.Ytefjblgmnoheiaa.R
open Go Go.Shelf Go.RowKit Go.Lib
noncomputable abbrev PI : Program := Go.Proofs.Try.prog
theorem mixI : (PI).follows .mixedOrders = true := by kernel_rfl
noncomputable abbrev zS : Value := .agg #[.int .i64 0, .int .i64 0, .int .i64 0, .string ⟨#[]⟩, .int .i64 0, .int .i64 0]
theorem infS : (PI.info? 45).map (fun i => (i.zero, i.size)) = some (some zS, 6) := by kernel_rfl
theorem clearS (w : World) (ty : TypeId) (b o m c : Nat) (hm : 0 < m) (hc : ∀ j, j < m * 6 → (w.cell? ⟨b, o + j, none⟩).isSome = true) (hf : ∀ j, j < m * 6 → w.frozen? ⟨b, o + j, none⟩ = false) :
    (Builtin.clear_ #[23] ty #[.slice (some ⟨b, o, none⟩) m c]).run PI w = .ok (.tuple #[]) (w.setCells b o (Builtin.zeroCells zS.cells m).toList) := by
  have ut := run_underlying (w := w) Go.Proofs.Try.underlying23
  obtain ⟨i, hi, hzz⟩ := Option.map_eq_some_iff.1 infS
  simp only [Prod.mk.injEq] at hzz
  have hlen : (Builtin.zeroCells zS.cells m).toList.length = m * 6 := by simp [Builtin.zeroCells, Value.cells]
  have hz : (zeroValue 45).run PI w = .ok zS w := by
    simp [zeroValue, typeInfo, hi, hzz.1, Sem.run_bind]
  have hst := run_storeCells_cells (P := PI) b o (Builtin.zeroCells zS.cells m).toList 0 w (by simpa [hlen] using hc) (by simpa [hlen] using hf) (by
    intro v hv
    simp only [Builtin.zeroCells, Array.toList_map, List.mem_map] at hv
    obtain ⟨q, _, rfl⟩ := hv
    have : q % zS.cells.size < 6 := Nat.mod_lt _ (by decide)
    generalize q % zS.cells.size = r at *
    match r, this with
    | 0, _ => rfl
    | 1, _ => rfl
    | 2, _ => rfl
    | 3, _ => rfl
    | 4, _ => rfl
    | 5, _ => rfl)
  simp only [Nat.add_zero] at hst
  obtain ⟨m, rfl⟩ : ∃ k, m = k + 1 := ⟨m - 1, by omega⟩
  simp [Builtin.clear_, ut, hz, hst]
set_option maxHeartbeats 4000000 in
theorem del67 (b n c i j k : Nat) (cs : List Value) (w : World) (hij : i < j) (hjn : j ≤ n) (hnc : n ≤ c) (hlim : n ≤ 549755813888) (hcl : cs.length = n * 6)
    (hcs : ∀ q v, cs[q]? = some v → w.cell? ⟨b, q, none⟩ = some v) (hfz : ∀ q, q ≤ n * 6 → w.frozen? ⟨b, q, none⟩ = false) (h1 : ∀ v ∈ cs, v.oneCell' = true) (hsh : ∃ t, w.shape? b = some (t, k)) (hk : n * 6 ≤ k) :
    Calls PI 67 #[.slice (some ⟨b, 0, none⟩) n c, .int .i64 i, .int .i64 j] w fun e w' => e = .returned (.slice (some ⟨b, 0, none⟩) (n - (j - i)) c) ∧ ∃ Z : List Value, Z.length = (j - i) * 6 ∧ w' = (w.drew.setCells b (i * 6) (cs.drop (j * 6))).setCells b ((n - (j - i)) * 6) Z := by
  have ut := run_underlying Go.Proofs.Try.underlying23
  have ue := run_underlying Go.Proofs.Try.underlying45
  have u3 := run_underlying Go.Proofs.Try.underlying3
  have u4 := run_underlying Go.Proofs.Try.underlying4
  have mixed := mixI
  obtain ⟨i0, hi0, hzz⟩ := Option.map_eq_some_iff.1 infS
  simp only [Prod.mk.injEq] at hzz
  have hsz := hzz.2
  have hdl : (cs.drop (j * 6)).length = (n - j) * 6 := by rw [List.length_drop, hcl]; omega
  obtain ⟨A, hA, hnews⟩ : ∃ A : Addr, (if c = j then some (⟨b, 0, none⟩ : Addr) else some ⟨b, j * 6, none⟩) = some A ∧ Hid (∀ q u, (cs.drop (j * 6))[q]? = some u → w.drew.cell? (A.add q) = some u) := by
    by_cases h : c = j
    · refine ⟨⟨b, 0, none⟩, by simp [h], fun q u hu => ?_⟩
      have h0 : (cs.drop (j * 6)).length = 0 := by rw [hdl]; omega
      rw [List.length_eq_zero_iff.1 h0] at hu
      simp at hu
    · refine ⟨⟨b, j * 6, none⟩, by simp [h], fun q u hu => ?_⟩
      rw [List.getElem?_drop] at hu
      rw [Addr.add_lit]
      exact hcs _ u hu
  have s1 : Hid ((cs.drop (j * 6)).length = (n - j) * 6) := hdl
  have s2 : Hid (∀ u ∈ cs.drop (j * 6), u.oneCell' = true) := fun u hu => h1 u (List.mem_of_mem_drop hu)
  have some1 : ∀ q, q < n * 6 → (w.cell? ⟨b, q, none⟩).isSome = true := fun q hq => by rw [hcs q _ (List.getElem?_eq_getElem (by omega))]; rfl
  have s3 : Hid (∀ q, q < (cs.drop (j * 6)).length → (w.drew.cell? ⟨b, 0 + i * 6 + q, none⟩).isSome = true ∧ w.drew.frozen? ⟨b, 0 + i * 6 + q, none⟩ = false) := by
    intro q hq
    rw [hdl] at hq
    rw [Nat.zero_add]
    exact ⟨some1 _ (by omega), hfz _ (by omega)⟩
  have hm : n - (i + (n - j)) = j - i := by omega
  have hclear : Hid (∀ ty cc, (Builtin.clear_ #[23] ty #[.slice (some ⟨b, (i + (n - j)) * 6, none⟩) (j - i) cc]).run PI (w.drew.setCells b (i * 6) (cs.drop (j * 6))) = .ok (.tuple #[]) ((w.drew.setCells b (i * 6) (cs.drop (j * 6))).setCells b ((i + (n - j)) * 6) (Builtin.zeroCells zS.cells (j - i)).toList)) := by
    intro ty cc
    refine clearS _ ty b _ _ cc (by omega) (fun q hq => ?_) (fun q hq => ?_)
    · exact isSome_setCells b _ _ _ (fun q hq => by rw [hdl] at hq; exact some1 _ (by omega)) _ (some1 _ (by omega))
    · rw [World.frozen?_setCells]
      exact hfz _ (by omega)
  have e1 : (0 : Int) ≤ (i : Int) := by omega
  have e2 : (i : Int) ≤ (j : Int) := by omega
  have e3 : ¬ (i : Int) = (j : Int) := by omega
  have e4 : (j : Int) ≤ (n : Int) := by omega
  have e5 : (n : Int) ≤ (c : Int) := by omega
  have e6 : i ≤ j := by omega
  have e7 : i ≤ c := by omega
  have e8 : j ≤ c := by omega
  have e9 : ¬ c = i + (n - j) := by omega
  have e10 : i + (n - j) ≤ n := by omega
  have e11 : ((i + (n - j) : Nat) : Int) ≤ (n : Int) := by omega
  have e12 : (i : Int) + ((n - j : Nat) : Int) ≤ (n : Int) := by omega
  have fin : n - (j - i) = i + (n - j) := by omega
  have hZ : (Builtin.zeroCells zS.cells (j - i)).toList.length = (j - i) * 6 := by simp [Builtin.zeroCells, Value.cells]
  clear hcs hfz h1 some1
  go_enter Go.Proofs.Try.func67, Go.Proofs.Try.ntmps67
  go_wp2_with fail
  go_region_law (refine step_append_room rfl (.tmp 22) (.tmp 25) 23 rfl 45 i0 6 Go.Proofs.Try.underlying23 hi0 hsz b 0 i c (by simp [Act.eval, Act.put]) A (n - j) (c - j) (cs.drop (j * 6)) (by simp [Act.eval, Act.put, hA]) s1.out hnews.out s2.out (by omega) s3.out ?_)
  all_goals go_wp2_with (simp only [hclear.out])
  all_goals (try go_ret)
  all_goals exact ⟨by rw [fin]; rfl, _, hZ, by rw [fin]; rfl⟩
theorem delLaw67 : DelLaw PI 67 6 :=
  ⟨⟨_, Go.Proofs.Try.func67, by kernel_rfl, by kernel_rfl⟩, fun b n c i j k cs w a1 a2 a3 a4 a5 a6 a7 a8 a9 a10 => del67 b n c i j k cs w a1 a2 a3 a4 a5 a6 a7 a8 a9 a10⟩
theorem delOk : Sound PI (delP [(67, 6)]) := delP_sound fun p hp => by
  simp only [List.mem_singleton] at hp
  subst hp
  exact delLaw67
end Go.Proofs.Ytefjblgmnoheiaa.R

/- What the kernel reckons: the laws' own examples. Publish, Open, Close and Expire keep what they change in arrays whose elements lead to other arrays. -/
set_option linter.unusedVariables false
noncomputable section
namespace Go.Proofs.Ytefjblgmnoheiaa.R
open Go
noncomputable abbrev Pg : Program := Go.Proofs.Try.prog
theorem mixed : (Pg).follows .mixedOrders = true := by kernel_rfl
theorem cfgOk : CfgOk cfg := fun f i h => let ⟨fn, V, h1, h2, _⟩ := fnOf_ok f i h; ⟨fn, V, h1, h2⟩
noncomputable def cfgI : Cfg := { cfg with pr := delP [(67, 6)], ax := 7 }
theorem cfgIOk : CfgOk cfgI := cfgOk
def actB (f : Nat) : Bool := Nat.beq f 16 || (Nat.beq f 19 || (Nat.beq f 22 || Nat.beq f 24))
def actP : Callee := fun f args H m => bif actB f then callF cfgI drawA 60 f args H m else none
theorem actOk : Sound Pg actP := by
  have h := sound_callF (c := cfgI) cfgIOk (drawOk mixed) delOk 60
  refine ⟨h.cln, fun {f args H m r} hx => ?_, fun {f args H m r H' n'} hx => ?_⟩
  · unfold actP at hx
    cases hb : actB f <;> rw [hb] at hx
    · cases hx
    · exact h.fn hx
  · unfold actP at hx
    cases hb : actB f <;> rw [hb] at hx
    · cases hx
    · exact h.calls hx
noncomputable def cfgW : Cfg := { cfg with fn := fun f => bif actB f then none else fnOf f, pr := actP }
theorem cfgWOk : CfgOk cfgW := fun f i h => by
  refine cfgOk f i ?_
  simp only [cfgW] at h
  cases hb : actB f <;> rw [hb] at h
  · exact h
  · cases h
theorem works_run : callF cfgW drawA 60 9 [] [] 0 = some (.bool true, [], 0) := by kernel_rfl
theorem works_spec : Spec Pg 9 [] [] 0 (.bool true) [] 0 := Spec.of_callF cfgWOk (drawOk mixed) actOk works_run
end Go.Proofs.Ytefjblgmnoheiaa.R

/- slices.Insert of one more subscription, on the machine. -/
set_option linter.unusedVariables false
set_option linter.unusedSimpArgs false
set_option maxRecDepth 100000
namespace Go.Proofs.Ytefjblgmnoheiaa.R
open Go Go.Shelf Go.RowKit Go.Lib
noncomputable abbrev PS : Program := Go.Proofs.Try.prog
theorem mixS : (PS).follows .mixedOrders = true := by kernel_rfl
noncomputable abbrev zT : Value := .agg #[.int .i64 0, .int .i64 0, .int .i64 0, .string ⟨#[]⟩, .int .i64 0, .int .i64 0]
theorem inf45 : (PS.info? 45).map (fun i => (i.zero, i.size, i.bytes)) = some (some zT, 6, 56) := by kernel_rfl
theorem size45 (w : World) : (Go.sizeOf 45).run PS w = .ok 6 w := by
  obtain ⟨i, hi, hzz⟩ := Option.map_eq_some_iff.1 inf45
  simp only [Prod.mk.injEq] at hzz
  simp [Go.sizeOf, typeInfo, hi, hzz.2.1]
theorem run_copyE {P : Program} (w : World) (dT sT ty elem : TypeId) {es : Nat} (b o dLen dCap : Nat) (a : Addr) (sLen sCap m : Nat) (cs : List Value)
    (hu : P.underlying dT = some (.slice elem)) (hs : (P.info? elem).map (·.size) = some es) (hm : m = Nat.min sLen dLen) (hn : cs.length = m * es)
    (hsrc : ∀ j v, cs[j]? = some v → w.cell? (a.add j) = some v) (hc : ∀ j, j < cs.length → (w.cell? ⟨b, o + j, none⟩).isSome = true) (hf : ∀ j, j < cs.length → w.frozen? ⟨b, o + j, none⟩ = false) (h1 : ∀ v ∈ cs, v.oneCell' = true) :
    (Builtin.copy_ #[dT, sT] ty #[.slice (some ⟨b, o, none⟩) dLen dCap, .slice (some a) sLen sCap]).run P w = .ok (goInt m) (w.setCells b o cs) := by
  have hl := run_loadCells_list (P := P) w a cs hsrc
  have hst := run_storeCells_cells (P := P) b o cs 0 w (by simpa using hc) (by simpa using hf) h1
  cases hq : P.info? elem with
  | none => simp [hq] at hs
  | some i =>
    have hi : i.size = es := by simpa [hq] using hs
    rw [hn] at hl
    simp [Builtin.copy_, run_underlying hu, Builtin.lenOf, Builtin.firstCells, sizeOf, typeInfo, hq, hi, ← hm, hl, hst]
theorem src45 {vb vc : Nat} {vs : List Value} {w : World} (hl : vs.length = 6) (hvs : ∀ j u, vs[j]? = some u → w.cell? ⟨vb, j, none⟩ = some u) (h1 : ∀ u ∈ vs, u.oneCell' = true) : Src PS 6 23 (.slice (some ⟨vb, 0, none⟩) 1 vc) 1 vs w :=
  Src.ofSlice w Go.Proofs.Try.underlying23 ⟨vb, 0, none⟩ 1 vc vs (by omega) (fun j u hj => by rw [Addr.add_lit, Nat.zero_add]; exact hvs j u hj) h1
set_option maxHeartbeats 4000000 in
theorem ins66_room (b n c vb vc : Nat) (vs : List Value) (w : World) (hl : vs.length = 6) (hroom : n + 1 ≤ c) (hlim : n + 1 ≤ 549755813888)
    (hsp : ∀ j, j < 6 → (w.cell? ⟨b, n * 6 + j, none⟩).isSome = true) (hfz : ∀ j, j < 6 → w.frozen? ⟨b, n * 6 + j, none⟩ = false)
    (hvs : ∀ j u, vs[j]? = some u → w.cell? ⟨vb, j, none⟩ = some u) (h1v : ∀ u ∈ vs, u.oneCell' = true) :
    Calls PS 66 #[.slice (some ⟨b, 0, none⟩) n c, .int .i64 n, .slice (some ⟨vb, 0, none⟩) 1 vc] w fun e w' =>
      e = .returned (.slice (some ⟨b, 0, none⟩) (n + 1) c) ∧ w' = w.setCells b (n * 6) vs := by
  have ut := run_underlying Go.Proofs.Try.underlying23
  have ue := run_underlying Go.Proofs.Try.underlying45
  have u3 := run_underlying Go.Proofs.Try.underlying3
  have u4 := run_underlying Go.Proofs.Try.underlying4
  have mixed := mixS
  have hsrc := src45 (vc := vc) hl hvs h1v
  obtain ⟨i0, hi0, hzz⟩ := Option.map_eq_some_iff.1 inf45
  simp only [Prod.mk.injEq] at hzz
  have hsz := hzz.2.1
  have hsp' : ∀ j, j < vs.length → (w.cell? ⟨b, 0 + n * i0.size + j, none⟩).isSome = true := by
    intro j hj
    rw [hsz, Nat.zero_add]
    exact hsp j (by omega)
  have hfz' : ∀ j, j < vs.length → w.frozen? ⟨b, 0 + n * i0.size + j, none⟩ = false := by
    intro j hj
    rw [hsz, Nat.zero_add]
    exact hfz j (by omega)
  have hsrc' : Src PS i0.size 23 (.slice (some ⟨vb, 0, none⟩) 1 vc) 1 vs w := by rw [hsz]; exact hsrc
  go_enter Go.Proofs.Try.func66, Go.Proofs.Try.ntmps66
  go_wp2_with (at_builtin; refine wpList_append_room_src _ rfl _ _ 23 23 rfl 45 i0 Go.Proofs.Try.underlying23 hi0 b 0 n c rfl _ rfl 1 vs hsrc' hroom hsp' hfz' ?_)
  go_ret
  exact ⟨rfl, rfl⟩
set_option maxHeartbeats 4000000 in
theorem ins66_end (base : Option Addr) (n c vb vc : Nat) (cs vs : List Value) (w : World) (hl : vs.length = 6) (hnc : n ≤ c) (hroom : c < n + 1) (hbig : (n + 1) * 56 ≤ 140737488355328)
    (hcl : cs.length = n * 6) (hnil : base = none → n = 0) (hcs : ∀ a, base = some a → ∀ j v, cs[j]? = some v → w.cell? (a.add j) = some v)
    (hvs : ∀ j u, vs[j]? = some u → w.cell? ⟨vb, j, none⟩ = some u) (h1v : ∀ u ∈ vs, u.oneCell' = true) :
    Calls PS 66 #[.slice base n c, .int .i64 n, .slice (some ⟨vb, 0, none⟩) 1 vc] w fun e w' =>
      e = .returned (.slice (some ⟨w.heap.size, 0, none⟩) (n + 1) (grownCap w (n + 1) c 45)) ∧
      w' = w.drew.alloc (.cells ((cs ++ vs).toArray ++ Builtin.zeroCells zT.cells (grownCap w (n + 1) c 45 - (n + 1))) 45) := by
  have ut := run_underlying Go.Proofs.Try.underlying23
  have ue := run_underlying Go.Proofs.Try.underlying45
  have u3 := run_underlying Go.Proofs.Try.underlying3
  have u4 := run_underlying Go.Proofs.Try.underlying4
  have mixed := mixS
  obtain ⟨i0, hi0, hzz⟩ := Option.map_eq_some_iff.1 inf45
  simp only [Prod.mk.injEq] at hzz
  obtain ⟨hz0, hzs, hzb⟩ := hzz
  have hsrc : Src PS i0.size 23 (.slice (some ⟨vb, 0, none⟩) 1 vc) 1 vs w := by
    rw [hzs]
    exact src45 hl hvs h1v
  have hold : (Builtin.firstCells i0.size n (.slice base n c)).run PS w.drew = .ok cs.toArray w.drew := by
    rw [hzs]
    cases base with
    | none =>
      obtain rfl := hnil rfl
      rw [List.eq_nil_of_length_eq_zero (by omega : cs.length = 0)]
      exact run_firstCells_none w.drew 6 0 0 c
    | some a => exact run_firstCells_some w.drew 6 n a n c cs (by omega) (fun j v hj => hcs a rfl j v hj)
  have hrun : ∀ ty, (Builtin.append_ #[23, 23] ty #[.slice base n c, .slice (some ⟨vb, 0, none⟩) 1 vc]).run PS w = _ := fun ty =>
    run_append_grow_src w 23 23 ty 45 i0 _ Go.Proofs.Try.underlying23 hi0 hz0 base n c cs hold _ 1 vs hsrc hroom (by omega) (by rw [hzb]; exact growslice_fits hroom hbig)
  go_enter Go.Proofs.Try.func66, Go.Proofs.Try.ntmps66
  cases base with
  | none =>
    obtain rfl := hnil rfl
    go_wp2_with (at_builtin; refine Lib.wpList_append_run _ rfl _ _ _ _ rfl _ _ rfl rfl _ _ (hrun _) ?_)
    go_ret
    exact ⟨rfl, rfl⟩
  | some a =>
    obtain ⟨ab, ao, asp⟩ := a
    go_wp2_with (at_builtin; refine Lib.wpList_append_run _ rfl _ _ _ _ rfl _ _ rfl rfl _ _ (hrun _) ?_)
    all_goals (go_ret; exact ⟨rfl, rfl⟩)
set_option maxHeartbeats 8000000 in
theorem ins66_shift (b n c i vb vc : Nat) (cs vs : List Value) (w : World) (hl : vs.length = 6) (hi : i < n) (hroom : n + 1 ≤ c) (hlim : n + 1 ≤ 549755813888) (hvb : vb ≠ b) (hcl : cs.length = n * 6)
    (hcs : ∀ j v, cs[j]? = some v → w.cell? ⟨b, j, none⟩ = some v) (hsp : ∀ j, j < (n + 1) * 6 → (w.cell? ⟨b, j, none⟩).isSome = true) (hfz : ∀ j, i * 6 ≤ j → j < (n + 1) * 6 → w.frozen? ⟨b, j, none⟩ = false)
    (hvs : ∀ j u, vs[j]? = some u → w.cell? ⟨vb, j, none⟩ = some u) (h1c : ∀ v ∈ cs, v.oneCell' = true) (h1v : ∀ u ∈ vs, u.oneCell' = true)
    (tA tB : TypeId) (kA kB : Nat) (hsa : w.shape? vb = some (tA, kA)) (hsb : w.shape? b = some (tB, kB)) (hkB : kB ≠ 0) (hfa : w.frozen? ⟨vb, 0, none⟩ = false) (hfe : w.frozen? ⟨vb, kA, none⟩ = false) :
    Calls PS 66 #[.slice (some ⟨b, 0, none⟩) n c, .int .i64 i, .slice (some ⟨vb, 0, none⟩) 1 vc] w fun e w' =>
      e = .returned (.slice (some ⟨b, 0, none⟩) (n + 1) c) ∧ w' = (w.drew.setCells b ((i + 1) * 6) (cs.drop (i * 6))).setCells b (i * 6) vs := by
  have ut := run_underlying Go.Proofs.Try.underlying23
  have ue := run_underlying Go.Proofs.Try.underlying45
  have u3 := run_underlying Go.Proofs.Try.underlying3
  have u4 := run_underlying Go.Proofs.Try.underlying4
  have mixed := mixS
  have hsz : (PS.info? 45).map (·.size) = some 6 := by
    obtain ⟨i0, hi0, hzz⟩ := Option.map_eq_some_iff.1 inf45
    simp only [Prod.mk.injEq] at hzz
    rw [hi0]
    simp [hzz.2.1]
  -- the neighbour is no part of the slice
  have hov : ∀ lb cb, (callFunc 88 #[.slice (some ⟨vb, 0, none⟩) 1 vc, .slice (some ⟨b, (i + 1) * 6, none⟩) lb cb]).run PS w = .ok (.value (.bool false)) w := fun lb cb => by
    rw [run_callFunc_extern Go.Proofs.Try.func88 (by kernel_rfl) (by kernel_rfl) (by kernel_rfl) (e := Extern.SlicesOverlaps.overlaps #[23, 23] #[4]) (by kernel_rfl),
      Lib.run_overlaps_apart w 23 4 45 Go.Proofs.Try.underlying23 6 size45 ⟨vb, 0, none⟩ ⟨b, (i + 1) * 6, none⟩ 1 vc lb cb hvb tA tB kA kB hsa hsb hkB hfa hfe]
    rfl
  have hdl : (cs.drop (i * 6)).length = (n - i) * 6 := by rw [List.length_drop, hcl]; omega
  have e1 : IntKind.i64.wrap ((i : Int) + 1) = (i : Int) + 1 := by rw [IntKind.wrap_i64]; omega
  have e2 : (0 : Int) ≤ (i : Int) + 1 := by omega
  have e3 : ((i : Int) + 1).toNat = i + 1 := by omega
  have e4 : (i : Int) ≤ (n : Int) + 1 := by omega
  have e5 : ¬ c = i + 1 := by omega
  have e6 : ¬ c = i := by omega
  have e7 : ¬ (i : Int) = (n : Int) := by omega
  have e8 : i ≤ n := by omega
  -- what stood behind goes one place on
  have first : ∀ ty dc sc, (Builtin.copy_ #[23, 23] ty #[.slice (some ⟨b, (i + 1) * 6, none⟩) (n - i) dc, .slice (some ⟨b, i * 6, none⟩) (n + 1 - i) sc]).run PS w.drew =   .ok (goInt ((n - i : Nat) : Int)) (w.drew.setCells b ((i + 1) * 6) (cs.drop (i * 6))) := fun ty dc sc =>
    run_copyE w.drew _ _ ty 45 b ((i + 1) * 6) (n - i) dc ⟨b, i * 6, none⟩ (n + 1 - i) sc (n - i) (cs.drop (i * 6)) Go.Proofs.Try.underlying23 hsz (by simp only [Nat.min_def]; split <;> omega) hdl
      (fun j x hj => by
        rw [Addr.add_lit]
        rw [List.getElem?_drop] at hj
        exact hcs (i * 6 + j) x hj)
      (fun j hj => hsp _ (by omega)) (fun j hj => hfz _ (by omega) (by omega)) (fun x hx => h1c x (List.mem_of_mem_drop hx))
  obtain ⟨W1, hW1⟩ : ∃ W1, W1 = w.drew.setCells b ((i + 1) * 6) (cs.drop (i * 6)) := ⟨_, rfl⟩
  have hsp1 : ∀ j, j < 6 → (W1.cell? ⟨b, i * 6 + j, none⟩).isSome = true := by
    intro j hj
    rw [hW1]
    exact isSome_setCells b (cs.drop (i * 6)) ((i + 1) * 6) w.drew (fun q hq => hsp ((i + 1) * 6 + q) (by rw [hdl] at hq; omega)) (i * 6 + j) (hsp (i * 6 + j) (by omega))
  have second : ∀ (W : World), (∀ x, W.cell? x = W1.cell? x) → (∀ x, W.frozen? x = W1.frozen? x) → ∀ ty dc, (Builtin.copy_ #[23, 23] ty #[.slice (some ⟨b, i * 6, none⟩) (n + 1 - i) dc, .slice (some ⟨vb, 0, none⟩) 1 vc]).run PS W = .ok (goInt 1) (W.setCells b (i * 6) vs) := fun W hWc hWf ty dc =>
    run_copyE W _ _ ty 45 b (i * 6) (n + 1 - i) dc ⟨vb, 0, none⟩ 1 vc 1 vs Go.Proofs.Try.underlying23 hsz (by simp only [Nat.min_def]; split <;> omega) (by omega)
      (fun j x hj => by
        rw [Addr.add_lit, Nat.zero_add, hWc, hW1, World.cell?_setCells_out b _ _ _ _ (fun h _ => absurd h hvb)]
        exact hvs j x hj)
      (fun j hj => by
        rw [hWc]
        exact hsp1 j (by omega))
      (fun j hj => by
        rw [hWf, hW1, World.frozen?_setCells]
        exact hfz _ (by omega) (by omega)) h1v
  rw [← hW1] at first
  go_enter Go.Proofs.Try.func66, Go.Proofs.Try.ntmps66
  go_wp2_with (simp only [hov])
  go_region_law_o (refine step_copy_runI rfl _ _ 23 23 rfl _ _ (by simp [Act.eval, Act.put]) (by simp [Act.eval, Act.put]) (first _ _ _) ?_)
  go_wp2_with (at_builtin; refine wpList_copy_runI _ rfl _ _ 23 23 rfl _ _ rfl rfl (second _ (fun _ => rfl) (fun _ => rfl) _ _) ?_)
  go_ret
  first | exact ⟨rfl, rfl⟩ | exact ⟨rfl, by rw [hW1]⟩
set_option maxHeartbeats 8000000 in
theorem ins66_grow (b n c i vb vc : Nat) (cs vs : List Value) (w : World) (hl : vs.length = 6) (hi : i < n) (hnc : n ≤ c) (hroom : c < n + 1) (hbig : (n + 1) * 56 ≤ 140737488355328) (hcl : cs.length = n * 6)
    (hcs : ∀ j v, cs[j]? = some v → w.cell? ⟨b, j, none⟩ = some v) (hvs : ∀ j u, vs[j]? = some u → w.cell? ⟨vb, j, none⟩ = some u) (h1c : ∀ v ∈ cs, v.oneCell' = true) (h1v : ∀ u ∈ vs, u.oneCell' = true) :
    Calls PS 66 #[.slice (some ⟨b, 0, none⟩) n c, .int .i64 i, .slice (some ⟨vb, 0, none⟩) 1 vc] w fun e w' => ∃ D : Array Value, (n + 1) * 6 + D.size = grownCap w (n + 1) c 45 * 6 ∧
      e = .returned (.slice (some ⟨w.heap.size, 0, none⟩) (n + 1) (grownCap w (n + 1) c 45)) ∧
      w' = (((w.alloc (.cells ((cs.take (i * 6)).toArray ++ Builtin.zeroCells zT.cells (n + 1 - i) ++ D) 45)).drew.setCells w.heap.size (i * 6) vs).drew).setCells w.heap.size ((i + 1) * 6) (cs.drop (i * 6)) := by
  have ut := run_underlying Go.Proofs.Try.underlying23
  have ue := run_underlying Go.Proofs.Try.underlying45
  have u3 := run_underlying Go.Proofs.Try.underlying3
  have u4 := run_underlying Go.Proofs.Try.underlying4
  have mixed := mixS
  obtain ⟨i0, hi0, hzz⟩ := Option.map_eq_some_iff.1 inf45
  simp only [Prod.mk.injEq] at hzz
  obtain ⟨hz0, hzs, hzb⟩ := hzz
  have hsz : (PS.info? 45).map (·.size) = some 6 := by rw [hi0]; simp [hzs]
  have hdl : (cs.drop (i * 6)).length = (n - i) * 6 := by rw [List.length_drop, hcl]; omega
  have hbw : b < w.heap.size := block_lt_of_cell (hcs 0 _ (List.getElem?_eq_getElem (by omega)))
  have hvw : vb < w.heap.size := block_lt_of_cell (hvs 0 _ (List.getElem?_eq_getElem (by omega)))
  have hbN : b ≠ w.heap.size := by omega
  have hG1 : n + 1 ≤ grownCap w (n + 1) c 45 := grownCap_ge w _ _ _
  have hG2 := grownCap_le_maxLen w (n + 1) c 45 (by unfold maxLen; omega)
  have hz : (Builtin.zeroCells zT.cells (grownCap w (n + 1) c 45 - (n + 1))).size = (grownCap w (n + 1) c 45 - (n + 1)) * 6 := by simp [Builtin.zeroCells, Value.cells]
  -- the new row
  have row : ∀ ty, (Builtin.append_ #[23, 3] ty #[.slice (some ⟨b, 0, none⟩) i c, .int .i64 ((n : Int) + 1 - (i : Int))]).run PS w =
      .ok (.slice (some ⟨w.heap.size, 0, none⟩) (n + 1) (grownCap w (n + 1) c 45)) (w.drew.alloc (.cells ((cs.take (i * 6)).toArray ++ Builtin.zeroCells zT.cells (n + 1 - i) ++ Builtin.zeroCells zT.cells (grownCap w (n + 1) c 45 - (n + 1))) 45)) := fun ty => by
    have hold : (Builtin.firstCells i0.size i (.slice (some ⟨b, 0, none⟩) i c)).run PS w.drew = .ok (cs.take (i * 6)).toArray w.drew := by
      rw [hzs]
      refine run_firstCells_some w.drew 6 i ⟨b, 0, none⟩ i c (cs.take (i * 6)) (by rw [List.length_take]; omega) (fun j x hj => ?_)
      rw [Addr.add_lit, Nat.zero_add]
      rw [List.getElem?_take] at hj
      split at hj
      · exact hcs j x hj
      · cases hj
    have hik : i + (n + 1 - i) = n + 1 := by omega
    have h := Lib.run_append_grow_zeros w 23 3 ty 45 i0 _ .i64 .i64 Go.Proofs.Try.underlying23 Go.Proofs.Try.underlying3 hi0 hz0 (some ⟨b, 0, none⟩) i c (cs.take (i * 6)) hold (n + 1 - i) (by omega) (by omega) (by omega) (by omega) (by rw [hzb]; omega) (by rw [hzb, hik]; exact growslice_fits hroom hbig)
    rw [hik] at h
    rw [show (n : Int) + 1 - (i : Int) = ((n + 1 - i : Nat) : Int) by omega]
    exact h
  refine Calls.mono ?_ (fun e w' h => ⟨_, by rw [hz]; omega, h⟩)
  generalize Builtin.zeroCells zT.cells (grownCap w (n + 1) c 45 - (n + 1)) = D at row hz ⊢
  generalize grownCap w (n + 1) c 45 = G at row hz hG1 hG2 ⊢
  obtain ⟨R, hR⟩ : ∃ R : Array Value, R = (cs.take (i * 6)).toArray ++ Builtin.zeroCells zT.cells (n + 1 - i) ++ D := ⟨_, rfl⟩
  rw [← hR] at row ⊢
  have hRl : (n + 1) * 6 ≤ R.size := by
    rw [hR]
    simp [Builtin.zeroCells, Value.cells]
    omega
  obtain ⟨W1, hW1⟩ : ∃ W1, W1 = w.drew.alloc (.cells R 45) := ⟨_, rfl⟩
  rw [← hW1] at row
  have new1 : ∀ j, j < (n + 1) * 6 → (W1.cell? ⟨w.heap.size, j, none⟩).isSome = true := fun j hj => by
    rw [hW1, World.cell?_alloc_at (w := w.drew) R _ w.heap.size j rfl, Array.getElem?_eq_getElem (by omega)]; rfl
  have new2 : ∀ j, W1.frozen? ⟨w.heap.size, j, none⟩ = false := fun j => by rw [hW1]; exact World.frozen?_alloc_at (w := w.drew) R _ w.heap.size j rfl
  have old1 : ∀ j x, w.cell? ⟨b, j, none⟩ = some x → W1.cell? ⟨b, j, none⟩ = some x := fun j x h => by rw [hW1, World.cell?_alloc_past (w := w.drew) _ b j hbw]; exact h
  have old2 : ∀ j u, vs[j]? = some u → W1.cell? ⟨vb, j, none⟩ = some u := fun j u h => by rw [hW1, World.cell?_alloc_past (w := w.drew) _ vb j hvw]; exact hvs j u h
  have cpA : ∀ (W : World), (∀ x, W.cell? x = W1.cell? x) → (∀ x, W.frozen? x = W1.frozen? x) → ∀ ty dc, (Builtin.copy_ #[23, 23] ty #[.slice (some ⟨w.heap.size, i * 6, none⟩) (n + 1 - i) dc, .slice (some ⟨vb, 0, none⟩) 1 vc]).run PS W = .ok (goInt 1) (W.setCells w.heap.size (i * 6) vs) := fun W hWc hWf ty dc =>
    run_copyE W _ _ ty 45 w.heap.size (i * 6) (n + 1 - i) dc ⟨vb, 0, none⟩ 1 vc 1 vs Go.Proofs.Try.underlying23 hsz (by simp only [Nat.min_def]; split <;> omega) (by omega)
      (fun j x hj => by
        rw [Addr.add_lit, Nat.zero_add, hWc]
        exact old2 j x hj)
      (fun j hj => by
        rw [hWc]
        exact new1 _ (by omega))
      (fun j hj => by rw [hWf]; exact new2 _) h1v
  have cpB : ∀ (W : World), (∀ x, W.cell? x = (W1.setCells w.heap.size (i * 6) vs).cell? x) → (∀ x, W.frozen? x = (W1.setCells w.heap.size (i * 6) vs).frozen? x) → ∀ ty dc sc, (Builtin.copy_ #[23, 23] ty #[.slice (some ⟨w.heap.size, (i + 1) * 6, none⟩) (n - i) dc, .slice (some ⟨b, i * 6, none⟩) (n - i) sc]).run PS W = .ok (goInt ((n - i : Nat) : Int)) (W.setCells w.heap.size ((i + 1) * 6) (cs.drop (i * 6))) := fun W hWc hWf ty dc sc =>
    run_copyE W _ _ ty 45 w.heap.size ((i + 1) * 6) (n - i) dc ⟨b, i * 6, none⟩ (n - i) sc (n - i) (cs.drop (i * 6)) Go.Proofs.Try.underlying23 hsz (by simp only [Nat.min_def]; split <;> omega) hdl
      (fun j x hj => by
        rw [Addr.add_lit, hWc, World.cell?_setCells_out _ _ _ _ _ (fun h _ => absurd h hbN)]
        rw [List.getElem?_drop] at hj
        exact old1 _ x (hcs (i * 6 + j) x hj))
      (fun j hj => by rw [hWc]; exact isSome_setCells _ _ _ _ (fun t ht => new1 _ (by omega)) _ (new1 _ (by omega)))
      (fun j hj => by rw [hWf, World.frozen?_setCells]; exact new2 _) (fun x hx => h1c x (List.mem_of_mem_drop hx))
  subst hW1
  have q1 : ∀ x, ((w.alloc (.cells R 45)).drew).cell? x = (w.drew.alloc (.cells R 45)).cell? x := fun x => rfl
  have q2 : ∀ x, ((w.alloc (.cells R 45)).drew).frozen? x = (w.drew.alloc (.cells R 45)).frozen? x := fun x => rfl
  have q3 : ∀ x, (((w.alloc (.cells R 45)).drew.setCells w.heap.size (i * 6) vs).drew).cell? x = ((w.drew.alloc (.cells R 45)).setCells w.heap.size (i * 6) vs).cell? x := fun x => rfl
  have q4 : ∀ x, (((w.alloc (.cells R 45)).drew.setCells w.heap.size (i * 6) vs).drew).frozen? x = ((w.drew.alloc (.cells R 45)).setCells w.heap.size (i * 6) vs).frozen? x := fun x => rfl
  have e1 : IntKind.i64.wrap ((i : Int) + 1) = (i : Int) + 1 := by rw [IntKind.wrap_i64]; omega
  have e2 : (0 : Int) ≤ (i : Int) + 1 := by omega
  have e3 : ((i : Int) + 1).toNat = i + 1 := by omega
  have e4 : (i : Int) ≤ (n : Int) := by omega
  have e5 : ¬ G = i + 1 := by omega
  have e6 : ¬ G = i := by omega
  have e7 : ¬ (i : Int) = (n : Int) := by omega
  have e8 : i ≤ n := by omega
  have e9 : ¬ c = i := by omega
  have e10 : (c : Int) < (n : Int) + 1 := by omega
  unfold maxLen at hG2
  clear hR hRl new1 new2 old1 old2
  go_enter Go.Proofs.Try.func66, Go.Proofs.Try.ntmps66
  go_wp2_with (first
    | (at_builtin; refine Lib.wpList_append_run _ rfl _ _ _ _ rfl _ _ rfl rfl _ _ (row _) ?_)
    | (at_builtin; refine wpList_copy_runI _ rfl _ _ 23 23 rfl _ _ rfl rfl (cpA _ q1 q2 _ _) ?_)
    | (at_builtin; refine wpList_copy_runI _ rfl _ _ 23 23 rfl _ _ rfl rfl (cpB _ (fun _ => rfl) (fun _ => rfl) _ _ _) ?_))
  go_region_law_o (refine step_copy_runI rfl _ _ 23 23 rfl (.slice (some ⟨w.heap.size, (i + 1) * 6, none⟩) (n - i) (G - (i + 1))) (.slice (some ⟨b, i * 6, none⟩) (n - i) (c - i)) (by simp [Act.eval, Act.put]) (by simp [Act.eval, Act.put]) (cpB _ q3 q4 3 (G - (i + 1)) (c - i)) ?_)
  go_wp2
  go_ret
  exact ⟨rfl, rfl⟩
theorem insLaw66 : InsLawE PS 66 45 where
  fn := ⟨_, Go.Proofs.Try.func66, by kernel_rfl, by kernel_rfl⟩
  room := fun b n c vb vc vs w h0 h1 h2 h3 h4 h5 h6 => ins66_room b n c vb vc vs w h0 h1 h2 h3 h4 h5 h6
  end_ := fun base n c vb vc cs vs w h0 h1 h2 h3 h4 h5 h6 h7 h8 => by
    refine (ins66_end base n c vb vc cs vs w h0 h1 h2 (by unfold limN at h3; omega) h4 h5 h6 h7 h8).mono fun e w' h => ?_
    obtain ⟨rfl, rfl⟩ := h
    have hG := grownCap_ge w (n + 1) c 45
    refine ⟨_, (Builtin.zeroCells zT.cells (grownCap w (n + 1) c 45 - (n + 1))).toList, ?_, rfl, ?_⟩
    · rw [Array.length_toList]
      simp [Builtin.zeroCells, Value.cells]
      omega
    · congr 2
      apply Array.ext'
      simp
  shift := fun b n c i vb vc cs vs w h0 h1 h2 h3 h4 h5 h6 h7 h8 h9 h10 h11 tA tB kA kB h12 h13 h14 h15 h16 => ins66_shift b n c i vb vc cs vs w h0 h1 h2 h3 h4 h5 h6 h7 h8 h9 h10 h11 tA tB kA kB h12 h13 h14 h15 h16
  grow := fun b n c i vb vc cs vs w h0 h1 h2 h3 h4 h5 h6 h7 h8 h9 => by
    refine (ins66_grow b n c i vb vc cs vs w h0 h1 h2 h3 (by unfold limN at h4; omega) h5 h6 h7 h8 h9).mono fun e w' h => ?_
    obtain ⟨D, hD, rfl, rfl⟩ := h
    have hG := grownCap_ge w (n + 1) c 45
    refine ⟨_, _, hG, ?_, ?_, rfl, rfl⟩
    · simp [Builtin.zeroCells, Value.cells]
      omega
    · intro j hj
      rw [Array.append_assoc, Array.getElem?_append_left (by simp; omega)]
      simp [hj]
theorem insOk : Sound PS (insPE [66]) := insPE_sound fun f hf => by
  simp only [List.mem_singleton] at hf
  subst hf
  exact ⟨_, insLaw66⟩
end Go.Proofs.Ytefjblgmnoheiaa.R

/- What the kernel reckons: the laws' own examples. -/
noncomputable section
namespace Go.Proofs.Ytefjblgmnoheiaa.R
open Go Nat
theorem m_law22_works_spec : Spec Pg 9 [] [] 0 (.bool true) [] 0 := works_spec
end Go.Proofs.Ytefjblgmnoheiaa.R

