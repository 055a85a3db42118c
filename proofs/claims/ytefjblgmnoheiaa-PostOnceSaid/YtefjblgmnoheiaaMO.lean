/- Equations for an array one of whose elements leads to another array. -/
import Derived.Test.YtefjblgmnoheiaaRBun
import Derived.Test.YtefjblgmnoheiaaMW6
set_option linter.unusedVariables false
set_option linter.unusedSectionVars false
set_option linter.defProp false
noncomputable section
namespace Go.Proofs.Ytefjblgmnoheiaa.R
open Go
/-- Typed elements, one of them told otherwise. -/
def xr {α : Type} (c : α → List AV) (l : List α) (k : Nat) (row : List AV) : List (List AV) := (l.map c).set k row
theorem ldE_arx (a : Bool) (size f i es : Nat) (rows : List (List AV)) : ldE a size f i (some (.arx es rows)) = ldR a size f rows[i]? := rfl
theorem stE1_arx (size id i f : Nat) (X : Nat → List (List AV) → Option Heap) (H : Heap) (vs : List AV) (es : Nat) (rows : List (List AV)) : stE1 size id i f X H (some vs) (some (.arx es rows)) = X es rows := rfl
def stXK (size : Nat) (H : Heap) (id i f es : Nat) (rows : List (List AV)) : Option (List AV) → Option (List AV) → Option Heap
  | some vs, some row => if vs.length = size ∧ f + vs.length ≤ row.length ∧ cellBs vs = true then upd H id (.arx es (rows.set i (setAt row f vs))) else none
  | _, _ => none
theorem stX_eq (size : Nat) (H : Heap) (id i f es : Nat) (rows : List (List AV)) (v : AV) : storeX size H id i f es rows v = stXK size H id i f es rows (cellsOf v) rows[i]? := by
  unfold storeX stXK
  cases cellsOf v <;> cases rows[i]? <;> rfl
theorem stXK_some (size : Nat) (H : Heap) (id i f es : Nat) (rows : List (List AV)) (vs row : List AV) : stXK size H id i f es rows (some vs) (some row) = if vs.length = size ∧ f + vs.length ≤ row.length ∧ cellBs vs = true then upd H id (.arx es (rows.set i (setAt row f vs))) else none := rfl
theorem reachJ_arx (H : Heap) (k id : Nat) (todo : List AV) (acc : List Nat) (es : Nat) (rows : List (List AV)) : reachJ H k id todo acc (some (.arx es rows)) = if id ∈ acc then reach H k todo acc else reach H k (leadsV rows.flatten ++ todo) (acc ++ [id]) := rfl
theorem boxK_arx (es : Nat) (rows : List (List AV)) : boxK (some (.arx es rows)) = leadsV rows.flatten := rfl
theorem leads_nil : leadsV [] = [] := rfl
theorem leads_cons (v : AV) (r : List AV) : leadsV (v :: r) = if idFree v = true then leadsV r else v :: leadsV r := by
  unfold leadsV
  rw [List.filter_cons]
  cases idFree v <;> simp
theorem leads_app (a b : List AV) : leadsV (a ++ b) = leadsV a ++ leadsV b := List.filter_append _ _
theorem leads_free : ∀ (r : List AV), idFrees r = true → leadsV r = []
  | [], _ => rfl
  | v :: r, h => by
    simp only [idFrees, Bool.and_eq_true] at h
    rw [leads_cons, if_pos h.1, leads_free r h.2]
theorem leads_map {α : Type} {c : α → List AV} {n : Nat} [R : Row c n] : ∀ (l : List α), leadsV (l.map c).flatten = []
  | [] => rfl
  | x :: l => by rw [List.map_cons, List.flatten_cons, leads_app, leads_free _ (R.free x), leads_map l]; rfl
theorem leads_xr {α : Type} {c : α → List AV} {n : Nat} [R : Row c n] : ∀ (l : List α) (k : Nat) (row : List AV), k < l.length → leadsV (xr c l k row).flatten = leadsV row
  | [], k, row, h => by simp at h
  | x :: l, 0, row, h => by
    show leadsV (row :: l.map c).flatten = _
    rw [List.flatten_cons, leads_app, leads_map, List.append_nil]
  | x :: l, k + 1, row, h => by
    show leadsV (c x :: xr c l k row).flatten = _
    rw [List.flatten_cons, leads_app, leads_free _ (R.free x), leads_xr l k row (by simpa using h)]
    rfl
theorem renO_arx (f : Nat → Option Nat) (es : Nat) (rows : List (List AV)) : renOb f (.arx es rows) = .arx es (rows.map (rens f)) := rfl
mutual
theorem ren_free (f : Nat → Option Nat) : ∀ v : AV, idFree v = true → ren f v = v
  | .agg cs, h => by simp only [ren]; rw [rens_free f cs (by simpa [idFree] using h)]
  | .tup cs, h => by simp only [ren]; rw [rens_free f cs (by simpa [idFree] using h)]
  | .bool _, _ => rfl
  | .int _ _, _ => rfl
  | .str _, _ => rfl
  | .nil, _ => rfl
  | .oth _, _ => rfl
  | .imm _ _ _, _ => rfl
  | .bad, h => by simp [idFree] at h
  | .un, h => by simp [idFree] at h
  | .own .., h => by simp [idFree] at h
  | .ptr .., h => by simp [idFree] at h
  | .eptr .., h => by simp [idFree] at h
  | .iptr .., h => by simp [idFree] at h
  | .fn .., h => by simp [idFree] at h
theorem rens_free (f : Nat → Option Nat) : ∀ l : List AV, idFrees l = true → rens f l = l
  | [], _ => rfl
  | v :: r, h => by
    simp only [idFrees, Bool.and_eq_true] at h
    simp only [rens, ren_free f v h.1, rens_free f r h.2]
end
theorem ren_xr {α : Type} {c : α → List AV} {n : Nat} [R : Row c n] (f : Nat → Option Nat) (l : List α) (k : Nat) (row : List AV) : (xr c l k row).map (rens f) = xr c l k (rens f row) := by
  unfold xr
  rw [List.map_set, List.map_map]
  congr 1
  exact List.map_congr_left fun x _ => rens_free f _ (R.free x)
theorem xr_get {α : Type} {c : α → List AV} {l : List α} {k : Nat} (row : List AV) (h : k < l.length) : (xr c l k row)[k]? = some row := by
  unfold xr
  rw [List.getElem?_set_self (by simpa using h)]
theorem xr_other {α : Type} {c : α → List AV} {l : List α} {k : Nat} {i : Int} {e : α} (row : List AV) (hi : nthI l i = some e) (hk : i.toNat ≠ k) : (xr c l k row)[i.toNat]? = some (c e) := by
  unfold xr
  rw [List.getElem?_set_ne (fun h => hk h.symm)]
  exact ld_get hi
theorem xr_set {α : Type} {c : α → List AV} {l : List α} {k : Nat} (row row' : List AV) : (xr c l k row).set k row' = xr c l k row' := by simp [xr]
theorem xr_fold {α : Type} (c : α → List AV) (l : List α) (k : Nat) (row : List AV) : (l.map c).set k row = xr c l k row := rfl
theorem xr_put {α : Type} {c : α → List AV} {l : List α} {k : Nat} {i : Int} {e : α} (row row' : List AV) (hi : nthI l i = some e) (hk : i.toNat ≠ k) : ((xr c l k row).set i.toNat row').set i.toNat (c e) = xr c l k row := by
  obtain ⟨_, h1, h2⟩ := nthI_some hi
  rw [List.set_set]
  apply List.ext_getElem?
  intro j
  rw [List.getElem?_set]
  split
  · rename_i hj
    subst hj
    rw [if_pos (by simpa [xr] using h1), xr_other row hi hk]
  · rfl
theorem xr_same {α : Type} {c : α → List AV} {l : List α} {k : Nat} {i : Int} {e : α} (row : List AV) (hi : nthI l i = some e) (hk : i.toNat ≠ k) : (xr c l k row).set i.toNat (c e) = xr c l k row := by
  have := xr_put (c := c) row (c e) hi hk
  rwa [List.set_set] at this
theorem xr_c {α : Type} (c : α → List AV) (l : List α) (k : Int) (e : α) : xr c l k.toNat (c e) = (setI l k e).map c := set_get c l k e
theorem xr_all {α : Type} {c : α → List AV} {n : Nat} [R : Row c n] (l : List α) (k : Int) (e : α) : (xr c l k.toNat (c e)).all idFrees = true := by
  rw [xr_c]
  simp [R.free]
theorem xr_len {α : Type} (c : α → List AV) (l : List α) (k : Nat) (row : List AV) : (xr c l k row).length = l.length := by simp [xr]
def toXL (e l : List (Nat × AV)) (n : Nat) : Option Heap → Option St | some H => some ⟨e, l, H, n⟩ | none => none
def toXK (id : Nat) (e l : List (Nat × AV)) (H : Heap) (n : Nat) : Option Ob → Option St
  | some (.arr es rows 0) => toXL e l n (upd H id (.arx es rows))
  | _ => none
theorem ev1_toX (m id : Nat) (e l : List (Nat × AV)) (H : Heap) (n : Nat) : evW1 m (.toX id) ⟨e, l, H, n⟩ = toXK id e l H n (lk H id) := by
  simp only [evW1, toXK]
  cases lk H id with
  | none => rfl
  | some o =>
    cases o with
    | box c => rfl
    | arx es rows => rfl
    | arr es rows leak =>
      cases leak with
      | zero => simp only [toXL]; cases upd H id (.arx es rows) <;> rfl
      | succ k => rfl
theorem toXK_arr (id : Nat) (e l : List (Nat × AV)) (H : Heap) (n es : Nat) (rows : List (List AV)) : toXK id e l H n (some (.arr es rows 0)) = toXL e l n (upd H id (.arx es rows)) := rfl
theorem toXL_some (e l : List (Nat × AV)) (n : Nat) (H : Heap) : toXL e l n (some H) = some ⟨e, l, H, n⟩ := rfl
def rowfI (id i es : Nat) (rows : List (List AV)) (e l : List (Nat × AV)) (H : Heap) (n : Nat) : Option (List AV) → Option St
  | some row => toXL e l n (upd (leakVs H row) id (.arx es (rows.set i (frzs H row))))
  | none => none
def rowfK (id i : Nat) (e l : List (Nat × AV)) (H : Heap) (n : Nat) : Option Ob → Option St
  | some (.arx es rows) => rowfI id i es rows e l H n rows[i]?
  | _ => none
theorem ev1_rowf (m id i : Nat) (e l : List (Nat × AV)) (H : Heap) (n : Nat) : evW1 m (.rowf id i) ⟨e, l, H, n⟩ = rowfK id i e l H n (lk H id) := by
  simp only [evW1, rowfK]
  cases lk H id with
  | none => rfl
  | some o =>
    cases o with
    | box c => rfl
    | arr es rows leak => rfl
    | arx es rows =>
      simp only [rowfI, toXL]
      cases rows[i]? with
      | none => rfl
      | some row => simp only; cases upd (leakVs H row) id (.arx es (rows.set i (frzs H row))) <;> rfl
theorem rowfK_arx (id i : Nat) (e l : List (Nat × AV)) (H : Heap) (n es : Nat) (rows : List (List AV)) : rowfK id i e l H n (some (.arx es rows)) = rowfI id i es rows e l H n rows[i]? := rfl
theorem rowfI_some (id i es : Nat) (rows : List (List AV)) (e l : List (Nat × AV)) (H : Heap) (n : Nat) (row : List AV) : rowfI id i es rows e l H n (some row) = toXL e l n (upd (leakVs H row) id (.arx es (rows.set i (frzs H row)))) := rfl
def unXK (id : Nat) (e l : List (Nat × AV)) (H : Heap) (n : Nat) : Option Ob → Option St
  | some (.arx es rows) => if rows.all idFrees = true then toXL e l n (upd H id (.arr es rows 0)) else none
  | _ => none
theorem ev1_unX (m id : Nat) (e l : List (Nat × AV)) (H : Heap) (n : Nat) : evW1 m (.unX id) ⟨e, l, H, n⟩ = unXK id e l H n (lk H id) := by
  simp only [evW1, unXK]
  cases lk H id with
  | none => rfl
  | some o =>
    cases o with
    | box c => rfl
    | arr es rows leak => rfl
    | arx es rows =>
      simp only [toXL]
      split
      · cases upd H id (.arr es rows 0) <;> rfl
      · rfl
theorem unXK_arx (id : Nat) (e l : List (Nat × AV)) (H : Heap) (n es : Nat) (rows : List (List AV)) : unXK id e l H n (some (.arx es rows)) = if rows.all idFrees = true then toXL e l n (upd H id (.arr es rows 0)) else none := rfl
theorem idf_ownX (es id off len : Nat) (ex : Bool) : idFree (.own es id off len ex) = false := rfl
def EVX := And.intro @idf_ownX <| And.intro @Bool.false_eq_true <| And.intro @ldE_arx <| And.intro @stE1_arx <| And.intro @stX_eq <| And.intro @stXK_some <| And.intro @reachJ_arx <| And.intro @boxK_arx <| And.intro @leads_nil <| And.intro @leads_cons <| And.intro @renO_arx <| And.intro @xr_set <| And.intro @xr_fold <| And.intro @ev1_toX <| And.intro @toXK_arr <| And.intro @toXL_some <| And.intro @ev1_rowf <| And.intro @rowfK_arx <| And.intro @rowfI_some <| And.intro @ev1_unX <| And.intro @unXK_arx <| And.intro @leakOb_arx <| @xr_len
end Go.Proofs.Ytefjblgmnoheiaa.R

/- Open: the message that is given leads to an array of its own. -/
set_option maxRecDepth 100000
set_option maxHeartbeats 1600000
set_option linter.unusedVariables false
set_option linter.unusedSimpArgs false
set_option linter.defProp false
noncomputable section
namespace Go.Proofs.Ytefjblgmnoheiaa.R
open Go Nat
/-- What is asked of the messages for a copy. -/
def CopyOk (l : List TMail) : Prop := ∀ m ∈ l, m_vars_Copy m.Vars = some m.Vars ∧ capB m.Took.length = true
theorem nthI_mem {α : Type} {l : List α} {i : Int} {x : α} (h : nthI l i = some x) : x ∈ l := List.mem_of_getElem? (nthI_some h).2.2
noncomputable abbrev qfX (next : Int) (l : List TMail) (subs : List TSub) (k : Nat) (e0 : TMail) : Ex → St → Prop := FinQ 0 [.cell 2 true 3] (.agg [.int .i64 next, .own 7 0 0 l.length false, .own 6 2 0 subs.length false]) [(0, .arx 7 (xr TMail.c l k [.int .i64 e0.Id, .str e0.Name, .int .i64 e0.Key, sl cs e0.Vars.Names, sl (ci .i64) e0.Vars.Vals, .int .i64 e0.Until, .own 2 1 0 e0.Took.length false])), (1, .arr 2 (List.map TWho.c e0.Took) 0), (2, .arr 6 (List.map TSub.c subs) 0)] 3
theorem cpB {next : Int} {l : List TMail} {subs : List TSub} {k : Nat} {e0 : TMail} (hk : k < l.length) (hc : CopyOk l) (hl : l.length < 9223372036854775807) : ∀ (d : Nat) (i : Int), 0 ≤ i → i.toNat + d = l.length → k < i.toNat →
    LWp Pg 41 0 i14_L0 ⟨[(0, .bad), (1, .ptr 0 0), (2, .ptr 4 0), (3, .bad), (4, .bad), (15, .int .i64 ((l.length : Nat) : Int)), (16, .int .i64 i), (17, .bad)], [], [(0, .box [.int .i64 next, .own 7 1 0 l.length false, .own 6 3 0 subs.length false]), (1, .arx 7 (xr TMail.c l k [.int .i64 e0.Id, .str e0.Name, .int .i64 e0.Key, sl cs e0.Vars.Names, sl (ci .i64) e0.Vars.Vals, .int .i64 e0.Until, .own 2 2 0 e0.Took.length false])), (2, .arr 2 (List.map TWho.c e0.Took) 0), (3, .arr 6 (List.map TSub.c subs) 0), (4, .box [.int .i64 (0 : Int), .nil, .nil])], 5⟩ (blockQ 0 (seqQ Pg 41 0 (.seq (.reg none i14_R9) .ret) (qfX next l subs k e0))) := by
  intro d
  have hX := EVX
  have hlead : ∀ row : List AV, leadsV (xr TMail.c l k row).flatten = leadsV row := fun row => leads_xr (n := 7) l k row hk
  have hren : ∀ (f : Nat → Option Nat) (row : List AV), (xr TMail.c l k row).map (rens f) = xr TMail.c l k (rens f row) := fun f row => ren_xr (n := 7) f l k row
  induction d with
  | zero =>
    intro i h0 hi hki
    have g3 : decide (i < ((l.length : Nat) : Int)) = false := by simp; omega
    refine LWp.stepC i14_L0.eq_1 ?_
    refine Wp.seq (regP (seqN (Wp.seq ?_)))
    refine condFP (Wp.out (seqO (loopO (blockO (seqN (Wp.seq ?_))))))
    refine regP (seqN (Wp.ret ?_))
    exact finW [.kill [1, 15, 16, 17], .tidy]
  | succ d ih =>
    intro i h0 hi hki
    have g3 : decide (i < ((l.length : Nat) : Int)) = true := by simp; omega
    obtain ⟨e, g4⟩ : ∃ e, nthI l i = some e := ⟨l[i.toNat]'(by omega), by unfold nthI; rw [if_pos h0, List.getElem?_eq_getElem]⟩
    obtain ⟨g5, g6⟩ := hc e (nthI_mem g4)
    have hne : i.toNat ≠ k := by omega
    have hg : ∀ row : List AV, (xr TMail.c l k row)[i.toNat]? = some (TMail.c e) := fun row => xr_other row g4 hne
    have hg1 : ∀ row row' : List AV, ((xr TMail.c l k row).set i.toNat row')[i.toNat]? = some row' := fun row row' => by
      rw [List.getElem?_set_self]
      rw [xr_len]
      omega
    have hg2 : ∀ (rows : List (List AV)) (r1 r2 : List AV), (rows.set i.toNat r1).set i.toNat r2 = rows.set i.toNat r2 := fun rows r1 r2 => List.set_set ..
    have hg3 : ∀ row : List AV, (xr TMail.c l k row).set i.toNat (TMail.c e) = xr TMail.c l k row := fun row => xr_same row g4 hne
    simp only [EVt] at hg3
    have hw : IntKind.i64.wrap (i + 1) = i + 1 := IntWalk.i64_in _ (by omega)
    have hih := ih (i + 1) (by omega) (by omega) (by omega)
    refine LWp.stepC i14_L0.eq_1 ?_
    refine Wp.seq (regP (seqN (Wp.seq ?_)))
    refine condTP (Wp.skip (seqN (Wp.seq (Wp.block (Wp.seq ?_)))))
    refine regP (seqN (Wp.seq ?_))
    have := ias_ownL (n := 7) (id := 1) (ex := false) (k := .i64) g4 rfl
    refine regP (seqN ?_)
    refine drawP [] mixed (clsC 6 (tab_cons (w_m_vars_Copy g5) (tab_nil _)) (clsN _)) (blockN (seqN ?_))
    refine regP (loopN ?_)
    exact jumpL [.kill [3, 4, 17], .rowf 1 i.toNat, .tidy] hih
/-- The round in which the element is met. -/
theorem cpK {next : Int} {l : List TMail} {subs : List TSub} {i : Int} {e : TMail} (g4 : nthI l i = some e) (hc : CopyOk l) (hl : l.length < 9223372036854775807) :
    LWp Pg 41 0 i14_L0 ⟨[(0, .bad), (1, .ptr 0 0), (2, .ptr 3 0), (3, .bad), (4, .bad), (15, .int .i64 ((l.length : Nat) : Int)), (16, .int .i64 i), (17, .bad)], [], [(0, .box [.int .i64 next, .own 7 1 0 l.length false, .own 6 2 0 subs.length false]), (1, .arr 7 (List.map TMail.c l) 0), (2, .arr 6 (List.map TSub.c subs) 0), (3, .box [.int .i64 (0 : Int), .nil, .nil])], 4⟩ (blockQ 0 (seqQ Pg 41 0 (.seq (.reg none i14_R9) .ret) (qfX next l subs i.toNat e))) := by
  have hX := EVX
  obtain ⟨h0, hk, _⟩ := nthI_some g4
  have hlead : ∀ row : List AV, leadsV (xr TMail.c l i.toNat row).flatten = leadsV row := fun row => leads_xr (n := 7) l i.toNat row hk
  have hren : ∀ (f : Nat → Option Nat) (row : List AV), (xr TMail.c l i.toNat row).map (rens f) = xr TMail.c l i.toNat (rens f row) := fun f row => ren_xr (n := 7) f l i.toNat row
  have hget : ∀ row : List AV, (xr TMail.c l i.toNat row)[i.toNat]? = some row := fun row => xr_get row hk
  have g3 : decide (i < ((l.length : Nat) : Int)) = true := by simp; omega
  obtain ⟨g5, g6⟩ := hc e (nthI_mem g4)
  have hw : IntKind.i64.wrap (i + 1) = i + 1 := IntWalk.i64_in _ (by omega)
  have hih := cpB (next := next) (subs := subs) (e0 := e) hk hc hl (l.length - (i.toNat + 1)) (i + 1) (by omega) (by omega) (by omega)
  refine LWp.stepC i14_L0.eq_1 ?_
  refine weakP [.toX 1] ?_
  refine Wp.seq (regP (seqN (Wp.seq ?_)))
  refine condTP (Wp.skip (seqN (Wp.seq (Wp.block (Wp.seq ?_)))))
  refine regP (seqN (Wp.seq ?_))
  have := ias_ownL (n := 7) (id := 1) (ex := false) (k := .i64) g4 rfl
  refine regP (seqN ?_)
  have := ld_get (c := TMail.c) g4
  refine drawP [] mixed (clsC 6 (tab_cons (w_m_vars_Copy g5) (tab_nil _)) (clsN _)) (blockN (seqN ?_))
  refine regP (loopN ?_)
  exact jumpL [.kill [3, 4, 17], .tidy] hih
theorem cpA {next : Int} {l : List TMail} {subs : List TSub} {k : Int} {e0 : TMail} (hk : nthI l k = some e0) (hc : CopyOk l) (hl : l.length < 9223372036854775807) : ∀ (d : Nat) (i : Int), 0 ≤ i → i.toNat + d = k.toNat →
    LWp Pg 41 0 i14_L0 ⟨[(0, .bad), (1, .ptr 0 0), (2, .ptr 3 0), (3, .bad), (4, .bad), (15, .int .i64 ((l.length : Nat) : Int)), (16, .int .i64 i), (17, .bad)], [], [(0, .box [.int .i64 next, .own 7 1 0 l.length false, .own 6 2 0 subs.length false]), (1, .arr 7 (List.map TMail.c l) 0), (2, .arr 6 (List.map TSub.c subs) 0), (3, .box [.int .i64 (0 : Int), .nil, .nil])], 4⟩ (blockQ 0 (seqQ Pg 41 0 (.seq (.reg none i14_R9) .ret) (qfX next l subs k.toNat e0))) := by
  obtain ⟨hk0, hk1, _⟩ := nthI_some hk
  intro d
  induction d with
  | zero =>
    intro i h0 hi
    obtain rfl : i = k := by omega
    exact cpK hk hc hl
  | succ d ih =>
    intro i h0 hi
    have g3 : decide (i < ((l.length : Nat) : Int)) = true := by simp; omega
    obtain ⟨e, g4⟩ : ∃ e, nthI l i = some e := ⟨l[i.toNat]'(by omega), by unfold nthI; rw [if_pos h0, List.getElem?_eq_getElem]⟩
    obtain ⟨g5, g6⟩ := hc e (nthI_mem g4)
    have hw : IntKind.i64.wrap (i + 1) = i + 1 := IntWalk.i64_in _ (by omega)
    have hih := ih (i + 1) (by omega) (by omega)
    have hset : (List.map TMail.c l).set i.toNat (TMail.c e) = List.map TMail.c l := by
      obtain ⟨_, _, h2⟩ := nthI_some g4
      apply List.ext_getElem?
      intro j
      rw [List.getElem?_set]
      split
      · rename_i hj
        subst hj
        rw [if_pos (by simp; omega), List.getElem?_map, h2]
        rfl
      · rfl
    simp only [EVt] at hset
    refine LWp.stepC i14_L0.eq_1 ?_
    refine Wp.seq (regP (seqN (Wp.seq ?_)))
    refine condTP (Wp.skip (seqN (Wp.seq (Wp.block (Wp.seq ?_)))))
    refine regP (seqN (Wp.seq ?_))
    have := ias_ownL (n := 7) (id := 1) (ex := false) (k := .i64) g4 rfl
    refine regP (seqN ?_)
    have := ld_get (c := TMail.c) g4
    refine drawP [] mixed (clsC 6 (tab_cons (w_m_vars_Copy g5) (tab_nil _)) (clsN _)) (blockN (seqN ?_))
    refine regP (loopN ?_)
    exact jumpL [.kill [3, 4, 17], .tidy] hih
/-- A copy, of which one message leads to an array of its own. -/
theorem w_copyX {p : TPost} {k : Int} {e0 : TMail} (hk : nthI p.Mails k = some e0) (hc : CopyOk p.Mails) (g1 : capB p.Subs.length = true) (g2 : capB p.Mails.length = true) : Spec Pg 14 [.agg [.int .i64 p.Next, sl TMail.c p.Mails, sl TSub.c p.Subs]] [] 0 (.agg [.int .i64 p.Next, .own 7 0 0 p.Mails.length false, .own 6 2 0 p.Subs.length false]) [(0, .arx 7 (xr TMail.c p.Mails k.toNat [.int .i64 e0.Id, .str e0.Name, .int .i64 e0.Key, sl cs e0.Vars.Names, sl (ci .i64) e0.Vars.Vals, .int .i64 e0.Until, .own 2 1 0 e0.Took.length false])), (1, .arr 2 (List.map TWho.c e0.Took) 0), (2, .arr 6 (List.map TSub.c p.Subs) 0)] 3 := by
  have hl : p.Mails.length < 9223372036854775807 := by
    have : p.Mails.length ≤ limN := by simpa [capB] using g2
    unfold limN at this
    omega
  have hA := cpA (next := p.Next) (subs := p.Subs) hk hc hl k.toNat 0 (Int.le_refl _) (by omega)
  refine Spec.intro Try.func14 i14_ok (le_of_ble rfl) ?_
  show Wp Pg 41 0 i14_B ⟨argEnv _ i14_V, [], _, _⟩ (qfX p.Next p.Mails p.Subs k.toNat e0)
  unfold i14_B
  refine weakP [] ?_
  refine Wp.seq (regP (seqN (Wp.seq ?_)))
  refine regP (seqN (Wp.seq ?_))
  refine regP (seqN (Wp.seq (Wp.seq ?_)))
  refine regP (seqN (Wp.block (Wp.loop ?_)))
  exact jumpL [.kill [0, 3, 4, 17], .tidy] hA
/-- A message of one's own is given. -/
theorem w_giveX {l : List TMail} {k : Int} {e : TMail} {s : TSub} (hk : nthI l k = some e) (hc : m_vars_Copy e.Vars = some e.Vars) (g : capB (e.Took.length + 1) = true) :
    Spec Pg 58 [.eptr 0 k.toNat 0, .ptr 2 0] [(0, .arx 7 (xr TMail.c l k.toNat [.int .i64 e.Id, .str e.Name, .int .i64 e.Key, sl cs e.Vars.Names, sl (ci .i64) e.Vars.Vals, .int .i64 e.Until, .own 2 1 0 e.Took.length false])), (1, .arr 2 (List.map TWho.c e.Took) 0), (2, .box [.int .i64 s.Part, .int .i64 s.Id, .int .i64 s.Inst, .str s.Name, .int .i64 s.Key, .int .i64 s.Mail])] 3
      (.agg [.int .i64 s.Part, .int .i64 s.Id, .int .i64 e.Id, sl cs e.Vars.Names, sl (ci .i64) e.Vars.Vals])
      [(0, .arx 7 (xr TMail.c l k.toNat [.int .i64 e.Id, .str e.Name, .int .i64 e.Key, sl cs e.Vars.Names, sl (ci .i64) e.Vars.Vals, .int .i64 e.Until, .own 2 3 0 (e.Took.length + 1) false])), (2, .box [.int .i64 s.Part, .int .i64 s.Id, .int .i64 s.Inst, .str s.Name, .int .i64 s.Key, .int .i64 e.Id]), (3, .arr 2 (List.map TWho.c (e.Took ++ [TWho.mk s.Part s.Inst])) 0)] 4 := by
  have hX := EVX
  obtain ⟨h0, hk1, _⟩ := nthI_some hk
  have hlead : ∀ row : List AV, leadsV (xr TMail.c l k.toNat row).flatten = leadsV row := fun row => leads_xr (n := 7) l k.toNat row hk1
  have hren : ∀ (f : Nat → Option Nat) (row : List AV), (xr TMail.c l k.toNat row).map (rens f) = xr TMail.c l k.toNat (rens f row) := fun f row => ren_xr (n := 7) f l k.toNat row
  have hget : ∀ row : List AV, (xr TMail.c l k.toNat row)[k.toNat]? = some row := fun row => xr_get row hk1
  refine Spec.intro Try.func58 i58_ok (le_of_ble rfl) ?_
  show Wp Pg 48 3 i58_B ⟨argEnv _ i58_V, [], _, _⟩ (FinQ 3 [.cell 4 true 5] (.agg [.int .i64 s.Part, .int .i64 s.Id, .int .i64 e.Id, sl cs e.Vars.Names, sl (ci .i64) e.Vars.Vals])
      [(0, .arx 7 (xr TMail.c l k.toNat [.int .i64 e.Id, .str e.Name, .int .i64 e.Key, sl cs e.Vars.Names, sl (ci .i64) e.Vars.Vals, .int .i64 e.Until, .own 2 3 0 (e.Took.length + 1) false])), (2, .box [.int .i64 s.Part, .int .i64 s.Id, .int .i64 s.Inst, .str s.Name, .int .i64 s.Key, .int .i64 e.Id]), (3, .arr 2 (List.map TWho.c (e.Took ++ [TWho.mk s.Part s.Inst])) 0)] 4)
  unfold i58_B
  refine weakP [] ?_
  refine Wp.seq (regP (seqN (Wp.seq ?_)))
  refine regP (seqN (Wp.seq ?_))
  refine drawP [] mixed (clsN _) (seqN (Wp.seq ?_))
  refine drawP [] mixed (clsC 16 (tab_cons (w_m_vars_Copy hc) (tab_nil _)) (clsN _)) (seqN (Wp.ret ?_))
  exact finW [.kill [0, 1], .tidy]
/-! ### What the model's success tells -/
theorem vcopy_eq {v w : TVars} (h : m_vars_Copy v = some w) : w = v := by
  unfold m_vars_Copy at h
  split at h
  · split at h
    · exact (Option.some.inj h).symm
    · cases h
  · cases h
theorem setI_at {α : Type} {l : List α} {i : Int} {e : α} (h : nthI l i = some e) : setI l i e = l := by
  obtain ⟨_, h1, h2⟩ := nthI_some h
  unfold setI
  apply List.ext_getElem?
  intro j
  rw [List.getElem?_set]
  split
  · rename_i hj
    subst hj
    first | exact h2.symm | rw [if_pos h1, h2]
  · rfl
theorem copy_loop {p q : TPost} (hl : p.Mails.length ≤ limN) : ∀ (n : Nat) (i : Int), 0 ≤ i → m_post_Copy_l1 p n i p.Mails = some q → q = p ∧ ∀ j e, i ≤ j → nthI p.Mails j = some e → m_vars_Copy e.Vars = some e.Vars ∧ capB e.Took.length = true := by
  intro n
  induction n with
  | zero => intro i _ h; unfold m_post_Copy_l1 at h; cases h
  | succ n ih =>
    intro i h0 h
    unfold m_post_Copy_l1 m_post_Copy_l1_B at h
    replace h := ifS h; rcases h with ⟨g3, h⟩ | ⟨g3, h⟩
    · replace h := bndS h; obtain ⟨e, g4, h⟩ := h
      replace h := bndS h; obtain ⟨r0, g5, h⟩ := h
      replace h := reqS h; obtain ⟨g6, h⟩ := h
      have := vcopy_eq g5
      subst this
      have ee : TMail.mk e.Id e.Name e.Key e.Vars e.Until e.Took = e := rfl
      have hw : IntKind.i64.wrap (i + 1) = i + 1 := IntWalk.i64_in _ (by
        have : i < ((p.Mails.length : Nat) : Int) := by simpa using g3
        unfold limN at hl
        omega)
      rw [ee, setI_at g4, setI_at g4, hw] at h
      obtain ⟨h1, h2⟩ := ih (i + 1) (by omega) h
      refine ⟨h1, fun j e' hj hn => ?_⟩
      rcases Int.lt_or_eq_of_le hj with hj | rfl
      · exact h2 j e' (by omega) hn
      · rw [g4] at hn
        obtain rfl := Option.some.inj hn
        exact ⟨g5, g6⟩
    · have := Option.some.inj h
      refine ⟨this.symm, fun j e' hj hn => ?_⟩
      obtain ⟨_, h1, _⟩ := nthI_some hn
      have : ¬ i < ((p.Mails.length : Nat) : Int) := by simpa using g3
      omega
theorem copy_ok {p q : TPost} (h : m_post_Copy p = some q) : q = p ∧ CopyOk p.Mails ∧ capB p.Subs.length = true ∧ capB p.Mails.length = true := by
  unfold m_post_Copy at h
  replace h := reqS h; obtain ⟨g1, h⟩ := h
  replace h := reqS h; obtain ⟨g2, h⟩ := h
  obtain ⟨h1, h2⟩ := copy_loop (by simpa [capB] using g2) _ 0 (Int.le_refl _) h
  refine ⟨h1, fun m hm => ?_, g1, g2⟩
  obtain ⟨i, hi⟩ := List.mem_iff_getElem?.1 hm
  exact h2 (i : Int) m (by omega) (by simpa [nthI] using hi)
theorem open_loop {p : TPost} {s : TSub} {q : Int × Bool} {r : TPost × List THit × Int} (hl : p.Mails.length ≤ limN) : ∀ (n : Nat) (i : Int), 0 ≤ i → m_post_Open_l1 s q p n i = some r →
    (∃ k e g, i ≤ k ∧ nthI p.Mails k = some e ∧ m_post_suits e s = some true ∧ (∀ j e', i ≤ j → j < k → nthI p.Mails j = some e' → m_post_suits e' s = some false) ∧ m_post_give_v2 k s p.Mails = some g ∧ m_post_Open_k2 q p g.2.1.Part g.2.1.Id g.2.1.Inst g.2.1.Name g.2.1.Key g.2.1.Mail g.2.2 [g.1] = some r) ∨
    ((∀ j e', i ≤ j → nthI p.Mails j = some e' → m_post_suits e' s = some false) ∧ m_post_Open_k2 q p s.Part s.Id s.Inst s.Name s.Key s.Mail p.Mails [] = some r) := by
  intro n
  induction n with
  | zero => intro i _ h; unfold m_post_Open_l1 at h; cases h
  | succ n ih =>
    intro i h0 h
    unfold m_post_Open_l1 m_post_Open_l1_B at h
    replace h := ifS h; rcases h with ⟨g9, h⟩ | ⟨g9, h⟩
    · replace h := bndS h; obtain ⟨e, g10, h⟩ := h
      replace h := bndS h; obtain ⟨r0_4, g11, h⟩ := h
      replace h := ifS h; rcases h with ⟨g12, h⟩ | ⟨g12, h⟩
      · replace h := bndS h; obtain ⟨r0_5, g13, h⟩ := h
        replace h := reqS h; obtain ⟨g14, h⟩ := h
        subst g12
        exact .inl ⟨i, e, r0_5, Int.le_refl _, g10, g11, fun j e' h1 h2 => by omega, g13, h⟩
      · have hw : IntKind.i64.wrap (i + 1) = i + 1 := IntWalk.i64_in _ (by
          have : i < ((p.Mails.length : Nat) : Int) := by simpa using g9
          unfold limN at hl
          omega)
        rw [hw] at h
        subst g12
        rcases ih (i + 1) (by omega) h with ⟨k, e1, g, a1, a2, a3, a4, a5, a6⟩ | ⟨a1, a2⟩
        · refine .inl ⟨k, e1, g, by omega, a2, a3, fun j e' h1 h2 h3 => ?_, a5, a6⟩
          rcases Int.lt_or_eq_of_le h1 with h1 | rfl
          · exact a4 j e' (by omega) h2 h3
          · rw [g10] at h3
            obtain rfl := Option.some.inj h3
            exact g11
        · refine .inr ⟨fun j e' h1 h3 => ?_, a2⟩
          rcases Int.lt_or_eq_of_le h1 with h1 | rfl
          · exact a1 j e' (by omega) h3
          · rw [g10] at h3
            obtain rfl := Option.some.inj h3
            exact g11
    · refine .inr ⟨fun j e' hj hn => ?_, h⟩
      obtain ⟨_, h1, _⟩ := nthI_some hn
      have : ¬ i < ((p.Mails.length : Nat) : Int) := by simpa using g9
      omega
/-! ### Open -/
noncomputable abbrev qf_19 (r : (TPost × (List THit) × Int)) : Ex → St → Prop := FinQ 0 [.cell 4 true 3, .tmp 5, .tmp 6] (.tup [.agg [.int .i64 r.1.Next, sl TMail.c r.1.Mails, sl TSub.c r.1.Subs], sl THit.c r.2.1, .int .i64 r.2.2]) [] 0
theorem w_open_k2 {q : Int × Bool} {p : TPost} {s_0 s_1 s_2 : Int} {s_3 : ByteArray} {s_4 s_5 : Int} {ms : List TMail} {hits : List THit} {r : TPost × List THit × Int} (h : m_post_Open_k2 q p s_0 s_1 s_2 s_3 s_4 s_5 ms hits = some r) :
    Wp Pg 70 0 (.seq (.reg none i19_R17) (.seq (.reg none i19_R18) .ret)) ⟨[(0, .bad), (1, .bad), (2, .bad), (3, .ptr 0 0), (4, .ptr 1 0), (5, .bad), (6, .bad), (7, .int .i64 q.1), (8, .bad), (9, .ptr 2 0), (10, .own 5 5 0 hits.length false), (11, .bad), (12, .bad), (20, .bad), (29, .bad), (32, .bad), (42, .bad), (43, .bad), (44, .bad), (54, .bad)], [], [(0, .box [.int .i64 s_0, .int .i64 s_1, .int .i64 s_2, .str s_3, .int .i64 s_4, .int .i64 s_5]), (1, .box [.int .i64 (0 : Int), .nil, .nil]), (2, .box [.int .i64 p.Next, .own 7 3 0 ms.length false, .own 6 4 0 p.Subs.length false]), (3, .arr 7 (List.map TMail.c ms) 0), (4, .arr 6 (List.map TSub.c p.Subs) 0), (5, .arr 5 (List.map THit.c hits) 0)], 6⟩ (qf_19 r) := by
  unfold m_post_Open_k2 at h
  refine Wp.seq (Wp.reg ?_)
  replace h := reqS h; obtain ⟨g15, h⟩ := h
  replace h := reqS h; obtain ⟨g16, h⟩ := h
  replace h := reqS h; obtain ⟨g17, h⟩ := h
  replace h := retS h; subst h
  refine chunkF 6 (tab_cons (w_insE insOk (f := 66) rfl (c := TSub.c) (l := p.Subs) (k := q.1) (x := (TSub.mk s_0 s_1 s_2 s_3 s_4 s_5)) (xa := [.int .i64 s_0, .int .i64 s_1, .int .i64 s_2, .str s_3, .int .i64 s_4, .int .i64 s_5]) rfl g15 g16 g17 false) (tab_nil _)) ?_
  refine lastT (tab_nil _) (seqN (Wp.seq ?_))
  refine regP (seqN ?_)
  refine weakP [.cell 4 1 .frz, .cell 4 2 .frz, .at 5 .frz] (Wp.ret ?_)
  exact finP
theorem w_open_none {q : Int × Bool} {p : TPost} {s : TSub} {r : TPost × List THit × Int} (hl : p.Mails.length ≤ limN) (hn : ∀ j e', 0 ≤ j → nthI p.Mails j = some e' → m_post_suits e' s = some false) (h : m_post_Open_k2 q p s.Part s.Id s.Inst s.Name s.Key s.Mail p.Mails [] = some r) : ∀ (d : Nat) (i : Int), 0 ≤ i → i.toNat + d = p.Mails.length →
    LWp Pg 70 0 i19_L0 ⟨[(0, .bad), (1, .bad), (2, .bad), (3, .ptr 0 0), (4, .ptr 1 0), (5, .bad), (6, .bad), (7, .int .i64 q.1), (8, .bad), (9, .ptr 2 0), (10, .nil), (11, .bad), (12, .bad), (20, .bad), (29, .bad), (32, .bad), (42, .int .i64 ((p.Mails.length : Nat) : Int)), (43, .int .i64 i), (44, .bad), (54, .bad)], [], [(0, .box [.int .i64 s.Part, .int .i64 s.Id, .int .i64 s.Inst, .str s.Name, .int .i64 s.Key, .int .i64 s.Mail]), (1, .box [.int .i64 (0 : Int), .nil, .nil]), (2, .box [.int .i64 p.Next, .own 7 3 0 p.Mails.length false, .own 6 4 0 p.Subs.length false]), (3, .arr 7 (List.map TMail.c p.Mails) 0), (4, .arr 6 (List.map TSub.c p.Subs) 0)], 5⟩ (blockQ 1 (seqQ Pg 70 0 (.seq (.reg none i19_R17) (.seq (.reg none i19_R18) .ret)) (qf_19 r))) := by
  intro d
  unfold limN at hl
  induction d with
  | zero =>
    intro i h0 hi
    have g9 : decide (i < ((p.Mails.length : Nat) : Int)) = false := by simp; omega
    have hk := w_open_k2 h
    refine LWp.stepC i19_L0.eq_1 ?_
    refine Wp.seq (regP (seqN (Wp.seq ?_)))
    refine condFP (Wp.out (seqO (loopO (blockO (seqN ?_)))))
    exact jumpK [.kill [42, 43, 44], .at 10 (.virt 5), .tidy] hk
  | succ d ih =>
    intro i h0 hi
    have g9 : decide (i < ((p.Mails.length : Nat) : Int)) = true := by simp; omega
    obtain ⟨e, g10⟩ : ∃ e, nthI p.Mails i = some e := ⟨p.Mails[i.toNat]'(by omega), by unfold nthI; rw [if_pos h0, List.getElem?_eq_getElem]⟩
    have g11 := hn i e h0 g10
    have hw : IntKind.i64.wrap (i + 1) = i + 1 := IntWalk.i64_in _ (by omega)
    have hih := ih (i + 1) (by omega) (by omega)
    refine LWp.stepC i19_L0.eq_1 ?_
    refine Wp.seq (regP (seqN (Wp.seq ?_)))
    refine condTP (Wp.skip (seqN (Wp.seq (Wp.block (Wp.seq ?_)))))
    refine regP (seqN (Wp.seq ?_))
    have := ias_ownL (n := 7) (id := 3) (ex := false) (k := .i64) g10 rfl
    refine regP (seqN (Wp.seq ?_))
    have := ld_get (c := TMail.c) g10
    refine drawP [] mixed (clsC 4 (tab_cons (w_m_post_suits g11) (tab_nil _)) (clsN _)) (seqN ?_)
    refine condFP (Wp.skip (blockN (seqN ?_)))
    refine regP (loopN ?_)
    exact jumpL [.kill [11, 12, 44, 54], .tidy] hih
theorem w_open_hit {q : Int × Bool} {p : TPost} {s : TSub} {r : TPost × List THit × Int} {k : Int} {e0 : TMail} (hl : p.Mails.length ≤ limN) (hk : nthI p.Mails k = some e0) (hs : m_post_suits e0 s = some true) (hc : m_vars_Copy e0.Vars = some e0.Vars) (hg : capB (e0.Took.length + 1) = true)
    (hn : ∀ j e', 0 ≤ j → j < k → nthI p.Mails j = some e' → m_post_suits e' s = some false) (h : m_post_Open_k2 q p s.Part s.Id s.Inst s.Name s.Key e0.Id (setI p.Mails k (TMail.mk e0.Id e0.Name e0.Key e0.Vars e0.Until (e0.Took ++ [TWho.mk s.Part s.Inst]))) [THit.mk s.Part s.Id e0.Id e0.Vars] = some r) : ∀ (d : Nat) (i : Int), 0 ≤ i → i.toNat + d = k.toNat →
    LWp Pg 70 0 i19_L0 ⟨[(0, .bad), (1, .bad), (2, .bad), (3, .ptr 0 0), (4, .ptr 1 0), (5, .bad), (6, .bad), (7, .int .i64 q.1), (8, .bad), (9, .ptr 2 0), (10, .nil), (11, .bad), (12, .bad), (20, .bad), (29, .bad), (32, .bad), (42, .int .i64 ((p.Mails.length : Nat) : Int)), (43, .int .i64 i), (44, .bad), (54, .bad)], [], [(0, .box [.int .i64 s.Part, .int .i64 s.Id, .int .i64 s.Inst, .str s.Name, .int .i64 s.Key, .int .i64 s.Mail]), (1, .box [.int .i64 (0 : Int), .nil, .nil]), (2, .box [.int .i64 p.Next, .own 7 3 0 p.Mails.length false, .own 6 5 0 p.Subs.length false]), (3, .arx 7 (xr TMail.c p.Mails k.toNat [.int .i64 e0.Id, .str e0.Name, .int .i64 e0.Key, sl cs e0.Vars.Names, sl (ci .i64) e0.Vars.Vals, .int .i64 e0.Until, .own 2 4 0 e0.Took.length false])), (4, .arr 2 (List.map TWho.c e0.Took) 0), (5, .arr 6 (List.map TSub.c p.Subs) 0)], 6⟩ (blockQ 1 (seqQ Pg 70 0 (.seq (.reg none i19_R17) (.seq (.reg none i19_R18) .ret)) (qf_19 r))) := by
  have hX := EVX
  obtain ⟨hk0, hk1, _⟩ := nthI_some hk
  unfold limN at hl
  have hlead : ∀ row : List AV, leadsV (xr TMail.c p.Mails k.toNat row).flatten = leadsV row := fun row => leads_xr (n := 7) p.Mails k.toNat row hk1
  have hren : ∀ (f : Nat → Option Nat) (row : List AV), (xr TMail.c p.Mails k.toNat row).map (rens f) = xr TMail.c p.Mails k.toNat (rens f row) := fun f row => ren_xr (n := 7) f p.Mails k.toNat row
  have hget : ∀ row : List AV, (xr TMail.c p.Mails k.toNat row)[k.toNat]? = some row := fun row => xr_get row hk1
  intro d
  induction d with
  | zero =>
    intro i h0 hi
    obtain rfl : i = k := by omega
    have g9 : decide (i < ((p.Mails.length : Nat) : Int)) = true := by simp; omega
    have hkk := w_open_k2 h
    have hall := xr_all (c := TMail.c) (n := 7) p.Mails i (TMail.mk e0.Id e0.Name e0.Key e0.Vars e0.Until (e0.Took ++ [TWho.mk s.Part s.Inst]))
    have hcc := xr_c TMail.c p.Mails i (TMail.mk e0.Id e0.Name e0.Key e0.Vars e0.Until (e0.Took ++ [TWho.mk s.Part s.Inst]))
    have hsl : sl TWho.c (e0.Took ++ [TWho.mk s.Part s.Inst]) = canI (List.map TWho.c e0.Took ++ [[.int .i64 s.Part, .int .i64 s.Inst]]) := by simp [sl, TWho.c]
    simp only [TMail.c_eq, hsl] at hall hcc
    rw [hcc] at hall
    refine LWp.stepC i19_L0.eq_1 ?_
    refine Wp.seq (regP (seqN (Wp.seq ?_)))
    refine condTP (Wp.skip (seqN (Wp.seq (Wp.block (Wp.seq ?_)))))
    refine regP (seqN (Wp.seq ?_))
    have := ias_ownL (n := 7) (id := 3) (ex := false) (k := .i64) hk rfl
    refine regP (seqN (Wp.seq ?_))
    refine drawP [] mixed (clsC 4 (tab_cons (w_m_post_suits hs) (tab_nil _)) (clsN _)) (seqN ?_)
    refine condTP (Wp.seq (Wp.reg ?_))
    refine chunkF 3 (tab_cons (w_giveX (s := s) hk hc hg) (tab_nil _)) ?_
    refine lastT (tab_nil _) (seqN (Wp.out (blockP rfl (seqO (loopO (blockO (seqN ?_)))))))
    exact jumpK [.kill [11, 12, 42, 43, 44, 54], .rowf 3 i.toNat, .unX 3, .tidy] hkk
  | succ d ih =>
    intro i h0 hi
    have g9 : decide (i < ((p.Mails.length : Nat) : Int)) = true := by simp; omega
    obtain ⟨e, g10⟩ : ∃ e, nthI p.Mails i = some e := ⟨p.Mails[i.toNat]'(by omega), by unfold nthI; rw [if_pos h0, List.getElem?_eq_getElem]⟩
    have g11 := hn i e h0 (by omega) g10
    have hne : i.toNat ≠ k.toNat := by omega
    have hgo : ∀ row : List AV, (xr TMail.c p.Mails k.toNat row)[i.toNat]? = some (TMail.c e) := fun row => xr_other row g10 hne
    have hw : IntKind.i64.wrap (i + 1) = i + 1 := IntWalk.i64_in _ (by omega)
    have hih := ih (i + 1) (by omega) (by omega)
    refine LWp.stepC i19_L0.eq_1 ?_
    refine Wp.seq (regP (seqN (Wp.seq ?_)))
    refine condTP (Wp.skip (seqN (Wp.seq (Wp.block (Wp.seq ?_)))))
    refine regP (seqN (Wp.seq ?_))
    have := ias_ownL (n := 7) (id := 3) (ex := false) (k := .i64) g10 rfl
    refine regP (seqN (Wp.seq ?_))
    refine drawP [] mixed (clsC 4 (tab_cons (w_m_post_suits g11) (tab_nil _)) (clsN _)) (seqN ?_)
    refine condFP (Wp.skip (blockN (seqN ?_)))
    refine regP (loopN ?_)
    exact jumpL [.kill [11, 12, 44, 54], .tidy] hih
theorem w_open_k1 {p : TPost} {s : TSub} {v20 : Bool} {r : (TPost × (List THit) × Int)} (h : m_post_Open_k1 p s v20 = some r) : Wp Pg 70 0 (.cond (.t 20) (.seq (.reg none i19_R2) .ret) .skip) ⟨[(0, .bad), (1, .bad), (2, .ptr 0 0), (3, .ptr 1 0), (4, .ptr 2 0), (5, .bad), (6, .bad), (7, .bad), (8, .bad), (9, .bad), (10, .bad), (11, .bad), (12, .bad), (20, .bool v20), (29, .bad), (32, .bad), (42, .bad), (43, .bad), (44, .bad), (54, .bad)], [], [(0, .box [.int .i64 p.Next, sl TMail.c p.Mails, sl TSub.c p.Subs]), (1, .box [.int .i64 s.Part, .int .i64 s.Id, .int .i64 s.Inst, .str s.Name, .int .i64 s.Key, .int .i64 s.Mail]), (2, .box [.int .i64 (0 : Int), .nil, .nil])], 3⟩ (seqQ Pg 70 0 (.seq (.reg (some [(0, 2)]) i19_R3) (.seq (.block 0 (.seq (.reg none i19_R4) (.cond (.t 29) (.seq (.reg none i19_R5) .ret) (.seq (.reg none i19_R6) (.cond (.t 32) (.seq (.reg none i19_R7) .ret) .skip))))) (.seq (.reg none i19_R8) (.seq (.reg none i19_R9) (.seq (.seq (.reg none i19_R10) (.block 1 (.loop i19_L0))) (.seq (.reg none i19_R17) (.seq (.reg none i19_R18) .ret))))))) (qf_19 r)) := by
  unfold m_post_Open_k1 at h
  replace h := ifS h; rcases h with ⟨g3, h⟩ | ⟨g3, h⟩
  · replace h := retS h; subst h
    refine condTP (Wp.seq ?_)
    refine regP (seqN ?_)
    refine weakP [.cell 4 1 .frz, .cell 4 2 .frz, .at 5 .frz] (Wp.ret (seqR ?_))
    exact finP
  · refine condFP (Wp.skip (seqN (Wp.seq ?_)))
    replace h := bndS h; obtain ⟨r0_1, g4, h⟩ := h
    replace h := bndS h; obtain ⟨r0_2, g5, h⟩ := h
    refine drawP [] mixed (clsC 2 (tab_cons (w_m_post_of g4) (tab_nil _)) (clsC 3 (tab_cons (w_m_post_find g5) (tab_nil _)) (clsN _))) (seqN (Wp.seq (Wp.block (Wp.seq ?_))))
    refine regP (seqN ?_)
    replace h := ifS h; rcases h with ⟨g6, h⟩ | ⟨g6, h⟩
    · replace h := retS h; subst h
      refine condTP (Wp.seq ?_)
      refine regP (seqN ?_)
      refine weakP [.cell 4 1 .frz, .cell 4 2 .frz, .at 5 .frz] (Wp.ret (blockR (seqR ?_)))
      exact finP
    · refine condFP (Wp.seq ?_)
      refine regP (seqN ?_)
      replace h := ifS h; rcases h with ⟨g7, h⟩ | ⟨g7, h⟩
      · replace h := retS h; subst h
        refine condTP (Wp.seq ?_)
        refine regP (seqN ?_)
        refine weakP [.cell 4 1 .frz, .cell 4 2 .frz, .at 5 .frz] (Wp.ret (blockR (seqR ?_)))
        exact finP
      · refine condFP (Wp.skip (blockN (seqN (Wp.seq (Wp.reg ?_)))))
        replace h := bndS h; obtain ⟨r0_3, g8, h⟩ := h
        obtain ⟨e1, hc, c1, c2⟩ := copy_ok g8
        subst e1
        have hl : r0_3.Mails.length ≤ limN := by simpa [capB] using c2
        rcases open_loop hl _ 0 (Int.le_refl _) h with ⟨k, e, g, a1, a2, a3, a4, a5, a6⟩ | ⟨a1, a2⟩
        · unfold m_post_give_v2 at a5
          replace a5 := bndS a5; obtain ⟨e', b1, a5⟩ := a5
          rw [a2] at b1
          obtain rfl := Option.some.inj b1
          replace a5 := reqS a5; obtain ⟨b2, a5⟩ := a5
          replace a5 := bndS a5; obtain ⟨r0, b3, a5⟩ := a5
          have := vcopy_eq b3
          subst this
          replace a5 := retS a5; subst a5
          have hh := w_open_hit hl a2 a3 b3 b2 a4 a6 k.toNat 0 (Int.le_refl _) (by omega)
          have hX := EVX
          obtain ⟨hk0, hk1, _⟩ := nthI_some a2
          have hlead : ∀ row : List AV, leadsV (xr TMail.c r0_3.Mails k.toNat row).flatten = leadsV row := fun row => leads_xr (n := 7) r0_3.Mails k.toNat row hk1
          have hren : ∀ (f : Nat → Option Nat) (row : List AV), (xr TMail.c r0_3.Mails k.toNat row).map (rens f) = xr TMail.c r0_3.Mails k.toNat (rens f row) := fun f row => ren_xr (n := 7) f r0_3.Mails k.toNat row
          refine chunkF 2 (tab_cons (w_copyX a2 hc c1 c2) (tab_nil _)) ?_
          refine lastT (tab_nil _) (seqN (Wp.seq ?_))
          refine regP (seqN (Wp.seq (Wp.seq ?_)))
          refine regP (seqN (Wp.block (Wp.loop ?_)))
          exact jumpL [.kill [2, 8, 20, 29, 32], .tidy] hh
        · have hh := w_open_none hl a1 a2 r0_3.Mails.length 0 (Int.le_refl _) (by omega)
          refine chunkF 2 (tab_cons (w_m_post_Copy g8) (tab_nil _)) ?_
          refine lastT (tab_nil _) (seqN (Wp.seq ?_))
          refine regP (seqN (Wp.seq (Wp.seq ?_)))
          refine regP (seqN (Wp.block (Wp.loop ?_)))
          exact jumpL [.kill [2, 8, 20, 29, 32], .tidy] hh
theorem w_m_post_Open {p : TPost} {s : TSub} {r : (TPost × (List THit) × Int)} (h : m_post_Open p s = some r) : Spec Pg 19 [.agg [.int .i64 p.Next, sl TMail.c p.Mails, sl TSub.c p.Subs], .agg [.int .i64 s.Part, .int .i64 s.Id, .int .i64 s.Inst, .str s.Name, .int .i64 s.Key, .int .i64 s.Mail]] [] 0 (.tup [.agg [.int .i64 r.1.Next, sl TMail.c r.1.Mails, sl TSub.c r.1.Subs], sl THit.c r.2.1, .int .i64 r.2.2]) [] 0 := by
  refine Spec.intro Try.func19 i19_ok (le_of_ble rfl) ?_
  show Wp Pg 70 0 i19_B ⟨argEnv _ i19_V, [], _, _⟩ (qf_19 r)
  unfold m_post_Open at h
  unfold i19_B
  refine weakP [] ?_
  refine Wp.seq (regP (seqN (Wp.seq (Wp.seq (Wp.reg ?_)))))
  replace h := bndS h; obtain ⟨r0, g1, h⟩ := h
  refine chunkT 2 (tab_cons (w_m_post_sub g1) (tab_nil _)) ?_
  replace h := ifS h; rcases h with ⟨g2, h⟩ | ⟨g2, h⟩
  · refine lastT (tab_nil _) (seqN ?_)
    exact jumpK [.kill [0, 1, 5, 6, 7, 8, 9, 10, 11, 12, 29, 32, 42, 43, 44, 54], .tidy] (w_open_k1 h)
  · refine lastT (tab_nil _) (seqN ?_)
    exact jumpK [.kill [0, 1, 5, 6, 7, 8, 9, 10, 11, 12, 29, 32, 42, 43, 44, 54], .tidy] (w_open_k1 h)
end Go.Proofs.Ytefjblgmnoheiaa.R

