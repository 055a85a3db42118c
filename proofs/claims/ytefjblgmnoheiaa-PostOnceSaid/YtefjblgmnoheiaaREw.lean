/- Equations for slices that are made, appended to, written. -/
import Derived.Test.YtefjblgmnoheiaaREv
set_option linter.unusedVariables false
set_option linter.unusedSectionVars false
set_option linter.unusedSimpArgs false
noncomputable section
namespace Go.Proofs.Ytefjblgmnoheiaa.R
open Go
section
variable (es : Nat) (e l : List (Nat × AV)) (H : Heap) (nx : Nat)
def newK (b : Bool) (x : Option (AV × St)) : Option (AV × St) := if b = true then x else none
theorem newK_t (x : Option (AV × St)) : newK true x = x := rfl
theorem newArr_eq (rows : List (List AV)) : newArr ⟨e, l, H, nx⟩ es rows = newK (capB rows.length) (some (.own es nx 0 rows.length false, ⟨e, l, (nx, .arr es rows 0) :: H, nx + 1⟩)) := by
  simp only [newArr, newK, capB, St.add]
  by_cases h : rows.length ≤ limN <;> simp [h]
def appK (s : St) (base : AV) : Option (List (List AV)) → Option (AV × St)
  | some new =>
    match base with
    | .nil => newArr s es new
    | .imm es' rows ex =>
      if esFit es es' rows = true ∧ ex = true then
        if rows.length = 0 then newArr s es new
        else if 0 < new.length then newArr s es (rows ++ new) else none
      else none
    | .own es' id off len ex =>
      if es' = es then
        match lk s.H id with
        | some (.arr _ rows leak) =>
          if ex = true then
            if len = 0 then newArr s es new
            else if 0 < new.length ∧ off + len ≤ rows.length then newArr s es ((rows.drop off).take len ++ new) else none
          else if off = 0 ∧ len ≤ rows.length ∧ leak ≤ len ∧ len + new.length ≤ limN then
            some (.own es s.nx 0 (len + new.length) false, (s.setH (rmv s.H id)).add (.arr es (rows.take len ++ new) leak))
          else none
        | _ => none
      else none
    | _ => none
  | none => none
theorem app_eq (s : St) (base x : AV) : appAV es s base x = appK es s base (srcRows es s.H x) := by
  unfold appAV appK
  cases srcRows es s.H x <;> rfl
theorem appK_nil (s : St) (new : List (List AV)) : appK es s .nil (some new) = newArr s es new := rfl
theorem appK_imm (s : St) (new : List (List AV)) (es' : Nat) : appK es s (.imm es' [] true) (some new) = newArr s es new := by simp [appK, esFit]
def appO (id off len : Nat) (ex : Bool) (new : List (List AV)) : Option Ob → Option (AV × St)
  | some (.arr _ rows leak) =>
    if ex = true then
      if len = 0 then newArr ⟨e, l, H, nx⟩ es new
      else if 0 < new.length ∧ off + len ≤ rows.length then newArr ⟨e, l, H, nx⟩ es ((rows.drop off).take len ++ new) else none
    else if off = 0 ∧ len ≤ rows.length ∧ leak ≤ len then
      newK (capB (len + new.length)) (some (.own es nx 0 (len + new.length) false, ⟨e, l, (nx, .arr es (rows.take len ++ new) leak) :: rmv H id, nx + 1⟩))
    else none
  | _ => none
theorem appK_own (id off len : Nat) (ex : Bool) (new : List (List AV)) : appK es ⟨e, l, H, nx⟩ (.own es id off len ex) (some new) = appO es e l H nx id off len ex new (lk H id) := by
  simp only [appK, if_true, appO]
  cases lk H id with
  | none => rfl
  | some o =>
    cases o with
    | box c => rfl
    | arr es2 rows leak =>
      simp only [newK, capB, St.add, St.setH]
      split
      · rfl
      · by_cases h : off = 0 ∧ len ≤ rows.length ∧ leak ≤ len
        · rw [if_pos h]
          by_cases h2 : len + new.length ≤ limN
          · rw [if_pos ⟨h.1, h.2.1, h.2.2, h2⟩]; simp [h2]
          · rw [if_neg (fun hh => h2 hh.2.2.2)]; simp [h2]
        · rw [if_neg h, if_neg (fun hh => h ⟨hh.1, hh.2.1, hh.2.2.1⟩)]
    | arx es2 rows => rfl
theorem appO_f (id len es2 : Nat) (new rows : List (List AV)) (leak : Nat) : appO es e l H nx id 0 len false new (some (.arr es2 rows leak)) = if len = rows.length then (if leak ≤ len then newK (capB (len + new.length)) (some (.own es nx 0 (len + new.length) false, ⟨e, l, (nx, .arr es (rows ++ new) leak) :: rmv H id, nx + 1⟩)) else none) else if len ≤ rows.length ∧ leak ≤ len then newK (capB (len + new.length)) (some (.own es nx 0 (len + new.length) false, ⟨e, l, (nx, .arr es (rows.take len ++ new) leak) :: rmv H id, nx + 1⟩)) else none := by
  by_cases h : len = rows.length
  · subst h
    simp [appO]
  · rw [if_neg h]
    simp [appO]
theorem appO_t (id len es2 : Nat) (new rows : List (List AV)) (leak : Nat) : appO es e l H nx id 0 len true new (some (.arr es2 rows leak)) = if len = 0 then newArr ⟨e, l, H, nx⟩ es new else if 0 < new.length ∧ len ≤ rows.length then newArr ⟨e, l, H, nx⟩ es (rows.take len ++ new) else none := by
  simp [appO]
end
/-! Rows that a slice of one's own holds -/
def ownRK (off len : Nat) : Option Ob → Option (List (List AV))
  | some (.arr _ rows _) => if off + len ≤ rows.length then some ((rows.drop off).take len) else none
  | _ => none
theorem src_own0 (n : Nat) (H : Heap) (id off len : Nat) (ex : Bool) : srcRows n H (.own n id off len ex) = ownRK off len (lk H id) := by
  simp only [srcRows, rowsOf, if_true, ownRK]
  cases lk H id with
  | none => rfl
  | some o => cases o <;> rfl
theorem rows_own0 (n : Nat) (H : Heap) (id off len : Nat) (ex : Bool) : rowsOf n H (.own n id off len ex) = ownRK off len (lk H id) := by
  simp only [rowsOf, if_true, ownRK]
  cases lk H id with
  | none => rfl
  | some o => cases o <;> rfl
theorem take_all {α : Type} {l : List α} {n : Nat} (h : l.length = n) : l.take n = l := by subst h; simp
theorem ownRK_arr (len es : Nat) (rows : List (List AV)) (leak : Nat) (h : rows.length = len) : ownRK 0 len (some (.arr es rows leak)) = some rows := by
  simp [ownRK, h, take_all]
theorem src_nil0 (n : Nat) (H : Heap) : srcRows n H .nil = some [] := rfl
theorem src_str (H : Heap) (s : ByteArray) : srcRows 1 H (.str s) = some (byteRows s) := rfl
/-! Frozen slices of one's own -/
def frzOK (off len : Nat) : Option Ob → AV
  | some (.arr _ rows _) => if off + len ≤ rows.length then canI ((rows.drop off).take len) else .bad
  | _ => .bad
theorem frz_own0 (H : Heap) (es id off len : Nat) (ex : Bool) : frz H (.own es id off len ex) = frzOK off len (lk H id) := by
  simp only [frz, frzOK]
  cases lk H id with
  | none => rfl
  | some o => cases o <;> rfl
theorem frzOK_map {α : Type} {c : α → List AV} (l : List α) (es leak len : Nat) (h : l.length = len) : frzOK 0 len (some (.arr es (l.map c) leak)) = sl c l := by
  subst h
  simp [frzOK, sl, canI, take_all]
theorem frzOK_rows (rows : List (List AV)) (es leak len : Nat) (h : rows.length = len) : frzOK 0 len (some (.arr es rows leak)) = canI rows := by
  subst h
  simp [frzOK, take_all]
theorem leak_own0 (H : Heap) (es id off len : Nat) (ex : Bool) : leakV H (.own es id off len ex) = leakAt H id (off + len) := rfl
theorem leakAt_nil (id n : Nat) : leakAt [] id n = [] := rfl
theorem leakAt_cons (id n k : Nat) (o : Ob) (r : Heap) : leakAt ((k, o) :: r) id n = (k, if k = id then leakOb n o else o) :: leakAt r id n := by
  simp only [leakAt, List.map_cons, List.cons.injEq, and_true]
  split <;> rfl
theorem leakOb_arr (es n leak : Nat) (rows : List (List AV)) : leakOb n (.arr es rows leak) = .arr es rows (max leak n) := rfl
theorem leakOb_box (n : Nat) (cells : List AV) : leakOb n (.box cells) = .box cells := rfl
theorem max_0 (n : Nat) : max 0 n = n := by omega
theorem max_s (n : Nat) : max n n = n := by omega
/-! Literals -/
/-- May there be so many new elements? -/
def mkB (n : Int) : Bool := decide (0 ≤ n) && decide (n ≤ (limN : Int))
theorem mks_eq (es : Nat) (z : List AV) (e l : List (Nat × AV)) (H : Heap) (nx : Nat) (n : Int) : mksAV es z ⟨e, l, H, nx⟩ (.int .i64 n) (.int .i64 n) = newK (mkB n) (some (.own es nx 0 n.toNat true, ⟨e, l, (nx, .arr es (List.replicate n.toNat z) 0) :: H, nx + 1⟩)) := by
  simp only [mksAV, mkB, newK, Int.le_refl, true_and]
  by_cases h0 : 0 ≤ n
  · by_cases h1 : n ≤ (limN : Int)
    · simp [h0, h1, St.add]
    · simp [h0, h1]
  · simp [h0]
def bslK (es len : Nat) (e l : List (Nat × AV)) (H : Heap) (nx : Nat) : Option (List (List AV)) → Option (AV × St)
  | some rows => some (.own es nx 0 len true, ⟨e, l, (nx, .arr es rows 0) :: H, nx + 1⟩)
  | none => none
theorem bsl_eq (es len : Nat) (z : List AV) (e l : List (Nat × AV)) (H : Heap) (nx : Nat) (ps : List (Nat × AV)) : bslAV es z len ⟨e, l, H, nx⟩ ps = bslK es len e l (leakAll H ps) nx (fillRows es H (List.replicate len z) ps) := by
  unfold bslAV bslK
  cases fillRows es H (List.replicate len z) ps <;> rfl
theorem bslK_some (es len : Nat) (e l : List (Nat × AV)) (H : Heap) (nx : Nat) (rows : List (List AV)) : bslK es len e l H nx (some rows) = some (.own es nx 0 len true, ⟨e, l, (nx, .arr es rows 0) :: H, nx + 1⟩) := rfl
theorem fillR_nil (es : Nat) (H : Heap) (rows : List (List AV)) : fillRows es H rows [] = some rows := rfl
def fillRK (es : Nat) (H : Heap) (rows : List (List AV)) (i : Nat) (r : List (Nat × AV)) : Option (List AV) → Option (List (List AV))
  | some vs => if vs.length = es ∧ i < rows.length ∧ idFrees vs = true ∧ cellBs vs = true then fillRows es H (rows.set i vs) r else none
  | none => none
theorem fillR_cons (es : Nat) (H : Heap) (rows : List (List AV)) (i : Nat) (v : AV) (r : List (Nat × AV)) : fillRows es H rows ((i, v) :: r) = fillRK es H rows i r (cellsOf (frz H v)) := by
  simp only [fillRows, fillRK]
  cases cellsOf (frz H v) <;> rfl
theorem fillRK_some (es : Nat) (H : Heap) (rows : List (List AV)) (i : Nat) (r : List (Nat × AV)) (vs : List AV) : fillRK es H rows i r (some vs) = if vs.length = es ∧ i < rows.length ∧ idFrees vs = true ∧ cellBs vs = true then fillRows es H (rows.set i vs) r else none := rfl
theorem leakA_nil (H : Heap) : leakAll H [] = H := rfl
theorem leakA_cons (H : Heap) (i : Nat) (v : AV) (r : List (Nat × AV)) : leakAll H ((i, v) :: r) = leakAll (leakV H v) r := rfl
theorem rep_0 {α : Type} (x : α) : List.replicate 0 x = [] := rfl
theorem rep_s {α : Type} (n : Nat) (x : α) : List.replicate (n + 1) x = x :: List.replicate n x := rfl
theorem set_0 {α : Type} (a b : α) (l : List α) : (a :: l).set 0 b = b :: l := rfl
theorem set_s {α : Type} (a b : α) (l : List α) (n : Nat) : (a :: l).set (n + 1) b = a :: l.set n b := rfl
theorem s2b_eq (e l : List (Nat × AV)) (H : Heap) (nx : Nat) (s : ByteArray) : s2bAV ⟨e, l, H, nx⟩ (.str s) = some (sl (ci .u8) (bytesI s), ⟨e, l, (nx, .box []) :: H, nx + 1⟩) := by
  rw [s2bAV, byteRows_eq]
  rfl
/-! Reading and writing an array of one's own -/
theorem ias_ownL {α : Type} {l : List α} {i : Int} {x : α} {k : IntKind} {n id len : Nat} {ex : Bool} (hx : nthI l i = some x) (hl : l.length = len) : iasAV n (.own n id 0 len ex) (.int k i) = some (.eptr id i.toNat 0) := by
  obtain ⟨h0, h1, h2⟩ := nthI_some hx
  subst hl
  have : i < (l.length : Int) := by omega
  simp [iasAV, h0, this]
/-- Another element at a number. -/
def setI {α : Type} (l : List α) (i : Int) (x : α) : List α := l.set i.toNat x
theorem setI_len {α : Type} (l : List α) (k : Int) (x : α) : (setI l k x).length = l.length := by simp [setI]
def ldR (a : Bool) (size f : Nat) : Option (List AV) → Option AV | some row => part a size row f | none => none
def ldE (a : Bool) (size f i : Nat) : Option Ob → Option AV | some (.arr _ rows _) => ldR a size f rows[i]? | some (.arx _ rows) => ldR a size f rows[i]? | _ => none
theorem ld_ep (a : Bool) (size : Nat) (H : Heap) (id i f : Nat) : loadAV a size H (.eptr id i f) = ldE a size f i (lk H id) := by
  simp only [loadAV, ldE]
  cases lk H id with
  | none => rfl
  | some o =>
    cases o
    · rfl
    · rename_i es rows leak
      simp only [ldR]
      cases rows[i]? <;> rfl
    · rename_i es rows
      simp only [ldR]
      cases rows[i]? <;> rfl
theorem ldE_arr (a : Bool) (size f i es leak : Nat) (rows : List (List AV)) : ldE a size f i (some (.arr es rows leak)) = ldR a size f rows[i]? := rfl
theorem ldR_some (a : Bool) (size f : Nat) (row : List AV) : ldR a size f (some row) = part a size row f := rfl
theorem ld_get {α : Type} {c : α → List AV} {l : List α} {i : Int} {x : α} (hx : nthI l i = some x) : (List.map c l)[i.toNat]? = some (c x) := by
  obtain ⟨_, _, g2⟩ := nthI_some hx
  simp [g2]
theorem sll_ownH {α : Type} {l l' : List α} {hi : Int} {k : IntKind} {n id : Nat} (h : sliceL l 0 hi = some l') : sllAV n (.own n id 0 l.length false) none (some (.int k hi)) none = some (.own n id 0 l'.length false) := by
  unfold sliceL at h
  split at h
  · rename_i hc
    obtain rfl := Option.some.inj h
    have hb : bnds l.length false none (some (.int k hi)) none = some (0, hi.toNat, false) := by
      simp [bnds, optI, asI, hc.2.1, hc.2.2]
    have : min hi.toNat l.length = hi.toNat := by omega
    simp [sllAV, hb, this]
  · cases h
theorem cut_map {α : Type} {c : α → List AV} {l l' : List α} {hi : Int} (h : sliceL l 0 hi = some l') : (List.map c l).take l'.length = List.map c l' := by
  unfold sliceL at h
  split at h
  · rename_i hc
    obtain rfl := Option.some.inj h
    have : min hi.toNat l.length = hi.toNat := by omega
    simp [List.map_take, this]
  · cases h
theorem sll_ownL {α : Type} {l l' : List α} {lo : Int} {k : IntKind} {n id : Nat} (h : sliceL l lo l.length = some l') : sllAV n (.own n id 0 l.length false) (some (.int k lo)) none none = some (.own n id lo.toNat l'.length false) := by
  unfold sliceL at h
  split at h
  · rename_i hc
    obtain rfl := Option.some.inj h
    have hb : bnds l.length false (some (.int k lo)) none none = some (lo.toNat, l.length, false) := by
      simp [bnds, optI, asI, hc.1, hc.2.1]
    simp [sllAV, hb]
  · cases h
theorem dr_le {α : Type} {l l' : List α} {lo : Int} (h : sliceL l lo l.length = some l') : lo.toNat + l'.length ≤ l.length := by
  unfold sliceL at h
  split at h
  · rename_i hc
    obtain rfl := Option.some.inj h
    simp
    omega
  · cases h
theorem dr_map {α : Type} {c : α → List AV} {l l' : List α} {lo : Int} (h : sliceL l lo l.length = some l') : ((List.map c l).drop lo.toNat).take l'.length = List.map c l' := by
  unfold sliceL at h
  split at h
  · rename_i hc
    obtain rfl := Option.some.inj h
    simp [List.map_drop]
    rw [List.take_of_length_le]
    simp
  · cases h
theorem frzOK_S {α : Type} {c : α → List AV} {l l' : List α} {lo : Int} (h : sliceL l lo l.length = some l') (es leak : Nat) : frzOK lo.toNat l'.length (some (.arr es (List.map c l) leak)) = sl c l' := by
  have h1 := dr_le h
  have h2 := dr_map (c := c) h
  simp only [frzOK, List.length_map]
  rw [if_pos h1, h2]
  rfl
def stE2 (size id i f : Nat) (H : Heap) (vs : List AV) (es : Nat) (rows : List (List AV)) (leak : Nat) : Option (List AV) → Option Heap
  | some row => if vs.length = size ∧ f + vs.length ≤ row.length ∧ leak ≤ i ∧ idFrees vs = true ∧ cellBs vs = true then upd H id (.arr es (rows.set i (setAt row f vs)) leak) else none
  | none => none
def stE1 (size id i f : Nat) (X : Nat → List (List AV) → Option Heap) (H : Heap) : Option (List AV) → Option Ob → Option Heap
  | some vs, some (.arr es rows leak) => stE2 size id i f H vs es rows leak rows[i]?
  | some _, some (.arx es rows) => X es rows
  | _, _ => none
theorem st_ep (size : Nat) (H : Heap) (id i f : Nat) (v : AV) : storeH size H (.eptr id i f) v = stE1 size id i f (fun es rows => storeX size H id i f es rows v) (leakV H v) (cellsOf (frz H v)) (lk (leakV H v) id) := by
  simp only [storeH, stE1]
  cases cellsOf (frz H v) with
  | none => rfl
  | some vs =>
    cases lk (leakV H v) id with
    | none => rfl
    | some o =>
      cases o
      · rfl
      · rename_i es rows leak
        simp only [stE2]
        cases rows[i]? <;> rfl
      · rfl
theorem stE1_arr (size id i f : Nat) (X : Nat → List (List AV) → Option Heap) (H : Heap) (vs : List AV) (es : Nat) (rows : List (List AV)) (leak : Nat) : stE1 size id i f X H (some vs) (some (.arr es rows leak)) = stE2 size id i f H vs es rows leak rows[i]? := rfl
theorem stE2_some (size id i f : Nat) (H : Heap) (vs : List AV) (es : Nat) (rows : List (List AV)) (leak : Nat) (row : List AV) : stE2 size id i f H vs es rows leak (some row) = if vs.length = size ∧ f + vs.length ≤ row.length ∧ leak ≤ i ∧ idFrees vs = true ∧ cellBs vs = true then upd H id (.arr es (rows.set i (setAt row f vs)) leak) else none := rfl
theorem nthI_setI {α : Type} {l : List α} {i : Int} {x y : α} (h : nthI l i = some x) : nthI (setI l i y) i = some y := by
  obtain ⟨h1, h2, _⟩ := nthI_some h
  unfold nthI setI
  rw [if_pos h1, List.getElem?_set_self h2]
theorem set_get {α : Type} (c : α → List AV) (l : List α) (i : Int) (y : α) : (List.map c l).set i.toNat (c y) = List.map c (setI l i y) := by rw [setI, List.map_set]
theorem capB_0 : capB 0 = true := rfl
theorem capB_1 : capB 1 = true := rfl
theorem capB_2 : capB 2 = true := rfl
theorem capB_3 : capB 3 = true := rfl
theorem capB_4 : capB 4 = true := rfl
theorem capB_5 : capB 5 = true := rfl
theorem capB_6 : capB 6 = true := rfl
theorem capB_7 : capB 7 = true := rfl
theorem capB_8 : capB 8 = true := rfl
theorem mx_int (k : IntKind) (a b : Int) : mxAV (.int k a) (.int k b) = some (.int k (if a < b then b else a)) := by simp [mxAV, numV_eq]
theorem mn_int (k : IntKind) (a b : Int) : mnAV (.int k a) (.int k b) = some (.int k (if b < a then b else a)) := by simp [mnAV, numV_eq]
theorem nc_ptr (id off : Nat) : ncAV (.ptr id off) = some (.ptr id off) := rfl
theorem nc_eptr (id i f : Nat) : ncAV (.eptr id i f) = some (.eptr id i f) := rfl
theorem nc_iptr (row : List AV) (f : Nat) : ncAV (.iptr row f) = some (.iptr row f) := rfl
theorem nc_fn (f : Nat) (a b : List AV) : ncAV (.fn (.func f) a b) = some (.fn (.func f) a b) := rfl
def eqcK (ng : Bool) : Option Bool → Option AV | some b => truV (if ng then !b else b) | none => none
theorem eqc_eq (ng : Bool) (l : List (Nat × Nat)) (xs ys : List AV) : eqcAV ng l (.agg xs) (.agg ys) = eqcK ng (eqCells l xs ys) := by
  simp only [eqcAV, eqcK]
  cases eqCells l xs ys <;> rfl
theorem eqcK_f (b : Bool) : eqcK false (some b) = some (.bool b) := by simp [eqcK, truV_eq]
theorem eqcK_t (b : Bool) : eqcK true (some b) = some (.bool (!b)) := by simp [eqcK, truV_eq]
def andO (b : Bool) (x : Option Bool) : Option Bool := match x with | some c => some (b && c) | none => if b = true then none else some false
theorem andO_some (b c : Bool) : andO b (some c) = some (b && c) := rfl
def eqcC (r : List (Nat × Nat)) (xs ys : List AV) (q : Nat) : Option AV → Option AV → Option Bool
  | some x, some y => match eqCell q x y with | some b => andO b (eqCells r xs ys) | none => none
  | _, _ => none
theorem eqCs_nil (xs ys : List AV) : eqCells [] xs ys = some true := rfl
theorem eqCs_cons (i q : Nat) (r : List (Nat × Nat)) (xs ys : List AV) : eqCells ((i, q) :: r) xs ys = eqcC r xs ys q xs[i]? ys[i]? := by
  simp only [eqCells, eqcC]
  cases xs[i]? with
  | none => rfl
  | some x =>
    cases ys[i]? with
    | none => rfl
    | some y =>
      simp only
      cases eqCell q x y with
      | none => rfl
      | some b => cases b <;> simp only [andO] <;> cases eqCells r xs ys <;> simp
theorem eqcC_int (r : List (Nat × Nat)) (xs ys : List AV) (k : IntKind) (a b : Int) : eqcC r xs ys 1 (some (.int k a)) (some (.int k b)) = andO (decide (a = b)) (eqCells r xs ys) := by
  have : (a == b) = decide (a = b) := by by_cases h : a = b <;> simp [h]
  simp [eqcC, eqCell, this]
theorem eqcC_bool (r : List (Nat × Nat)) (xs ys : List AV) (a b : Bool) : eqcC r xs ys 0 (some (.bool a)) (some (.bool b)) = andO (a == b) (eqCells r xs ys) := rfl
theorem eqcC_str (r : List (Nat × Nat)) (xs ys : List AV) (a b : ByteArray) : eqcC r xs ys 2 (some (.str a)) (some (.str b)) = andO (eqS a b) (eqCells r xs ys) := rfl
theorem i_eq (n : Int) : (n = n) = True := by simp
theorem n_eq (n : Nat) : (n = n) = True := by simp
theorem n_le (n : Nat) : (n ≤ n) = True := by simp
theorem k_eq (n : IntKind) : (n = n) = True := by simp
theorem i_beq (n : Int) : (n == n) = true := by simp
def quoK (k : IntKind) (b : Bool) (n : Int) : Option AV := if b = true then none else some (.int k n)
theorem quoK_f (k : IntKind) (n : Int) : quoK k false n = some (.int k n) := rfl
/-! Shifts -/
def shrI (k : IntKind) (a b : Int) : Int := a.fdiv (2 ^ (min b.toNat k.bits))
def shlI (k : IntKind) (a b : Int) : Int := k.wrap (a * 2 ^ (min b.toNat k.bits))
theorem bin_shr (k : IntKind) (a b : Int) : binInt .shr k a b = quoK k (decide (b < 0)) (shrI k a b) := by
  by_cases h : b < 0 <;> simp [binInt, h, quoK, numV_eq, shrI]
theorem bin_shl (k : IntKind) (a b : Int) : binInt .shl k a b = quoK k (decide (b < 0)) (shlI k a b) := by
  by_cases h : b < 0 <;> simp [binInt, h, quoK, numV_eq, shlI]
def clnK (es : Nat) (s : St) : Option (List (List AV)) → Option (AV × St)
  | some rows => newArr s es rows
  | none => none
theorem cln_eq (es : Nat) (s : St) (x : AV) : clnAV es s x = clnK es s (rowsOf es s.H x) := rfl
theorem clnK_some (es : Nat) (s : St) (rows : List (List AV)) : clnK es s (some rows) = newArr s es rows := rfl
theorem bin_and (k : IntKind) (a b : Int) : binInt .and k a b = some (.int k (andI k a b)) := numV_eq _ _
theorem bin_or (k : IntKind) (a b : Int) : binInt .or k a b = some (.int k (orI k a b)) := numV_eq _ _
theorem bin_xor (k : IntKind) (a b : Int) : binInt .xor k a b = some (.int k (xorI k a b)) := numV_eq _ _
theorem bin_intS (op : BinOp) (k k' : IntKind) (a b : Int) (h : shB op = true) : binAV op (.int k a) (.int k' b) = binInt op k a b := by simp [binAV, h]
/-! Computed places in arrays -/
/-! Elements and pieces of what is only read -/
section
variable {α : Type} {c : α → List AV} {n : Nat}
def iasK (c : α → List AV) : Option α → Option AV | some x => some (.iptr (c x) 0) | none => none
theorem iasK_some (x : α) : iasK c (some x) = some (.iptr (c x) 0) := rfl
theorem ias_sl0 [h : Row c n] (l : List α) (k : IntKind) (i : Int) : iasAV n (sl c l) (.int k i) = iasK c (nthI l i) := by
  cases hx : nthI l i with
  | some x => rw [ias_sl hx]; rfl
  | none =>
    unfold nthI at hx
    simp only [sl, canI, iasAV, iasK]
    split
    · rename_i hc
      rw [if_pos hc.2] at hx
      rw [List.getElem?_map, hx]
      rfl
    · rfl
theorem ias_nilI (size : Nat) (k : IntKind) (i : Int) : iasAV size nilI (.int k i) = none := by simp [nilI, canI, iasAV]
def sllK (c : α → List AV) : Option (List α) → Option AV | some x => some (sl c x) | none => none
theorem sllK_some (x : List α) : sllK c (some x) = some (sl c x) := rfl
theorem bnds_none {m : Nat} {ex : Bool} {lo hi : Option AV} {l h : Int} (hl : optI lo = some (some l) ∨ (lo = none ∧ l = 0)) (hh : optI hi = some (some h) ∨ (hi = none ∧ h = m)) (hc : ¬ (0 ≤ l ∧ l ≤ h ∧ h ≤ (m : Int))) : bnds m ex lo hi none = none := by
  have e1 : ∃ a, optI lo = some a ∧ a.getD 0 = l := by
    rcases hl with hl | ⟨rfl, rfl⟩
    · exact ⟨_, hl, rfl⟩
    · exact ⟨none, rfl, rfl⟩
  have e2 : ∃ a, optI hi = some a ∧ a.getD (m : Int) = h := by
    rcases hh with hh | ⟨rfl, rfl⟩
    · exact ⟨_, hh, rfl⟩
    · exact ⟨none, rfl, rfl⟩
  obtain ⟨a, a1, a2⟩ := e1
  obtain ⟨b, b1, b2⟩ := e2
  have e3 : optI none = some none := rfl
  simp only [bnds, a1, b1, e3]
  rw [if_neg]
  rintro ⟨h1, h2, h3, _⟩
  rw [a2] at h1 h2
  rw [b2] at h2 h3
  exact hc ⟨h1, h2, by simpa using h3⟩
theorem sll_hf [h : Row c n] (l : List α) : esFit n (esOf (l.map c)) (l.map c) = true := by
  rcases esOf_map (c := c) (l := l) with h | h
  · subst h; rfl
  · rw [h]; simp [esFit]
theorem sll_slA [h : Row c n] (l : List α) (k k' : IntKind) (lo hi : Int) : sllAV n (sl c l) (some (.int k lo)) (some (.int k' hi)) none = sllK c (sliceL l lo hi) := by
  cases hx : sliceL l lo hi with
  | some x => rw [sll_sl hx]; rfl
  | none =>
    have hc : ¬ (0 ≤ lo ∧ lo ≤ hi ∧ hi ≤ (l.length : Int)) := by
      unfold sliceL at hx
      split at hx
      · cases hx
      · assumption
    simp only [sl, canI, sllAV, sll_hf, if_true, sllK]
    rw [bnds_none (l := lo) (h := hi) (.inl rfl) (.inl rfl) (by simpa using hc)]
theorem sll_slB [h : Row c n] (l : List α) (k : IntKind) (lo : Int) : sllAV n (sl c l) (some (.int k lo)) none none = sllK c (sliceL l lo l.length) := by
  cases hx : sliceL l lo l.length with
  | some x => rw [sll_slL hx]; rfl
  | none =>
    have hc : ¬ (0 ≤ lo ∧ lo ≤ (l.length : Int) ∧ (l.length : Int) ≤ (l.length : Int)) := by
      unfold sliceL at hx
      split at hx
      · cases hx
      · assumption
    simp only [sl, canI, sllAV, sll_hf, if_true, sllK]
    rw [bnds_none (l := lo) (h := l.length) (.inl rfl) (.inr ⟨rfl, by simp⟩) (by simpa using hc)]
theorem sll_slC [h : Row c n] (l : List α) (k : IntKind) (hi : Int) : sllAV n (sl c l) none (some (.int k hi)) none = sllK c (sliceL l 0 hi) := by
  cases hx : sliceL l 0 hi with
  | some x => rw [sll_slH hx]; rfl
  | none =>
    have hc : ¬ ((0 : Int) ≤ 0 ∧ 0 ≤ hi ∧ hi ≤ (l.length : Int)) := by
      unfold sliceL at hx
      split at hx
      · cases hx
      · assumption
    simp only [sl, canI, sllAV, sll_hf, if_true, sllK]
    rw [bnds_none (l := 0) (h := hi) (.inr ⟨rfl, rfl⟩) (.inl rfl) (by simpa using hc)]
end
section
variable {α : Type} {c : α → List AV} {n : Nat}
def sllX (c : α → List AV) : Option (List α) → Option AV | some x => some (slx c x) | none => none
theorem sllX_some (x : List α) : sllX c (some x) = some (slx c x) := rfl
theorem sll_slD [h : Row c n] (l : List α) (k k' : IntKind) (hi : Int) : sllAV n (sl c l) none (some (.int k hi)) (some (.int k' hi)) = sllX c (sliceL l 0 hi) := by
  cases hx : sliceL l 0 hi with
  | some x => rw [sll_slx hx]; rfl
  | none =>
    have hc : ¬ ((0 : Int) ≤ 0 ∧ 0 ≤ hi ∧ hi ≤ (l.length : Int)) := by
      unfold sliceL at hx
      split at hx
      · cases hx
      · assumption
    have hb : bnds (l.map c).length false none (some (.int k hi)) (some (.int k' hi)) = none := by
      simp only [bnds, optI, asI, Option.getD_none, Option.getD_some, List.length_map]
      rw [if_neg]
      intro hh
      exact hc ⟨Int.le_refl _, hh.2.1, by have := hh.2.2.1; have := hh.2.2.2.1; omega⟩
    simp only [sl, canI, sllAV, sll_hf, if_true, sllX]
    rw [hb]
end
def ixsK : Option Int → Option AV | some x => some (.int .u8 x) | none => none
theorem ixsK_some (x : Int) : ixsK (some x) = some (.int .u8 x) := rfl
theorem ixs_eq (s : ByteArray) (k : IntKind) (i : Int) : ixsAV (.str s) (.int k i) = ixsK (nthS s i) := by
  cases hx : nthS s i with
  | some x => rw [ixs_nth hx]; rfl
  | none =>
    unfold nthS at hx
    simp only [ixsAV, ixsK]
    split
    · rename_i hc
      rw [if_pos hc] at hx
      simp only [Option.map_eq_none_iff] at hx
      rw [hx]
    · rfl
def slsK : Option ByteArray → Option AV | some x => some (.str x) | none => none
theorem slsK_some (x : ByteArray) : slsK (some x) = some (.str x) := rfl
theorem sls_A (s : ByteArray) (k k' : IntKind) (lo hi : Int) : slsAV (.str s) (some (.int k lo)) (some (.int k' hi)) = slsK (sliceS s lo hi) := by
  cases hx : sliceS s lo hi with
  | some x => rw [sls_sl hx]; rfl
  | none =>
    have hc : ¬ (0 ≤ lo ∧ lo ≤ hi ∧ hi ≤ (s.size : Int)) := by
      unfold sliceS at hx
      split at hx
      · cases hx
      · assumption
    simp only [slsAV, slsK]
    rw [bnds_none (l := lo) (h := hi) (.inl rfl) (.inl rfl) hc]
theorem sls_B (s : ByteArray) (k : IntKind) (lo : Int) : slsAV (.str s) (some (.int k lo)) none = slsK (sliceS s lo s.size) := by
  cases hx : sliceS s lo s.size with
  | some x => rw [sls_slL hx]; rfl
  | none =>
    have hc : ¬ (0 ≤ lo ∧ lo ≤ (s.size : Int) ∧ (s.size : Int) ≤ (s.size : Int)) := by
      unfold sliceS at hx
      split at hx
      · cases hx
      · assumption
    simp only [slsAV, slsK]
    rw [bnds_none (l := lo) (h := s.size) (.inl rfl) (.inr ⟨rfl, rfl⟩) hc]
theorem sls_C (s : ByteArray) (k : IntKind) (hi : Int) : slsAV (.str s) none (some (.int k hi)) = slsK (sliceS s 0 hi) := by
  cases hx : sliceS s 0 hi with
  | some x => rw [sls_slH hx]; rfl
  | none =>
    have hc : ¬ ((0 : Int) ≤ 0 ∧ 0 ≤ hi ∧ hi ≤ (s.size : Int)) := by
      unfold sliceS at hx
      split at hx
      · cases hx
      · assumption
    simp only [slsAV, slsK]
    rw [bnds_none (l := 0) (h := hi) (.inr ⟨rfl, rfl⟩) (.inl rfl) hc]
def catK (b : Bool) (s : ByteArray) : Option AV := if b = true then some (.str s) else none
theorem catK_t (s : ByteArray) : catK true s = some (.str s) := rfl
theorem bstr_cat (a b : ByteArray) : binStr .add a b = catK (catB a b) (a ++ b) := by
  simp only [binStr, catK, catB]
  by_cases h : a.size + b.size ≤ 1099511627776 <;> simp [h]
theorem bin_quoK (k : IntKind) (a b : Int) : binInt .quo k a b = quoK k (decide (b = 0)) (k.wrap (a.tdiv b)) := by
  rw [bin_quo]
  by_cases h : b = 0 <;> simp [h, quoK]
theorem bin_remK (k : IntKind) (a b : Int) : binInt .rem k a b = quoK k (decide (b = 0)) (a.tmod b) := by
  rw [bin_rem]
  by_cases h : b = 0 <;> simp [h, quoK]
end Go.Proofs.Ytefjblgmnoheiaa.R
