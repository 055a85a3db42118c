/- Typed values as abstract ones; what operations do to them. -/
import Derived.Test.YtefjblgmnoheiaaRLaw
import Derived.Laws.Strings
set_option linter.unusedVariables false
set_option linter.unusedSectionVars false
set_option linter.unusedSimpArgs false
noncomputable section
namespace Go.Proofs.Ytefjblgmnoheiaa.R
open Go
/-! ### Plain words of the models -/
def bnd {α β : Type} (x : Option α) (f : α → Option β) : Option β := match x with | some a => f a | none => none
theorem bndS {α β : Type} {x : Option α} {f : α → Option β} {r : β} (h : bnd x f = some r) : ∃ a, x = some a ∧ f a = some r := by
  cases x with
  | none => cases h
  | some a => exact ⟨a, rfl, h⟩
theorem bnd_some {α β : Type} (a : α) (f : α → Option β) : bnd (some a) f = f a := rfl
theorem ifS {α : Type} {b : Bool} {x y : Option α} {r : α} (h : (if b = true then x else y) = some r) : (b = true ∧ x = some r) ∨ (b = false ∧ y = some r) := by
  cases b
  · exact .inr ⟨rfl, by simpa using h⟩
  · exact .inl ⟨rfl, by simpa using h⟩
theorem reqS {α : Type} {b : Bool} {x : Option α} {r : α} (h : (if b = true then x else none) = some r) : b = true ∧ x = some r := by
  rcases ifS h with h | ⟨_, h⟩
  · exact h
  · cases h
theorem retS {α : Type} {a r : α} (h : some a = some r) : r = a := (Option.some.inj h).symm
/-- The element at a number. -/
def nthI {α : Type} (l : List α) (i : Int) : Option α := if 0 ≤ i then l[i.toNat]? else none
theorem nthI_some {α : Type} {l : List α} {i : Int} {x : α} (h : nthI l i = some x) : 0 ≤ i ∧ i.toNat < l.length ∧ l[i.toNat]? = some x := by
  unfold nthI at h
  split at h
  · rename_i h0
    refine ⟨h0, ?_, h⟩
    rcases Nat.lt_or_ge i.toNat l.length with h1 | h1
    · exact h1
    · rw [List.getElem?_eq_none h1] at h; cases h
  · cases h
/-- A piece of a list. -/
def sliceL {α : Type} (l : List α) (lo hi : Int) : Option (List α) := if 0 ≤ lo ∧ lo ≤ hi ∧ hi ≤ (l.length : Int) then some ((l.take hi.toNat).drop lo.toNat) else none
/-- A piece of a text. -/
def sliceS (s : ByteArray) (lo hi : Int) : Option ByteArray := if 0 ≤ lo ∧ lo ≤ hi ∧ hi ≤ (s.size : Int) then some (s.extract lo.toNat hi.toNat) else none
def nthS (s : ByteArray) (i : Int) : Option Int := if 0 ≤ i then (s.data.toList[i.toNat]?).map (fun b => (b.toNat : Int)) else none
def eqS (a b : ByteArray) : Bool := a.toList == b.toList
def ltS (a b : ByteArray) : Bool := Op.bytesLess a.toList b.toList
/-- Room for so many. -/
def capB (n : Nat) : Bool := decide (n ≤ limN)
def catB (a b : ByteArray) : Bool := decide (a.size + b.size ≤ 1099511627776)
def bytesI (s : ByteArray) : List Int := s.data.toList.map (fun b => (b.toNat : Int))
def strI (l : List Int) : ByteArray := ⟨(l.map fun n => UInt8.ofNat n.toNat).toArray⟩

/-! ### Cells of typed values -/
class Row {α : Type} (c : α → List AV) (n : outParam Nat) : Prop where
  len : ∀ x, (c x).length = n
  cell : ∀ x, cellBs (c x) = true
  free : ∀ x, idFrees (c x) = true
def ci (k : IntKind) (n : Int) : List AV := [.int k n]
def cb (b : Bool) : List AV := [.bool b]
def cs (s : ByteArray) : List AV := [.str s]
def sl {α : Type} (c : α → List AV) (l : List α) : AV := canI (l.map c)
def cl {α : Type} (c : α → List AV) (l : List α) : List AV := [sl c l]
instance (k : IntKind) : Row (ci k) 1 := ⟨fun _ => rfl, fun _ => rfl, fun _ => rfl⟩
instance : Row cb 1 := ⟨fun _ => rfl, fun _ => rfl, fun _ => rfl⟩
instance : Row cs 1 := ⟨fun _ => rfl, fun _ => rfl, fun _ => rfl⟩
instance {α : Type} (c : α → List AV) : Row (cl c) 1 := ⟨fun _ => rfl, fun _ => rfl, fun _ => rfl⟩
section
variable {α : Type} {c : α → List AV} {n : Nat}
theorem esOf_map [h : Row c n] {l : List α} : l = [] ∨ esOf (l.map c) = n := by
  cases l with
  | nil => exact .inl rfl
  | cons x r => exact .inr (h.len x)
theorem lenl_sl (l : List α) : lenlAV (sl c l) = some (.int .i64 l.length) := by simp [sl, canI, lenlAV, intV]
theorem frz_sl (H : Heap) (l : List α) : frz H (sl c l) = sl c l := rfl
theorem leak_sl (H : Heap) (l : List α) : leakV H (sl c l) = H := rfl
theorem ren_sl (f : Nat → Option Nat) (l : List α) : ren f (sl c l) = sl c l := rfl
theorem cell_sl (l : List α) : cellB (sl c l) = true := rfl
theorem idf_sl (l : List α) : idFree (sl c l) = true := rfl
theorem pl_sl (l : List α) : plainB (sl c l) = false := rfl
theorem cells_sl (l : List α) : cellsOf (sl c l) = some [sl c l] := rfl
theorem reach_sl (H : Heap) (k : Nat) (l : List α) (todo : List AV) (acc : List Nat) : reach H (k + 1) (sl c l :: todo) acc = reach H k todo acc := by simp [sl, canI, reach]
theorem rows_sl [h : Row c n] (H : Heap) (l : List α) : rowsOf n H (sl c l) = some (l.map c) := by
  have : esFit n (esOf (l.map c)) (l.map c) = true := by
    rcases esOf_map (c := c) (l := l) with h | h
    · subst h; rfl
    · rw [h]; simp [esFit]
  simp only [sl, canI, rowsOf, this, if_true]
theorem src_sl [h : Row c n] (H : Heap) (l : List α) : srcRows n H (sl c l) = some (l.map c) := rows_sl H l
theorem ias_sl [h : Row c n] {l : List α} {k : IntKind} {i : Int} {x : α} (hx : nthI l i = some x) : iasAV n (sl c l) (.int k i) = some (.iptr (c x) 0) := by
  obtain ⟨h0, h1, h2⟩ := nthI_some hx
  have he : esOf (l.map c) = n := by
    rcases esOf_map (c := c) (l := l) with h | h
    · subst h; simp at h1
    · exact h
  simp [sl, canI, iasAV, he, h0, h2]
theorem sl_slice [h : Row c n] (l : List α) (lo hi : Nat) : (.imm (esOf (((l.map c).take hi).drop lo)) (((l.map c).take hi).drop lo) false : AV) = sl c ((l.take hi).drop lo) := by
  simp [sl, canI, List.map_take, List.map_drop]
theorem sll_sl [h : Row c n] {l l' : List α} {k k' : IntKind} {lo hi : Int} (hl : sliceL l lo hi = some l') : sllAV n (sl c l) (some (.int k lo)) (some (.int k' hi)) none = some (sl c l') := by
  unfold sliceL at hl
  split at hl
  · rename_i hc
    obtain rfl := Option.some.inj hl
    have hf : esFit n (esOf (l.map c)) (l.map c) = true := by
      rcases esOf_map (c := c) (l := l) with h | h
      · subst h; rfl
      · rw [h]; simp [esFit]
    have hb : bnds (l.map c).length false (some (.int k lo)) (some (.int k' hi)) none = some (lo.toNat, hi.toNat, false) := by
      simp [bnds, optI, asI, hc.1, hc.2.1, hc.2.2]
    have := sl_slice (c := c) l lo.toNat hi.toNat
    simp only [sl, canI, sllAV, hf, if_true, hb]
    simp only [sl, canI] at this
    rw [this]
  · cases hl
theorem sll_slL [h : Row c n] {l l' : List α} {k : IntKind} {lo : Int} (hl : sliceL l lo l.length = some l') : sllAV n (sl c l) (some (.int k lo)) none none = some (sl c l') := by
  unfold sliceL at hl
  split at hl
  · rename_i hc
    obtain rfl := Option.some.inj hl
    have hf : esFit n (esOf (l.map c)) (l.map c) = true := by
      rcases esOf_map (c := c) (l := l) with h | h
      · subst h; rfl
      · rw [h]; simp [esFit]
    have hb : bnds (l.map c).length false (some (.int k lo)) none none = some (lo.toNat, l.length, false) := by
      simp [bnds, optI, asI, hc.1, hc.2.1]
    have := sl_slice (c := c) l lo.toNat l.length
    simp only [sl, canI, sllAV, hf, if_true, hb]
    simp only [sl, canI] at this
    rw [this]
    simp
  · cases hl
theorem sll_slH [h : Row c n] {l l' : List α} {k : IntKind} {hi : Int} (hl : sliceL l 0 hi = some l') : sllAV n (sl c l) none (some (.int k hi)) none = some (sl c l') := by
  unfold sliceL at hl
  split at hl
  · rename_i hc
    obtain rfl := Option.some.inj hl
    have hf : esFit n (esOf (l.map c)) (l.map c) = true := by
      rcases esOf_map (c := c) (l := l) with h | h
      · subst h; rfl
      · rw [h]; simp [esFit]
    have hb : bnds (l.map c).length false none (some (.int k hi)) none = some (0, hi.toNat, false) := by
      simp [bnds, optI, asI, hc.2.1, hc.2.2]
    have := sl_slice (c := c) l 0 hi.toNat
    simp only [sl, canI, sllAV, hf, if_true, hb]
    simp only [sl, canI] at this
    rw [this]
    simp
  · cases hl
/-- A slice that is only read, and behind which nothing lies. -/
def slx {α : Type} (c : α → List AV) (l : List α) : AV := .imm (esOf (l.map c)) (l.map c) true
theorem lenl_slx (l : List α) : lenlAV (slx c l) = some (.int .i64 l.length) := by simp [slx, lenlAV, intV]
theorem frz_slx (H : Heap) (l : List α) : frz H (slx c l) = sl c l := rfl
theorem leak_slx (H : Heap) (l : List α) : leakV H (slx c l) = H := rfl
theorem ren_slx (f : Nat → Option Nat) (l : List α) : ren f (slx c l) = slx c l := rfl
theorem cell_slx (l : List α) : cellB (slx c l) = true := rfl
theorem idf_slx (l : List α) : idFree (slx c l) = true := rfl
theorem pl_slx (l : List α) : plainB (slx c l) = false := rfl
theorem cells_slx (l : List α) : cellsOf (slx c l) = some [slx c l] := rfl
theorem reach_slx (H : Heap) (k : Nat) (l : List α) (todo : List AV) (acc : List Nat) : reach H (k + 1) (slx c l :: todo) acc = reach H k todo acc := by simp [slx, reach]
theorem sll_slx [h : Row c n] {l l' : List α} {k k' : IntKind} {hi : Int} (hl : sliceL l 0 hi = some l') : sllAV n (sl c l) none (some (.int k hi)) (some (.int k' hi)) = some (slx c l') := by
  unfold sliceL at hl
  split at hl
  · rename_i hc
    obtain rfl := Option.some.inj hl
    have hf : esFit n (esOf (l.map c)) (l.map c) = true := by
      rcases esOf_map (c := c) (l := l) with h | h
      · subst h; rfl
      · rw [h]; simp [esFit]
    have hb : bnds (l.map c).length false none (some (.int k hi)) (some (.int k' hi)) = some (0, hi.toNat, true) := by
      simp [bnds, optI, asI, hc.2.1, hc.2.2]
    simp only [sl, canI, sllAV, hf, if_true, hb]
    simp [slx, List.map_take]
  · cases hl
theorem sll_empty (H : AV) (l : List α) (size : Nat) [h : Row c size] : sllAV size (sl c l) (some (.int .i64 0)) (some (.int .i64 0)) (some (.int .i64 0)) = some (.imm 0 [] true) := by
  have hf : esFit size (esOf (l.map c)) (l.map c) = true := by
    rcases esOf_map (c := c) (l := l) with h | h
    · subst h; rfl
    · rw [h]; simp [esFit]
  simp only [sl, canI, sllAV, hf, if_true]
  simp [bnds, optI, asI, esOf]
end
theorem ixs_nth {s : ByteArray} {k : IntKind} {i x : Int} (h : nthS s i = some x) : ixsAV (.str s) (.int k i) = some (.int .u8 x) := by
  unfold nthS at h
  split at h
  · rename_i h0
    simp only [Option.map_eq_some_iff] at h
    obtain ⟨b, h1, rfl⟩ := h
    simp [ixsAV, h0, h1]
  · cases h
theorem sls_sl {s s' : ByteArray} {k k' : IntKind} {lo hi : Int} (h : sliceS s lo hi = some s') : slsAV (.str s) (some (.int k lo)) (some (.int k' hi)) = some (.str s') := by
  unfold sliceS at h
  split at h
  · rename_i hc
    obtain rfl := Option.some.inj h
    simp [slsAV, bnds, optI, asI, hc.1, hc.2.1, hc.2.2]
  · cases h
theorem sls_slL {s s' : ByteArray} {k : IntKind} {lo : Int} (h : sliceS s lo s.size = some s') : slsAV (.str s) (some (.int k lo)) none = some (.str s') := by
  unfold sliceS at h
  split at h
  · rename_i hc
    obtain rfl := Option.some.inj h
    simp [slsAV, bnds, optI, asI, hc.1, hc.2.1]
  · cases h
theorem sls_slH {s s' : ByteArray} {k : IntKind} {hi : Int} (h : sliceS s 0 hi = some s') : slsAV (.str s) none (some (.int k hi)) = some (.str s') := by
  unfold sliceS at h
  split at h
  · rename_i hc
    obtain rfl := Option.some.inj h
    simp [slsAV, bnds, optI, asI, hc.2.1, hc.2.2]
  · cases h
theorem b2s_sl (H : Heap) (l : List Int) : b2sAV H (sl (ci .u8) l) = some (.str (strI l)) := by
  have h : ∀ l : List Int, bytesOf (l.map (ci .u8)) = some (l.map fun n => UInt8.ofNat n.toNat) := by
    intro l
    induction l with
    | nil => rfl
    | cons x r ih => simp only [List.map_cons, ci] at ih ⊢; simp [bytesOf, ih]
  unfold b2sAV
  rw [rows_sl]
  simp [h, strI]
theorem byteRows_eq (s : ByteArray) : byteRows s = (bytesI s).map (ci .u8) := by
  simp [byteRows, bytesI, ci, byteRow]
theorem bstr_eql (a b : ByteArray) : binStr .eql a b = some (.bool (eqS a b)) := truV_eq _
theorem bstr_neq (a b : ByteArray) : binStr .neq a b = some (.bool (!eqS a b)) := truV_eq _
theorem bstr_lss (a b : ByteArray) : binStr .lss a b = some (.bool (ltS a b)) := truV_eq _
theorem bstr_leq (a b : ByteArray) : binStr .leq a b = some (.bool (ltS a b || eqS a b)) := truV_eq _
theorem bstr_gtr (a b : ByteArray) : binStr .gtr a b = some (.bool (!(ltS a b || eqS a b))) := truV_eq _
theorem bstr_geq (a b : ByteArray) : binStr .geq a b = some (.bool (!ltS a b)) := truV_eq _
theorem toList_inj {a b : ByteArray} (h : a.toList = b.toList) : a = b := by
  have : a.data.toList = b.data.toList := by rw [← ByteArray.toList_eq, ← ByteArray.toList_eq, h]
  cases a; cases b
  simp at this
  rw [this]
theorem eqS_iff {a b : ByteArray} : eqS a b = true ↔ a = b := by
  unfold eqS
  rw [beq_iff_eq]
  exact ⟨toList_inj, fun h => by rw [h]⟩
end Go.Proofs.Ytefjblgmnoheiaa.R
