/- Plain laws: variables put together. -/
import Derived.Test.YtcmejocmohohpaaPO
set_option maxRecDepth 100000
set_option linter.unusedVariables false
set_option linter.unusedSimpArgs false
noncomputable section
namespace Go.Proofs.Ytcmejocmohohpaa.R
open Go
/-! ### One more variable -/
def putL (name : ByteArray) (n : Int) : Bool → List ByteArray → List Int → List ByteArray × List Int
  | true, [], _ => ([], [])
  | false, [], _ => ([name], [n])
  | d, x :: r, vs =>
    let p := putL name n (d || !ltS x name) r vs.tail
    let q := if x = name then p else (x :: p.1, vs.headD 0 :: p.2)
    if (!d && !ltS x name) = true then (name :: q.1, n :: q.2) else q
theorem put_loop {v : TVars} {name : ByteArray} {n0 : Int} (hl : v.Names.length = v.Vals.length) (hb : v.Names.length ≤ 1000) : ∀ (m k n : Nat) (d : Bool) (o0 : List ByteArray) (o1 : List Int), v.Names.length - k = m → k ≤ v.Names.length → m < n → o0.length ≤ 2 * k → o1.length ≤ 2 * k →
    m_ref09_put_l1 v name n0 n d (k : Int) o0 o1 = some ⟨o0 ++ (putL name n0 d (v.Names.drop k) (v.Vals.drop k)).1, o1 ++ (putL name n0 d (v.Names.drop k) (v.Vals.drop k)).2⟩ := by
  intro m
  induction m with
  | zero =>
    intro k n d o0 o1 hm hk hn h0 h1
    obtain ⟨n, rfl⟩ : ∃ n', n = n' + 1 := ⟨n - 1, by omega⟩
    have hk' : ¬ ((k : Int) < (v.Names.length : Int)) := by omega
    have c0 : capB (o0.length + 1) = true := capB_small (by omega)
    have c1 : capB (o1.length + 1) = true := capB_small (by omega)
    rw [m_ref09_put_l1, m_ref09_put_l1_B, List.drop_eq_nil_of_le (by omega)]
    cases d <;> simp [hk', m_ref09_put_k4, putL, c0, c1]
  | succ m ih =>
    intro k n d o0 o1 hm hk hn h0 h1
    obtain ⟨n, rfl⟩ : ∃ n', n = n' + 1 := ⟨n - 1, by omega⟩
    have hlt : k < v.Names.length := by omega
    have hltv : k < v.Vals.length := by omega
    have hk' : ((k : Int) < (v.Names.length : Int)) := by omega
    have hw : IntKind.i64.wrap ((k : Int) + 1) = ((k + 1 : Nat) : Int) := wrap_succ (by omega)
    have hih := fun d o0 o1 a b => ih (k + 1) n d o0 o1 (by omega) (by omega) (by omega) a b
    have k2 : ∀ (d : Bool) (p0 : List ByteArray) (p1 : List Int), p0.length ≤ 2 * k + 1 → p1.length ≤ 2 * k + 1 →
        m_ref09_put_k2 (m_ref09_put_l1 v name n0 n) v name (k : Int) d p0 p1 = some (if v.Names[k] = name then
          ⟨p0 ++ (putL name n0 d (v.Names.drop (k + 1)) (v.Vals.drop (k + 1))).1, p1 ++ (putL name n0 d (v.Names.drop (k + 1)) (v.Vals.drop (k + 1))).2⟩
          else ⟨p0 ++ v.Names[k] :: (putL name n0 d (v.Names.drop (k + 1)) (v.Vals.drop (k + 1))).1, p1 ++ v.Vals[k] :: (putL name n0 d (v.Names.drop (k + 1)) (v.Vals.drop (k + 1))).2⟩) := by
      intro d p0 p1 g0 g1
      have c0 : capB (p0.length + 1) = true := capB_small (by omega)
      have c1 : capB (p1.length + 1) = true := capB_small (by omega)
      unfold m_ref09_put_k2 m_ref09_put_k3
      simp only [nthI_lt hlt, nthI_lt hltv, bnd_some, eqS_dec, decide_eq_true_eq, c0, c1, if_true, hw]
      by_cases he : v.Names[k] = name
      · rw [if_pos he, if_pos he, hih d p0 p1 (by omega) (by omega)]
      · rw [if_neg he, if_neg he, hih d (p0 ++ [v.Names[k]]) (p1 ++ [v.Vals[k]]) (by simp; omega) (by simp; omega)]
        simp
    have c0 : capB (o0.length + 1) = true := capB_small (by omega)
    have c1 : capB (o1.length + 1) = true := capB_small (by omega)
    rw [m_ref09_put_l1, m_ref09_put_l1_B, List.drop_eq_getElem_cons hlt, List.drop_eq_getElem_cons hltv]
    simp only [hk', decide_true, if_true, nthI_lt hlt, bnd_some, m_ref09_put_k1, c0, c1]
    cases d
    · cases hle : ltS v.Names[k] name
      · simp only [Bool.false_eq_true, if_false, Bool.not_false, if_true, putL, hle, Bool.or_true, Bool.and_true, List.tail_cons, List.headD_cons]
        rw [k2 true (o0 ++ [name]) (o1 ++ [n0]) (by simp; omega) (by simp; omega)]
        by_cases he : v.Names[k] = name <;> simp [he]
      · simp only [Bool.false_eq_true, if_false, Bool.not_true, putL, hle, Bool.or_false, Bool.and_false, List.tail_cons, List.headD_cons]
        rw [k2 false o0 o1 (by omega) (by omega)]
        by_cases he : v.Names[k] = name <;> simp [he]
    · simp only [if_true, Bool.false_eq_true, if_false, putL, Bool.true_or, Bool.not_true, Bool.false_and, List.tail_cons, List.headD_cons]
      rw [k2 true o0 o1 (by omega) (by omega)]
      by_cases he : v.Names[k] = name <;> simp [he]
theorem put_eq {v : TVars} {name : ByteArray} {n0 : Int} (hl : v.Names.length = v.Vals.length) (hb : v.Names.length ≤ 1000) : m_ref09_put v name n0 = some ⟨(putL name n0 false v.Names v.Vals).1, (putL name n0 false v.Names v.Vals).2⟩ := by
  have := put_loop (n0 := n0) (name := name) hl hb _ 0 ((((v.Names.length : Int)) - 0).toNat + 1) false [] [] rfl (Nat.zero_le _) (by omega) (by simp) (by simp)
  exact this
/-- Behind its place all stays. -/
theorem putL_done {name : ByteArray} {n : Int} : ∀ {l : List ByteArray} {vs : List Int}, l.length = vs.length → (∀ x ∈ l, x ≠ name) → putL name n true l vs = (l, vs)
  | [], [], _, _ => rfl
  | x :: r, y :: vs, hl, h => by
    have ih := putL_done (name := name) (n := n) (l := r) (vs := vs) (by simpa using hl) fun z hz => h z (by simp [hz])
    have hx : ¬ x = name := h x (by simp)
    simp [putL, ih, hx]
structure PutOk (name : ByteArray) (n : Int) (p : Option ByteArray) (l : List ByteArray) (vs : List Int) (o : List ByteArray × List Int) : Prop where
  len : o.1.length = o.2.length
  most : o.1.length ≤ l.length + 1
  names : namesB p o.1 = true
  get : ∀ s, getV o.1 o.2 s = if s = name then some n else getV l vs s
  vals : ∀ w ∈ o.2, w = n ∨ w ∈ vs
theorem namesB_ne {q : ByteArray} {l : List ByteArray} (h : namesB (some q) l = true) : ∀ x ∈ l, x ≠ q := by
  obtain ⟨h1, _, _⟩ := namesB_pw h
  rintro x hx rfl
  have := h1 x rfl x hx
  rw [ltS_irr] at this
  cases this
theorem putL_ok {name : ByteArray} {n : Int} (hn : varB name = true) : ∀ {l : List ByteArray} {vs : List Int} {p : Option ByteArray}, l.length = vs.length → namesB p l = true → afterB p name = true → PutOk name n p l vs (putL name n false l vs)
  | [], [], p, hl, h, ha => by
    refine ⟨rfl, by simp [putL], ?_, fun s => ?_, by simp [putL]⟩
    · simp [putL, namesB, hn, ha]
    · simp only [putL, getV]
      by_cases hs : s = name
      · simp [hs]
      · have : ¬ name = s := fun e => hs e.symm
        simp [hs, this]
  | x :: r, y :: vs, p, hl, h, ha => by
    simp only [namesB, Bool.and_eq_true] at h
    obtain ⟨h0, h1, h2⟩ := h
    have hl' : r.length = vs.length := by simpa using hl
    rcases ltS_tri x name with hlt | heq | hgt
    · have ih := putL_ok (n := n) hn (p := some x) hl' h2 hlt
      have hne : ¬ x = name := by rintro rfl; rw [ltS_irr] at hlt; cases hlt
      have e : putL name n false (x :: r) (y :: vs) = (x :: (putL name n false r vs).1, y :: (putL name n false r vs).2) := by simp [putL, hlt, hne]
      rw [e]
      refine ⟨by simpa using ih.len, by simpa using ih.most, ?_, fun s => ?_, fun w hw => ?_⟩
      · simp only [namesB, Bool.and_eq_true]
        exact ⟨h0, h1, ih.names⟩
      · simp only [getV, List.head?_cons, List.tail_cons, ih.get s]
        by_cases hs : x = s
        · have : ¬ s = name := by rw [← hs]; exact hne
          simp [hs, this]
        · simp [hs]
      · rcases List.mem_cons.1 hw with rfl | hw
        · simp
        · rcases ih.vals w hw with h | h <;> simp [h]
    · subst heq
      have hd := putL_done (name := x) (n := n) hl' (namesB_ne h2)
      have e : putL x n false (x :: r) (y :: vs) = (x :: r, n :: vs) := by simp [putL, ltS_irr, hd]
      rw [e]
      refine ⟨by simpa using hl', by simp, ?_, fun s => ?_, fun w hw => ?_⟩
      · simp only [namesB, Bool.and_eq_true]
        exact ⟨h0, ha, h2⟩
      · simp only [getV, List.head?_cons, List.tail_cons]
        by_cases hs : x = s
        · simp [hs]
        · have : ¬ s = x := fun e => hs e.symm
          simp [hs, this]
      · rcases List.mem_cons.1 hw with rfl | hw
        · simp
        · simp [hw]
    · have hne : ¬ x = name := by rintro rfl; rw [ltS_irr] at hgt; cases hgt
      have hall : ∀ z ∈ r, z ≠ name := by
        obtain ⟨g1, _, _⟩ := namesB_pw h2
        rintro z hz rfl
        have := ltS_trans hgt (g1 x rfl z hz)
        rw [ltS_irr] at this
        cases this
      have hd := putL_done (name := name) (n := n) hl' hall
      have e : putL name n false (x :: r) (y :: vs) = (name :: x :: r, n :: y :: vs) := by simp [putL, ltS_asymm hgt, hd, hne]
      rw [e]
      refine ⟨by simpa using hl', by simp, ?_, fun s => ?_, fun w hw => ?_⟩
      · simp only [namesB, Bool.and_eq_true]
        exact ⟨hn, ha, h0, hgt, h2⟩
      · rw [getV]
        by_cases hs : s = name
        · simp [hs]
        · have : ¬ name = s := fun e => hs e.symm
          simp [hs, this]
      · simpa using hw
/-- What is put behind all. -/
theorem putL_end {name : ByteArray} {n : Int} : ∀ {l : List ByteArray} {vs : List Int}, l.length = vs.length → (∀ x ∈ l, ltS x name = true) → putL name n false l vs = (l ++ [name], vs ++ [n])
  | [], [], _, _ => rfl
  | x :: r, y :: vs, hl, h => by
    have ih := putL_end (name := name) (n := n) (l := r) (vs := vs) (by simpa using hl) fun z hz => h z (by simp [hz])
    have hlt := h x (by simp)
    have hne : ¬ x = name := by rintro rfl; rw [ltS_irr] at hlt; cases hlt
    simp [putL, hlt, hne, ih]
/-! ### Two put together -/
theorem of_inner {rc : Int → List ByteArray → List Int → Option (TVars × Int)} {l : List TVars} {i : Int} {v : TVars} (hi : nthI l i = some v) (hl : v.Names.length = v.Vals.length) (hb : v.Names.length ≤ 64) (hp : v.Names.Pairwise (fun a b => ltS a b = true)) :
    ∀ (m k n : Nat), v.Names.length - k = m → k ≤ v.Names.length → m < n → m_ref09_Of_l2 rc l i n (k : Int) (v.Names.take k) (v.Vals.take k) = m_ref09_Of_k1 rc i v.Names v.Vals := by
  intro m
  induction m with
  | zero =>
    intro k n hm hk hn
    obtain ⟨n, rfl⟩ : ∃ n', n = n' + 1 := ⟨n - 1, by omega⟩
    have hk' : ¬ ((k : Int) < (v.Names.length : Int)) := by omega
    rw [m_ref09_Of_l2, m_ref09_Of_l2_B, List.take_of_length_le (by omega), List.take_of_length_le (by omega)]
    simp only [hi, bnd_some, hk', decide_false, Bool.false_eq_true, if_false]
  | succ m ih =>
    intro k n hm hk hn
    obtain ⟨n, rfl⟩ : ∃ n', n = n' + 1 := ⟨n - 1, by omega⟩
    have hlt : k < v.Names.length := by omega
    have hltv : k < v.Vals.length := by omega
    have hk' : ((k : Int) < (v.Names.length : Int)) := by omega
    have hw : IntKind.i64.wrap ((k : Int) + 1) = ((k + 1 : Nat) : Int) := wrap_succ (by omega)
    have hput := put_eq (v := ⟨v.Names.take k, v.Vals.take k⟩) (name := v.Names[k]) (n0 := v.Vals[k]) (by simp; omega) (by simp; omega)
    have hall : ∀ x ∈ v.Names.take k, ltS x v.Names[k] = true := by
      intro x hx
      obtain ⟨j, hj, rfl⟩ := List.mem_iff_getElem.1 hx
      have hjk : j < k := by simp at hj; omega
      rw [List.getElem_take]
      exact List.pairwise_iff_getElem.1 hp j k (by omega) hlt hjk
    rw [putL_end (by simp; omega) hall] at hput
    rw [m_ref09_Of_l2, m_ref09_Of_l2_B]
    simp only [hi, bnd_some, hk', decide_true, if_true, nthI_lt hlt, nthI_lt hltv, hput, hw]
    rw [← List.take_succ_eq_append_getElem hlt, ← List.take_succ_eq_append_getElem hltv]
    exact ih (k + 1) n (by omega) (by omega) (by omega)
theorem varB_size {s : ByteArray} (h : varB s = true) : s.size ≤ 32 := by
  unfold varB nameB nameL at h
  simp only [Bool.and_eq_true, decide_eq_true_eq] at h
  have := h.1.2.2
  rwa [bytesI_len] at this
/-- Some variables and one more. -/
structure MoreOk (v : TVars) (name : ByteArray) (n : Int) (w : TVars) : Prop where
  ok : OkV w
  chk : vchk w = 0
  get : ∀ s, getV w.Names w.Vals s = if s = name then some n else getV v.Names v.Vals s
theorem of_two {v : TVars} {name : ByteArray} {n : Int} (hv : OkV v) (hc : vchk v = 0) (hs : name.size ≤ maxLen) (hn : inR n) : ∃ w e, m_ref09_Of [v, ⟨[name], [n]⟩] = some (w, e) ∧ (e = 0 → MoreOk v name n w) := by
  obtain ⟨h1, h2, h3⟩ := vchk_zero hc
  obtain ⟨_, hp, _⟩ := namesB_pw h3
  have hov : OkV ⟨[name], [n]⟩ := ⟨by simp [big63], by simp [big63], fun s hs' => by rw [List.mem_singleton.1 hs']; exact hs, fun s hs' => by rw [List.mem_singleton.1 hs']; exact hn⟩
  have hlen : ([v, ⟨[name], [n]⟩] : List TVars).length = 2 := rfl
  have hn0 : nthI [v, ⟨[name], [n]⟩] 0 = some v := rfl
  have hn1 : nthI [v, ⟨[name], [n]⟩] 1 = some ⟨[name], [n]⟩ := rfl
  have hw1 : IntKind.i64.wrap ((0 : Int) + 1) = 1 := by decide
  have hw2 : IntKind.i64.wrap ((1 : Int) + 1) = 2 := by decide
  have hfu : ((((([v, ⟨[name], [n]⟩] : List TVars).length : Int)) - ((0 : Int))).toNat + 1) = 3 := by rw [hlen]; decide
  unfold m_ref09_Of
  rw [hfu, m_ref09_Of_l1, m_ref09_Of_l1_B]
  have hin := of_inner (rc := m_ref09_Of_l1 [v, ⟨[name], [n]⟩] 2) (l := [v, ⟨[name], [n]⟩]) (i := 0) hn0 h1 h2 hp _ 0 1000000 rfl (Nat.zero_le _) (by omega)
  have hin : m_ref09_Of_l2 (m_ref09_Of_l1 [v, ⟨[name], [n]⟩] 2) [v, ⟨[name], [n]⟩] 0 1000000 0 [] [] = _ := hin
  simp only [hlen, show ((0 : Int) < ((2 : Nat) : Int)) = True from by simp, decide_true, if_true, hn0, bnd_some, ref09_Check hv, hc, ne_eq, not_true_eq_false, decide_false, Bool.false_eq_true, if_false, hin]
  unfold m_ref09_Of_k1
  rw [hw1, m_ref09_Of_l1, m_ref09_Of_l1_B]
  simp only [hlen, show ((1 : Int) < ((2 : Nat) : Int)) = True from by simp, decide_true, if_true, hn1, bnd_some, ref09_Check hov]
  by_cases hco : vchk ⟨[name], [n]⟩ = 0
  · have hvar : varB name = true := by
      obtain ⟨_, _, g⟩ := vchk_zero hco
      simp only [namesB, Bool.and_eq_true] at g
      exact g.1
    have P := putL_ok (n := n) hvar (p := none) h1 h3 rfl
    have hput := put_eq (name := name) (n0 := n) h1 (by omega)
    have hl2 : ∀ (rc : Int → List ByteArray → List Int → Option (TVars × Int)) (f : Nat), m_ref09_Of_l2 rc [v, ⟨[name], [n]⟩] 1 (f + 1 + 1) 0 v.Names v.Vals = m_ref09_Of_k1 rc 1 (putL name n false v.Names v.Vals).1 (putL name n false v.Names v.Vals).2 := by
      intro rc f
      rw [m_ref09_Of_l2, m_ref09_Of_l2_B]
      have a0 : nthI [name] 0 = some name := rfl
      have a1 : nthI [n] 0 = some n := rfl
      simp only [hn1, bnd_some, List.length_singleton, show ((0 : Int) < ((1 : Nat) : Int)) = True from by simp, decide_true, if_true, a0, a1, hput, hw1]
      rw [m_ref09_Of_l2, m_ref09_Of_l2_B]
      simp only [hn1, bnd_some, List.length_singleton, show ((1 : Int) < ((1 : Nat) : Int)) = False from by simp, decide_false, Bool.false_eq_true, if_false]
    have hl2' : ∀ rc : Int → List ByteArray → List Int → Option (TVars × Int), m_ref09_Of_l2 rc [v, ⟨[name], [n]⟩] 1 1000000 0 v.Names v.Vals = m_ref09_Of_k1 rc 1 (putL name n false v.Names v.Vals).1 (putL name n false v.Names v.Vals).2 := fun rc => hl2 rc 999998
    simp only [hco, ne_eq, not_true_eq_false, decide_false, Bool.false_eq_true, if_false, hl2']
    unfold m_ref09_Of_k1
    rw [hw2, m_ref09_Of_l1, m_ref09_Of_l1_B]
    simp only [hlen, show ((2 : Int) < ((2 : Nat) : Int)) = False from by simp, decide_false, Bool.false_eq_true, if_false]
    unfold m_ref09_Of_k2
    generalize putL name n false v.Names v.Vals = o at P
    by_cases h64 : (64 : Int) < (o.1.length : Int)
    · refine ⟨⟨[], []⟩, 6, ?_, by simp⟩
      simp only [h64, decide_true, if_true]
    · refine ⟨⟨o.1, o.2⟩, 0, by simp only [h64, decide_false, Bool.false_eq_true, if_false], fun _ => ⟨⟨?_, ?_, ?_, ?_⟩, ?_, P.get⟩⟩
      · have := P.most; show o.1.length ≤ _; unfold big63; omega
      · have := P.most; have := P.len; show o.2.length ≤ _; unfold big63; omega
      · intro s hs
        have := varB_size ((namesB_pw P.names).2.2 s hs)
        unfold big63; omega
      · intro w hw
        rcases P.vals w hw with h | h
        · rw [h]; exact hn
        · exact hv.vals w h
      · have := P.len
        have := P.names
        unfold vchk
        simp only
        rw [if_neg (by simpa using P.len), if_neg (by omega), if_pos P.names]
  · exact ⟨⟨[], []⟩, vchk ⟨[name], [n]⟩, by simp [hco], fun h => absurd h hco⟩
end Go.Proofs.Ytcmejocmohohpaa.R
