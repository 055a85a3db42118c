/- Plain laws: what is handed in, av logs. -/
import Derived.Test.YtgoachcogmlhcaaQB
import Derived.Test.YtgoachcogmlhcaaMW0
set_option maxRecDepth 100000
set_option linter.unusedVariables false
set_option linter.unusedSimpArgs false
noncomputable section
namespace Go.Proofs.Ytgoachcogmlhcaa.R
open Go
section
variable {P : Program} {n : Nat} {t : TypeId} {av : List AV}
theorem fitI {k : IntKind} (hu : P.underlying t = some (.int k)) (h : Fit P n t av) : ∃ i, av = ci k i ∧ (Lit.int k i).wf = true := by
  cases n with
  | zero => exact h.elim
  | succ n =>
    simp only [Fit, hu] at h
    exact h
theorem rows_of {α : Type} {c : α → List AV} {Q : α → Prop} : ∀ {rows : List (List AV)}, (∀ r ∈ rows, ∃ x, r = c x ∧ Q x) → ∃ l : List α, rows = l.map c ∧ ∀ x ∈ l, Q x
  | [], _ => ⟨[], rfl, by simp⟩
  | r :: rows, h => by
    obtain ⟨x, rfl, hx⟩ := h r (by simp)
    obtain ⟨l, rfl, hl⟩ := rows_of (rows := rows) fun r hr => h r (by simp [hr])
    exact ⟨x :: l, rfl, by simpa using ⟨hx, hl⟩⟩
theorem fitL {α : Type} {e : TypeId} {c : α → List AV} {Q : α → Prop} (hu : P.underlying t = some (.slice e)) (hrow : ∀ m r, m < n → Fit P m e r → ∃ x, r = c x ∧ Q x) (h : Fit P n t av) : ∃ l : List α, av = [sl c l] ∧ l.length ≤ maxLen ∧ ∀ x ∈ l, Q x := by
  cases n with
  | zero => exact h.elim
  | succ n =>
    simp only [Fit, hu] at h
    obtain ⟨rows, rfl, h1, h2⟩ := h
    obtain ⟨l, rfl, hl⟩ := rows_of fun r hr => hrow n r (by omega) (h2 r hr)
    exact ⟨l, rfl, by simpa using h1, hl⟩
end
theorem wf_in {n : Int} (h : (Lit.int .i64 n).wf = true) : inR n := by
  simp [Lit.wf, IntKind.min, IntKind.max, IntKind.signed, IntKind.bits] at h
  unfold inR
  omega
theorem wf_u8 {n : Int} (h : (Lit.int .u8 n).wf = true) : 0 ≤ n ∧ n ≤ 255 := by
  simp [Lit.wf, IntKind.min, IntKind.max, IntKind.signed, IntKind.bits] at h
  omega
theorem cut3 {a : List AV} (h : a.length = 3) : a = (a.drop 0).take 1 ++ ((a.drop 1).take 1 ++ (a.drop 2).take 1) := by
  match a, h with
  | [w, x, y], _ => rfl
theorem cut2 {a : List AV} (h : a.length = 2) : a = (a.drop 0).take 1 ++ (a.drop 1).take 1 := by
  match a, h with
  | [w, x], _ => rfl
theorem ce24 : (Pg).cellsOf 24 = 3 := by kernel_rfl
theorem ce55 : (Pg).cellsOf 55 = 2 := by kernel_rfl
theorem ce3 : (Pg).cellsOf 3 = 1 := by kernel_rfl
theorem ce22 : (Pg).cellsOf 22 = 1 := by kernel_rfl
theorem ce25 : (Pg).cellsOf 25 = 1 := by kernel_rfl
theorem fitBy (n : Nat) (av : List AV) (h : Fit Pg n 25 av) : ∃ l : List Int, av = [sl (ci .u8) l] ∧ l.length ≤ maxLen ∧ okB l := by
  obtain ⟨l, e, w, w'⟩ := fitL (c := ci .u8) (Q := fun i => (Lit.int .u8 i).wf = true) Go.Proofs.Try.underlying25 (fun m r hm hr => fitI Go.Proofs.Try.underlying5 hr) h
  exact ⟨l, e, w, fun i hi => wf_u8 (w' i hi)⟩
theorem fitE (n : Nat) (av : List AV) (h : Fit Pg n 55 av) : ∃ x : TEntry, av = TEntry.c x ∧ (inR x.Term ∧ x.Data.length ≤ maxLen) := by
  match n, h with
  | 0, h => exact h.elim
  | n + 1, h =>
    simp only [Fit, Go.Proofs.Try.underlying55, ce55] at h
    obtain ⟨hl, h⟩ := h
    have h0 := h _ (List.mem_cons_self)
    have h1 := h _ (List.mem_cons_of_mem _ List.mem_cons_self)
    simp only [ce3, ce25] at h0 h1
    obtain ⟨k, e0, w0⟩ := fitI Go.Proofs.Try.underlying3 h0
    obtain ⟨l, e1, w1, w2⟩ := fitBy _ _ h1
    refine ⟨⟨k, l⟩, ?_, wf_in w0, w1⟩
    rw [cut2 hl, e0, e1]
    rfl
theorem fitLog (n : Nat) (av : List AV) (h : Fit Pg n 24 av) : ∃ x : TLog, av = TLog.c x ∧ OkL x := by
  match n, h with
  | 0, h => exact h.elim
  | n + 1, h =>
    simp only [Fit, Go.Proofs.Try.underlying24, ce24] at h
    obtain ⟨hl, h⟩ := h
    have h0 := h _ (List.mem_cons_self)
    have h1 := h _ (List.mem_cons_of_mem _ List.mem_cons_self)
    have h2 := h _ (List.mem_cons_of_mem _ (List.mem_cons_of_mem _ List.mem_cons_self))
    simp only [ce3, ce22] at h0 h1 h2
    obtain ⟨b, e0, w0⟩ := fitI Go.Proofs.Try.underlying3 h0
    obtain ⟨t, e1, w1⟩ := fitI Go.Proofs.Try.underlying3 h1
    obtain ⟨l, e2, w2, w3⟩ := fitL (c := TEntry.c) (Q := fun x => inR x.Term ∧ x.Data.length ≤ maxLen) Go.Proofs.Try.underlying22 (fun m r hm hr => fitE m r hr) h2
    refine ⟨⟨b, t, l⟩, ?_, ⟨wf_in w0, wf_in w1, w2, w3⟩⟩
    rw [cut3 hl, e0, e1, e2]
    rfl
/-- The arguments of the law. -/
theorem argsRB {avs : List AV} (h : Args Pg [3, 3, 3, 3, 24, 25] avs) : ∃ i n t v l s, avs = [.int .i64 i, .int .i64 n, .int .i64 t, .int .i64 v, .agg (TLog.c l), sl (ci .u8) s] ∧ OkL l ∧ okB s ∧ s.length ≤ maxLen := by
  match avs, h with
  | [a1, a2, a3, a4, a5, a6], ⟨⟨n1, c1, hc1, e1⟩, ⟨n2, c2, hc2, e2⟩, ⟨n3, c3, hc3, e3⟩, ⟨n4, c4, hc4, e4⟩, ⟨n5, c5, hc5, e5⟩, ⟨n6, c6, hc6, e6⟩, _⟩ =>
    obtain ⟨i, rfl, -⟩ := fitI Go.Proofs.Try.underlying3 hc1
    obtain ⟨n, rfl, -⟩ := fitI Go.Proofs.Try.underlying3 hc2
    obtain ⟨t, rfl, -⟩ := fitI Go.Proofs.Try.underlying3 hc3
    obtain ⟨v, rfl, -⟩ := fitI Go.Proofs.Try.underlying3 hc4
    obtain ⟨l, rfl, hl⟩ := fitLog n5 c5 hc5
    obtain ⟨s, rfl, hs, hb⟩ := fitBy n6 c6 hc6
    simp only [argOf, Go.Proofs.Try.underlying3, Go.Proofs.Try.underlying24, Go.Proofs.Try.underlying25] at e1 e2 e3 e4 e5 e6
    exact ⟨i, n, t, v, l, s, by rw [e1, e2, e3, e4, e5, e6]; rfl, hl, hb, hs⟩
end Go.Proofs.Ytgoachcogmlhcaa.R
