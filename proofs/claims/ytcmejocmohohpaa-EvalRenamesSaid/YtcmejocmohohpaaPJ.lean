/- Plain laws: what is handed in, av trees and av variables. -/
import Derived.Test.YtcmejocmohohpaaPI
import Derived.Test.YtcmejocmohohpaaMW0
set_option maxRecDepth 100000
set_option linter.unusedVariables false
set_option linter.unusedSimpArgs false
noncomputable section
namespace Go.Proofs.Ytcmejocmohohpaa.R
open Go
section
variable {P : Program} {n : Nat} {t : TypeId} {av : List AV}
theorem fitI {k : IntKind} (hu : P.underlying t = some (.int k)) (h : Fit P n t av) : ∃ i, av = ci k i ∧ (Lit.int k i).wf = true := by
  cases n with
  | zero => exact h.elim
  | succ n =>
    simp only [Fit, hu] at h
    exact h
theorem fitS (hu : P.underlying t = some .string) (h : Fit P n t av) : ∃ s, av = cs s ∧ s.size ≤ maxLen := by
  cases n with
  | zero => exact h.elim
  | succ n =>
    simp only [Fit, hu] at h
    exact h
theorem rows_of {α : Type} {c : α → List AV} {Q : α → Prop} : ∀ {rows : List (List AV)}, (∀ r ∈ rows, ∃ x, r = c x ∧ Q x) → ∃ l : List α, rows = l.map c ∧ ∀ x ∈ l, Q x
  | [], _ => ⟨[], rfl, by simp⟩
  | r :: rows, h => by
    obtain ⟨x, rfl, hx⟩ := h r (by simp)
    obtain ⟨l, rfl, hl⟩ := rows_of (rows := rows) fun r hr => h r (by simp [hr])
    exact ⟨x :: l, rfl, by simpa using ⟨hx, hl⟩⟩
theorem fitL {α : Type} {e : TypeId} {c : α → List AV} {Q : α → Prop} (hu : P.underlying t = some (.slice e)) (hrow : ∀ m r, m < n → Fit P m e r → ∃ x, r = c x ∧ Q x) (h : Fit P n t av) : ∃ l : List α, av = [sl c l] ∧ l.length ≤ maxLen ∧ ∀ x ∈ l, Q x := by
  cases n with
  | zero => exact h.elim
  | succ n =>
    simp only [Fit, hu] at h
    obtain ⟨rows, rfl, h1, h2⟩ := h
    obtain ⟨l, rfl, hl⟩ := rows_of fun r hr => hrow n r (by omega) (h2 r hr)
    exact ⟨l, rfl, by simpa using h1, hl⟩
end
theorem wf_in {n : Int} (h : (Lit.int .i64 n).wf = true) : inR n := by
  simp [Lit.wf, IntKind.min, IntKind.max, IntKind.signed, IntKind.bits] at h
  unfold inR
  omega
theorem cut4 {a : List AV} (h : a.length = 4) : a = (a.drop 0).take 1 ++ ((a.drop 1).take 1 ++ ((a.drop 2).take 1 ++ (a.drop 3).take 1)) := by
  match a, h with
  | [w, x, y, z], _ => rfl
theorem cut2 {a : List AV} (h : a.length = 2) : a = (a.drop 0).take 1 ++ (a.drop 1).take 1 := by
  match a, h with
  | [w, x], _ => rfl
theorem ce24 : (Pg).cellsOf 24 = 4 := by kernel_rfl
theorem ce3 : (Pg).cellsOf 3 = 1 := by kernel_rfl
theorem ce2 : (Pg).cellsOf 2 = 1 := by kernel_rfl
theorem ce9 : (Pg).cellsOf 9 = 1 := by kernel_rfl
theorem ce22 : (Pg).cellsOf 22 = 1 := by kernel_rfl
theorem ce25 : (Pg).cellsOf 25 = 1 := by kernel_rfl
theorem ce26 : (Pg).cellsOf 26 = 1 := by kernel_rfl
theorem ce28 : (Pg).cellsOf 28 = 2 := by kernel_rfl
theorem fitE : ∀ (n : Nat) (av : List AV), Fit Pg n 24 av → ∃ x : TExpr, av = TExpr.c x ∧ OkE x := by
  intro n
  induction n using Nat.strongRecOn with
  | _ n ih =>
    intro av h
    match n, h, ih with
    | 0, h, _ => exact h.elim
    | n + 1, h, ih =>
      simp only [Fit, Go.Proofs.Try.underlying24, ce24] at h
      obtain ⟨hl, h⟩ := h
      have h0 := h _ (List.mem_cons_self)
      have h1 := h _ (List.mem_cons_of_mem _ List.mem_cons_self)
      have h2 := h _ (List.mem_cons_of_mem _ (List.mem_cons_of_mem _ List.mem_cons_self))
      have h3 := h _ (List.mem_cons_of_mem _ (List.mem_cons_of_mem _ (List.mem_cons_of_mem _ List.mem_cons_self)))
      simp only [ce3, ce2, ce9, ce22] at h0 h1 h2 h3
      obtain ⟨k, e0, w0⟩ := fitI Go.Proofs.Try.underlying3 h0
      obtain ⟨m, e1, w1⟩ := fitI Go.Proofs.Try.underlying2 h1
      obtain ⟨s, e2, w2⟩ := fitS Go.Proofs.Try.underlying9 h2
      obtain ⟨l, e3, w3, w4⟩ := fitL (c := TExpr.c) (Q := OkE) Go.Proofs.Try.underlying22 (fun m r hm hr => ih m (by omega) r hr) h3
      refine ⟨.mk k m s l, ?_, ?_⟩
      · rw [cut4 hl, e0, e1, e2, e3, TExpr.c_eq]
        rfl
      · rw [OkE_iff]
        exact ⟨wf_in w0, wf_in w1, w2, w3, w4⟩
theorem fitV (n : Nat) (av : List AV) (h : Fit Pg n 28 av) : ∃ v : TVars, av = TVars.c v ∧ OkV v := by
  match n, h with
  | 0, h => exact h.elim
  | n + 1, h =>
    simp only [Fit, Go.Proofs.Try.underlying28, ce28] at h
    obtain ⟨hl, h⟩ := h
    have h0 := h _ (List.mem_cons_self)
    have h1 := h _ (List.mem_cons_of_mem _ List.mem_cons_self)
    simp only [ce25, ce26] at h0 h1
    obtain ⟨l, e0, w0, w1⟩ := fitL (c := cs) (Q := fun s => s.size ≤ maxLen) Go.Proofs.Try.underlying25 (fun m r hm hr => fitS Go.Proofs.Try.underlying9 hr) h0
    obtain ⟨l', e1, w2, w3⟩ := fitL (c := ci .i64) (Q := fun i => (Lit.int .i64 i).wf = true) Go.Proofs.Try.underlying26 (fun m r hm hr => fitI Go.Proofs.Try.underlying2 hr) h1
    refine ⟨⟨l, l'⟩, ?_, ⟨w0, w2, w1, fun i hi => wf_in (w3 i hi)⟩⟩
    rw [cut2 hl, e0, e1]
    rfl
theorem argsEVSI {avs : List AV} (h : Args Pg [24, 28, 9, 2] avs) : ∃ x v s i, avs = [.agg (TExpr.c x), .agg (TVars.c v), .str s, .int .i64 i] ∧ OkE x ∧ OkV v ∧ s.size ≤ maxLen ∧ inR i := by
  match avs, h with
  | [a, b, a', b'], ⟨⟨n, c, hc, ea⟩, ⟨m, d, hd, eb⟩, ⟨n', c', hc', ea'⟩, ⟨m', d', hd', eb'⟩, _⟩ =>
    obtain ⟨x, rfl, hx⟩ := fitE n c hc
    obtain ⟨v, rfl, hv⟩ := fitV m d hd
    obtain ⟨s, rfl, hs⟩ := fitS Go.Proofs.Try.underlying9 hc'
    obtain ⟨i, rfl, hi⟩ := fitI Go.Proofs.Try.underlying2 hd'
    simp only [argOf, Go.Proofs.Try.underlying24, Go.Proofs.Try.underlying28, Go.Proofs.Try.underlying9, Go.Proofs.Try.underlying2] at ea eb ea' eb'
    exact ⟨x, v, s, i, by rw [ea, eb, ea', eb']; rfl, hx, hv, hs, wf_in hi⟩
theorem argsEVSS {avs : List AV} (h : Args Pg [24, 28, 9, 9] avs) : ∃ x v s i, avs = [.agg (TExpr.c x), .agg (TVars.c v), .str s, .str i] ∧ OkE x ∧ OkV v ∧ s.size ≤ maxLen ∧ i.size ≤ maxLen := by
  match avs, h with
  | [a, b, a', b'], ⟨⟨n, c, hc, ea⟩, ⟨m, d, hd, eb⟩, ⟨n', c', hc', ea'⟩, ⟨m', d', hd', eb'⟩, _⟩ =>
    obtain ⟨x, rfl, hx⟩ := fitE n c hc
    obtain ⟨v, rfl, hv⟩ := fitV m d hd
    obtain ⟨s, rfl, hs⟩ := fitS Go.Proofs.Try.underlying9 hc'
    obtain ⟨i, rfl, hi⟩ := fitS Go.Proofs.Try.underlying9 hd'
    simp only [argOf, Go.Proofs.Try.underlying24, Go.Proofs.Try.underlying28, Go.Proofs.Try.underlying9, Go.Proofs.Try.underlying2] at ea eb ea' eb'
    exact ⟨x, v, s, i, by rw [ea, eb, ea', eb']; rfl, hx, hv, hs, hi⟩
end Go.Proofs.Ytcmejocmohohpaa.R
