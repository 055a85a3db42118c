/- Steps whose reckoning is done by simp alone. -/
import Derived.Test.YtjhnlgelcfplaaaMF
set_option linter.unusedVariables false
noncomputable section
namespace Go.Proofs.Ytjhnlgelcfplaaa.R
open Go
section
variable {P : Program} {nt m : Nat} {s s1 s' : St} {Q : Ex → St → Prop} {T : St → Prop} {cl : Callee} {l : List Iop} {ic a b : IC} {x : Opd}
theorem regP (h2 : Q .norm s1) (h : evR (cT P) (tab []) nt l s = some s1 := by (simp only [Nat.reduceLT, Nat.reduceEqDiff, Nat.reduceAdd, Nat.reduceLeDiff, Nat.reduceSub, Nat.reduceMul, reduceIte, Int.reduceEq, Int.reduceLT, EV, EVt, evOp, *]; with_reducible rfl)) : Wp P nt m (.reg none l) s Q := Wp.regE (tab_nil P) h h2
theorem chunkT (n : Nat) (hcl : Sound P cl) (h2 : OpsW P nt m (l.drop n) s1 T) (h : evOps (cT P) cl nt (l.take n) s = some s1 := by (simp only [Nat.reduceLT, Nat.reduceEqDiff, Nat.reduceAdd, Nat.reduceLeDiff, Nat.reduceSub, Nat.reduceMul, reduceIte, Int.reduceEq, Int.reduceLT, EV, EVt, evOp, *]; with_reducible rfl)) : OpsW P nt m l s T := OpsW.many n hcl h h2
theorem chunkF (n : Nat) (hcl : Sound P cl) (h2 : OpsW P nt m (l.drop n) s1 T) (h : evOps (cF P) cl nt (l.take n) s = some s1 := by (simp only [Nat.reduceLT, Nat.reduceEqDiff, Nat.reduceAdd, Nat.reduceLeDiff, Nat.reduceSub, Nat.reduceMul, reduceIte, Int.reduceEq, Int.reduceLT, EV, EVt, evOp, *]; with_reducible rfl)) : OpsW P nt m l s T := OpsW.many n hcl h h2
theorem lastT (hcl : Sound P cl) (h2 : Q .norm s1) (h : evR (cT P) cl nt l s = some s1 := by (simp only [Nat.reduceLT, Nat.reduceEqDiff, Nat.reduceAdd, Nat.reduceLeDiff, Nat.reduceSub, Nat.reduceMul, reduceIte, Int.reduceEq, Int.reduceLT, EV, EVt, evOp, *]; with_reducible rfl)) : OpsW P nt m l s (fun s' => Q .norm s'.clr) := OpsW.last hcl h h2
theorem lastF (hcl : Sound P cl) (h2 : Q .norm s1) (h : evR (cF P) cl nt l s = some s1 := by (simp only [Nat.reduceLT, Nat.reduceEqDiff, Nat.reduceAdd, Nat.reduceLeDiff, Nat.reduceSub, Nat.reduceMul, reduceIte, Int.reduceEq, Int.reduceLT, EV, EVt, evOp, *]; with_reducible rfl)) : OpsW P nt m l s (fun s' => Q .norm s'.clr) := OpsW.last hcl h h2
theorem drawP {k : List (Nat × Nat)} {cl : Nat → Callee} (lent : List Nat) (hP : P.follows .mixedOrders = true) (hcl : ∀ i, Sound P (cl i)) (h2 : Q .norm s1) (h : evRD (cM P lent) cl nt k l s = some s1 := by (simp only [Nat.reduceLT, Nat.reduceEqDiff, Nat.reduceAdd, Nat.reduceLeDiff, Nat.reduceSub, Nat.reduceMul, reduceIte, Int.reduceEq, Int.reduceLT, EV, EVt, evOp, EVg, *]; with_reducible rfl)) : Wp P nt m (.reg (some k) l) s Q := Wp.regD hP (c := cM P lent) rfl hcl h h2
theorem condTP (h : Wp P nt m a s Q) (hx : s.ev x = .bool true := by simp only [Nat.reduceLT, Nat.reduceEqDiff, Nat.reduceAdd, Nat.reduceLeDiff, Nat.reduceSub, Nat.reduceMul, reduceIte, Int.reduceEq, Int.reduceLT, EV, EVt, *]) : Wp P nt m (.cond x a b) s Q := Wp.condT hx h
theorem condFP (h : Wp P nt m b s Q) (hx : s.ev x = .bool false := by simp only [Nat.reduceLT, Nat.reduceEqDiff, Nat.reduceAdd, Nat.reduceLeDiff, Nat.reduceSub, Nat.reduceMul, reduceIte, Int.reduceEq, Int.reduceLT, EV, EVt, *]) : Wp P nt m (.cond x a b) s Q := Wp.condF hx h
theorem weakP (k : List WA) (h : Wp P nt m ic s' Q) (hw : evW m k s = some s' := by (simp only [Nat.reduceLT, Nat.reduceEqDiff, Nat.reduceAdd, Nat.reduceLeDiff, Nat.reduceSub, Nat.reduceMul, reduceIte, Int.reduceEq, Int.reduceLT, EV, EVt, *]; with_reducible rfl)) : Wp P nt m ic s Q := Wp.weakE hw h
theorem jumpK (k : List WA) (h : Wp P nt m ic s' Q) (hw : evW m k s = some s' := by simp only [Nat.reduceLT, Nat.reduceEqDiff, Nat.reduceAdd, Nat.reduceLeDiff, Nat.reduceSub, Nat.reduceMul, reduceIte, Int.reduceEq, Int.reduceLT, EV, EVt, *]) : Wp P nt m ic s Q := Wp.weakE hw h
theorem jumpL (k : List WA) (h : LWp P nt m ic s' Q) (hw : evW m k s = some s' := by simp only [Nat.reduceLT, Nat.reduceEqDiff, Nat.reduceAdd, Nat.reduceLeDiff, Nat.reduceSub, Nat.reduceMul, reduceIte, Int.reduceEq, Int.reduceLT, EV, EVt, *]) : LWp P nt m ic s Q := LWp.weakE hw h
theorem finP {res : List IR} {r : AV} {H' : Heap} {n' : Nat} {e : Ex} (h : retK m res (some (e, s)) = some (r, H', n') := by simp only [Nat.reduceLT, Nat.reduceEqDiff, Nat.reduceAdd, Nat.reduceLeDiff, Nat.reduceSub, Nat.reduceMul, reduceIte, Int.reduceEq, Int.reduceLT, EV, EVt, *]) : FinQ m res r H' n' e s := h
end
end Go.Proofs.Ytjhnlgelcfplaaa.R
