/- The law of what each member does, over the program: its row holds. -/
import Derived.Test.YtgoachcogmlhcaaGreatRows
import Derived.Test.YtgoachcogmlhcaaGreatMW2
import Derived.Test.YtgoachcogmlhcaaGreatUQJ
import Derived.Test.YtgoachcogmlhcaaGreatUF
import Derived.ProofKit
set_option maxRecDepth 100000
set_option linter.unusedVariables false
noncomputable section
namespace Go.Proofs.YtgoachcogmlhcaaGreat
open Go.ChangeShapes Go.WideShapes Go.ChangeAt Go.RowKit
theorem Tryz.own:ownKnob Tryz.prog.godebug=none:=by kernel_rfl
theorem Tryz.laidOut:laidOutB Tryz.prog=true:=by kernel_rfl
abbrev tysA:List TypeId:=[3,32,5,22,34]
theorem ycpk:R.tysB Tryz.prog tysA=true:=by kernel_rfl
theorem ydtf:tysA.all (fun t=>Tryz.prog.readableRec t && decide (t < Tryz.prog.types.size)) = true:=by kernel_rfl
theorem ydmj{l:List TypeId}(h:∀ t∈l,tysA.contains t=true):∀ t∈l,Tryz.prog.readableRec t=true∧t < Tryz.prog.types.size:=by
  intro t ht
  have:=List.all_eq_true.1 ydtf t (by simpa using h t ht)
  simpa using this
set_option maxRecDepth 100000 in
theorem yafp(os:Os)(started:os.Started)(H:Type)(enc:TypeId × Value→H) :
    ReturnsInHanded {} Tryz.checked os 3 .any (Rows.raftDoesSpec.pre6 enc Tryz.prog Tryz.f3 Rows.raftDoesRow.domain false) (Rows.raftDoesSpec.post enc Tryz.prog Tryz.f3 Rows.raftDoesRow.apart Rows.raftDoesRow.fresh Rows.raftDoesRow.handsOn Rows.raftDoesRow.again):=by
  refine returnsInHanded_of_change (C:=Tryz.checked) Tryz.own started (by kernel_rfl) Tryz.func3
    (ChangeSpec.witness6 (enc:=enc) (C:=Tryz.checked) false ⟨#[],#[.int .u8 0,.slice none 0 0],[]⟩ 8 (by kernel_rfl) (by kernel_rfl) (by kernel_rfl) (by kernel_rfl)) ?_
  intro W base args ds gs before hval hW _ _
  have hc:∀ t∈Tryz.f3.params.toList,tysA.contains t=true:=by
    rw [Tryz.params3]
    decide
  refine R.law_spec ycpk hc Tryz.laidOut (ydmj hc) (by kernel_rfl) Tryz.underlying4 rfl ?_ ?_ hval hW
  ·intro ds hl
   rw [Tryz.params3] at hl
   match ds,hl with
   | [a,b],_=>rfl
  ·intro avs ha
   rw [Tryz.params3] at ha
   obtain ⟨n,l,rfl,h0,h1⟩:=R.argsNL ha
   have:=R.w_m_law15_RaftDoes (R.ans_RaftDoes ⟨h0,h1⟩ l)
   exact ⟨_,_,this⟩
theorem raftDoes_holds:Rows.RaftDoesSaid:=
  OpenClaim.holds_of_wide 3 Tryz.f3 rfl rfl rfl rfl rfl rfl rfl ⟨rfl,rfl,rfl,rfl,rfl⟩ rfl rfl rfl rfl rfl (by kernel_rfl) Tryz.func3 (by kernel_rfl)
    (of_decide_eq_true (by kernel_rfl)) (by unfold Func.isWrapper; first | (rw [if_pos (by decide +kernel)]; kernel_rfl) | (rw [if_neg (by decide +kernel)]; exact ⟨rfl,rfl⟩))
    (fun os started H enc _=>yafp os started H enc)
end Go.Proofs.YtgoachcogmlhcaaGreat
