/- In the calm all agree: whatever happened, if then each member's clock goes on alone, three times over, all follow who leads and have its log; over the program: its row holds. -/
import Derived.Test.YtgoachcogmlhcaaRows
import Derived.Test.YtgoachcogmlhcaaMW2
import Derived.Test.YtgoachcogmlhcaaSQJ
import Derived.Test.YtgoachcogmlhcaaNH
import Derived.ProofKit
set_option maxRecDepth 100000
set_option linter.unusedVariables false
noncomputable section
namespace Go.Proofs.Ytgoachcogmlhcaa
open Go.ChangeShapes Go.WideShapes Go.ChangeAt Go.RowKit
theorem Try.own:ownKnob Try.prog.godebug=none:=by kernel_rfl
theorem Try.laidOut:laidOutB Try.prog=true:=by kernel_rfl
abbrev tysA:List TypeId:=[3,25,5,38,48]
theorem ycmf:R.tysB Try.prog tysA=true:=by kernel_rfl
theorem ydkx:tysA.all (fun t=>Try.prog.readableRec t && decide (t < Try.prog.types.size)) = true:=by kernel_rfl
theorem ydfw{l:List TypeId}(h:∀ t∈l,tysA.contains t=true):∀ t∈l,Try.prog.readableRec t=true∧t < Try.prog.types.size:=by
  intro t ht
  have:=List.all_eq_true.1 ydkx t (by simpa using h t ht)
  simpa using this
set_option maxRecDepth 100000 in
theorem yabv(os:Os)(started:os.Started)(H:Type)(enc:TypeId × Value→H) :
    ReturnsInHanded {} Try.checked os 8 .any (Rows.raftSettlesSpec.pre6 enc Try.prog Try.f8 Rows.raftSettlesRow.domain false) (Rows.raftSettlesSpec.post enc Try.prog Try.f8 Rows.raftSettlesRow.apart Rows.raftSettlesRow.fresh Rows.raftSettlesRow.handsOn Rows.raftSettlesRow.again):=by
  refine returnsInHanded_of_change_sized (C:=Try.checked) Try.own started (by kernel_rfl) Try.func8
    (ChangeSpec.witness6 (enc:=enc) (C:=Try.checked) false ⟨#[],#[.int .u8 0,.slice none 0 0],[]⟩ 8 (by kernel_rfl) (by kernel_rfl) (by kernel_rfl) (by kernel_rfl)) ?_
  intro W base args ds gs before hval hW _ hz _
  have hc:∀ t∈Try.f8.params.toList,tysA.contains t=true:=by
    rw [Try.params8]
    decide
  refine R.law_spec ycmf hc Try.laidOut (ydfw hc) (by kernel_rfl) Try.underlying4 rfl ?_ ?_ hval hW hz
  ·intro ds hl
   rw [Try.params8] at hl
   match ds,hl with
   | [a,b],_=>rfl
  ·intro avs ha
   rw [Try.params8] at ha
   obtain ⟨n,l,rfl,h0,h1⟩:=R.argsNL ha
   have:=R.w_m_law15_RaftSettles (R.ans_RaftSettles ⟨h0,h1⟩ l)
   exact ⟨_,_,this⟩
theorem raftSettles_holds:Rows.RaftSettlesSaid:=
  OpenClaim.holds_of_wide 8 Try.f8 rfl rfl rfl rfl rfl rfl rfl ⟨rfl,rfl,rfl,rfl,rfl⟩ rfl rfl rfl rfl rfl (by kernel_rfl) Try.func8 (by kernel_rfl)
    (of_decide_eq_true (by kernel_rfl)) (by unfold Func.isWrapper; first | (rw [if_pos (by decide +kernel)]; kernel_rfl) | (rw [if_neg (by decide +kernel)]; exact ⟨rfl,rfl⟩))
    (fun os started H enc _=>yabv os started H enc)
end Go.Proofs.Ytgoachcogmlhcaa
