/-
  LinkSpoils: the row: for every input of the statement the law returns true, and its arguments read as before. No condition of ours.
-/
import Derived.Test.YtldinlipajjmoaaSpoil
import Derived.Test.YtldinlipajjmoaaCode
import Derived.ProofKit
import Derived.LaidMore
import Derived.OpenShut
import Derived.Stop.Joined
set_option linter.unusedVariables false
set_option maxRecDepth 100000
namespace Go.Proofs.Ytldinlipajjmoaa
open Go Go.PM Go.ChangeShapes Go.WideShapes Go.ChangeAt Go.RowKit
theorem own_LinkSpoils : ownKnob Try.prog.godebug = none := by kernel_rfl
theorem lay_LinkSpoils : laidOutB Try.prog = true := by kernel_rfl
theorem lifted_LinkSpoils (os : Os) (started : os.Started) (H : Type) (enc : TypeId × Value → H) :
    ReturnsInHanded {} Try.checked os 5 .any (Rows.linkSpoilsSpec.pre6 enc Try.prog Try.f5 Rows.linkSpoilsRow.domain false) (Rows.linkSpoilsSpec.post enc Try.prog Try.f5 false true false false) := by
  refine returnsInHanded_of_change (C := Try.checked) own_LinkSpoils started (by kernel_rfl) Try.func5
    (ChangeSpec.witness6 (enc := enc) (C := Try.checked) false ⟨#[], #[.slice none 0 0, .bool false, .int .i64 0], []⟩ 8 (by kernel_rfl) (by kernel_rfl) (by kernel_rfl) (by kernel_rfl)) ?_
  intro W base args ds gs before hval0 hW _ _
  exact law_plain (D.kok _ _) lay_LinkSpoils (n := 8) (ss := D.ss_LinkSpoils) (by kernel_rfl) rfl (tb := 4) (by kernel_rfl) (by kernel_rfl) (fun ds hds => by
      match ds, hds with
      | [d0, d1, d2], _ => rfl)
    (D.pure_LinkSpoils) hval0 hW
theorem holds_LinkSpoils : Rows.LinkSpoilsSaid :=
  OpenClaim.holds_of_wide 5 Try.f5 rfl rfl rfl rfl rfl rfl rfl ⟨rfl, rfl, rfl, rfl, rfl⟩ rfl rfl rfl rfl rfl (by kernel_rfl) Try.func5 (by kernel_rfl)
    (of_decide_eq_true (by kernel_rfl)) (by unfold Func.isWrapper; first | (rw [if_pos (by decide +kernel)]; kernel_rfl) | (rw [if_neg (by decide +kernel)]; exact ⟨rfl, rfl⟩))
    (fun os started H enc _ => lifted_LinkSpoils os started H enc)
#print axioms holds_LinkSpoils
end Go.Proofs.Ytldinlipajjmoaa
