/-
  LinkCrosses: the row: for every input of the statement the law returns true, and its arguments read as before. No condition of ours.
-/
import Derived.Test.YtldinlipajjmoaaLawP
import Derived.Test.YtldinlipajjmoaaCode
import Derived.ProofKit
import Derived.LaidMore
import Derived.OpenShut
import Derived.Stop.Joined
set_option linter.unusedVariables false
set_option maxRecDepth 100000
namespace Go.Proofs.Ytldinlipajjmoaa
open Go Go.PM Go.ChangeShapes Go.WideShapes Go.ChangeAt Go.RowKit
theorem own_LinkCrosses : ownKnob Try.prog.godebug = none := by kernel_rfl
theorem lay_LinkCrosses : laidOutB Try.prog = true := by kernel_rfl
theorem lifted_LinkCrosses (os : Os) (started : os.Started) (H : Type) (enc : TypeId × Value → H) :
    ReturnsInHanded {} Try.checked os 4 .any (Rows.linkCrossesSpec.pre6 enc Try.prog Try.f4 Rows.linkCrossesRow.domain false) (Rows.linkCrossesSpec.post enc Try.prog Try.f4 false true false false) := by
  refine returnsInHanded_of_change (C := Try.checked) own_LinkCrosses started (by kernel_rfl) Try.func4
    (ChangeSpec.witness6 (enc := enc) (C := Try.checked) false ⟨#[], #[.slice none 0 0, .slice none 0 0, .bool false], []⟩ 8 (by kernel_rfl) (by kernel_rfl) (by kernel_rfl) (by kernel_rfl)) ?_
  intro W base args ds gs before hval0 hW _ _
  exact law_plain (D.kok _ _) lay_LinkCrosses (n := 8) (ss := D.ss_LinkCrosses) (by kernel_rfl) rfl (tb := 4) (by kernel_rfl) (by kernel_rfl) (fun ds hds => by
      match ds, hds with
      | [d0, d1, d2], _ => rfl)
    (D.pure_LinkCrosses) hval0 hW
theorem holds_LinkCrosses : Rows.LinkCrossesSaid :=
  OpenClaim.holds_of_wide 4 Try.f4 rfl rfl rfl rfl rfl rfl rfl ⟨rfl, rfl, rfl, rfl, rfl⟩ rfl rfl rfl rfl rfl (by kernel_rfl) Try.func4 (by kernel_rfl)
    (of_decide_eq_true (by kernel_rfl)) (by unfold Func.isWrapper; first | (rw [if_pos (by decide +kernel)]; kernel_rfl) | (rw [if_neg (by decide +kernel)]; exact ⟨rfl, rfl⟩))
    (fun os started H enc _ => lifted_LinkCrosses os started H enc)
#print axioms holds_LinkCrosses
end Go.Proofs.Ytldinlipajjmoaa
