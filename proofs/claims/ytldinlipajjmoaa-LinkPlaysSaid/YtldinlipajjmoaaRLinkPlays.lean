/-
  LinkPlays: the row: for every input of the statement the law returns true, and its arguments read as before. No condition of ours.
-/
import Derived.Test.YtldinlipajjmoaaPl4
import Derived.Test.YtldinlipajjmoaaCode
import Derived.ProofKit
import Derived.LaidMore
import Derived.OpenShut
import Derived.Stop.Joined
set_option linter.unusedVariables false
set_option maxRecDepth 100000
namespace Go.Proofs.Ytldinlipajjmoaa
open Go Go.PM Go.ChangeShapes Go.WideShapes Go.ChangeAt Go.RowKit
theorem own_LinkPlays : ownKnob Try.prog.godebug = none := by kernel_rfl
theorem lay_LinkPlays : laidOutB Try.prog = true := by kernel_rfl
theorem lifted_LinkPlays (os : Os) (started : os.Started) (H : Type) (enc : TypeId × Value → H) :
    ReturnsInHanded {} Try.checked os 3 .any (Rows.linkPlaysSpec.pre6 enc Try.prog Try.f3 Rows.linkPlaysRow.domain false) (Rows.linkPlaysSpec.post enc Try.prog Try.f3 false true false false) := by
  have e : (fun w args => (Rows.linkPlaysSpec.pre enc Try.prog Try.f3 Rows.linkPlaysRow.domain false w args ∧ True) ∧ sizedMet enc Try.prog Try.f3 (OpenSpec.ofChange Rows.linkPlaysSpec) false w args) = Rows.linkPlaysSpec.pre6 enc Try.prog Try.f3 Rows.linkPlaysRow.domain false := by
    funext w args
    simp only [and_true]
    rfl
  rw [← e]
  refine returnsInHanded_of_change_and (C := Try.checked) (X := fun _ _ => True) (fun _ _ _ _ h => h) own_LinkPlays started (by kernel_rfl) Try.func3
    (let ⟨w, t, i, h1, h2, h3, h4, h5, h6⟩ := ChangeSpec.witness6 (enc := enc) (C := Try.checked) (os := os) (f := 3) (fn := Try.f3) (s := Rows.linkPlaysSpec) (conds := Rows.linkPlaysRow.domain) (apart := false) false ⟨#[], #[.slice none 0 0], []⟩ 8 (by kernel_rfl) (by kernel_rfl) (by kernel_rfl) (by kernel_rfl); ⟨w, t, i, h1, h2, h3, h4, ⟨⟨h5.1, trivial⟩, h5.2⟩, h6⟩) ?_
  intro W base args ds gs before hval0 hW _ hsz _ _
  exact law_plain (D.kok _ _) lay_LinkPlays (n := 8) (ss := D.ss_LinkPlays) (by kernel_rfl) rfl (tb := 4) (by kernel_rfl) (by kernel_rfl) (fun ds hds => by
      match ds, hds with
      | [d0], _ => rfl)
    (D.pure_LinkPlays) hval0 hW hsz
theorem holds_LinkPlays : Rows.LinkPlaysSaid :=
  OpenClaim.holds_of_wide 3 Try.f3 rfl rfl rfl rfl rfl rfl rfl ⟨rfl, rfl, rfl, rfl, rfl⟩ rfl rfl rfl rfl rfl (by kernel_rfl) Try.func3 (by kernel_rfl)
    (of_decide_eq_true (by kernel_rfl)) (by unfold Func.isWrapper; first | (rw [if_pos (by decide +kernel)]; kernel_rfl) | (rw [if_neg (by decide +kernel)]; exact ⟨rfl, rfl⟩))
    (fun os started H enc _ => lifted_LinkPlays os started H enc)
#print axioms holds_LinkPlays
end Go.Proofs.Ytldinlipajjmoaa
