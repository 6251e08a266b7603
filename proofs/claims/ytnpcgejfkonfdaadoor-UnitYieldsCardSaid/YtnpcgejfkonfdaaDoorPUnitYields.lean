/-
  UnitYields over D: input by input.
-/
import Derived.Test.YtnpcgejfkonfdaaDoorFn
import Derived.Test.YtnpcgejfkonfdaaDoorDoor
import Derived.Test.YtnpcgejfkonfdaaDoorFast
set_option linter.unusedVariables false
set_option linter.unusedSimpArgs false
set_option maxHeartbeats 4000000
set_option maxRecDepth 100000
namespace Go.Proofs.YtnpcgejfkonfdaaDoor.D
open Go Go.PM
def ss_UnitYields : List (Bool × List Kd) := [(false, [.b])]
theorem in_false : ansT (dcallF (doorG 0 1) tab 30 5 [.imm (.bool false)] .lf 0 0) = true := by kernel_rfl
theorem in_true : ansT (dcallF (doorG 0 1) tab 30 5 [.imm (.bool true)] .lf 0 0) = true := by kernel_rfl
theorem pure_UnitYields : ∀ cs, ArgsFit ss_UnitYields cs → ∃ H' n', K (doorG 0 1) 30 5 cs .lf 0 0 = some (.imm (.bool true), H', n') := fun cs h0 => by
  obtain ⟨d0, r0, rfl, g0, h1⟩ := fit_cons h0
  obtain ⟨x0, rfl⟩ := fit_b g0
  cases fit0 (r := []) h1
  apply ansT_spec
  rw [show K (doorG 0 1) 30 = dcallF (doorG 0 1) tab 30 from (dcallF_eq _ _ _).symm]
  cases x0
  · exact in_false
  · exact in_true
end Go.Proofs.YtnpcgejfkonfdaaDoor.D
