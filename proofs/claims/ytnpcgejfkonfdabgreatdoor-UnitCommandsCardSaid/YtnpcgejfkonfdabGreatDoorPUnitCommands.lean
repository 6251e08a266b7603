/-
  UnitCommands over D: input by input.
-/
import Derived.Test.YtnpcgejfkonfdabGreatDoorFn
import Derived.Test.YtnpcgejfkonfdabGreatDoorDoor
import Derived.Test.YtnpcgejfkonfdabGreatDoorFast
set_option linter.unusedVariables false
set_option linter.unusedSimpArgs false
set_option maxHeartbeats 4000000
set_option maxRecDepth 100000
namespace Go.Proofs.YtnpcgejfkonfdabGreatDoor.D
open Go Go.PM
def ss_UnitCommands : List (Bool × List Kd) := [(false, [.b]), (false, [.b])]
theorem in_false_false : ansT (dcallF (doorG 0 1) tab 30 3 [.imm (.bool false), .imm (.bool false)] .lf 0 0) = true := by kernel_rfl
theorem in_false_true : ansT (dcallF (doorG 0 1) tab 30 3 [.imm (.bool false), .imm (.bool true)] .lf 0 0) = true := by kernel_rfl
theorem in_true_false : ansT (dcallF (doorG 0 1) tab 30 3 [.imm (.bool true), .imm (.bool false)] .lf 0 0) = true := by kernel_rfl
theorem in_true_true : ansT (dcallF (doorG 0 1) tab 30 3 [.imm (.bool true), .imm (.bool true)] .lf 0 0) = true := by kernel_rfl
theorem pure_UnitCommands : ∀ cs, ArgsFit ss_UnitCommands cs → ∃ H' n', K (doorG 0 1) 30 3 cs .lf 0 0 = some (.imm (.bool true), H', n') := fun cs h0 => by
  obtain ⟨d0, r0, rfl, g0, h1⟩ := fit_cons h0
  obtain ⟨x0, rfl⟩ := fit_b g0
  obtain ⟨d1, r1, rfl, g1, h2⟩ := fit_cons h1
  obtain ⟨x1, rfl⟩ := fit_b g1
  cases fit0 (r := []) h2
  apply ansT_spec
  rw [show K (doorG 0 1) 30 = dcallF (doorG 0 1) tab 30 from (dcallF_eq _ _ _).symm]
  cases x0 <;> cases x1
  · exact in_false_false
  · exact in_false_true
  · exact in_true_false
  · exact in_true_true
end Go.Proofs.YtnpcgejfkonfdabGreatDoor.D
