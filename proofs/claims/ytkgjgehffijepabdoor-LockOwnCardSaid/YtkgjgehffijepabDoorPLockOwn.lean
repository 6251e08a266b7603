/-
  LockOwn over D: input by input.
-/
import Derived.Test.YtkgjgehffijepabDoorFn
import Derived.Test.YtkgjgehffijepabDoorDoor
import Derived.Test.YtkgjgehffijepabDoorFast
set_option linter.unusedVariables false
set_option linter.unusedSimpArgs false
set_option maxHeartbeats 4000000
set_option maxRecDepth 100000
namespace Go.Proofs.YtkgjgehffijepabDoor.D
open Go Go.PM
def ss_LockOwn : List (Bool × List Kd) := [(false, [.i .i64])]
theorem in_x (x0 : Int) : ansT (K (doorG 0 1) 30 8 [.imm (.int .i64 x0)] .lf 0 0) = true := by kernel_rfl
theorem pure_LockOwn : ∀ cs, ArgsFit ss_LockOwn cs → ∃ H' n', K (doorG 0 1) 30 8 cs .lf 0 0 = some (.imm (.bool true), H', n') := fun cs h0 => by
  obtain ⟨d0, r0, rfl, g0, h1⟩ := fit_cons h0
  obtain ⟨x0, rfl, _⟩ := fit_i g0
  cases fit0 (r := []) h1
  apply ansT_spec
  exact in_x x0
end Go.Proofs.YtkgjgehffijepabDoor.D
