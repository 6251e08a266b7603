/-
  What is known, once.
-/
import Derived.Test.YtlknjgmhfimhbacGreatDoorT3
import Derived.Test.YtlknjgmhfimhbacGreatDoorFast
set_option linter.unusedVariables false
set_option linter.unusedSimpArgs false
set_option maxHeartbeats 4000000
set_option maxRecDepth 100000
namespace Go.Proofs.YtlknjgmhfimhbacGreatDoor.D
open Go Go.PM
theorem known_run : ansT (dcallF (doorG 0 1) tab 29 16 [] .lf 0 0) = true := by kernel_rfl
theorem known_bl : bl (K DG 29) 16 [] = some (.imm (.bool true)) := by
  have h := known_run
  rw [show dcallF (doorG 0 1) tab 29 = K DG 29 from dcallF_eq _ _ _] at h
  obtain ⟨H', n', e⟩ := ansT_spec h
  exact bl_imm e
end Go.Proofs.YtlknjgmhfimhbacGreatDoor.D
