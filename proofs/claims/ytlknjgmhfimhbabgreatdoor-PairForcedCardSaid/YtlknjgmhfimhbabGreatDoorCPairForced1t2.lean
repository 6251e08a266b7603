/-
  PairForced: the calls that it makes.
-/
import Derived.Test.YtlknjgmhfimhbabGreatDoorCPairForced1
set_option linter.unusedVariables false
set_option maxRecDepth 100000
set_option maxHeartbeats 4000000
namespace Go.Proofs.YtlknjgmhfimhbabGreatDoor.D
open Go Go.PM
theorem tk229 : dcallF DGx tab 29 kn229.f kn229.args kn229.H kn229.n kn229.lo = some kn229.r := by kernel_rfl
theorem tk230 : dcallF DGx tab 29 kn230.f kn230.args kn230.H kn230.n kn230.lo = some kn230.r := by kernel_rfl
theorem tk231 : dcallF DGx tab 29 kn231.f kn231.args kn231.H kn231.n kn231.lo = some kn231.r := by kernel_rfl
theorem tk232 : dcallF DGx tab 29 kn232.f kn232.args kn232.H kn232.n kn232.lo = some kn232.r := by kernel_rfl
theorem tk233 : dcallF DGx tab 29 kn233.f kn233.args kn233.H kn233.n kn233.lo = some kn233.r := by kernel_rfl
theorem tk234 : dcallF DGx tab 29 kn234.f kn234.args kn234.H kn234.n kn234.lo = some kn234.r := by kernel_rfl
theorem tk235 : dcallF DGx tab 29 kn235.f kn235.args kn235.H kn235.n kn235.lo = some kn235.r := by kernel_rfl
theorem tk236 : dcallF DGx tab 29 kn236.f kn236.args kn236.H kn236.n kn236.lo = some kn236.r := by kernel_rfl
theorem tk237 : dcallF DGx tab 29 kn237.f kn237.args kn237.H kn237.n kn237.lo = some kn237.r := by kernel_rfl
theorem tk238 : dcallF DGx tab 29 kn238.f kn238.args kn238.H kn238.n kn238.lo = some kn238.r := by kernel_rfl
theorem tk239 : dcallF DGx tab 29 kn239.f kn239.args kn239.H kn239.n kn239.lo = some kn239.r := by kernel_rfl
theorem tk240 : dcallF DGx tab 29 kn240.f kn240.args kn240.H kn240.n kn240.lo = some kn240.r := by kernel_rfl
theorem tk241 : dcallF DGx tab 29 kn241.f kn241.args kn241.H kn241.n kn241.lo = some kn241.r := by kernel_rfl
theorem tk242 : dcallF DGx tab 29 kn242.f kn242.args kn242.H kn242.n kn242.lo = some kn242.r := by kernel_rfl
theorem tk243 : dcallF DGx tab 29 kn243.f kn243.args kn243.H kn243.n kn243.lo = some kn243.r := by kernel_rfl
theorem tk244 : dcallF DGx tab 29 kn244.f kn244.args kn244.H kn244.n kn244.lo = some kn244.r := by kernel_rfl
end Go.Proofs.YtlknjgmhfimhbabGreatDoor.D
