/-
  PairForced: the calls that it makes.
-/
import Derived.Test.YtlknjgmhfimhbabGreatDoorCPairForced1
set_option linter.unusedVariables false
set_option maxRecDepth 100000
set_option maxHeartbeats 4000000
namespace Go.Proofs.YtlknjgmhfimhbabGreatDoor.D
open Go Go.PM
theorem tk213 : dcallF DGx tab 29 kn213.f kn213.args kn213.H kn213.n kn213.lo = some kn213.r := by kernel_rfl
theorem tk214 : dcallF DGx tab 29 kn214.f kn214.args kn214.H kn214.n kn214.lo = some kn214.r := by kernel_rfl
theorem tk215 : dcallF DGx tab 29 kn215.f kn215.args kn215.H kn215.n kn215.lo = some kn215.r := by kernel_rfl
theorem tk216 : dcallF DGx tab 29 kn216.f kn216.args kn216.H kn216.n kn216.lo = some kn216.r := by kernel_rfl
theorem tk217 : dcallF DGx tab 29 kn217.f kn217.args kn217.H kn217.n kn217.lo = some kn217.r := by kernel_rfl
theorem tk218 : dcallF DGx tab 29 kn218.f kn218.args kn218.H kn218.n kn218.lo = some kn218.r := by kernel_rfl
theorem tk219 : dcallF DGx tab 29 kn219.f kn219.args kn219.H kn219.n kn219.lo = some kn219.r := by kernel_rfl
theorem tk220 : dcallF DGx tab 29 kn220.f kn220.args kn220.H kn220.n kn220.lo = some kn220.r := by kernel_rfl
theorem tk221 : dcallF DGx tab 29 kn221.f kn221.args kn221.H kn221.n kn221.lo = some kn221.r := by kernel_rfl
theorem tk222 : dcallF DGx tab 29 kn222.f kn222.args kn222.H kn222.n kn222.lo = some kn222.r := by kernel_rfl
theorem tk223 : dcallF DGx tab 29 kn223.f kn223.args kn223.H kn223.n kn223.lo = some kn223.r := by kernel_rfl
theorem tk224 : dcallF DGx tab 29 kn224.f kn224.args kn224.H kn224.n kn224.lo = some kn224.r := by kernel_rfl
theorem tk225 : dcallF DGx tab 29 kn225.f kn225.args kn225.H kn225.n kn225.lo = some kn225.r := by kernel_rfl
theorem tk226 : dcallF DGx tab 29 kn226.f kn226.args kn226.H kn226.n kn226.lo = some kn226.r := by kernel_rfl
theorem tk227 : dcallF DGx tab 29 kn227.f kn227.args kn227.H kn227.n kn227.lo = some kn227.r := by kernel_rfl
theorem tk228 : dcallF DGx tab 29 kn228.f kn228.args kn228.H kn228.n kn228.lo = some kn228.r := by kernel_rfl
end Go.Proofs.YtlknjgmhfimhbabGreatDoor.D
