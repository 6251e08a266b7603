/-
  PairForced: the calls that it makes.
-/
import Derived.Test.YtlknjgmhfimhbabGreatDoorCPairForced1
set_option linter.unusedVariables false
set_option maxRecDepth 100000
set_option maxHeartbeats 4000000
namespace Go.Proofs.YtlknjgmhfimhbabGreatDoor.D
open Go Go.PM
theorem tk197 : dcallF DGx tab 29 kn197.f kn197.args kn197.H kn197.n kn197.lo = some kn197.r := by kernel_rfl
theorem tk198 : dcallF DGx tab 29 kn198.f kn198.args kn198.H kn198.n kn198.lo = some kn198.r := by kernel_rfl
theorem tk199 : dcallF DGx tab 29 kn199.f kn199.args kn199.H kn199.n kn199.lo = some kn199.r := by kernel_rfl
theorem tk200 : dcallF DGx tab 29 kn200.f kn200.args kn200.H kn200.n kn200.lo = some kn200.r := by kernel_rfl
theorem tk201 : dcallF DGx tab 29 kn201.f kn201.args kn201.H kn201.n kn201.lo = some kn201.r := by kernel_rfl
theorem tk202 : dcallF DGx tab 29 kn202.f kn202.args kn202.H kn202.n kn202.lo = some kn202.r := by kernel_rfl
theorem tk203 : dcallF DGx tab 29 kn203.f kn203.args kn203.H kn203.n kn203.lo = some kn203.r := by kernel_rfl
theorem tk204 : dcallF DGx tab 29 kn204.f kn204.args kn204.H kn204.n kn204.lo = some kn204.r := by kernel_rfl
theorem tk205 : dcallF DGx tab 29 kn205.f kn205.args kn205.H kn205.n kn205.lo = some kn205.r := by kernel_rfl
theorem tk206 : dcallF DGx tab 29 kn206.f kn206.args kn206.H kn206.n kn206.lo = some kn206.r := by kernel_rfl
theorem tk207 : dcallF DGx tab 29 kn207.f kn207.args kn207.H kn207.n kn207.lo = some kn207.r := by kernel_rfl
theorem tk208 : dcallF DGx tab 29 kn208.f kn208.args kn208.H kn208.n kn208.lo = some kn208.r := by kernel_rfl
theorem tk209 : dcallF DGx tab 29 kn209.f kn209.args kn209.H kn209.n kn209.lo = some kn209.r := by kernel_rfl
theorem tk210 : dcallF DGx tab 29 kn210.f kn210.args kn210.H kn210.n kn210.lo = some kn210.r := by kernel_rfl
theorem tk211 : dcallF DGx tab 29 kn211.f kn211.args kn211.H kn211.n kn211.lo = some kn211.r := by kernel_rfl
theorem tk212 : dcallF DGx tab 29 kn212.f kn212.args kn212.H kn212.n kn212.lo = some kn212.r := by kernel_rfl
end Go.Proofs.YtlknjgmhfimhbabGreatDoor.D
