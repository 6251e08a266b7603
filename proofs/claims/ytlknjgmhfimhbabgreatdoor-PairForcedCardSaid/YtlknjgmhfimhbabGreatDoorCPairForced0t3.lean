/-
  PairForced: the calls that it makes.
-/
import Derived.Test.YtlknjgmhfimhbabGreatDoorCPairForced0
set_option linter.unusedVariables false
set_option maxRecDepth 100000
set_option maxHeartbeats 4000000
namespace Go.Proofs.YtlknjgmhfimhbabGreatDoor.D
open Go Go.PM
theorem tk120 : dcallF DGx tab 29 kn120.f kn120.args kn120.H kn120.n kn120.lo = some kn120.r := by kernel_rfl
theorem tk121 : dcallF DGx tab 29 kn121.f kn121.args kn121.H kn121.n kn121.lo = some kn121.r := by kernel_rfl
theorem tk122 : dcallF DGx tab 29 kn122.f kn122.args kn122.H kn122.n kn122.lo = some kn122.r := by kernel_rfl
theorem tk123 : dcallF DGx tab 29 kn123.f kn123.args kn123.H kn123.n kn123.lo = some kn123.r := by kernel_rfl
theorem tk124 : dcallF DGx tab 29 kn124.f kn124.args kn124.H kn124.n kn124.lo = some kn124.r := by kernel_rfl
theorem tk125 : dcallF DGx tab 29 kn125.f kn125.args kn125.H kn125.n kn125.lo = some kn125.r := by kernel_rfl
theorem tk126 : dcallF DGx tab 29 kn126.f kn126.args kn126.H kn126.n kn126.lo = some kn126.r := by kernel_rfl
theorem tk127 : dcallF DGx tab 29 kn127.f kn127.args kn127.H kn127.n kn127.lo = some kn127.r := by kernel_rfl
theorem tk128 : dcallF DGx tab 29 kn128.f kn128.args kn128.H kn128.n kn128.lo = some kn128.r := by kernel_rfl
theorem tk129 : dcallF DGx tab 29 kn129.f kn129.args kn129.H kn129.n kn129.lo = some kn129.r := by kernel_rfl
theorem tk130 : dcallF DGx tab 29 kn130.f kn130.args kn130.H kn130.n kn130.lo = some kn130.r := by kernel_rfl
theorem tk131 : dcallF DGx tab 29 kn131.f kn131.args kn131.H kn131.n kn131.lo = some kn131.r := by kernel_rfl
theorem tk132 : dcallF DGx tab 29 kn132.f kn132.args kn132.H kn132.n kn132.lo = some kn132.r := by kernel_rfl
theorem tk133 : dcallF DGx tab 29 kn133.f kn133.args kn133.H kn133.n kn133.lo = some kn133.r := by kernel_rfl
theorem tk134 : dcallF DGx tab 29 kn134.f kn134.args kn134.H kn134.n kn134.lo = some kn134.r := by kernel_rfl
theorem tk135 : dcallF DGx tab 29 kn135.f kn135.args kn135.H kn135.n kn135.lo = some kn135.r := by kernel_rfl
theorem tk136 : dcallF DGx tab 29 kn136.f kn136.args kn136.H kn136.n kn136.lo = some kn136.r := by kernel_rfl
theorem tk137 : dcallF DGx tab 29 kn137.f kn137.args kn137.H kn137.n kn137.lo = some kn137.r := by kernel_rfl
theorem tk138 : dcallF DGx tab 29 kn138.f kn138.args kn138.H kn138.n kn138.lo = some kn138.r := by kernel_rfl
theorem tk139 : dcallF DGx tab 29 kn139.f kn139.args kn139.H kn139.n kn139.lo = some kn139.r := by kernel_rfl
theorem tk140 : dcallF DGx tab 29 kn140.f kn140.args kn140.H kn140.n kn140.lo = some kn140.r := by kernel_rfl
theorem tk141 : dcallF DGx tab 29 kn141.f kn141.args kn141.H kn141.n kn141.lo = some kn141.r := by kernel_rfl
theorem tk142 : dcallF DGx tab 29 kn142.f kn142.args kn142.H kn142.n kn142.lo = some kn142.r := by kernel_rfl
theorem tk143 : dcallF DGx tab 29 kn143.f kn143.args kn143.H kn143.n kn143.lo = some kn143.r := by kernel_rfl
theorem tk144 : dcallF DGx tab 29 kn144.f kn144.args kn144.H kn144.n kn144.lo = some kn144.r := by kernel_rfl
theorem tk145 : dcallF DGx tab 29 kn145.f kn145.args kn145.H kn145.n kn145.lo = some kn145.r := by kernel_rfl
theorem tk146 : dcallF DGx tab 29 kn146.f kn146.args kn146.H kn146.n kn146.lo = some kn146.r := by kernel_rfl
theorem tk147 : dcallF DGx tab 29 kn147.f kn147.args kn147.H kn147.n kn147.lo = some kn147.r := by kernel_rfl
theorem tk148 : dcallF DGx tab 29 kn148.f kn148.args kn148.H kn148.n kn148.lo = some kn148.r := by kernel_rfl
theorem tk149 : dcallF DGx tab 29 kn149.f kn149.args kn149.H kn149.n kn149.lo = some kn149.r := by kernel_rfl
theorem tk150 : dcallF DGx tab 29 kn150.f kn150.args kn150.H kn150.n kn150.lo = some kn150.r := by kernel_rfl
theorem tk151 : dcallF DGx tab 29 kn151.f kn151.args kn151.H kn151.n kn151.lo = some kn151.r := by kernel_rfl
theorem tk152 : dcallF DGx tab 29 kn152.f kn152.args kn152.H kn152.n kn152.lo = some kn152.r := by kernel_rfl
theorem tk153 : dcallF DGx tab 29 kn153.f kn153.args kn153.H kn153.n kn153.lo = some kn153.r := by kernel_rfl
theorem tk154 : dcallF DGx tab 29 kn154.f kn154.args kn154.H kn154.n kn154.lo = some kn154.r := by kernel_rfl
theorem tk155 : dcallF DGx tab 29 kn155.f kn155.args kn155.H kn155.n kn155.lo = some kn155.r := by kernel_rfl
theorem tk156 : dcallF DGx tab 29 kn156.f kn156.args kn156.H kn156.n kn156.lo = some kn156.r := by kernel_rfl
theorem tk157 : dcallF DGx tab 29 kn157.f kn157.args kn157.H kn157.n kn157.lo = some kn157.r := by kernel_rfl
theorem tk158 : dcallF DGx tab 29 kn158.f kn158.args kn158.H kn158.n kn158.lo = some kn158.r := by kernel_rfl
theorem tk159 : dcallF DGx tab 29 kn159.f kn159.args kn159.H kn159.n kn159.lo = some kn159.r := by kernel_rfl
end Go.Proofs.YtlknjgmhfimhbabGreatDoor.D
