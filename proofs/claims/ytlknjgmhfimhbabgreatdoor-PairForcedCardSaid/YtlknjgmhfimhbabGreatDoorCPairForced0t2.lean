/-
  PairForced: the calls that it makes.
-/
import Derived.Test.YtlknjgmhfimhbabGreatDoorCPairForced0
set_option linter.unusedVariables false
set_option maxRecDepth 100000
set_option maxHeartbeats 4000000
namespace Go.Proofs.YtlknjgmhfimhbabGreatDoor.D
open Go Go.PM
theorem tk80 : dcallF DGx tab 29 kn80.f kn80.args kn80.H kn80.n kn80.lo = some kn80.r := by kernel_rfl
theorem tk81 : dcallF DGx tab 29 kn81.f kn81.args kn81.H kn81.n kn81.lo = some kn81.r := by kernel_rfl
theorem tk82 : dcallF DGx tab 29 kn82.f kn82.args kn82.H kn82.n kn82.lo = some kn82.r := by kernel_rfl
theorem tk83 : dcallF DGx tab 29 kn83.f kn83.args kn83.H kn83.n kn83.lo = some kn83.r := by kernel_rfl
theorem tk84 : dcallF DGx tab 29 kn84.f kn84.args kn84.H kn84.n kn84.lo = some kn84.r := by kernel_rfl
theorem tk85 : dcallF DGx tab 29 kn85.f kn85.args kn85.H kn85.n kn85.lo = some kn85.r := by kernel_rfl
theorem tk86 : dcallF DGx tab 29 kn86.f kn86.args kn86.H kn86.n kn86.lo = some kn86.r := by kernel_rfl
theorem tk87 : dcallF DGx tab 29 kn87.f kn87.args kn87.H kn87.n kn87.lo = some kn87.r := by kernel_rfl
theorem tk88 : dcallF DGx tab 29 kn88.f kn88.args kn88.H kn88.n kn88.lo = some kn88.r := by kernel_rfl
theorem tk89 : dcallF DGx tab 29 kn89.f kn89.args kn89.H kn89.n kn89.lo = some kn89.r := by kernel_rfl
theorem tk90 : dcallF DGx tab 29 kn90.f kn90.args kn90.H kn90.n kn90.lo = some kn90.r := by kernel_rfl
theorem tk91 : dcallF DGx tab 29 kn91.f kn91.args kn91.H kn91.n kn91.lo = some kn91.r := by kernel_rfl
theorem tk92 : dcallF DGx tab 29 kn92.f kn92.args kn92.H kn92.n kn92.lo = some kn92.r := by kernel_rfl
theorem tk93 : dcallF DGx tab 29 kn93.f kn93.args kn93.H kn93.n kn93.lo = some kn93.r := by kernel_rfl
theorem tk94 : dcallF DGx tab 29 kn94.f kn94.args kn94.H kn94.n kn94.lo = some kn94.r := by kernel_rfl
theorem tk95 : dcallF DGx tab 29 kn95.f kn95.args kn95.H kn95.n kn95.lo = some kn95.r := by kernel_rfl
theorem tk96 : dcallF DGx tab 29 kn96.f kn96.args kn96.H kn96.n kn96.lo = some kn96.r := by kernel_rfl
theorem tk97 : dcallF DGx tab 29 kn97.f kn97.args kn97.H kn97.n kn97.lo = some kn97.r := by kernel_rfl
theorem tk98 : dcallF DGx tab 29 kn98.f kn98.args kn98.H kn98.n kn98.lo = some kn98.r := by kernel_rfl
theorem tk99 : dcallF DGx tab 29 kn99.f kn99.args kn99.H kn99.n kn99.lo = some kn99.r := by kernel_rfl
theorem tk100 : dcallF DGx tab 29 kn100.f kn100.args kn100.H kn100.n kn100.lo = some kn100.r := by kernel_rfl
theorem tk101 : dcallF DGx tab 29 kn101.f kn101.args kn101.H kn101.n kn101.lo = some kn101.r := by kernel_rfl
theorem tk102 : dcallF DGx tab 29 kn102.f kn102.args kn102.H kn102.n kn102.lo = some kn102.r := by kernel_rfl
theorem tk103 : dcallF DGx tab 29 kn103.f kn103.args kn103.H kn103.n kn103.lo = some kn103.r := by kernel_rfl
theorem tk104 : dcallF DGx tab 29 kn104.f kn104.args kn104.H kn104.n kn104.lo = some kn104.r := by kernel_rfl
theorem tk105 : dcallF DGx tab 29 kn105.f kn105.args kn105.H kn105.n kn105.lo = some kn105.r := by kernel_rfl
theorem tk106 : dcallF DGx tab 29 kn106.f kn106.args kn106.H kn106.n kn106.lo = some kn106.r := by kernel_rfl
theorem tk107 : dcallF DGx tab 29 kn107.f kn107.args kn107.H kn107.n kn107.lo = some kn107.r := by kernel_rfl
theorem tk108 : dcallF DGx tab 29 kn108.f kn108.args kn108.H kn108.n kn108.lo = some kn108.r := by kernel_rfl
theorem tk109 : dcallF DGx tab 29 kn109.f kn109.args kn109.H kn109.n kn109.lo = some kn109.r := by kernel_rfl
theorem tk110 : dcallF DGx tab 29 kn110.f kn110.args kn110.H kn110.n kn110.lo = some kn110.r := by kernel_rfl
theorem tk111 : dcallF DGx tab 29 kn111.f kn111.args kn111.H kn111.n kn111.lo = some kn111.r := by kernel_rfl
theorem tk112 : dcallF DGx tab 29 kn112.f kn112.args kn112.H kn112.n kn112.lo = some kn112.r := by kernel_rfl
theorem tk113 : dcallF DGx tab 29 kn113.f kn113.args kn113.H kn113.n kn113.lo = some kn113.r := by kernel_rfl
theorem tk114 : dcallF DGx tab 29 kn114.f kn114.args kn114.H kn114.n kn114.lo = some kn114.r := by kernel_rfl
theorem tk115 : dcallF DGx tab 29 kn115.f kn115.args kn115.H kn115.n kn115.lo = some kn115.r := by kernel_rfl
theorem tk116 : dcallF DGx tab 29 kn116.f kn116.args kn116.H kn116.n kn116.lo = some kn116.r := by kernel_rfl
theorem tk117 : dcallF DGx tab 29 kn117.f kn117.args kn117.H kn117.n kn117.lo = some kn117.r := by kernel_rfl
theorem tk118 : dcallF DGx tab 29 kn118.f kn118.args kn118.H kn118.n kn118.lo = some kn118.r := by kernel_rfl
theorem tk119 : dcallF DGx tab 29 kn119.f kn119.args kn119.H kn119.n kn119.lo = some kn119.r := by kernel_rfl
end Go.Proofs.YtlknjgmhfimhbabGreatDoor.D
