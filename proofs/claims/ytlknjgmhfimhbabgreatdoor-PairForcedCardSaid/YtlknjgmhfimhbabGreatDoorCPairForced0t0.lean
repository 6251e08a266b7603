/-
  PairForced: the calls that it makes.
-/
import Derived.Test.YtlknjgmhfimhbabGreatDoorCPairForced0
set_option linter.unusedVariables false
set_option maxRecDepth 100000
set_option maxHeartbeats 4000000
namespace Go.Proofs.YtlknjgmhfimhbabGreatDoor.D
open Go Go.PM
theorem tk0 : dcallF DGx tab 29 kn0.f kn0.args kn0.H kn0.n kn0.lo = some kn0.r := by kernel_rfl
theorem tk1 : dcallF DGx tab 29 kn1.f kn1.args kn1.H kn1.n kn1.lo = some kn1.r := by kernel_rfl
theorem tk2 : dcallF DGx tab 29 kn2.f kn2.args kn2.H kn2.n kn2.lo = some kn2.r := by kernel_rfl
theorem tk3 : dcallF DGx tab 29 kn3.f kn3.args kn3.H kn3.n kn3.lo = some kn3.r := by kernel_rfl
theorem tk4 : dcallF DGx tab 29 kn4.f kn4.args kn4.H kn4.n kn4.lo = some kn4.r := by kernel_rfl
theorem tk5 : dcallF DGx tab 29 kn5.f kn5.args kn5.H kn5.n kn5.lo = some kn5.r := by kernel_rfl
theorem tk6 : dcallF DGx tab 29 kn6.f kn6.args kn6.H kn6.n kn6.lo = some kn6.r := by kernel_rfl
theorem tk7 : dcallF DGx tab 29 kn7.f kn7.args kn7.H kn7.n kn7.lo = some kn7.r := by kernel_rfl
theorem tk8 : dcallF DGx tab 29 kn8.f kn8.args kn8.H kn8.n kn8.lo = some kn8.r := by kernel_rfl
theorem tk9 : dcallF DGx tab 29 kn9.f kn9.args kn9.H kn9.n kn9.lo = some kn9.r := by kernel_rfl
theorem tk10 : dcallF DGx tab 29 kn10.f kn10.args kn10.H kn10.n kn10.lo = some kn10.r := by kernel_rfl
theorem tk11 : dcallF DGx tab 29 kn11.f kn11.args kn11.H kn11.n kn11.lo = some kn11.r := by kernel_rfl
theorem tk12 : dcallF DGx tab 29 kn12.f kn12.args kn12.H kn12.n kn12.lo = some kn12.r := by kernel_rfl
theorem tk13 : dcallF DGx tab 29 kn13.f kn13.args kn13.H kn13.n kn13.lo = some kn13.r := by kernel_rfl
theorem tk14 : dcallF DGx tab 29 kn14.f kn14.args kn14.H kn14.n kn14.lo = some kn14.r := by kernel_rfl
theorem tk15 : dcallF DGx tab 29 kn15.f kn15.args kn15.H kn15.n kn15.lo = some kn15.r := by kernel_rfl
theorem tk16 : dcallF DGx tab 29 kn16.f kn16.args kn16.H kn16.n kn16.lo = some kn16.r := by kernel_rfl
theorem tk17 : dcallF DGx tab 29 kn17.f kn17.args kn17.H kn17.n kn17.lo = some kn17.r := by kernel_rfl
theorem tk18 : dcallF DGx tab 29 kn18.f kn18.args kn18.H kn18.n kn18.lo = some kn18.r := by kernel_rfl
theorem tk19 : dcallF DGx tab 29 kn19.f kn19.args kn19.H kn19.n kn19.lo = some kn19.r := by kernel_rfl
theorem tk20 : dcallF DGx tab 29 kn20.f kn20.args kn20.H kn20.n kn20.lo = some kn20.r := by kernel_rfl
theorem tk21 : dcallF DGx tab 29 kn21.f kn21.args kn21.H kn21.n kn21.lo = some kn21.r := by kernel_rfl
theorem tk22 : dcallF DGx tab 29 kn22.f kn22.args kn22.H kn22.n kn22.lo = some kn22.r := by kernel_rfl
theorem tk23 : dcallF DGx tab 29 kn23.f kn23.args kn23.H kn23.n kn23.lo = some kn23.r := by kernel_rfl
theorem tk24 : dcallF DGx tab 29 kn24.f kn24.args kn24.H kn24.n kn24.lo = some kn24.r := by kernel_rfl
theorem tk25 : dcallF DGx tab 29 kn25.f kn25.args kn25.H kn25.n kn25.lo = some kn25.r := by kernel_rfl
theorem tk26 : dcallF DGx tab 29 kn26.f kn26.args kn26.H kn26.n kn26.lo = some kn26.r := by kernel_rfl
theorem tk27 : dcallF DGx tab 29 kn27.f kn27.args kn27.H kn27.n kn27.lo = some kn27.r := by kernel_rfl
theorem tk28 : dcallF DGx tab 29 kn28.f kn28.args kn28.H kn28.n kn28.lo = some kn28.r := by kernel_rfl
theorem tk29 : dcallF DGx tab 29 kn29.f kn29.args kn29.H kn29.n kn29.lo = some kn29.r := by kernel_rfl
theorem tk30 : dcallF DGx tab 29 kn30.f kn30.args kn30.H kn30.n kn30.lo = some kn30.r := by kernel_rfl
theorem tk31 : dcallF DGx tab 29 kn31.f kn31.args kn31.H kn31.n kn31.lo = some kn31.r := by kernel_rfl
theorem tk32 : dcallF DGx tab 29 kn32.f kn32.args kn32.H kn32.n kn32.lo = some kn32.r := by kernel_rfl
theorem tk33 : dcallF DGx tab 29 kn33.f kn33.args kn33.H kn33.n kn33.lo = some kn33.r := by kernel_rfl
theorem tk34 : dcallF DGx tab 29 kn34.f kn34.args kn34.H kn34.n kn34.lo = some kn34.r := by kernel_rfl
theorem tk35 : dcallF DGx tab 29 kn35.f kn35.args kn35.H kn35.n kn35.lo = some kn35.r := by kernel_rfl
theorem tk36 : dcallF DGx tab 29 kn36.f kn36.args kn36.H kn36.n kn36.lo = some kn36.r := by kernel_rfl
theorem tk37 : dcallF DGx tab 29 kn37.f kn37.args kn37.H kn37.n kn37.lo = some kn37.r := by kernel_rfl
theorem tk38 : dcallF DGx tab 29 kn38.f kn38.args kn38.H kn38.n kn38.lo = some kn38.r := by kernel_rfl
theorem tk39 : dcallF DGx tab 29 kn39.f kn39.args kn39.H kn39.n kn39.lo = some kn39.r := by kernel_rfl
end Go.Proofs.YtlknjgmhfimhbabGreatDoor.D
