/-
  PairForced: the calls that it makes.
-/
import Derived.Test.YtlknjgmhfimhbabGreatDoorCPairForced0
set_option linter.unusedVariables false
set_option maxRecDepth 100000
set_option maxHeartbeats 4000000
namespace Go.Proofs.YtlknjgmhfimhbabGreatDoor.D
open Go Go.PM
theorem tk40 : dcallF DGx tab 29 kn40.f kn40.args kn40.H kn40.n kn40.lo = some kn40.r := by kernel_rfl
theorem tk41 : dcallF DGx tab 29 kn41.f kn41.args kn41.H kn41.n kn41.lo = some kn41.r := by kernel_rfl
theorem tk42 : dcallF DGx tab 29 kn42.f kn42.args kn42.H kn42.n kn42.lo = some kn42.r := by kernel_rfl
theorem tk43 : dcallF DGx tab 29 kn43.f kn43.args kn43.H kn43.n kn43.lo = some kn43.r := by kernel_rfl
theorem tk44 : dcallF DGx tab 29 kn44.f kn44.args kn44.H kn44.n kn44.lo = some kn44.r := by kernel_rfl
theorem tk45 : dcallF DGx tab 29 kn45.f kn45.args kn45.H kn45.n kn45.lo = some kn45.r := by kernel_rfl
theorem tk46 : dcallF DGx tab 29 kn46.f kn46.args kn46.H kn46.n kn46.lo = some kn46.r := by kernel_rfl
theorem tk47 : dcallF DGx tab 29 kn47.f kn47.args kn47.H kn47.n kn47.lo = some kn47.r := by kernel_rfl
theorem tk48 : dcallF DGx tab 29 kn48.f kn48.args kn48.H kn48.n kn48.lo = some kn48.r := by kernel_rfl
theorem tk49 : dcallF DGx tab 29 kn49.f kn49.args kn49.H kn49.n kn49.lo = some kn49.r := by kernel_rfl
theorem tk50 : dcallF DGx tab 29 kn50.f kn50.args kn50.H kn50.n kn50.lo = some kn50.r := by kernel_rfl
theorem tk51 : dcallF DGx tab 29 kn51.f kn51.args kn51.H kn51.n kn51.lo = some kn51.r := by kernel_rfl
theorem tk52 : dcallF DGx tab 29 kn52.f kn52.args kn52.H kn52.n kn52.lo = some kn52.r := by kernel_rfl
theorem tk53 : dcallF DGx tab 29 kn53.f kn53.args kn53.H kn53.n kn53.lo = some kn53.r := by kernel_rfl
theorem tk54 : dcallF DGx tab 29 kn54.f kn54.args kn54.H kn54.n kn54.lo = some kn54.r := by kernel_rfl
theorem tk55 : dcallF DGx tab 29 kn55.f kn55.args kn55.H kn55.n kn55.lo = some kn55.r := by kernel_rfl
theorem tk56 : dcallF DGx tab 29 kn56.f kn56.args kn56.H kn56.n kn56.lo = some kn56.r := by kernel_rfl
theorem tk57 : dcallF DGx tab 29 kn57.f kn57.args kn57.H kn57.n kn57.lo = some kn57.r := by kernel_rfl
theorem tk58 : dcallF DGx tab 29 kn58.f kn58.args kn58.H kn58.n kn58.lo = some kn58.r := by kernel_rfl
theorem tk59 : dcallF DGx tab 29 kn59.f kn59.args kn59.H kn59.n kn59.lo = some kn59.r := by kernel_rfl
theorem tk60 : dcallF DGx tab 29 kn60.f kn60.args kn60.H kn60.n kn60.lo = some kn60.r := by kernel_rfl
theorem tk61 : dcallF DGx tab 29 kn61.f kn61.args kn61.H kn61.n kn61.lo = some kn61.r := by kernel_rfl
theorem tk62 : dcallF DGx tab 29 kn62.f kn62.args kn62.H kn62.n kn62.lo = some kn62.r := by kernel_rfl
theorem tk63 : dcallF DGx tab 29 kn63.f kn63.args kn63.H kn63.n kn63.lo = some kn63.r := by kernel_rfl
theorem tk64 : dcallF DGx tab 29 kn64.f kn64.args kn64.H kn64.n kn64.lo = some kn64.r := by kernel_rfl
theorem tk65 : dcallF DGx tab 29 kn65.f kn65.args kn65.H kn65.n kn65.lo = some kn65.r := by kernel_rfl
theorem tk66 : dcallF DGx tab 29 kn66.f kn66.args kn66.H kn66.n kn66.lo = some kn66.r := by kernel_rfl
theorem tk67 : dcallF DGx tab 29 kn67.f kn67.args kn67.H kn67.n kn67.lo = some kn67.r := by kernel_rfl
theorem tk68 : dcallF DGx tab 29 kn68.f kn68.args kn68.H kn68.n kn68.lo = some kn68.r := by kernel_rfl
theorem tk69 : dcallF DGx tab 29 kn69.f kn69.args kn69.H kn69.n kn69.lo = some kn69.r := by kernel_rfl
theorem tk70 : dcallF DGx tab 29 kn70.f kn70.args kn70.H kn70.n kn70.lo = some kn70.r := by kernel_rfl
theorem tk71 : dcallF DGx tab 29 kn71.f kn71.args kn71.H kn71.n kn71.lo = some kn71.r := by kernel_rfl
theorem tk72 : dcallF DGx tab 29 kn72.f kn72.args kn72.H kn72.n kn72.lo = some kn72.r := by kernel_rfl
theorem tk73 : dcallF DGx tab 29 kn73.f kn73.args kn73.H kn73.n kn73.lo = some kn73.r := by kernel_rfl
theorem tk74 : dcallF DGx tab 29 kn74.f kn74.args kn74.H kn74.n kn74.lo = some kn74.r := by kernel_rfl
theorem tk75 : dcallF DGx tab 29 kn75.f kn75.args kn75.H kn75.n kn75.lo = some kn75.r := by kernel_rfl
theorem tk76 : dcallF DGx tab 29 kn76.f kn76.args kn76.H kn76.n kn76.lo = some kn76.r := by kernel_rfl
theorem tk77 : dcallF DGx tab 29 kn77.f kn77.args kn77.H kn77.n kn77.lo = some kn77.r := by kernel_rfl
theorem tk78 : dcallF DGx tab 29 kn78.f kn78.args kn78.H kn78.n kn78.lo = some kn78.r := by kernel_rfl
theorem tk79 : dcallF DGx tab 29 kn79.f kn79.args kn79.H kn79.n kn79.lo = some kn79.r := by kernel_rfl
end Go.Proofs.YtlknjgmhfimhbabGreatDoor.D
