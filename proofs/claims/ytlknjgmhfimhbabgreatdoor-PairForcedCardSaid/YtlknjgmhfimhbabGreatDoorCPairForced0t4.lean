/-
  PairForced: the calls that it makes.
-/
import Derived.Test.YtlknjgmhfimhbabGreatDoorCPairForced0
set_option linter.unusedVariables false
set_option maxRecDepth 100000
set_option maxHeartbeats 4000000
namespace Go.Proofs.YtlknjgmhfimhbabGreatDoor.D
open Go Go.PM
theorem tk160 : dcallF DGx tab 29 kn160.f kn160.args kn160.H kn160.n kn160.lo = some kn160.r := by kernel_rfl
theorem tk161 : dcallF DGx tab 29 kn161.f kn161.args kn161.H kn161.n kn161.lo = some kn161.r := by kernel_rfl
theorem tk162 : dcallF DGx tab 29 kn162.f kn162.args kn162.H kn162.n kn162.lo = some kn162.r := by kernel_rfl
theorem tk163 : dcallF DGx tab 29 kn163.f kn163.args kn163.H kn163.n kn163.lo = some kn163.r := by kernel_rfl
theorem tk164 : dcallF DGx tab 29 kn164.f kn164.args kn164.H kn164.n kn164.lo = some kn164.r := by kernel_rfl
theorem tk165 : dcallF DGx tab 29 kn165.f kn165.args kn165.H kn165.n kn165.lo = some kn165.r := by kernel_rfl
theorem tk166 : dcallF DGx tab 29 kn166.f kn166.args kn166.H kn166.n kn166.lo = some kn166.r := by kernel_rfl
theorem tk167 : dcallF DGx tab 29 kn167.f kn167.args kn167.H kn167.n kn167.lo = some kn167.r := by kernel_rfl
theorem tk168 : dcallF DGx tab 29 kn168.f kn168.args kn168.H kn168.n kn168.lo = some kn168.r := by kernel_rfl
theorem tk169 : dcallF DGx tab 29 kn169.f kn169.args kn169.H kn169.n kn169.lo = some kn169.r := by kernel_rfl
theorem tk170 : dcallF DGx tab 29 kn170.f kn170.args kn170.H kn170.n kn170.lo = some kn170.r := by kernel_rfl
theorem tk171 : dcallF DGx tab 29 kn171.f kn171.args kn171.H kn171.n kn171.lo = some kn171.r := by kernel_rfl
theorem tk172 : dcallF DGx tab 29 kn172.f kn172.args kn172.H kn172.n kn172.lo = some kn172.r := by kernel_rfl
theorem tk173 : dcallF DGx tab 29 kn173.f kn173.args kn173.H kn173.n kn173.lo = some kn173.r := by kernel_rfl
theorem tk174 : dcallF DGx tab 29 kn174.f kn174.args kn174.H kn174.n kn174.lo = some kn174.r := by kernel_rfl
theorem tk175 : dcallF DGx tab 29 kn175.f kn175.args kn175.H kn175.n kn175.lo = some kn175.r := by kernel_rfl
theorem tk176 : dcallF DGx tab 29 kn176.f kn176.args kn176.H kn176.n kn176.lo = some kn176.r := by kernel_rfl
theorem tk177 : dcallF DGx tab 29 kn177.f kn177.args kn177.H kn177.n kn177.lo = some kn177.r := by kernel_rfl
theorem tk178 : dcallF DGx tab 29 kn178.f kn178.args kn178.H kn178.n kn178.lo = some kn178.r := by kernel_rfl
theorem tk179 : dcallF DGx tab 29 kn179.f kn179.args kn179.H kn179.n kn179.lo = some kn179.r := by kernel_rfl
theorem tk180 : dcallF DGx tab 29 kn180.f kn180.args kn180.H kn180.n kn180.lo = some kn180.r := by kernel_rfl
theorem tk181 : dcallF DGx tab 29 kn181.f kn181.args kn181.H kn181.n kn181.lo = some kn181.r := by kernel_rfl
theorem tk182 : dcallF DGx tab 29 kn182.f kn182.args kn182.H kn182.n kn182.lo = some kn182.r := by kernel_rfl
theorem tk183 : dcallF DGx tab 29 kn183.f kn183.args kn183.H kn183.n kn183.lo = some kn183.r := by kernel_rfl
theorem tk184 : dcallF DGx tab 29 kn184.f kn184.args kn184.H kn184.n kn184.lo = some kn184.r := by kernel_rfl
theorem tk185 : dcallF DGx tab 29 kn185.f kn185.args kn185.H kn185.n kn185.lo = some kn185.r := by kernel_rfl
theorem tk186 : dcallF DGx tab 29 kn186.f kn186.args kn186.H kn186.n kn186.lo = some kn186.r := by kernel_rfl
theorem tk187 : dcallF DGx tab 29 kn187.f kn187.args kn187.H kn187.n kn187.lo = some kn187.r := by kernel_rfl
theorem tk188 : dcallF DGx tab 29 kn188.f kn188.args kn188.H kn188.n kn188.lo = some kn188.r := by kernel_rfl
theorem tk189 : dcallF DGx tab 29 kn189.f kn189.args kn189.H kn189.n kn189.lo = some kn189.r := by kernel_rfl
theorem tk190 : dcallF DGx tab 29 kn190.f kn190.args kn190.H kn190.n kn190.lo = some kn190.r := by kernel_rfl
theorem tk191 : dcallF DGx tab 29 kn191.f kn191.args kn191.H kn191.n kn191.lo = some kn191.r := by kernel_rfl
theorem tk192 : dcallF DGx tab 29 kn192.f kn192.args kn192.H kn192.n kn192.lo = some kn192.r := by kernel_rfl
theorem tk193 : dcallF DGx tab 29 kn193.f kn193.args kn193.H kn193.n kn193.lo = some kn193.r := by kernel_rfl
theorem tk194 : dcallF DGx tab 29 kn194.f kn194.args kn194.H kn194.n kn194.lo = some kn194.r := by kernel_rfl
theorem tk195 : dcallF DGx tab 29 kn195.f kn195.args kn195.H kn195.n kn195.lo = some kn195.r := by kernel_rfl
theorem tk196 : dcallF DGx tab 29 kn196.f kn196.args kn196.H kn196.n kn196.lo = some kn196.r := by kernel_rfl
end Go.Proofs.YtlknjgmhfimhbabGreatDoor.D
