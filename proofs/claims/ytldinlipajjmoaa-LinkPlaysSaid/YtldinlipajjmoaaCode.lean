/-
  D's functions of this seat are the program's: looks that the kernel makes.
-/
import Derived.Test.YtldinlipajjmoaaLaw
import Derived.Test.YtldinlipajjmoaaFn
import Derived.Test.YtldinlipajjmoaaRows
set_option maxRecDepth 100000
namespace Go.Proofs.Ytldinlipajjmoaa.D
open Go Go.PM

theorem ok3 : fnOk Try.prog 3 f3 = true := by kernel_rfl
theorem ok4 : fnOk Try.prog 4 f4 = true := by kernel_rfl
theorem ok5 : fnOk Try.prog 5 f5 = true := by kernel_rfl
theorem ok6 : fnOk Try.prog 6 f6 = true := by kernel_rfl
theorem ok7 : fnOk Try.prog 7 f7 = true := by kernel_rfl
theorem ok8 : fnOk Try.prog 8 f8 = true := by kernel_rfl
theorem ok9 : fnOk Try.prog 9 f9 = true := by kernel_rfl
theorem ok10 : fnOk Try.prog 10 f10 = true := by kernel_rfl
theorem ok11 : fnOk Try.prog 11 f11 = true := by kernel_rfl
theorem ok12 : fnOk Try.prog 12 f12 = true := by kernel_rfl
theorem ok13 : fnOk Try.prog 13 f13 = true := by kernel_rfl
theorem ok14 : fnOk Try.prog 14 f14 = true := by kernel_rfl
theorem ok15 : fnOk Try.prog 15 f15 = true := by kernel_rfl
theorem ok16 : fnOk Try.prog 16 f16 = true := by kernel_rfl
theorem ok17 : fnOk Try.prog 17 f17 = true := by kernel_rfl
theorem ok18 : fnOk Try.prog 18 f18 = true := by kernel_rfl
theorem ok19 : fnOk Try.prog 19 f19 = true := by kernel_rfl

def lst : List (Nat × Entry) := [(3, .fn f3), (4, .fn f4), (5, .fn f5), (6, .fn f6), (7, .fn f7), (8, .fn f8), (9, .fn f9), (10, .fn f10), (11, .fn f11), (12, .fn f12), (13, .fn f13), (14, .fn f14), (15, .fn f15), (16, .fn f16), (17, .fn f17), (18, .fn f18), (19, .fn f19)]
theorem tab_eq : tab = PT.ofList lst := by rfl
theorem all_ok (G : Nat → Option (List IV)) : AllOk Try.prog G lst := (AllOk.cons ok3 (AllOk.cons ok4 (AllOk.cons ok5 (AllOk.cons ok6 (AllOk.cons ok7 (AllOk.cons ok8 (AllOk.cons ok9 (AllOk.cons ok10 (AllOk.cons ok11 (AllOk.cons ok12 (AllOk.cons ok13 (AllOk.cons ok14 (AllOk.cons ok15 (AllOk.cons ok16 (AllOk.cons ok17 (AllOk.cons ok18 (AllOk.cons ok19 AllOk.nil)))))))))))))))))
theorem kok (G : Nat → Option (List IV)) (d : Nat) : KOk Try.prog G (K G d) := table_ok (by kernel_rfl) tab_eq (all_ok G) d
end Go.Proofs.Ytldinlipajjmoaa.D
