/-
  D's functions of this seat are the program's: looks that the kernel makes.
-/
import Derived.Test.YtbhmihigfncfgaaDoorLaw
import Derived.Test.YtbhmihigfncfgaaDoorFn
import Derived.Test.YtbhmihigfncfgaaDoorRows
set_option maxRecDepth 100000
namespace Go.Proofs.YtbhmihigfncfgaaDoor.D
open Go Go.PM

theorem ok3 : fnOk Tryd.prog 3 f3 = true := by kernel_rfl
theorem ok9 : fnOk Tryd.prog 9 f9 = true := by kernel_rfl
theorem ok12 : fnOk Tryd.prog 12 f12 = true := by kernel_rfl
theorem ok13 : fnOk Tryd.prog 13 f13 = true := by kernel_rfl
theorem ok14 : fnOk Tryd.prog 14 f14 = true := by kernel_rfl
theorem ok15 : fnOk Tryd.prog 15 f15 = true := by kernel_rfl
theorem ok16 : fnOk Tryd.prog 16 f16 = true := by kernel_rfl
theorem ok17 : fnOk Tryd.prog 17 f17 = true := by kernel_rfl
theorem ok18 : fnOk Tryd.prog 18 f18 = true := by kernel_rfl
theorem ok19 : fnOk Tryd.prog 19 f19 = true := by kernel_rfl
theorem ok26 : fnOk Tryd.prog 26 f26 = true := by kernel_rfl
theorem ok27 : fnOk Tryd.prog 27 f27 = true := by kernel_rfl
theorem ok28 : fnOk Tryd.prog 28 f28 = true := by kernel_rfl
theorem ok29 : fnOk Tryd.prog 29 f29 = true := by kernel_rfl
theorem ok30 : fnOk Tryd.prog 30 f30 = true := by kernel_rfl
theorem ok31 : fnOk Tryd.prog 31 f31 = true := by kernel_rfl
theorem ok32 : fnOk Tryd.prog 32 f32 = true := by kernel_rfl
theorem ok33 : fnOk Tryd.prog 33 f33 = true := by kernel_rfl
theorem ok34 : fnOk Tryd.prog 34 f34 = true := by kernel_rfl
theorem ok35 : fnOk Tryd.prog 35 f35 = true := by kernel_rfl
theorem ok36 : fnOk Tryd.prog 36 f36 = true := by kernel_rfl
theorem ok37 : fnOk Tryd.prog 37 f37 = true := by kernel_rfl
theorem ok40 : fnOk Tryd.prog 40 f40 = true := by kernel_rfl
theorem ok41 : fnOk Tryd.prog 41 f41 = true := by kernel_rfl
theorem ok42 : fnOk Tryd.prog 42 f42 = true := by kernel_rfl
theorem ok43 : fnOk Tryd.prog 43 f43 = true := by kernel_rfl
theorem ok44 : fnOk Tryd.prog 44 f44 = true := by kernel_rfl
theorem ok45 : fnOk Tryd.prog 45 f45 = true := by kernel_rfl
theorem ok46 : fnOk Tryd.prog 46 f46 = true := by kernel_rfl
theorem ok47 : fnOk Tryd.prog 47 f47 = true := by kernel_rfl
theorem ok48 : fnOk Tryd.prog 48 f48 = true := by kernel_rfl
theorem ok49 : fnOk Tryd.prog 49 f49 = true := by kernel_rfl
theorem ok50 : fnOk Tryd.prog 50 f50 = true := by kernel_rfl
theorem ok51 : fnOk Tryd.prog 51 f51 = true := by kernel_rfl
theorem ok52 : fnOk Tryd.prog 52 f52 = true := by kernel_rfl
theorem ok53 : fnOk Tryd.prog 53 f53 = true := by kernel_rfl
theorem ok54 : fnOk Tryd.prog 54 f54 = true := by kernel_rfl
theorem ok55 : fnOk Tryd.prog 55 f55 = true := by kernel_rfl
theorem ok56 : fnOk Tryd.prog 56 f56 = true := by kernel_rfl
theorem ok57 : fnOk Tryd.prog 57 f57 = true := by kernel_rfl
theorem ok58 : fnOk Tryd.prog 58 f58 = true := by kernel_rfl

def lst : List (Nat × Entry) := [(3, .fn f3), (9, .fn f9), (12, .fn f12), (13, .fn f13), (14, .fn f14), (15, .fn f15), (16, .fn f16), (17, .fn f17), (18, .fn f18), (19, .fn f19), (26, .fn f26), (27, .fn f27), (28, .fn f28), (29, .fn f29), (30, .fn f30), (31, .fn f31), (32, .fn f32), (33, .fn f33), (34, .fn f34), (35, .fn f35), (36, .fn f36), (37, .fn f37), (40, .fn f40), (41, .fn f41), (42, .fn f42), (43, .fn f43), (44, .fn f44), (45, .fn f45), (46, .fn f46), (47, .fn f47), (48, .fn f48), (49, .fn f49), (50, .fn f50), (51, .fn f51), (52, .fn f52), (53, .fn f53), (54, .fn f54), (55, .fn f55), (56, .fn f56), (57, .fn f57), (58, .fn f58)]
theorem tab_eq : tab = PT.ofList lst := by rfl
theorem all_ok (G : Nat → Option (List IV)) : AllOk Tryd.prog G lst := (AllOk.cons ok3 (AllOk.cons ok9 (AllOk.cons ok12 (AllOk.cons ok13 (AllOk.cons ok14 (AllOk.cons ok15 (AllOk.cons ok16 (AllOk.cons ok17 (AllOk.cons ok18 (AllOk.cons ok19 (AllOk.cons ok26 (AllOk.cons ok27 (AllOk.cons ok28 (AllOk.cons ok29 (AllOk.cons ok30 (AllOk.cons ok31 (AllOk.cons ok32 (AllOk.cons ok33 (AllOk.cons ok34 (AllOk.cons ok35 (AllOk.cons ok36 (AllOk.cons ok37 (AllOk.cons ok40 (AllOk.cons ok41 (AllOk.cons ok42 (AllOk.cons ok43 (AllOk.cons ok44 (AllOk.cons ok45 (AllOk.cons ok46 (AllOk.cons ok47 (AllOk.cons ok48 (AllOk.cons ok49 (AllOk.cons ok50 (AllOk.cons ok51 (AllOk.cons ok52 (AllOk.cons ok53 (AllOk.cons ok54 (AllOk.cons ok55 (AllOk.cons ok56 (AllOk.cons ok57 (AllOk.cons ok58 AllOk.nil)))))))))))))))))))))))))))))))))))))))))
theorem kok (G : Nat → Option (List IV)) (d : Nat) : KOk Tryd.prog G (K G d) := table_ok (by kernel_rfl) tab_eq (all_ok G) d
end Go.Proofs.YtbhmihigfncfgaaDoor.D
