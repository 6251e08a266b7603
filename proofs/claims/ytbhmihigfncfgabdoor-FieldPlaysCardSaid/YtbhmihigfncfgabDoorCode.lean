/-
  D's functions of this seat are the program's: looks that the kernel makes.
-/
import Derived.Test.YtbhmihigfncfgabDoorLaw
import Derived.Test.YtbhmihigfncfgabDoorFn
import Derived.Test.YtbhmihigfncfgabDoorRows
set_option maxRecDepth 100000
namespace Go.Proofs.YtbhmihigfncfgabDoor.D
open Go Go.PM

theorem ok9 : fnOk Tryd.prog 9 f9 = true := by kernel_rfl
theorem ok11 : fnOk Tryd.prog 11 f11 = true := by kernel_rfl
theorem ok12 : fnOk Tryd.prog 12 f12 = true := by kernel_rfl
theorem ok13 : fnOk Tryd.prog 13 f13 = true := by kernel_rfl
theorem ok14 : fnOk Tryd.prog 14 f14 = true := by kernel_rfl
theorem ok15 : fnOk Tryd.prog 15 f15 = true := by kernel_rfl
theorem ok17 : fnOk Tryd.prog 17 f17 = true := by kernel_rfl
theorem ok27 : fnOk Tryd.prog 27 f27 = true := by kernel_rfl
theorem ok28 : fnOk Tryd.prog 28 f28 = true := by kernel_rfl
theorem ok29 : fnOk Tryd.prog 29 f29 = true := by kernel_rfl
theorem ok30 : fnOk Tryd.prog 30 f30 = true := by kernel_rfl
theorem ok31 : fnOk Tryd.prog 31 f31 = true := by kernel_rfl
theorem ok32 : fnOk Tryd.prog 32 f32 = true := by kernel_rfl
theorem ok33 : fnOk Tryd.prog 33 f33 = true := by kernel_rfl
theorem ok34 : fnOk Tryd.prog 34 f34 = true := by kernel_rfl
theorem ok35 : fnOk Tryd.prog 35 f35 = true := by kernel_rfl
theorem ok36 : fnOk Tryd.prog 36 f36 = true := by kernel_rfl
theorem ok37 : fnOk Tryd.prog 37 f37 = true := by kernel_rfl
theorem ok38 : fnOk Tryd.prog 38 f38 = true := by kernel_rfl
theorem ok39 : fnOk Tryd.prog 39 f39 = true := by kernel_rfl
theorem ok40 : fnOk Tryd.prog 40 f40 = true := by kernel_rfl
theorem ok44 : fnOk Tryd.prog 44 f44 = true := by kernel_rfl
theorem ok48 : fnOk Tryd.prog 48 f48 = true := by kernel_rfl
theorem ok50 : fnOk Tryd.prog 50 f50 = true := by kernel_rfl
theorem ok51 : fnOk Tryd.prog 51 f51 = true := by kernel_rfl
theorem ok52 : fnOk Tryd.prog 52 f52 = true := by kernel_rfl
theorem ok53 : fnOk Tryd.prog 53 f53 = true := by kernel_rfl
theorem ok54 : fnOk Tryd.prog 54 f54 = true := by kernel_rfl
theorem ok57 : fnOk Tryd.prog 57 f57 = true := by kernel_rfl
theorem ok60 : fnOk Tryd.prog 60 f60 = true := by kernel_rfl
theorem ok61 : fnOk Tryd.prog 61 f61 = true := by kernel_rfl
theorem ok62 : fnOk Tryd.prog 62 f62 = true := by kernel_rfl
theorem ok63 : fnOk Tryd.prog 63 f63 = true := by kernel_rfl
theorem ok64 : fnOk Tryd.prog 64 f64 = true := by kernel_rfl
theorem ok65 : fnOk Tryd.prog 65 f65 = true := by kernel_rfl
theorem ok66 : fnOk Tryd.prog 66 f66 = true := by kernel_rfl
theorem ok67 : fnOk Tryd.prog 67 f67 = true := by kernel_rfl
theorem ok68 : fnOk Tryd.prog 68 f68 = true := by kernel_rfl
theorem ok69 : fnOk Tryd.prog 69 f69 = true := by kernel_rfl
theorem ok70 : fnOk Tryd.prog 70 f70 = true := by kernel_rfl
theorem ok71 : fnOk Tryd.prog 71 f71 = true := by kernel_rfl

def lst : List (Nat × Entry) := [(9, .fn f9), (11, .fn f11), (12, .fn f12), (13, .fn f13), (14, .fn f14), (15, .fn f15), (17, .fn f17), (27, .fn f27), (28, .fn f28), (29, .fn f29), (30, .fn f30), (31, .fn f31), (32, .fn f32), (33, .fn f33), (34, .fn f34), (35, .fn f35), (36, .fn f36), (37, .fn f37), (38, .fn f38), (39, .fn f39), (40, .fn f40), (44, .fn f44), (48, .fn f48), (50, .fn f50), (51, .fn f51), (52, .fn f52), (53, .fn f53), (54, .fn f54), (57, .fn f57), (60, .fn f60), (61, .fn f61), (62, .fn f62), (63, .fn f63), (64, .fn f64), (65, .fn f65), (66, .fn f66), (67, .fn f67), (68, .fn f68), (69, .fn f69), (70, .fn f70), (71, .fn f71)]
theorem tab_eq : tab = PT.ofList lst := by rfl
theorem all_ok (G : Nat → Option (List IV)) : AllOk Tryd.prog G lst := (AllOk.cons ok9 (AllOk.cons ok11 (AllOk.cons ok12 (AllOk.cons ok13 (AllOk.cons ok14 (AllOk.cons ok15 (AllOk.cons ok17 (AllOk.cons ok27 (AllOk.cons ok28 (AllOk.cons ok29 (AllOk.cons ok30 (AllOk.cons ok31 (AllOk.cons ok32 (AllOk.cons ok33 (AllOk.cons ok34 (AllOk.cons ok35 (AllOk.cons ok36 (AllOk.cons ok37 (AllOk.cons ok38 (AllOk.cons ok39 (AllOk.cons ok40 (AllOk.cons ok44 (AllOk.cons ok48 (AllOk.cons ok50 (AllOk.cons ok51 (AllOk.cons ok52 (AllOk.cons ok53 (AllOk.cons ok54 (AllOk.cons ok57 (AllOk.cons ok60 (AllOk.cons ok61 (AllOk.cons ok62 (AllOk.cons ok63 (AllOk.cons ok64 (AllOk.cons ok65 (AllOk.cons ok66 (AllOk.cons ok67 (AllOk.cons ok68 (AllOk.cons ok69 (AllOk.cons ok70 (AllOk.cons ok71 AllOk.nil)))))))))))))))))))))))))))))))))))))))))
theorem kok (G : Nat → Option (List IV)) (d : Nat) : KOk Tryd.prog G (K G d) := table_ok (by kernel_rfl) tab_eq (all_ok G) d
end Go.Proofs.YtbhmihigfncfgabDoor.D
