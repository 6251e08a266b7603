/-
  D's functions of this seat are the program's: looks that the kernel makes.
-/
import Derived.Test.YtkgjgehffijepaaDoorLaw
import Derived.Test.YtkgjgehffijepaaDoorFn
import Derived.Test.YtkgjgehffijepaaDoorRows
set_option maxRecDepth 100000
namespace Go.Proofs.YtkgjgehffijepaaDoor.D
open Go Go.PM

theorem ok3 : fnOk Tryd.prog 3 f3 = true := by kernel_rfl
theorem ok4 : fnOk Tryd.prog 4 f4 = true := by kernel_rfl
theorem ok10 : fnOk Tryd.prog 10 f10 = true := by kernel_rfl
theorem ok11 : fnOk Tryd.prog 11 f11 = true := by kernel_rfl
theorem ok12 : fnOk Tryd.prog 12 f12 = true := by kernel_rfl
theorem ok13 : fnOk Tryd.prog 13 f13 = true := by kernel_rfl
theorem ok14 : fnOk Tryd.prog 14 f14 = true := by kernel_rfl
theorem ok15 : fnOk Tryd.prog 15 f15 = true := by kernel_rfl
theorem ok16 : fnOk Tryd.prog 16 f16 = true := by kernel_rfl
theorem ok17 : fnOk Tryd.prog 17 f17 = true := by kernel_rfl
theorem ok18 : fnOk Tryd.prog 18 f18 = true := by kernel_rfl
theorem ok19 : fnOk Tryd.prog 19 f19 = true := by kernel_rfl
theorem ok20 : fnOk Tryd.prog 20 f20 = true := by kernel_rfl
theorem ok21 : fnOk Tryd.prog 21 f21 = true := by kernel_rfl
theorem ok22 : fnOk Tryd.prog 22 f22 = true := by kernel_rfl
theorem ok23 : fnOk Tryd.prog 23 f23 = true := by kernel_rfl
theorem ok24 : fnOk Tryd.prog 24 f24 = true := by kernel_rfl
theorem ok25 : fnOk Tryd.prog 25 f25 = true := by kernel_rfl
theorem ok26 : fnOk Tryd.prog 26 f26 = true := by kernel_rfl
theorem ok27 : fnOk Tryd.prog 27 f27 = true := by kernel_rfl
theorem ok29 : fnOk Tryd.prog 29 f29 = true := by kernel_rfl
theorem ok30 : fnOk Tryd.prog 30 f30 = true := by kernel_rfl
theorem ok31 : fnOk Tryd.prog 31 f31 = true := by kernel_rfl
theorem ok32 : fnOk Tryd.prog 32 f32 = true := by kernel_rfl
theorem ok33 : fnOk Tryd.prog 33 f33 = true := by kernel_rfl
theorem ok34 : fnOk Tryd.prog 34 f34 = true := by kernel_rfl
theorem ok35 : fnOk Tryd.prog 35 f35 = true := by kernel_rfl
theorem ok36 : fnOk Tryd.prog 36 f36 = true := by kernel_rfl
theorem ok37 : fnOk Tryd.prog 37 f37 = true := by kernel_rfl
theorem ok38 : fnOk Tryd.prog 38 f38 = true := by kernel_rfl
theorem ok39 : fnOk Tryd.prog 39 f39 = true := by kernel_rfl
theorem ok40 : fnOk Tryd.prog 40 f40 = true := by kernel_rfl
theorem ok41 : fnOk Tryd.prog 41 f41 = true := by kernel_rfl
theorem ok42 : fnOk Tryd.prog 42 f42 = true := by kernel_rfl
theorem ok43 : fnOk Tryd.prog 43 f43 = true := by kernel_rfl
theorem ok44 : fnOk Tryd.prog 44 f44 = true := by kernel_rfl
theorem ok45 : fnOk Tryd.prog 45 f45 = true := by kernel_rfl
theorem ok46 : fnOk Tryd.prog 46 f46 = true := by kernel_rfl
theorem ok47 : fnOk Tryd.prog 47 f47 = true := by kernel_rfl
theorem ok48 : fnOk Tryd.prog 48 f48 = true := by kernel_rfl
theorem ok49 : fnOk Tryd.prog 49 f49 = true := by kernel_rfl
theorem ok50 : fnOk Tryd.prog 50 f50 = true := by kernel_rfl
theorem ok51 : fnOk Tryd.prog 51 f51 = true := by kernel_rfl
theorem ok52 : fnOk Tryd.prog 52 f52 = true := by kernel_rfl
theorem ok53 : fnOk Tryd.prog 53 f53 = true := by kernel_rfl
theorem ok54 : fnOk Tryd.prog 54 f54 = true := by kernel_rfl
theorem ok55 : fnOk Tryd.prog 55 f55 = true := by kernel_rfl
theorem ok56 : fnOk Tryd.prog 56 f56 = true := by kernel_rfl
theorem ok57 : fnOk Tryd.prog 57 f57 = true := by kernel_rfl
theorem ok58 : fnOk Tryd.prog 58 f58 = true := by kernel_rfl
theorem ok59 : fnOk Tryd.prog 59 f59 = true := by kernel_rfl
theorem ok60 : fnOk Tryd.prog 60 f60 = true := by kernel_rfl
theorem ok61 : fnOk Tryd.prog 61 f61 = true := by kernel_rfl
theorem ok62 : fnOk Tryd.prog 62 f62 = true := by kernel_rfl
theorem ok63 : fnOk Tryd.prog 63 f63 = true := by kernel_rfl
theorem ok64 : fnOk Tryd.prog 64 f64 = true := by kernel_rfl
theorem ok65 : fnOk Tryd.prog 65 f65 = true := by kernel_rfl
theorem ok66 : fnOk Tryd.prog 66 f66 = true := by kernel_rfl
theorem ok67 : fnOk Tryd.prog 67 f67 = true := by kernel_rfl
theorem ok68 : fnOk Tryd.prog 68 f68 = true := by kernel_rfl
theorem ok69 : fnOk Tryd.prog 69 f69 = true := by kernel_rfl
theorem ok70 : fnOk Tryd.prog 70 f70 = true := by kernel_rfl
theorem ok71 : fnOk Tryd.prog 71 f71 = true := by kernel_rfl
theorem ok72 : fnOk Tryd.prog 72 f72 = true := by kernel_rfl
theorem ok73 : fnOk Tryd.prog 73 f73 = true := by kernel_rfl
theorem ok74 : fnOk Tryd.prog 74 f74 = true := by kernel_rfl
theorem ok75 : fnOk Tryd.prog 75 f75 = true := by kernel_rfl
theorem ok76 : fnOk Tryd.prog 76 f76 = true := by kernel_rfl
theorem ok77 : fnOk Tryd.prog 77 f77 = true := by kernel_rfl
theorem ok78 : fnOk Tryd.prog 78 f78 = true := by kernel_rfl
theorem ok79 : fnOk Tryd.prog 79 f79 = true := by kernel_rfl
theorem ok80 : fnOk Tryd.prog 80 f80 = true := by kernel_rfl
theorem ok81 : fnOk Tryd.prog 81 f81 = true := by kernel_rfl
theorem ok82 : fnOk Tryd.prog 82 f82 = true := by kernel_rfl
theorem ok83 : fnOk Tryd.prog 83 f83 = true := by kernel_rfl
theorem ok84 : fnOk Tryd.prog 84 f84 = true := by kernel_rfl
theorem ok85 : fnOk Tryd.prog 85 f85 = true := by kernel_rfl
theorem ok86 : fnOk Tryd.prog 86 f86 = true := by kernel_rfl
theorem ok87 : fnOk Tryd.prog 87 f87 = true := by kernel_rfl
theorem ok88 : fnOk Tryd.prog 88 f88 = true := by kernel_rfl
theorem ok89 : fnOk Tryd.prog 89 f89 = true := by kernel_rfl
theorem ok90 : fnOk Tryd.prog 90 f90 = true := by kernel_rfl
theorem ok91 : fnOk Tryd.prog 91 f91 = true := by kernel_rfl
theorem ok92 : fnOk Tryd.prog 92 f92 = true := by kernel_rfl
theorem ok93 : fnOk Tryd.prog 93 f93 = true := by kernel_rfl
theorem ok94 : fnOk Tryd.prog 94 f94 = true := by kernel_rfl
theorem ok95 : fnOk Tryd.prog 95 f95 = true := by kernel_rfl
theorem ok96 : fnOk Tryd.prog 96 f96 = true := by kernel_rfl
theorem ok97 : fnOk Tryd.prog 97 f97 = true := by kernel_rfl
theorem ok98 : fnOk Tryd.prog 98 f98 = true := by kernel_rfl
theorem ok99 : fnOk Tryd.prog 99 f99 = true := by kernel_rfl
theorem ok100 : fnOk Tryd.prog 100 f100 = true := by kernel_rfl

def lst : List (Nat × Entry) := [(3, .fn f3), (4, .fn f4), (10, .fn f10), (11, .fn f11), (12, .fn f12), (13, .fn f13), (14, .fn f14), (15, .fn f15), (16, .fn f16), (17, .fn f17), (18, .fn f18), (19, .fn f19), (20, .fn f20), (21, .fn f21), (22, .fn f22), (23, .fn f23), (24, .fn f24), (25, .fn f25), (26, .fn f26), (27, .fn f27), (29, .fn f29), (30, .fn f30), (31, .fn f31), (32, .fn f32), (33, .fn f33), (34, .fn f34), (35, .fn f35), (36, .fn f36), (37, .fn f37), (38, .fn f38), (39, .fn f39), (40, .fn f40), (41, .fn f41), (42, .fn f42), (43, .fn f43), (44, .fn f44), (45, .fn f45), (46, .fn f46), (47, .fn f47), (48, .fn f48), (49, .fn f49), (50, .fn f50), (51, .fn f51), (52, .fn f52), (53, .fn f53), (54, .fn f54), (55, .fn f55), (56, .fn f56), (57, .fn f57), (58, .fn f58), (59, .fn f59), (60, .fn f60), (61, .fn f61), (62, .fn f62), (63, .fn f63), (64, .fn f64), (65, .fn f65), (66, .fn f66), (67, .fn f67), (68, .fn f68), (69, .fn f69), (70, .fn f70), (71, .fn f71), (72, .fn f72), (73, .fn f73), (74, .fn f74), (75, .fn f75), (76, .fn f76), (77, .fn f77), (78, .fn f78), (79, .fn f79), (80, .fn f80), (81, .fn f81), (82, .fn f82), (83, .fn f83), (84, .fn f84), (85, .fn f85), (86, .fn f86), (87, .fn f87), (88, .fn f88), (89, .fn f89), (90, .fn f90), (91, .fn f91), (92, .fn f92), (93, .fn f93), (94, .fn f94), (95, .fn f95), (96, .fn f96), (97, .fn f97), (98, .fn f98), (99, .fn f99), (100, .fn f100)]
theorem tab_eq : tab = PT.ofList lst := by rfl
theorem all_ok (G : Nat → Option (List IV)) : AllOk Tryd.prog G lst := (AllOk.cons ok3 (AllOk.cons ok4 (AllOk.cons ok10 (AllOk.cons ok11 (AllOk.cons ok12 (AllOk.cons ok13 (AllOk.cons ok14 (AllOk.cons ok15 (AllOk.cons ok16 (AllOk.cons ok17 (AllOk.cons ok18 (AllOk.cons ok19 (AllOk.cons ok20 (AllOk.cons ok21 (AllOk.cons ok22 (AllOk.cons ok23 (AllOk.cons ok24 (AllOk.cons ok25 (AllOk.cons ok26 (AllOk.cons ok27 (AllOk.cons ok29 (AllOk.cons ok30 (AllOk.cons ok31 (AllOk.cons ok32 (AllOk.cons ok33 (AllOk.cons ok34 (AllOk.cons ok35 (AllOk.cons ok36 (AllOk.cons ok37 (AllOk.cons ok38 (AllOk.cons ok39 (AllOk.cons ok40 (AllOk.cons ok41 (AllOk.cons ok42 (AllOk.cons ok43 (AllOk.cons ok44 (AllOk.cons ok45 (AllOk.cons ok46 (AllOk.cons ok47 (AllOk.cons ok48 (AllOk.cons ok49 (AllOk.cons ok50 (AllOk.cons ok51 (AllOk.cons ok52 (AllOk.cons ok53 (AllOk.cons ok54 (AllOk.cons ok55 (AllOk.cons ok56 (AllOk.cons ok57 (AllOk.cons ok58 (AllOk.cons ok59 (AllOk.cons ok60 (AllOk.cons ok61 (AllOk.cons ok62 (AllOk.cons ok63 (AllOk.cons ok64 (AllOk.cons ok65 (AllOk.cons ok66 (AllOk.cons ok67 (AllOk.cons ok68 (AllOk.cons ok69 (AllOk.cons ok70 (AllOk.cons ok71 (AllOk.cons ok72 (AllOk.cons ok73 (AllOk.cons ok74 (AllOk.cons ok75 (AllOk.cons ok76 (AllOk.cons ok77 (AllOk.cons ok78 (AllOk.cons ok79 (AllOk.cons ok80 (AllOk.cons ok81 (AllOk.cons ok82 (AllOk.cons ok83 (AllOk.cons ok84 (AllOk.cons ok85 (AllOk.cons ok86 (AllOk.cons ok87 (AllOk.cons ok88 (AllOk.cons ok89 (AllOk.cons ok90 (AllOk.cons ok91 (AllOk.cons ok92 (AllOk.cons ok93 (AllOk.cons ok94 (AllOk.cons ok95 (AllOk.cons ok96 (AllOk.cons ok97 (AllOk.cons ok98 (AllOk.cons ok99 (AllOk.cons ok100 AllOk.nil))))))))))))))))))))))))))))))))))))))))))))))))))))))))))))))))))))))))))))))))))))))))))))
theorem kok (G : Nat → Option (List IV)) (d : Nat) : KOk Tryd.prog G (K G d) := table_ok (by kernel_rfl) tab_eq (all_ok G) d
end Go.Proofs.YtkgjgehffijepaaDoor.D
