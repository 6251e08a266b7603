/-
  D's functions of this seat are the program's: looks that the kernel makes.
-/
import Derived.Test.YtnpcgejfkonfdaaDoorLaw
import Derived.Test.YtnpcgejfkonfdaaDoorFn
import Derived.Test.YtnpcgejfkonfdaaDoorRows
import Derived.Test.YtnpcgejfkonfdaaDoorPOk
set_option maxRecDepth 100000
namespace Go.Proofs.YtnpcgejfkonfdaaDoor.D
open Go Go.PM

theorem ok4 : fnOk Tryd.prog 4 f4 = true := by kernel_rfl
theorem ok8 : fnOk Tryd.prog 8 f8 = true := by kernel_rfl
theorem ok9 : fnOk Tryd.prog 9 f9 = true := by kernel_rfl
theorem ok10 : fnOk Tryd.prog 10 f10 = true := by kernel_rfl
theorem ok12 : fnOk Tryd.prog 12 f12 = true := by kernel_rfl
theorem ok13 : fnOk Tryd.prog 13 f13 = true := by kernel_rfl
theorem ok16 : fnOk Tryd.prog 16 f16 = true := by kernel_rfl
theorem ok17 : fnOk Tryd.prog 17 f17 = true := by kernel_rfl
theorem ok18 : fnOk Tryd.prog 18 f18 = true := by kernel_rfl
theorem ok19 : fnOk Tryd.prog 19 f19 = true := by kernel_rfl
theorem ok23 : fnOk Tryd.prog 23 f23 = true := by kernel_rfl
theorem ok24 : fnOk Tryd.prog 24 f24 = true := by kernel_rfl
theorem ok25 : fnOk Tryd.prog 25 f25 = true := by kernel_rfl
theorem ok26 : fnOk Tryd.prog 26 f26 = true := by kernel_rfl
theorem ok27 : fnOk Tryd.prog 27 f27 = true := by kernel_rfl
theorem ok28 : fnOk Tryd.prog 28 f28 = true := by kernel_rfl
theorem ok29 : fnOk Tryd.prog 29 f29 = true := by kernel_rfl
theorem ok30 : fnOk Tryd.prog 30 f30 = true := by kernel_rfl
theorem ok33 : fnOk Tryd.prog 33 f33 = true := by kernel_rfl
theorem ok35 : fnOk Tryd.prog 35 f35 = true := by kernel_rfl
theorem ok36 : fnOk Tryd.prog 36 f36 = true := by kernel_rfl
theorem ok37 : fnOk Tryd.prog 37 f37 = true := by kernel_rfl
theorem ok38 : fnOk Tryd.prog 38 f38 = true := by kernel_rfl
theorem ok39 : fnOk Tryd.prog 39 f39 = true := by kernel_rfl
theorem ok40 : fnOk Tryd.prog 40 f40 = true := by kernel_rfl
theorem ok41 : fnOk Tryd.prog 41 f41 = true := by kernel_rfl
theorem ok42 : fnOk Tryd.prog 42 f42 = true := by kernel_rfl
theorem ok43 : fnOk Tryd.prog 43 f43 = true := by kernel_rfl
theorem ok44 : fnOk Tryd.prog 44 f44 = true := by kernel_rfl
theorem ok45 : fnOk Tryd.prog 45 f45 = true := by kernel_rfl
theorem ok46 : fnOk Tryd.prog 46 f46 = true := by kernel_rfl
theorem ok47 : fnOk Tryd.prog 47 f47 = true := by kernel_rfl
theorem ok49 : fnOk Tryd.prog 49 f49 = true := by kernel_rfl
theorem ok51 : fnOk Tryd.prog 51 f51 = true := by kernel_rfl
theorem ok52 : fnOk Tryd.prog 52 f52 = true := by kernel_rfl
theorem ok53 : fnOk Tryd.prog 53 f53 = true := by kernel_rfl
theorem ok54 : fnOk Tryd.prog 54 f54 = true := by kernel_rfl
theorem ok55 : fnOk Tryd.prog 55 f55 = true := by kernel_rfl
theorem ok57 : fnOk Tryd.prog 57 f57 = true := by kernel_rfl
theorem ok58 : fnOk Tryd.prog 58 f58 = true := by kernel_rfl
theorem ok59 : fnOk Tryd.prog 59 f59 = true := by kernel_rfl
theorem ok60 : fnOk Tryd.prog 60 f60 = true := by kernel_rfl
theorem ok61 : fnOk Tryd.prog 61 f61 = true := by kernel_rfl
theorem ok62 : fnOk Tryd.prog 62 f62 = true := by kernel_rfl
theorem ok63 : fnOk Tryd.prog 63 f63 = true := by kernel_rfl
theorem ok66 : fnOk Tryd.prog 66 f66 = true := by kernel_rfl
theorem ok67 : fnOk Tryd.prog 67 f67 = true := by kernel_rfl
theorem ok68 : fnOk Tryd.prog 68 f68 = true := by kernel_rfl
theorem ok69 : fnOk Tryd.prog 69 f69 = true := by kernel_rfl
theorem ok70 : fnOk Tryd.prog 70 f70 = true := by kernel_rfl
theorem ok71 : fnOk Tryd.prog 71 f71 = true := by kernel_rfl
theorem ok72 : fnOk Tryd.prog 72 f72 = true := by kernel_rfl
theorem ok73 : fnOk Tryd.prog 73 f73 = true := by kernel_rfl
theorem ok74 : fnOk Tryd.prog 74 f74 = true := by kernel_rfl
theorem ok75 : fnOk Tryd.prog 75 f75 = true := by kernel_rfl
theorem ok76 : fnOk Tryd.prog 76 f76 = true := by kernel_rfl
theorem ok77 : fnOk Tryd.prog 77 f77 = true := by kernel_rfl
theorem ok78 : fnOk Tryd.prog 78 f78 = true := by kernel_rfl
theorem ok79 : fnOk Tryd.prog 79 f79 = true := by kernel_rfl
theorem ok80 : fnOk Tryd.prog 80 f80 = true := by kernel_rfl
theorem ok81 : fnOk Tryd.prog 81 f81 = true := by kernel_rfl
theorem ok82 : fnOk Tryd.prog 82 f82 = true := by kernel_rfl
theorem ok83 : fnOk Tryd.prog 83 f83 = true := by kernel_rfl
theorem ok84 : fnOk Tryd.prog 84 f84 = true := by kernel_rfl
theorem ok85 : fnOk Tryd.prog 85 f85 = true := by kernel_rfl
theorem ok86 : fnOk Tryd.prog 86 f86 = true := by kernel_rfl
theorem ok87 : fnOk Tryd.prog 87 f87 = true := by kernel_rfl
theorem ok88 : fnOk Tryd.prog 88 f88 = true := by kernel_rfl
theorem ok89 : fnOk Tryd.prog 89 f89 = true := by kernel_rfl
theorem ok90 : fnOk Tryd.prog 90 f90 = true := by kernel_rfl
theorem ok92 : fnOk Tryd.prog 92 f92 = true := by kernel_rfl
theorem ok93 : fnOk Tryd.prog 93 f93 = true := by kernel_rfl
theorem ok94 : fnOk Tryd.prog 94 f94 = true := by kernel_rfl
theorem ok95 : fnOk Tryd.prog 95 f95 = true := by kernel_rfl
theorem ok96 : fnOk Tryd.prog 96 f96 = true := by kernel_rfl
theorem ok97 : fnOk Tryd.prog 97 f97 = true := by kernel_rfl
theorem ok98 : fnOk Tryd.prog 98 f98 = true := by kernel_rfl
theorem ok99 : fnOk Tryd.prog 99 f99 = true := by kernel_rfl
theorem ok100 : fnOk Tryd.prog 100 f100 = true := by kernel_rfl
theorem ok101 : fnOk Tryd.prog 101 f101 = true := by kernel_rfl
theorem ok102 : fnOk Tryd.prog 102 f102 = true := by kernel_rfl
theorem ok103 : fnOk Tryd.prog 103 f103 = true := by kernel_rfl
theorem ok104 : fnOk Tryd.prog 104 f104 = true := by kernel_rfl
theorem ok105 : fnOk Tryd.prog 105 f105 = true := by kernel_rfl
theorem ok106 : fnOk Tryd.prog 106 f106 = true := by kernel_rfl
theorem ok107 : fnOk Tryd.prog 107 f107 = true := by kernel_rfl
theorem ok108 : fnOk Tryd.prog 108 f108 = true := by kernel_rfl
theorem ok109 : fnOk Tryd.prog 109 f109 = true := by kernel_rfl

noncomputable def lst : List (Nat × Entry) := [(4, .fn f4), (8, .fn f8), (9, .fn f9), (10, .fn f10), (12, .fn f12), (13, .fn f13), (16, .fn f16), (17, .fn f17), (18, .fn f18), (19, .fn f19), (23, .fn f23), (24, .fn f24), (25, .fn f25), (26, .fn f26), (27, .fn f27), (28, .fn f28), (29, .fn f29), (30, .fn f30), (33, .fn f33), (34, .prim primRef), (35, .fn f35), (36, .fn f36), (37, .fn f37), (38, .fn f38), (39, .fn f39), (40, .fn f40), (41, .fn f41), (42, .fn f42), (43, .fn f43), (44, .fn f44), (45, .fn f45), (46, .fn f46), (47, .fn f47), (49, .fn f49), (50, .prim primTaken), (51, .fn f51), (52, .fn f52), (53, .fn f53), (54, .fn f54), (55, .fn f55), (56, .prim primTake), (57, .fn f57), (58, .fn f58), (59, .fn f59), (60, .fn f60), (61, .fn f61), (62, .fn f62), (63, .fn f63), (64, .prim primNumber), (65, .prim primSum), (66, .fn f66), (67, .fn f67), (68, .fn f68), (69, .fn f69), (70, .fn f70), (71, .fn f71), (72, .fn f72), (73, .fn f73), (74, .fn f74), (75, .fn f75), (76, .fn f76), (77, .fn f77), (78, .fn f78), (79, .fn f79), (80, .fn f80), (81, .fn f81), (82, .fn f82), (83, .fn f83), (84, .fn f84), (85, .fn f85), (86, .fn f86), (87, .fn f87), (88, .fn f88), (89, .fn f89), (90, .fn f90), (91, .prim primCrc), (92, .fn f92), (93, .fn f93), (94, .fn f94), (95, .fn f95), (96, .fn f96), (97, .fn f97), (98, .fn f98), (99, .fn f99), (100, .fn f100), (101, .fn f101), (102, .fn f102), (103, .fn f103), (104, .fn f104), (105, .fn f105), (106, .fn f106), (107, .fn f107), (108, .fn f108), (109, .fn f109)]
theorem tab_eq : tab = PT.ofList lst := by rfl
theorem all_ok (G : Nat → Option (List IV)) : AllOk Tryd.prog G lst := (AllOk.cons ok4 (AllOk.cons ok8 (AllOk.cons ok9 (AllOk.cons ok10 (AllOk.cons ok12 (AllOk.cons ok13 (AllOk.cons ok16 (AllOk.cons ok17 (AllOk.cons ok18 (AllOk.cons ok19 (AllOk.cons ok23 (AllOk.cons ok24 (AllOk.cons ok25 (AllOk.cons ok26 (AllOk.cons ok27 (AllOk.cons ok28 (AllOk.cons ok29 (AllOk.cons ok30 (AllOk.cons ok33 (AllOk.consP (pok34 G) (AllOk.cons ok35 (AllOk.cons ok36 (AllOk.cons ok37 (AllOk.cons ok38 (AllOk.cons ok39 (AllOk.cons ok40 (AllOk.cons ok41 (AllOk.cons ok42 (AllOk.cons ok43 (AllOk.cons ok44 (AllOk.cons ok45 (AllOk.cons ok46 (AllOk.cons ok47 (AllOk.cons ok49 (AllOk.consP (pok50 G) (AllOk.cons ok51 (AllOk.cons ok52 (AllOk.cons ok53 (AllOk.cons ok54 (AllOk.cons ok55 (AllOk.consP (pok56 G) (AllOk.cons ok57 (AllOk.cons ok58 (AllOk.cons ok59 (AllOk.cons ok60 (AllOk.cons ok61 (AllOk.cons ok62 (AllOk.cons ok63 (AllOk.consP (pok64 G) (AllOk.consP (pok65 G) (AllOk.cons ok66 (AllOk.cons ok67 (AllOk.cons ok68 (AllOk.cons ok69 (AllOk.cons ok70 (AllOk.cons ok71 (AllOk.cons ok72 (AllOk.cons ok73 (AllOk.cons ok74 (AllOk.cons ok75 (AllOk.cons ok76 (AllOk.cons ok77 (AllOk.cons ok78 (AllOk.cons ok79 (AllOk.cons ok80 (AllOk.cons ok81 (AllOk.cons ok82 (AllOk.cons ok83 (AllOk.cons ok84 (AllOk.cons ok85 (AllOk.cons ok86 (AllOk.cons ok87 (AllOk.cons ok88 (AllOk.cons ok89 (AllOk.cons ok90 (AllOk.consP (pok91 G) (AllOk.cons ok92 (AllOk.cons ok93 (AllOk.cons ok94 (AllOk.cons ok95 (AllOk.cons ok96 (AllOk.cons ok97 (AllOk.cons ok98 (AllOk.cons ok99 (AllOk.cons ok100 (AllOk.cons ok101 (AllOk.cons ok102 (AllOk.cons ok103 (AllOk.cons ok104 (AllOk.cons ok105 (AllOk.cons ok106 (AllOk.cons ok107 (AllOk.cons ok108 (AllOk.cons ok109 AllOk.nil))))))))))))))))))))))))))))))))))))))))))))))))))))))))))))))))))))))))))))))))))))))))))))))
theorem kok (G : Nat → Option (List IV)) (d : Nat) : KOk Tryd.prog G (K G d) := table_ok (by kernel_rfl) tab_eq (all_ok G) d
end Go.Proofs.YtnpcgejfkonfdaaDoor.D
