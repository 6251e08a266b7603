/-
  D's functions of this seat are the program's: looks that the kernel makes.
-/
import Derived.Test.YtnpcgejfkonfdaaGreatDoorLaw
import Derived.Test.YtnpcgejfkonfdaaGreatDoorFn
import Derived.Test.YtnpcgejfkonfdaaGreatDoorRows
import Derived.Test.YtnpcgejfkonfdaaGreatDoorPOk
set_option maxRecDepth 100000
namespace Go.Proofs.YtnpcgejfkonfdaaGreatDoor.D
open Go Go.PM

theorem ok4 : fnOk Tryz.prog 4 f4 = true := by kernel_rfl
theorem ok6 : fnOk Tryz.prog 6 f6 = true := by kernel_rfl
theorem ok9 : fnOk Tryz.prog 9 f9 = true := by kernel_rfl
theorem ok12 : fnOk Tryz.prog 12 f12 = true := by kernel_rfl
theorem ok13 : fnOk Tryz.prog 13 f13 = true := by kernel_rfl
theorem ok14 : fnOk Tryz.prog 14 f14 = true := by kernel_rfl
theorem ok15 : fnOk Tryz.prog 15 f15 = true := by kernel_rfl
theorem ok16 : fnOk Tryz.prog 16 f16 = true := by kernel_rfl
theorem ok17 : fnOk Tryz.prog 17 f17 = true := by kernel_rfl
theorem ok18 : fnOk Tryz.prog 18 f18 = true := by kernel_rfl
theorem ok19 : fnOk Tryz.prog 19 f19 = true := by kernel_rfl
theorem ok20 : fnOk Tryz.prog 20 f20 = true := by kernel_rfl
theorem ok21 : fnOk Tryz.prog 21 f21 = true := by kernel_rfl
theorem ok22 : fnOk Tryz.prog 22 f22 = true := by kernel_rfl
theorem ok23 : fnOk Tryz.prog 23 f23 = true := by kernel_rfl
theorem ok24 : fnOk Tryz.prog 24 f24 = true := by kernel_rfl
theorem ok25 : fnOk Tryz.prog 25 f25 = true := by kernel_rfl
theorem ok26 : fnOk Tryz.prog 26 f26 = true := by kernel_rfl
theorem ok27 : fnOk Tryz.prog 27 f27 = true := by kernel_rfl
theorem ok28 : fnOk Tryz.prog 28 f28 = true := by kernel_rfl
theorem ok29 : fnOk Tryz.prog 29 f29 = true := by kernel_rfl
theorem ok30 : fnOk Tryz.prog 30 f30 = true := by kernel_rfl
theorem ok32 : fnOk Tryz.prog 32 f32 = true := by kernel_rfl
theorem ok33 : fnOk Tryz.prog 33 f33 = true := by kernel_rfl
theorem ok34 : fnOk Tryz.prog 34 f34 = true := by kernel_rfl
theorem ok35 : fnOk Tryz.prog 35 f35 = true := by kernel_rfl
theorem ok36 : fnOk Tryz.prog 36 f36 = true := by kernel_rfl
theorem ok37 : fnOk Tryz.prog 37 f37 = true := by kernel_rfl
theorem ok38 : fnOk Tryz.prog 38 f38 = true := by kernel_rfl
theorem ok39 : fnOk Tryz.prog 39 f39 = true := by kernel_rfl
theorem ok40 : fnOk Tryz.prog 40 f40 = true := by kernel_rfl
theorem ok41 : fnOk Tryz.prog 41 f41 = true := by kernel_rfl
theorem ok42 : fnOk Tryz.prog 42 f42 = true := by kernel_rfl
theorem ok43 : fnOk Tryz.prog 43 f43 = true := by kernel_rfl
theorem ok44 : fnOk Tryz.prog 44 f44 = true := by kernel_rfl
theorem ok45 : fnOk Tryz.prog 45 f45 = true := by kernel_rfl
theorem ok47 : fnOk Tryz.prog 47 f47 = true := by kernel_rfl
theorem ok49 : fnOk Tryz.prog 49 f49 = true := by kernel_rfl
theorem ok50 : fnOk Tryz.prog 50 f50 = true := by kernel_rfl
theorem ok51 : fnOk Tryz.prog 51 f51 = true := by kernel_rfl
theorem ok52 : fnOk Tryz.prog 52 f52 = true := by kernel_rfl
theorem ok53 : fnOk Tryz.prog 53 f53 = true := by kernel_rfl
theorem ok55 : fnOk Tryz.prog 55 f55 = true := by kernel_rfl
theorem ok56 : fnOk Tryz.prog 56 f56 = true := by kernel_rfl
theorem ok57 : fnOk Tryz.prog 57 f57 = true := by kernel_rfl
theorem ok59 : fnOk Tryz.prog 59 f59 = true := by kernel_rfl
theorem ok60 : fnOk Tryz.prog 60 f60 = true := by kernel_rfl
theorem ok61 : fnOk Tryz.prog 61 f61 = true := by kernel_rfl
theorem ok64 : fnOk Tryz.prog 64 f64 = true := by kernel_rfl
theorem ok65 : fnOk Tryz.prog 65 f65 = true := by kernel_rfl
theorem ok66 : fnOk Tryz.prog 66 f66 = true := by kernel_rfl
theorem ok67 : fnOk Tryz.prog 67 f67 = true := by kernel_rfl
theorem ok68 : fnOk Tryz.prog 68 f68 = true := by kernel_rfl
theorem ok69 : fnOk Tryz.prog 69 f69 = true := by kernel_rfl
theorem ok70 : fnOk Tryz.prog 70 f70 = true := by kernel_rfl
theorem ok71 : fnOk Tryz.prog 71 f71 = true := by kernel_rfl
theorem ok72 : fnOk Tryz.prog 72 f72 = true := by kernel_rfl
theorem ok73 : fnOk Tryz.prog 73 f73 = true := by kernel_rfl
theorem ok74 : fnOk Tryz.prog 74 f74 = true := by kernel_rfl
theorem ok75 : fnOk Tryz.prog 75 f75 = true := by kernel_rfl
theorem ok76 : fnOk Tryz.prog 76 f76 = true := by kernel_rfl
theorem ok77 : fnOk Tryz.prog 77 f77 = true := by kernel_rfl
theorem ok78 : fnOk Tryz.prog 78 f78 = true := by kernel_rfl
theorem ok79 : fnOk Tryz.prog 79 f79 = true := by kernel_rfl
theorem ok80 : fnOk Tryz.prog 80 f80 = true := by kernel_rfl
theorem ok81 : fnOk Tryz.prog 81 f81 = true := by kernel_rfl
theorem ok82 : fnOk Tryz.prog 82 f82 = true := by kernel_rfl
theorem ok83 : fnOk Tryz.prog 83 f83 = true := by kernel_rfl
theorem ok84 : fnOk Tryz.prog 84 f84 = true := by kernel_rfl
theorem ok85 : fnOk Tryz.prog 85 f85 = true := by kernel_rfl
theorem ok86 : fnOk Tryz.prog 86 f86 = true := by kernel_rfl
theorem ok87 : fnOk Tryz.prog 87 f87 = true := by kernel_rfl
theorem ok88 : fnOk Tryz.prog 88 f88 = true := by kernel_rfl
theorem ok89 : fnOk Tryz.prog 89 f89 = true := by kernel_rfl
theorem ok90 : fnOk Tryz.prog 90 f90 = true := by kernel_rfl
theorem ok92 : fnOk Tryz.prog 92 f92 = true := by kernel_rfl
theorem ok93 : fnOk Tryz.prog 93 f93 = true := by kernel_rfl
theorem ok94 : fnOk Tryz.prog 94 f94 = true := by kernel_rfl
theorem ok95 : fnOk Tryz.prog 95 f95 = true := by kernel_rfl
theorem ok96 : fnOk Tryz.prog 96 f96 = true := by kernel_rfl
theorem ok97 : fnOk Tryz.prog 97 f97 = true := by kernel_rfl
theorem ok98 : fnOk Tryz.prog 98 f98 = true := by kernel_rfl
theorem ok99 : fnOk Tryz.prog 99 f99 = true := by kernel_rfl
theorem ok100 : fnOk Tryz.prog 100 f100 = true := by kernel_rfl
theorem ok101 : fnOk Tryz.prog 101 f101 = true := by kernel_rfl
theorem ok102 : fnOk Tryz.prog 102 f102 = true := by kernel_rfl
theorem ok103 : fnOk Tryz.prog 103 f103 = true := by kernel_rfl
theorem ok104 : fnOk Tryz.prog 104 f104 = true := by kernel_rfl
theorem ok105 : fnOk Tryz.prog 105 f105 = true := by kernel_rfl
theorem ok106 : fnOk Tryz.prog 106 f106 = true := by kernel_rfl
theorem ok107 : fnOk Tryz.prog 107 f107 = true := by kernel_rfl
theorem ok108 : fnOk Tryz.prog 108 f108 = true := by kernel_rfl
theorem ok109 : fnOk Tryz.prog 109 f109 = true := by kernel_rfl
theorem ok110 : fnOk Tryz.prog 110 f110 = true := by kernel_rfl
theorem ok111 : fnOk Tryz.prog 111 f111 = true := by kernel_rfl
theorem ok112 : fnOk Tryz.prog 112 f112 = true := by kernel_rfl
theorem ok113 : fnOk Tryz.prog 113 f113 = true := by kernel_rfl
theorem ok114 : fnOk Tryz.prog 114 f114 = true := by kernel_rfl
theorem ok115 : fnOk Tryz.prog 115 f115 = true := by kernel_rfl
theorem ok116 : fnOk Tryz.prog 116 f116 = true := by kernel_rfl
theorem ok117 : fnOk Tryz.prog 117 f117 = true := by kernel_rfl
theorem ok118 : fnOk Tryz.prog 118 f118 = true := by kernel_rfl
theorem ok119 : fnOk Tryz.prog 119 f119 = true := by kernel_rfl
theorem ok120 : fnOk Tryz.prog 120 f120 = true := by kernel_rfl
theorem ok121 : fnOk Tryz.prog 121 f121 = true := by kernel_rfl
theorem ok122 : fnOk Tryz.prog 122 f122 = true := by kernel_rfl
theorem ok123 : fnOk Tryz.prog 123 f123 = true := by kernel_rfl
theorem ok124 : fnOk Tryz.prog 124 f124 = true := by kernel_rfl
theorem ok125 : fnOk Tryz.prog 125 f125 = true := by kernel_rfl
theorem ok126 : fnOk Tryz.prog 126 f126 = true := by kernel_rfl

noncomputable def lst : List (Nat × Entry) := [(4, .fn f4), (6, .fn f6), (9, .fn f9), (12, .fn f12), (13, .fn f13), (14, .fn f14), (15, .fn f15), (16, .fn f16), (17, .fn f17), (18, .fn f18), (19, .fn f19), (20, .fn f20), (21, .fn f21), (22, .fn f22), (23, .fn f23), (24, .fn f24), (25, .fn f25), (26, .fn f26), (27, .fn f27), (28, .fn f28), (29, .fn f29), (30, .fn f30), (32, .fn f32), (33, .fn f33), (34, .fn f34), (35, .fn f35), (36, .fn f36), (37, .fn f37), (38, .fn f38), (39, .fn f39), (40, .fn f40), (41, .fn f41), (42, .fn f42), (43, .fn f43), (44, .fn f44), (45, .fn f45), (46, .prim primRef), (47, .fn f47), (48, .prim primTaken), (49, .fn f49), (50, .fn f50), (51, .fn f51), (52, .fn f52), (53, .fn f53), (54, .prim primTake), (55, .fn f55), (56, .fn f56), (57, .fn f57), (59, .fn f59), (60, .fn f60), (61, .fn f61), (62, .prim primNumber), (63, .prim primSum), (64, .fn f64), (65, .fn f65), (66, .fn f66), (67, .fn f67), (68, .fn f68), (69, .fn f69), (70, .fn f70), (71, .fn f71), (72, .fn f72), (73, .fn f73), (74, .fn f74), (75, .fn f75), (76, .fn f76), (77, .fn f77), (78, .fn f78), (79, .fn f79), (80, .fn f80), (81, .fn f81), (82, .fn f82), (83, .fn f83), (84, .fn f84), (85, .fn f85), (86, .fn f86), (87, .fn f87), (88, .fn f88), (89, .fn f89), (90, .fn f90), (91, .prim primCrc), (92, .fn f92), (93, .fn f93), (94, .fn f94), (95, .fn f95), (96, .fn f96), (97, .fn f97), (98, .fn f98), (99, .fn f99), (100, .fn f100), (101, .fn f101), (102, .fn f102), (103, .fn f103), (104, .fn f104), (105, .fn f105), (106, .fn f106), (107, .fn f107), (108, .fn f108), (109, .fn f109), (110, .fn f110), (111, .fn f111), (112, .fn f112), (113, .fn f113), (114, .fn f114), (115, .fn f115), (116, .fn f116), (117, .fn f117), (118, .fn f118), (119, .fn f119), (120, .fn f120), (121, .fn f121), (122, .fn f122), (123, .fn f123), (124, .fn f124), (125, .fn f125), (126, .fn f126)]
theorem tab_eq : tab = PT.ofList lst := by rfl
theorem all_ok (G : Nat → Option (List IV)) : AllOk Tryz.prog G lst := (AllOk.cons ok4 (AllOk.cons ok6 (AllOk.cons ok9 (AllOk.cons ok12 (AllOk.cons ok13 (AllOk.cons ok14 (AllOk.cons ok15 (AllOk.cons ok16 (AllOk.cons ok17 (AllOk.cons ok18 (AllOk.cons ok19 (AllOk.cons ok20 (AllOk.cons ok21 (AllOk.cons ok22 (AllOk.cons ok23 (AllOk.cons ok24 (AllOk.cons ok25 (AllOk.cons ok26 (AllOk.cons ok27 (AllOk.cons ok28 (AllOk.cons ok29 (AllOk.cons ok30 (AllOk.cons ok32 (AllOk.cons ok33 (AllOk.cons ok34 (AllOk.cons ok35 (AllOk.cons ok36 (AllOk.cons ok37 (AllOk.cons ok38 (AllOk.cons ok39 (AllOk.cons ok40 (AllOk.cons ok41 (AllOk.cons ok42 (AllOk.cons ok43 (AllOk.cons ok44 (AllOk.cons ok45 (AllOk.consP (pok46 G) (AllOk.cons ok47 (AllOk.consP (pok48 G) (AllOk.cons ok49 (AllOk.cons ok50 (AllOk.cons ok51 (AllOk.cons ok52 (AllOk.cons ok53 (AllOk.consP (pok54 G) (AllOk.cons ok55 (AllOk.cons ok56 (AllOk.cons ok57 (AllOk.cons ok59 (AllOk.cons ok60 (AllOk.cons ok61 (AllOk.consP (pok62 G) (AllOk.consP (pok63 G) (AllOk.cons ok64 (AllOk.cons ok65 (AllOk.cons ok66 (AllOk.cons ok67 (AllOk.cons ok68 (AllOk.cons ok69 (AllOk.cons ok70 (AllOk.cons ok71 (AllOk.cons ok72 (AllOk.cons ok73 (AllOk.cons ok74 (AllOk.cons ok75 (AllOk.cons ok76 (AllOk.cons ok77 (AllOk.cons ok78 (AllOk.cons ok79 (AllOk.cons ok80 (AllOk.cons ok81 (AllOk.cons ok82 (AllOk.cons ok83 (AllOk.cons ok84 (AllOk.cons ok85 (AllOk.cons ok86 (AllOk.cons ok87 (AllOk.cons ok88 (AllOk.cons ok89 (AllOk.cons ok90 (AllOk.consP (pok91 G) (AllOk.cons ok92 (AllOk.cons ok93 (AllOk.cons ok94 (AllOk.cons ok95 (AllOk.cons ok96 (AllOk.cons ok97 (AllOk.cons ok98 (AllOk.cons ok99 (AllOk.cons ok100 (AllOk.cons ok101 (AllOk.cons ok102 (AllOk.cons ok103 (AllOk.cons ok104 (AllOk.cons ok105 (AllOk.cons ok106 (AllOk.cons ok107 (AllOk.cons ok108 (AllOk.cons ok109 (AllOk.cons ok110 (AllOk.cons ok111 (AllOk.cons ok112 (AllOk.cons ok113 (AllOk.cons ok114 (AllOk.cons ok115 (AllOk.cons ok116 (AllOk.cons ok117 (AllOk.cons ok118 (AllOk.cons ok119 (AllOk.cons ok120 (AllOk.cons ok121 (AllOk.cons ok122 (AllOk.cons ok123 (AllOk.cons ok124 (AllOk.cons ok125 (AllOk.cons ok126 AllOk.nil))))))))))))))))))))))))))))))))))))))))))))))))))))))))))))))))))))))))))))))))))))))))))))))))))))))))))))))))))))
theorem kok (G : Nat → Option (List IV)) (d : Nat) : KOk Tryz.prog G (K G d) := table_ok (by kernel_rfl) tab_eq (all_ok G) d
end Go.Proofs.YtnpcgejfkonfdaaGreatDoor.D
