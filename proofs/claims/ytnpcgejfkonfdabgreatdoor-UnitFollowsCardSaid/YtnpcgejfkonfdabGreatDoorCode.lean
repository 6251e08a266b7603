/-
  D's functions of this seat are the program's: looks that the kernel makes.
-/
import Derived.Test.YtnpcgejfkonfdabGreatDoorLaw
import Derived.Test.YtnpcgejfkonfdabGreatDoorFn
import Derived.Test.YtnpcgejfkonfdabGreatDoorRows
import Derived.Test.YtnpcgejfkonfdabGreatDoorPOk
set_option maxRecDepth 100000
namespace Go.Proofs.YtnpcgejfkonfdabGreatDoor.D
open Go Go.PM

theorem ok5 : fnOk Tryz.prog 5 f5 = true := by kernel_rfl
theorem ok9 : fnOk Tryz.prog 9 f9 = true := by kernel_rfl
theorem ok10 : fnOk Tryz.prog 10 f10 = true := by kernel_rfl
theorem ok11 : fnOk Tryz.prog 11 f11 = true := by kernel_rfl
theorem ok12 : fnOk Tryz.prog 12 f12 = true := by kernel_rfl
theorem ok13 : fnOk Tryz.prog 13 f13 = true := by kernel_rfl
theorem ok14 : fnOk Tryz.prog 14 f14 = true := by kernel_rfl
theorem ok15 : fnOk Tryz.prog 15 f15 = true := by kernel_rfl
theorem ok16 : fnOk Tryz.prog 16 f16 = true := by kernel_rfl
theorem ok17 : fnOk Tryz.prog 17 f17 = true := by kernel_rfl
theorem ok19 : fnOk Tryz.prog 19 f19 = true := by kernel_rfl
theorem ok21 : fnOk Tryz.prog 21 f21 = true := by kernel_rfl
theorem ok22 : fnOk Tryz.prog 22 f22 = true := by kernel_rfl
theorem ok23 : fnOk Tryz.prog 23 f23 = true := by kernel_rfl
theorem ok36 : fnOk Tryz.prog 36 f36 = true := by kernel_rfl
theorem ok37 : fnOk Tryz.prog 37 f37 = true := by kernel_rfl
theorem ok38 : fnOk Tryz.prog 38 f38 = true := by kernel_rfl
theorem ok39 : fnOk Tryz.prog 39 f39 = true := by kernel_rfl
theorem ok40 : fnOk Tryz.prog 40 f40 = true := by kernel_rfl
theorem ok41 : fnOk Tryz.prog 41 f41 = true := by kernel_rfl
theorem ok42 : fnOk Tryz.prog 42 f42 = true := by kernel_rfl
theorem ok43 : fnOk Tryz.prog 43 f43 = true := by kernel_rfl
theorem ok44 : fnOk Tryz.prog 44 f44 = true := by kernel_rfl
theorem ok45 : fnOk Tryz.prog 45 f45 = true := by kernel_rfl
theorem ok46 : fnOk Tryz.prog 46 f46 = true := by kernel_rfl
theorem ok50 : fnOk Tryz.prog 50 f50 = true := by kernel_rfl
theorem ok51 : fnOk Tryz.prog 51 f51 = true := by kernel_rfl
theorem ok52 : fnOk Tryz.prog 52 f52 = true := by kernel_rfl
theorem ok55 : fnOk Tryz.prog 55 f55 = true := by kernel_rfl
theorem ok56 : fnOk Tryz.prog 56 f56 = true := by kernel_rfl
theorem ok57 : fnOk Tryz.prog 57 f57 = true := by kernel_rfl
theorem ok58 : fnOk Tryz.prog 58 f58 = true := by kernel_rfl
theorem ok73 : fnOk Tryz.prog 73 f73 = true := by kernel_rfl
theorem ok75 : fnOk Tryz.prog 75 f75 = true := by kernel_rfl
theorem ok76 : fnOk Tryz.prog 76 f76 = true := by kernel_rfl
theorem ok77 : fnOk Tryz.prog 77 f77 = true := by kernel_rfl
theorem ok78 : fnOk Tryz.prog 78 f78 = true := by kernel_rfl
theorem ok79 : fnOk Tryz.prog 79 f79 = true := by kernel_rfl
theorem ok80 : fnOk Tryz.prog 80 f80 = true := by kernel_rfl
theorem ok81 : fnOk Tryz.prog 81 f81 = true := by kernel_rfl
theorem ok82 : fnOk Tryz.prog 82 f82 = true := by kernel_rfl
theorem ok83 : fnOk Tryz.prog 83 f83 = true := by kernel_rfl
theorem ok86 : fnOk Tryz.prog 86 f86 = true := by kernel_rfl
theorem ok87 : fnOk Tryz.prog 87 f87 = true := by kernel_rfl
theorem ok88 : fnOk Tryz.prog 88 f88 = true := by kernel_rfl
theorem ok89 : fnOk Tryz.prog 89 f89 = true := by kernel_rfl
theorem ok91 : fnOk Tryz.prog 91 f91 = true := by kernel_rfl
theorem ok92 : fnOk Tryz.prog 92 f92 = true := by kernel_rfl
theorem ok93 : fnOk Tryz.prog 93 f93 = true := by kernel_rfl
theorem ok94 : fnOk Tryz.prog 94 f94 = true := by kernel_rfl
theorem ok96 : fnOk Tryz.prog 96 f96 = true := by kernel_rfl
theorem ok97 : fnOk Tryz.prog 97 f97 = true := by kernel_rfl
theorem ok115 : fnOk Tryz.prog 115 f115 = true := by kernel_rfl
theorem ok116 : fnOk Tryz.prog 116 f116 = true := by kernel_rfl
theorem ok117 : fnOk Tryz.prog 117 f117 = true := by kernel_rfl
theorem ok118 : fnOk Tryz.prog 118 f118 = true := by kernel_rfl
theorem ok119 : fnOk Tryz.prog 119 f119 = true := by kernel_rfl
theorem ok120 : fnOk Tryz.prog 120 f120 = true := by kernel_rfl
theorem ok121 : fnOk Tryz.prog 121 f121 = true := by kernel_rfl
theorem ok122 : fnOk Tryz.prog 122 f122 = true := by kernel_rfl
theorem ok123 : fnOk Tryz.prog 123 f123 = true := by kernel_rfl
theorem ok124 : fnOk Tryz.prog 124 f124 = true := by kernel_rfl
theorem ok125 : fnOk Tryz.prog 125 f125 = true := by kernel_rfl
theorem ok126 : fnOk Tryz.prog 126 f126 = true := by kernel_rfl
theorem ok127 : fnOk Tryz.prog 127 f127 = true := by kernel_rfl
theorem ok128 : fnOk Tryz.prog 128 f128 = true := by kernel_rfl
theorem ok129 : fnOk Tryz.prog 129 f129 = true := by kernel_rfl
theorem ok130 : fnOk Tryz.prog 130 f130 = true := by kernel_rfl
theorem ok131 : fnOk Tryz.prog 131 f131 = true := by kernel_rfl
theorem ok132 : fnOk Tryz.prog 132 f132 = true := by kernel_rfl
theorem ok133 : fnOk Tryz.prog 133 f133 = true := by kernel_rfl
theorem ok134 : fnOk Tryz.prog 134 f134 = true := by kernel_rfl
theorem ok135 : fnOk Tryz.prog 135 f135 = true := by kernel_rfl
theorem ok137 : fnOk Tryz.prog 137 f137 = true := by kernel_rfl
theorem ok138 : fnOk Tryz.prog 138 f138 = true := by kernel_rfl
theorem ok139 : fnOk Tryz.prog 139 f139 = true := by kernel_rfl
theorem ok140 : fnOk Tryz.prog 140 f140 = true := by kernel_rfl
theorem ok141 : fnOk Tryz.prog 141 f141 = true := by kernel_rfl
theorem ok142 : fnOk Tryz.prog 142 f142 = true := by kernel_rfl
theorem ok143 : fnOk Tryz.prog 143 f143 = true := by kernel_rfl
theorem ok144 : fnOk Tryz.prog 144 f144 = true := by kernel_rfl
theorem ok145 : fnOk Tryz.prog 145 f145 = true := by kernel_rfl
theorem ok146 : fnOk Tryz.prog 146 f146 = true := by kernel_rfl
theorem ok147 : fnOk Tryz.prog 147 f147 = true := by kernel_rfl
theorem ok148 : fnOk Tryz.prog 148 f148 = true := by kernel_rfl
theorem ok154 : fnOk Tryz.prog 154 f154 = true := by kernel_rfl
theorem ok155 : fnOk Tryz.prog 155 f155 = true := by kernel_rfl
theorem ok156 : fnOk Tryz.prog 156 f156 = true := by kernel_rfl
theorem ok157 : fnOk Tryz.prog 157 f157 = true := by kernel_rfl
theorem ok158 : fnOk Tryz.prog 158 f158 = true := by kernel_rfl
theorem ok159 : fnOk Tryz.prog 159 f159 = true := by kernel_rfl
theorem ok160 : fnOk Tryz.prog 160 f160 = true := by kernel_rfl
theorem ok161 : fnOk Tryz.prog 161 f161 = true := by kernel_rfl
theorem ok162 : fnOk Tryz.prog 162 f162 = true := by kernel_rfl
theorem ok163 : fnOk Tryz.prog 163 f163 = true := by kernel_rfl
theorem ok164 : fnOk Tryz.prog 164 f164 = true := by kernel_rfl
theorem ok165 : fnOk Tryz.prog 165 f165 = true := by kernel_rfl
theorem ok166 : fnOk Tryz.prog 166 f166 = true := by kernel_rfl
theorem ok167 : fnOk Tryz.prog 167 f167 = true := by kernel_rfl
theorem ok168 : fnOk Tryz.prog 168 f168 = true := by kernel_rfl
theorem ok169 : fnOk Tryz.prog 169 f169 = true := by kernel_rfl
theorem ok170 : fnOk Tryz.prog 170 f170 = true := by kernel_rfl
theorem ok171 : fnOk Tryz.prog 171 f171 = true := by kernel_rfl
theorem ok172 : fnOk Tryz.prog 172 f172 = true := by kernel_rfl
theorem ok173 : fnOk Tryz.prog 173 f173 = true := by kernel_rfl
theorem ok176 : fnOk Tryz.prog 176 f176 = true := by kernel_rfl
theorem ok177 : fnOk Tryz.prog 177 f177 = true := by kernel_rfl
theorem ok178 : fnOk Tryz.prog 178 f178 = true := by kernel_rfl
theorem ok179 : fnOk Tryz.prog 179 f179 = true := by kernel_rfl
theorem ok180 : fnOk Tryz.prog 180 f180 = true := by kernel_rfl
theorem ok181 : fnOk Tryz.prog 181 f181 = true := by kernel_rfl
theorem ok182 : fnOk Tryz.prog 182 f182 = true := by kernel_rfl

noncomputable def lst : List (Nat × Entry) := [(5, .fn f5), (9, .fn f9), (10, .fn f10), (11, .fn f11), (12, .fn f12), (13, .fn f13), (14, .fn f14), (15, .fn f15), (16, .fn f16), (17, .fn f17), (19, .fn f19), (21, .fn f21), (22, .fn f22), (23, .fn f23), (36, .fn f36), (37, .fn f37), (38, .fn f38), (39, .fn f39), (40, .fn f40), (41, .fn f41), (42, .fn f42), (43, .fn f43), (44, .fn f44), (45, .fn f45), (46, .fn f46), (48, .prim primRef), (50, .fn f50), (51, .fn f51), (52, .fn f52), (55, .fn f55), (56, .fn f56), (57, .fn f57), (58, .fn f58), (73, .fn f73), (75, .fn f75), (76, .fn f76), (77, .fn f77), (78, .fn f78), (79, .fn f79), (80, .fn f80), (81, .fn f81), (82, .fn f82), (83, .fn f83), (84, .prim primNumber), (85, .prim primSum), (86, .fn f86), (87, .fn f87), (88, .fn f88), (89, .fn f89), (90, .prim primTaken), (91, .fn f91), (92, .fn f92), (93, .fn f93), (94, .fn f94), (95, .prim primTake), (96, .fn f96), (97, .fn f97), (115, .fn f115), (116, .fn f116), (117, .fn f117), (118, .fn f118), (119, .fn f119), (120, .fn f120), (121, .fn f121), (122, .fn f122), (123, .fn f123), (124, .fn f124), (125, .fn f125), (126, .fn f126), (127, .fn f127), (128, .fn f128), (129, .fn f129), (130, .fn f130), (131, .fn f131), (132, .fn f132), (133, .fn f133), (134, .fn f134), (135, .fn f135), (136, .prim primCrc), (137, .fn f137), (138, .fn f138), (139, .fn f139), (140, .fn f140), (141, .fn f141), (142, .fn f142), (143, .fn f143), (144, .fn f144), (145, .fn f145), (146, .fn f146), (147, .fn f147), (148, .fn f148), (154, .fn f154), (155, .fn f155), (156, .fn f156), (157, .fn f157), (158, .fn f158), (159, .fn f159), (160, .fn f160), (161, .fn f161), (162, .fn f162), (163, .fn f163), (164, .fn f164), (165, .fn f165), (166, .fn f166), (167, .fn f167), (168, .fn f168), (169, .fn f169), (170, .fn f170), (171, .fn f171), (172, .fn f172), (173, .fn f173), (176, .fn f176), (177, .fn f177), (178, .fn f178), (179, .fn f179), (180, .fn f180), (181, .fn f181), (182, .fn f182)]
theorem tab_eq : tab = PT.ofList lst := by rfl
theorem all_ok (G : Nat → Option (List IV)) : AllOk Tryz.prog G lst := (AllOk.cons ok5 (AllOk.cons ok9 (AllOk.cons ok10 (AllOk.cons ok11 (AllOk.cons ok12 (AllOk.cons ok13 (AllOk.cons ok14 (AllOk.cons ok15 (AllOk.cons ok16 (AllOk.cons ok17 (AllOk.cons ok19 (AllOk.cons ok21 (AllOk.cons ok22 (AllOk.cons ok23 (AllOk.cons ok36 (AllOk.cons ok37 (AllOk.cons ok38 (AllOk.cons ok39 (AllOk.cons ok40 (AllOk.cons ok41 (AllOk.cons ok42 (AllOk.cons ok43 (AllOk.cons ok44 (AllOk.cons ok45 (AllOk.cons ok46 (AllOk.consP (pok48 G) (AllOk.cons ok50 (AllOk.cons ok51 (AllOk.cons ok52 (AllOk.cons ok55 (AllOk.cons ok56 (AllOk.cons ok57 (AllOk.cons ok58 (AllOk.cons ok73 (AllOk.cons ok75 (AllOk.cons ok76 (AllOk.cons ok77 (AllOk.cons ok78 (AllOk.cons ok79 (AllOk.cons ok80 (AllOk.cons ok81 (AllOk.cons ok82 (AllOk.cons ok83 (AllOk.consP (pok84 G) (AllOk.consP (pok85 G) (AllOk.cons ok86 (AllOk.cons ok87 (AllOk.cons ok88 (AllOk.cons ok89 (AllOk.consP (pok90 G) (AllOk.cons ok91 (AllOk.cons ok92 (AllOk.cons ok93 (AllOk.cons ok94 (AllOk.consP (pok95 G) (AllOk.cons ok96 (AllOk.cons ok97 (AllOk.cons ok115 (AllOk.cons ok116 (AllOk.cons ok117 (AllOk.cons ok118 (AllOk.cons ok119 (AllOk.cons ok120 (AllOk.cons ok121 (AllOk.cons ok122 (AllOk.cons ok123 (AllOk.cons ok124 (AllOk.cons ok125 (AllOk.cons ok126 (AllOk.cons ok127 (AllOk.cons ok128 (AllOk.cons ok129 (AllOk.cons ok130 (AllOk.cons ok131 (AllOk.cons ok132 (AllOk.cons ok133 (AllOk.cons ok134 (AllOk.cons ok135 (AllOk.consP (pok136 G) (AllOk.cons ok137 (AllOk.cons ok138 (AllOk.cons ok139 (AllOk.cons ok140 (AllOk.cons ok141 (AllOk.cons ok142 (AllOk.cons ok143 (AllOk.cons ok144 (AllOk.cons ok145 (AllOk.cons ok146 (AllOk.cons ok147 (AllOk.cons ok148 (AllOk.cons ok154 (AllOk.cons ok155 (AllOk.cons ok156 (AllOk.cons ok157 (AllOk.cons ok158 (AllOk.cons ok159 (AllOk.cons ok160 (AllOk.cons ok161 (AllOk.cons ok162 (AllOk.cons ok163 (AllOk.cons ok164 (AllOk.cons ok165 (AllOk.cons ok166 (AllOk.cons ok167 (AllOk.cons ok168 (AllOk.cons ok169 (AllOk.cons ok170 (AllOk.cons ok171 (AllOk.cons ok172 (AllOk.cons ok173 (AllOk.cons ok176 (AllOk.cons ok177 (AllOk.cons ok178 (AllOk.cons ok179 (AllOk.cons ok180 (AllOk.cons ok181 (AllOk.cons ok182 AllOk.nil))))))))))))))))))))))))))))))))))))))))))))))))))))))))))))))))))))))))))))))))))))))))))))))))))))))))))))))))))))))
theorem kok (G : Nat → Option (List IV)) (d : Nat) : KOk Tryz.prog G (K G d) := table_ok (by kernel_rfl) tab_eq (all_ok G) d
end Go.Proofs.YtnpcgejfkonfdabGreatDoor.D
