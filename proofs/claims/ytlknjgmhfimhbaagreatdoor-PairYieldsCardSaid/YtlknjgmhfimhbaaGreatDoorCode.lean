/-
  D's functions of this seat are the program's: looks that the kernel makes.
-/
import Derived.Test.YtlknjgmhfimhbaaGreatDoorLaw
import Derived.Test.YtlknjgmhfimhbaaGreatDoorFn
import Derived.Test.YtlknjgmhfimhbaaGreatDoorRows
import Derived.Test.YtlknjgmhfimhbaaGreatDoorPOk
set_option maxRecDepth 100000
namespace Go.Proofs.YtlknjgmhfimhbaaGreatDoor.D
open Go Go.PM

theorem ok7 : fnOk Tryz.prog 7 f7 = true := by kernel_rfl
theorem ok9 : fnOk Tryz.prog 9 f9 = true := by kernel_rfl
theorem ok12 : fnOk Tryz.prog 12 f12 = true := by kernel_rfl
theorem ok14 : fnOk Tryz.prog 14 f14 = true := by kernel_rfl
theorem ok21 : fnOk Tryz.prog 21 f21 = true := by kernel_rfl
theorem ok29 : fnOk Tryz.prog 29 f29 = true := by kernel_rfl
theorem ok30 : fnOk Tryz.prog 30 f30 = true := by kernel_rfl
theorem ok31 : fnOk Tryz.prog 31 f31 = true := by kernel_rfl
theorem ok32 : fnOk Tryz.prog 32 f32 = true := by kernel_rfl
theorem ok33 : fnOk Tryz.prog 33 f33 = true := by kernel_rfl
theorem ok34 : fnOk Tryz.prog 34 f34 = true := by kernel_rfl
theorem ok37 : fnOk Tryz.prog 37 f37 = true := by kernel_rfl
theorem ok38 : fnOk Tryz.prog 38 f38 = true := by kernel_rfl
theorem ok39 : fnOk Tryz.prog 39 f39 = true := by kernel_rfl
theorem ok40 : fnOk Tryz.prog 40 f40 = true := by kernel_rfl
theorem ok41 : fnOk Tryz.prog 41 f41 = true := by kernel_rfl
theorem ok45 : fnOk Tryz.prog 45 f45 = true := by kernel_rfl
theorem ok46 : fnOk Tryz.prog 46 f46 = true := by kernel_rfl
theorem ok47 : fnOk Tryz.prog 47 f47 = true := by kernel_rfl
theorem ok48 : fnOk Tryz.prog 48 f48 = true := by kernel_rfl
theorem ok49 : fnOk Tryz.prog 49 f49 = true := by kernel_rfl
theorem ok50 : fnOk Tryz.prog 50 f50 = true := by kernel_rfl
theorem ok51 : fnOk Tryz.prog 51 f51 = true := by kernel_rfl
theorem ok52 : fnOk Tryz.prog 52 f52 = true := by kernel_rfl
theorem ok53 : fnOk Tryz.prog 53 f53 = true := by kernel_rfl
theorem ok54 : fnOk Tryz.prog 54 f54 = true := by kernel_rfl
theorem ok55 : fnOk Tryz.prog 55 f55 = true := by kernel_rfl
theorem ok56 : fnOk Tryz.prog 56 f56 = true := by kernel_rfl
theorem ok57 : fnOk Tryz.prog 57 f57 = true := by kernel_rfl
theorem ok65 : fnOk Tryz.prog 65 f65 = true := by kernel_rfl
theorem ok75 : fnOk Tryz.prog 75 f75 = true := by kernel_rfl
theorem ok78 : fnOk Tryz.prog 78 f78 = true := by kernel_rfl
theorem ok79 : fnOk Tryz.prog 79 f79 = true := by kernel_rfl
theorem ok80 : fnOk Tryz.prog 80 f80 = true := by kernel_rfl
theorem ok81 : fnOk Tryz.prog 81 f81 = true := by kernel_rfl
theorem ok82 : fnOk Tryz.prog 82 f82 = true := by kernel_rfl
theorem ok83 : fnOk Tryz.prog 83 f83 = true := by kernel_rfl
theorem ok84 : fnOk Tryz.prog 84 f84 = true := by kernel_rfl
theorem ok85 : fnOk Tryz.prog 85 f85 = true := by kernel_rfl
theorem ok86 : fnOk Tryz.prog 86 f86 = true := by kernel_rfl
theorem ok87 : fnOk Tryz.prog 87 f87 = true := by kernel_rfl
theorem ok88 : fnOk Tryz.prog 88 f88 = true := by kernel_rfl
theorem ok89 : fnOk Tryz.prog 89 f89 = true := by kernel_rfl
theorem ok90 : fnOk Tryz.prog 90 f90 = true := by kernel_rfl
theorem ok91 : fnOk Tryz.prog 91 f91 = true := by kernel_rfl
theorem ok92 : fnOk Tryz.prog 92 f92 = true := by kernel_rfl
theorem ok93 : fnOk Tryz.prog 93 f93 = true := by kernel_rfl
theorem ok94 : fnOk Tryz.prog 94 f94 = true := by kernel_rfl
theorem ok95 : fnOk Tryz.prog 95 f95 = true := by kernel_rfl
theorem ok96 : fnOk Tryz.prog 96 f96 = true := by kernel_rfl
theorem ok97 : fnOk Tryz.prog 97 f97 = true := by kernel_rfl
theorem ok98 : fnOk Tryz.prog 98 f98 = true := by kernel_rfl
theorem ok99 : fnOk Tryz.prog 99 f99 = true := by kernel_rfl
theorem ok100 : fnOk Tryz.prog 100 f100 = true := by kernel_rfl
theorem ok101 : fnOk Tryz.prog 101 f101 = true := by kernel_rfl
theorem ok102 : fnOk Tryz.prog 102 f102 = true := by kernel_rfl
theorem ok103 : fnOk Tryz.prog 103 f103 = true := by kernel_rfl
theorem ok104 : fnOk Tryz.prog 104 f104 = true := by kernel_rfl
theorem ok105 : fnOk Tryz.prog 105 f105 = true := by kernel_rfl
theorem ok106 : fnOk Tryz.prog 106 f106 = true := by kernel_rfl
theorem ok107 : fnOk Tryz.prog 107 f107 = true := by kernel_rfl
theorem ok111 : fnOk Tryz.prog 111 f111 = true := by kernel_rfl
theorem ok114 : fnOk Tryz.prog 114 f114 = true := by kernel_rfl
theorem ok115 : fnOk Tryz.prog 115 f115 = true := by kernel_rfl
theorem ok116 : fnOk Tryz.prog 116 f116 = true := by kernel_rfl
theorem ok117 : fnOk Tryz.prog 117 f117 = true := by kernel_rfl
theorem ok118 : fnOk Tryz.prog 118 f118 = true := by kernel_rfl
theorem ok119 : fnOk Tryz.prog 119 f119 = true := by kernel_rfl
theorem ok120 : fnOk Tryz.prog 120 f120 = true := by kernel_rfl
theorem ok121 : fnOk Tryz.prog 121 f121 = true := by kernel_rfl
theorem ok122 : fnOk Tryz.prog 122 f122 = true := by kernel_rfl
theorem ok123 : fnOk Tryz.prog 123 f123 = true := by kernel_rfl
theorem ok124 : fnOk Tryz.prog 124 f124 = true := by kernel_rfl
theorem ok125 : fnOk Tryz.prog 125 f125 = true := by kernel_rfl
theorem ok127 : fnOk Tryz.prog 127 f127 = true := by kernel_rfl
theorem ok128 : fnOk Tryz.prog 128 f128 = true := by kernel_rfl
theorem ok129 : fnOk Tryz.prog 129 f129 = true := by kernel_rfl
theorem ok130 : fnOk Tryz.prog 130 f130 = true := by kernel_rfl
theorem ok131 : fnOk Tryz.prog 131 f131 = true := by kernel_rfl
theorem ok132 : fnOk Tryz.prog 132 f132 = true := by kernel_rfl
theorem ok134 : fnOk Tryz.prog 134 f134 = true := by kernel_rfl
theorem ok135 : fnOk Tryz.prog 135 f135 = true := by kernel_rfl
theorem ok136 : fnOk Tryz.prog 136 f136 = true := by kernel_rfl
theorem ok137 : fnOk Tryz.prog 137 f137 = true := by kernel_rfl
theorem ok138 : fnOk Tryz.prog 138 f138 = true := by kernel_rfl
theorem ok139 : fnOk Tryz.prog 139 f139 = true := by kernel_rfl
theorem ok140 : fnOk Tryz.prog 140 f140 = true := by kernel_rfl
theorem ok141 : fnOk Tryz.prog 141 f141 = true := by kernel_rfl
theorem ok142 : fnOk Tryz.prog 142 f142 = true := by kernel_rfl
theorem ok145 : fnOk Tryz.prog 145 f145 = true := by kernel_rfl
theorem ok146 : fnOk Tryz.prog 146 f146 = true := by kernel_rfl
theorem ok147 : fnOk Tryz.prog 147 f147 = true := by kernel_rfl
theorem ok148 : fnOk Tryz.prog 148 f148 = true := by kernel_rfl
theorem ok149 : fnOk Tryz.prog 149 f149 = true := by kernel_rfl
theorem ok150 : fnOk Tryz.prog 150 f150 = true := by kernel_rfl
theorem ok151 : fnOk Tryz.prog 151 f151 = true := by kernel_rfl
theorem ok152 : fnOk Tryz.prog 152 f152 = true := by kernel_rfl
theorem ok153 : fnOk Tryz.prog 153 f153 = true := by kernel_rfl
theorem ok156 : fnOk Tryz.prog 156 f156 = true := by kernel_rfl
theorem ok157 : fnOk Tryz.prog 157 f157 = true := by kernel_rfl
theorem ok158 : fnOk Tryz.prog 158 f158 = true := by kernel_rfl
theorem ok159 : fnOk Tryz.prog 159 f159 = true := by kernel_rfl
theorem ok160 : fnOk Tryz.prog 160 f160 = true := by kernel_rfl
theorem ok161 : fnOk Tryz.prog 161 f161 = true := by kernel_rfl
theorem ok162 : fnOk Tryz.prog 162 f162 = true := by kernel_rfl
theorem ok163 : fnOk Tryz.prog 163 f163 = true := by kernel_rfl
theorem ok164 : fnOk Tryz.prog 164 f164 = true := by kernel_rfl
theorem ok165 : fnOk Tryz.prog 165 f165 = true := by kernel_rfl
theorem ok166 : fnOk Tryz.prog 166 f166 = true := by kernel_rfl
theorem ok167 : fnOk Tryz.prog 167 f167 = true := by kernel_rfl
theorem ok170 : fnOk Tryz.prog 170 f170 = true := by kernel_rfl
theorem ok171 : fnOk Tryz.prog 171 f171 = true := by kernel_rfl
theorem ok172 : fnOk Tryz.prog 172 f172 = true := by kernel_rfl
theorem ok173 : fnOk Tryz.prog 173 f173 = true := by kernel_rfl
theorem ok174 : fnOk Tryz.prog 174 f174 = true := by kernel_rfl
theorem ok175 : fnOk Tryz.prog 175 f175 = true := by kernel_rfl
theorem ok176 : fnOk Tryz.prog 176 f176 = true := by kernel_rfl
theorem ok178 : fnOk Tryz.prog 178 f178 = true := by kernel_rfl
theorem ok179 : fnOk Tryz.prog 179 f179 = true := by kernel_rfl
theorem ok180 : fnOk Tryz.prog 180 f180 = true := by kernel_rfl
theorem ok181 : fnOk Tryz.prog 181 f181 = true := by kernel_rfl
theorem ok182 : fnOk Tryz.prog 182 f182 = true := by kernel_rfl
theorem ok183 : fnOk Tryz.prog 183 f183 = true := by kernel_rfl
theorem ok184 : fnOk Tryz.prog 184 f184 = true := by kernel_rfl
theorem ok185 : fnOk Tryz.prog 185 f185 = true := by kernel_rfl
theorem ok186 : fnOk Tryz.prog 186 f186 = true := by kernel_rfl
theorem ok187 : fnOk Tryz.prog 187 f187 = true := by kernel_rfl
theorem ok188 : fnOk Tryz.prog 188 f188 = true := by kernel_rfl
theorem ok189 : fnOk Tryz.prog 189 f189 = true := by kernel_rfl
theorem ok190 : fnOk Tryz.prog 190 f190 = true := by kernel_rfl
theorem ok191 : fnOk Tryz.prog 191 f191 = true := by kernel_rfl
theorem ok192 : fnOk Tryz.prog 192 f192 = true := by kernel_rfl
theorem ok193 : fnOk Tryz.prog 193 f193 = true := by kernel_rfl
theorem ok194 : fnOk Tryz.prog 194 f194 = true := by kernel_rfl
theorem ok195 : fnOk Tryz.prog 195 f195 = true := by kernel_rfl
theorem ok196 : fnOk Tryz.prog 196 f196 = true := by kernel_rfl
theorem ok197 : fnOk Tryz.prog 197 f197 = true := by kernel_rfl
theorem ok198 : fnOk Tryz.prog 198 f198 = true := by kernel_rfl
theorem ok199 : fnOk Tryz.prog 199 f199 = true := by kernel_rfl
theorem ok200 : fnOk Tryz.prog 200 f200 = true := by kernel_rfl
theorem ok201 : fnOk Tryz.prog 201 f201 = true := by kernel_rfl
theorem ok202 : fnOk Tryz.prog 202 f202 = true := by kernel_rfl
theorem ok203 : fnOk Tryz.prog 203 f203 = true := by kernel_rfl

noncomputable def lst : List (Nat × Entry) := [(7, .fn f7), (9, .fn f9), (12, .fn f12), (14, .fn f14), (21, .fn f21), (29, .fn f29), (30, .fn f30), (31, .fn f31), (32, .fn f32), (33, .fn f33), (34, .fn f34), (37, .fn f37), (38, .fn f38), (39, .fn f39), (40, .fn f40), (41, .fn f41), (45, .fn f45), (46, .fn f46), (47, .fn f47), (48, .fn f48), (49, .fn f49), (50, .fn f50), (51, .fn f51), (52, .fn f52), (53, .fn f53), (54, .fn f54), (55, .fn f55), (56, .fn f56), (57, .fn f57), (65, .fn f65), (75, .fn f75), (78, .fn f78), (79, .fn f79), (80, .fn f80), (81, .fn f81), (82, .fn f82), (83, .fn f83), (84, .fn f84), (85, .fn f85), (86, .fn f86), (87, .fn f87), (88, .fn f88), (89, .fn f89), (90, .fn f90), (91, .fn f91), (92, .fn f92), (93, .fn f93), (94, .fn f94), (95, .fn f95), (96, .fn f96), (97, .fn f97), (98, .fn f98), (99, .fn f99), (100, .fn f100), (101, .fn f101), (102, .fn f102), (103, .fn f103), (104, .fn f104), (105, .fn f105), (106, .fn f106), (107, .fn f107), (111, .fn f111), (114, .fn f114), (115, .fn f115), (116, .fn f116), (117, .fn f117), (118, .fn f118), (119, .fn f119), (120, .fn f120), (121, .fn f121), (122, .fn f122), (123, .fn f123), (124, .fn f124), (125, .fn f125), (126, .prim primTaken), (127, .fn f127), (128, .fn f128), (129, .fn f129), (130, .fn f130), (131, .fn f131), (132, .fn f132), (133, .prim primTake), (134, .fn f134), (135, .fn f135), (136, .fn f136), (137, .fn f137), (138, .fn f138), (139, .fn f139), (140, .fn f140), (141, .fn f141), (142, .fn f142), (145, .fn f145), (146, .fn f146), (147, .fn f147), (148, .fn f148), (149, .fn f149), (150, .fn f150), (151, .fn f151), (152, .fn f152), (153, .fn f153), (154, .prim primNumber), (155, .prim primSum), (156, .fn f156), (157, .fn f157), (158, .fn f158), (159, .fn f159), (160, .fn f160), (161, .fn f161), (162, .fn f162), (163, .fn f163), (164, .fn f164), (165, .fn f165), (166, .fn f166), (167, .fn f167), (170, .fn f170), (171, .fn f171), (172, .fn f172), (173, .fn f173), (174, .fn f174), (175, .fn f175), (176, .fn f176), (177, .prim primCrc), (178, .fn f178), (179, .fn f179), (180, .fn f180), (181, .fn f181), (182, .fn f182), (183, .fn f183), (184, .fn f184), (185, .fn f185), (186, .fn f186), (187, .fn f187), (188, .fn f188), (189, .fn f189), (190, .fn f190), (191, .fn f191), (192, .fn f192), (193, .fn f193), (194, .fn f194), (195, .fn f195), (196, .fn f196), (197, .fn f197), (198, .fn f198), (199, .fn f199), (200, .fn f200), (201, .fn f201), (202, .fn f202), (203, .fn f203)]
theorem tab_eq : tab = PT.ofList lst := by rfl
theorem all_ok (G : Nat → Option (List IV)) : AllOk Tryz.prog G lst := (AllOk.cons ok7 (AllOk.cons ok9 (AllOk.cons ok12 (AllOk.cons ok14 (AllOk.cons ok21 (AllOk.cons ok29 (AllOk.cons ok30 (AllOk.cons ok31 (AllOk.cons ok32 (AllOk.cons ok33 (AllOk.cons ok34 (AllOk.cons ok37 (AllOk.cons ok38 (AllOk.cons ok39 (AllOk.cons ok40 (AllOk.cons ok41 (AllOk.cons ok45 (AllOk.cons ok46 (AllOk.cons ok47 (AllOk.cons ok48 (AllOk.cons ok49 (AllOk.cons ok50 (AllOk.cons ok51 (AllOk.cons ok52 (AllOk.cons ok53 (AllOk.cons ok54 (AllOk.cons ok55 (AllOk.cons ok56 (AllOk.cons ok57 (AllOk.cons ok65 (AllOk.cons ok75 (AllOk.cons ok78 (AllOk.cons ok79 (AllOk.cons ok80 (AllOk.cons ok81 (AllOk.cons ok82 (AllOk.cons ok83 (AllOk.cons ok84 (AllOk.cons ok85 (AllOk.cons ok86 (AllOk.cons ok87 (AllOk.cons ok88 (AllOk.cons ok89 (AllOk.cons ok90 (AllOk.cons ok91 (AllOk.cons ok92 (AllOk.cons ok93 (AllOk.cons ok94 (AllOk.cons ok95 (AllOk.cons ok96 (AllOk.cons ok97 (AllOk.cons ok98 (AllOk.cons ok99 (AllOk.cons ok100 (AllOk.cons ok101 (AllOk.cons ok102 (AllOk.cons ok103 (AllOk.cons ok104 (AllOk.cons ok105 (AllOk.cons ok106 (AllOk.cons ok107 (AllOk.cons ok111 (AllOk.cons ok114 (AllOk.cons ok115 (AllOk.cons ok116 (AllOk.cons ok117 (AllOk.cons ok118 (AllOk.cons ok119 (AllOk.cons ok120 (AllOk.cons ok121 (AllOk.cons ok122 (AllOk.cons ok123 (AllOk.cons ok124 (AllOk.cons ok125 (AllOk.consP (pok126 G) (AllOk.cons ok127 (AllOk.cons ok128 (AllOk.cons ok129 (AllOk.cons ok130 (AllOk.cons ok131 (AllOk.cons ok132 (AllOk.consP (pok133 G) (AllOk.cons ok134 (AllOk.cons ok135 (AllOk.cons ok136 (AllOk.cons ok137 (AllOk.cons ok138 (AllOk.cons ok139 (AllOk.cons ok140 (AllOk.cons ok141 (AllOk.cons ok142 (AllOk.cons ok145 (AllOk.cons ok146 (AllOk.cons ok147 (AllOk.cons ok148 (AllOk.cons ok149 (AllOk.cons ok150 (AllOk.cons ok151 (AllOk.cons ok152 (AllOk.cons ok153 (AllOk.consP (pok154 G) (AllOk.consP (pok155 G) (AllOk.cons ok156 (AllOk.cons ok157 (AllOk.cons ok158 (AllOk.cons ok159 (AllOk.cons ok160 (AllOk.cons ok161 (AllOk.cons ok162 (AllOk.cons ok163 (AllOk.cons ok164 (AllOk.cons ok165 (AllOk.cons ok166 (AllOk.cons ok167 (AllOk.cons ok170 (AllOk.cons ok171 (AllOk.cons ok172 (AllOk.cons ok173 (AllOk.cons ok174 (AllOk.cons ok175 (AllOk.cons ok176 (AllOk.consP (pok177 G) (AllOk.cons ok178 (AllOk.cons ok179 (AllOk.cons ok180 (AllOk.cons ok181 (AllOk.cons ok182 (AllOk.cons ok183 (AllOk.cons ok184 (AllOk.cons ok185 (AllOk.cons ok186 (AllOk.cons ok187 (AllOk.cons ok188 (AllOk.cons ok189 (AllOk.cons ok190 (AllOk.cons ok191 (AllOk.cons ok192 (AllOk.cons ok193 (AllOk.cons ok194 (AllOk.cons ok195 (AllOk.cons ok196 (AllOk.cons ok197 (AllOk.cons ok198 (AllOk.cons ok199 (AllOk.cons ok200 (AllOk.cons ok201 (AllOk.cons ok202 (AllOk.cons ok203 AllOk.nil))))))))))))))))))))))))))))))))))))))))))))))))))))))))))))))))))))))))))))))))))))))))))))))))))))))))))))))))))))))))))))))))))))))))))))))))))))
theorem kok (G : Nat → Option (List IV)) (d : Nat) : KOk Tryz.prog G (K G d) := table_ok (by kernel_rfl) tab_eq (all_ok G) d
end Go.Proofs.YtlknjgmhfimhbaaGreatDoor.D
