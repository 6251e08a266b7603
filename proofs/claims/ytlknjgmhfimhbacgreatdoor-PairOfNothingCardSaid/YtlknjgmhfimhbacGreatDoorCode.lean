/-
  D's functions of this seat are the program's: looks that the kernel makes.
-/
import Derived.Test.YtlknjgmhfimhbacGreatDoorLaw
import Derived.Test.YtlknjgmhfimhbacGreatDoorFn
import Derived.Test.YtlknjgmhfimhbacGreatDoorRows
import Derived.Test.YtlknjgmhfimhbacGreatDoorPOk
set_option maxRecDepth 100000
namespace Go.Proofs.YtlknjgmhfimhbacGreatDoor.D
open Go Go.PM

theorem ok5 : fnOk Tryz.prog 5 f5 = true := by kernel_rfl
theorem ok8 : fnOk Tryz.prog 8 f8 = true := by kernel_rfl
theorem ok9 : fnOk Tryz.prog 9 f9 = true := by kernel_rfl
theorem ok10 : fnOk Tryz.prog 10 f10 = true := by kernel_rfl
theorem ok11 : fnOk Tryz.prog 11 f11 = true := by kernel_rfl
theorem ok14 : fnOk Tryz.prog 14 f14 = true := by kernel_rfl
theorem ok15 : fnOk Tryz.prog 15 f15 = true := by kernel_rfl
theorem ok16 : fnOk Tryz.prog 16 f16 = true := by kernel_rfl
theorem ok21 : fnOk Tryz.prog 21 f21 = true := by kernel_rfl
theorem ok22 : fnOk Tryz.prog 22 f22 = true := by kernel_rfl
theorem ok23 : fnOk Tryz.prog 23 f23 = true := by kernel_rfl
theorem ok39 : fnOk Tryz.prog 39 f39 = true := by kernel_rfl
theorem ok40 : fnOk Tryz.prog 40 f40 = true := by kernel_rfl
theorem ok41 : fnOk Tryz.prog 41 f41 = true := by kernel_rfl
theorem ok42 : fnOk Tryz.prog 42 f42 = true := by kernel_rfl
theorem ok43 : fnOk Tryz.prog 43 f43 = true := by kernel_rfl
theorem ok44 : fnOk Tryz.prog 44 f44 = true := by kernel_rfl
theorem ok45 : fnOk Tryz.prog 45 f45 = true := by kernel_rfl
theorem ok46 : fnOk Tryz.prog 46 f46 = true := by kernel_rfl
theorem ok47 : fnOk Tryz.prog 47 f47 = true := by kernel_rfl
theorem ok48 : fnOk Tryz.prog 48 f48 = true := by kernel_rfl
theorem ok49 : fnOk Tryz.prog 49 f49 = true := by kernel_rfl
theorem ok50 : fnOk Tryz.prog 50 f50 = true := by kernel_rfl
theorem ok51 : fnOk Tryz.prog 51 f51 = true := by kernel_rfl
theorem ok52 : fnOk Tryz.prog 52 f52 = true := by kernel_rfl
theorem ok53 : fnOk Tryz.prog 53 f53 = true := by kernel_rfl
theorem ok54 : fnOk Tryz.prog 54 f54 = true := by kernel_rfl
theorem ok55 : fnOk Tryz.prog 55 f55 = true := by kernel_rfl
theorem ok56 : fnOk Tryz.prog 56 f56 = true := by kernel_rfl
theorem ok57 : fnOk Tryz.prog 57 f57 = true := by kernel_rfl
theorem ok58 : fnOk Tryz.prog 58 f58 = true := by kernel_rfl
theorem ok59 : fnOk Tryz.prog 59 f59 = true := by kernel_rfl
theorem ok60 : fnOk Tryz.prog 60 f60 = true := by kernel_rfl
theorem ok79 : fnOk Tryz.prog 79 f79 = true := by kernel_rfl
theorem ok80 : fnOk Tryz.prog 80 f80 = true := by kernel_rfl
theorem ok97 : fnOk Tryz.prog 97 f97 = true := by kernel_rfl
theorem ok98 : fnOk Tryz.prog 98 f98 = true := by kernel_rfl
theorem ok99 : fnOk Tryz.prog 99 f99 = true := by kernel_rfl
theorem ok100 : fnOk Tryz.prog 100 f100 = true := by kernel_rfl
theorem ok101 : fnOk Tryz.prog 101 f101 = true := by kernel_rfl
theorem ok102 : fnOk Tryz.prog 102 f102 = true := by kernel_rfl
theorem ok103 : fnOk Tryz.prog 103 f103 = true := by kernel_rfl
theorem ok104 : fnOk Tryz.prog 104 f104 = true := by kernel_rfl
theorem ok105 : fnOk Tryz.prog 105 f105 = true := by kernel_rfl
theorem ok106 : fnOk Tryz.prog 106 f106 = true := by kernel_rfl
theorem ok107 : fnOk Tryz.prog 107 f107 = true := by kernel_rfl
theorem ok108 : fnOk Tryz.prog 108 f108 = true := by kernel_rfl
theorem ok109 : fnOk Tryz.prog 109 f109 = true := by kernel_rfl
theorem ok110 : fnOk Tryz.prog 110 f110 = true := by kernel_rfl
theorem ok111 : fnOk Tryz.prog 111 f111 = true := by kernel_rfl
theorem ok112 : fnOk Tryz.prog 112 f112 = true := by kernel_rfl
theorem ok113 : fnOk Tryz.prog 113 f113 = true := by kernel_rfl
theorem ok114 : fnOk Tryz.prog 114 f114 = true := by kernel_rfl
theorem ok115 : fnOk Tryz.prog 115 f115 = true := by kernel_rfl
theorem ok116 : fnOk Tryz.prog 116 f116 = true := by kernel_rfl
theorem ok117 : fnOk Tryz.prog 117 f117 = true := by kernel_rfl
theorem ok118 : fnOk Tryz.prog 118 f118 = true := by kernel_rfl
theorem ok119 : fnOk Tryz.prog 119 f119 = true := by kernel_rfl
theorem ok120 : fnOk Tryz.prog 120 f120 = true := by kernel_rfl
theorem ok121 : fnOk Tryz.prog 121 f121 = true := by kernel_rfl
theorem ok122 : fnOk Tryz.prog 122 f122 = true := by kernel_rfl
theorem ok123 : fnOk Tryz.prog 123 f123 = true := by kernel_rfl
theorem ok124 : fnOk Tryz.prog 124 f124 = true := by kernel_rfl
theorem ok125 : fnOk Tryz.prog 125 f125 = true := by kernel_rfl
theorem ok126 : fnOk Tryz.prog 126 f126 = true := by kernel_rfl
theorem ok127 : fnOk Tryz.prog 127 f127 = true := by kernel_rfl
theorem ok128 : fnOk Tryz.prog 128 f128 = true := by kernel_rfl
theorem ok129 : fnOk Tryz.prog 129 f129 = true := by kernel_rfl
theorem ok146 : fnOk Tryz.prog 146 f146 = true := by kernel_rfl
theorem ok150 : fnOk Tryz.prog 150 f150 = true := by kernel_rfl
theorem ok154 : fnOk Tryz.prog 154 f154 = true := by kernel_rfl
theorem ok156 : fnOk Tryz.prog 156 f156 = true := by kernel_rfl
theorem ok157 : fnOk Tryz.prog 157 f157 = true := by kernel_rfl
theorem ok158 : fnOk Tryz.prog 158 f158 = true := by kernel_rfl
theorem ok159 : fnOk Tryz.prog 159 f159 = true := by kernel_rfl
theorem ok160 : fnOk Tryz.prog 160 f160 = true := by kernel_rfl
theorem ok161 : fnOk Tryz.prog 161 f161 = true := by kernel_rfl
theorem ok162 : fnOk Tryz.prog 162 f162 = true := by kernel_rfl
theorem ok163 : fnOk Tryz.prog 163 f163 = true := by kernel_rfl
theorem ok164 : fnOk Tryz.prog 164 f164 = true := by kernel_rfl
theorem ok165 : fnOk Tryz.prog 165 f165 = true := by kernel_rfl
theorem ok166 : fnOk Tryz.prog 166 f166 = true := by kernel_rfl
theorem ok167 : fnOk Tryz.prog 167 f167 = true := by kernel_rfl
theorem ok168 : fnOk Tryz.prog 168 f168 = true := by kernel_rfl
theorem ok170 : fnOk Tryz.prog 170 f170 = true := by kernel_rfl
theorem ok171 : fnOk Tryz.prog 171 f171 = true := by kernel_rfl
theorem ok172 : fnOk Tryz.prog 172 f172 = true := by kernel_rfl
theorem ok173 : fnOk Tryz.prog 173 f173 = true := by kernel_rfl
theorem ok174 : fnOk Tryz.prog 174 f174 = true := by kernel_rfl
theorem ok175 : fnOk Tryz.prog 175 f175 = true := by kernel_rfl
theorem ok177 : fnOk Tryz.prog 177 f177 = true := by kernel_rfl
theorem ok178 : fnOk Tryz.prog 178 f178 = true := by kernel_rfl
theorem ok179 : fnOk Tryz.prog 179 f179 = true := by kernel_rfl
theorem ok180 : fnOk Tryz.prog 180 f180 = true := by kernel_rfl
theorem ok181 : fnOk Tryz.prog 181 f181 = true := by kernel_rfl
theorem ok182 : fnOk Tryz.prog 182 f182 = true := by kernel_rfl
theorem ok183 : fnOk Tryz.prog 183 f183 = true := by kernel_rfl
theorem ok184 : fnOk Tryz.prog 184 f184 = true := by kernel_rfl
theorem ok199 : fnOk Tryz.prog 199 f199 = true := by kernel_rfl
theorem ok200 : fnOk Tryz.prog 200 f200 = true := by kernel_rfl
theorem ok201 : fnOk Tryz.prog 201 f201 = true := by kernel_rfl
theorem ok202 : fnOk Tryz.prog 202 f202 = true := by kernel_rfl
theorem ok203 : fnOk Tryz.prog 203 f203 = true := by kernel_rfl
theorem ok204 : fnOk Tryz.prog 204 f204 = true := by kernel_rfl
theorem ok205 : fnOk Tryz.prog 205 f205 = true := by kernel_rfl
theorem ok209 : fnOk Tryz.prog 209 f209 = true := by kernel_rfl
theorem ok210 : fnOk Tryz.prog 210 f210 = true := by kernel_rfl
theorem ok211 : fnOk Tryz.prog 211 f211 = true := by kernel_rfl
theorem ok212 : fnOk Tryz.prog 212 f212 = true := by kernel_rfl
theorem ok213 : fnOk Tryz.prog 213 f213 = true := by kernel_rfl
theorem ok214 : fnOk Tryz.prog 214 f214 = true := by kernel_rfl
theorem ok215 : fnOk Tryz.prog 215 f215 = true := by kernel_rfl
theorem ok216 : fnOk Tryz.prog 216 f216 = true := by kernel_rfl
theorem ok217 : fnOk Tryz.prog 217 f217 = true := by kernel_rfl
theorem ok218 : fnOk Tryz.prog 218 f218 = true := by kernel_rfl
theorem ok221 : fnOk Tryz.prog 221 f221 = true := by kernel_rfl
theorem ok222 : fnOk Tryz.prog 222 f222 = true := by kernel_rfl
theorem ok223 : fnOk Tryz.prog 223 f223 = true := by kernel_rfl
theorem ok224 : fnOk Tryz.prog 224 f224 = true := by kernel_rfl
theorem ok225 : fnOk Tryz.prog 225 f225 = true := by kernel_rfl
theorem ok226 : fnOk Tryz.prog 226 f226 = true := by kernel_rfl
theorem ok228 : fnOk Tryz.prog 228 f228 = true := by kernel_rfl
theorem ok229 : fnOk Tryz.prog 229 f229 = true := by kernel_rfl
theorem ok230 : fnOk Tryz.prog 230 f230 = true := by kernel_rfl
theorem ok231 : fnOk Tryz.prog 231 f231 = true := by kernel_rfl
theorem ok232 : fnOk Tryz.prog 232 f232 = true := by kernel_rfl
theorem ok233 : fnOk Tryz.prog 233 f233 = true := by kernel_rfl
theorem ok234 : fnOk Tryz.prog 234 f234 = true := by kernel_rfl
theorem ok235 : fnOk Tryz.prog 235 f235 = true := by kernel_rfl
theorem ok236 : fnOk Tryz.prog 236 f236 = true := by kernel_rfl
theorem ok237 : fnOk Tryz.prog 237 f237 = true := by kernel_rfl
theorem ok238 : fnOk Tryz.prog 238 f238 = true := by kernel_rfl
theorem ok240 : fnOk Tryz.prog 240 f240 = true := by kernel_rfl
theorem ok241 : fnOk Tryz.prog 241 f241 = true := by kernel_rfl
theorem ok242 : fnOk Tryz.prog 242 f242 = true := by kernel_rfl
theorem ok243 : fnOk Tryz.prog 243 f243 = true := by kernel_rfl
theorem ok244 : fnOk Tryz.prog 244 f244 = true := by kernel_rfl
theorem ok245 : fnOk Tryz.prog 245 f245 = true := by kernel_rfl
theorem ok246 : fnOk Tryz.prog 246 f246 = true := by kernel_rfl
theorem ok247 : fnOk Tryz.prog 247 f247 = true := by kernel_rfl
theorem ok248 : fnOk Tryz.prog 248 f248 = true := by kernel_rfl
theorem ok249 : fnOk Tryz.prog 249 f249 = true := by kernel_rfl
theorem ok250 : fnOk Tryz.prog 250 f250 = true := by kernel_rfl
theorem ok251 : fnOk Tryz.prog 251 f251 = true := by kernel_rfl
theorem ok252 : fnOk Tryz.prog 252 f252 = true := by kernel_rfl
theorem ok253 : fnOk Tryz.prog 253 f253 = true := by kernel_rfl
theorem ok254 : fnOk Tryz.prog 254 f254 = true := by kernel_rfl
theorem ok255 : fnOk Tryz.prog 255 f255 = true := by kernel_rfl
theorem ok256 : fnOk Tryz.prog 256 f256 = true := by kernel_rfl
theorem ok257 : fnOk Tryz.prog 257 f257 = true := by kernel_rfl
theorem ok258 : fnOk Tryz.prog 258 f258 = true := by kernel_rfl
theorem ok259 : fnOk Tryz.prog 259 f259 = true := by kernel_rfl
theorem ok260 : fnOk Tryz.prog 260 f260 = true := by kernel_rfl

noncomputable def lst : List (Nat × Entry) := [(5, .fn f5), (8, .fn f8), (9, .fn f9), (10, .fn f10), (11, .fn f11), (14, .fn f14), (15, .fn f15), (16, .fn f16), (21, .fn f21), (22, .fn f22), (23, .fn f23), (39, .fn f39), (40, .fn f40), (41, .fn f41), (42, .fn f42), (43, .fn f43), (44, .fn f44), (45, .fn f45), (46, .fn f46), (47, .fn f47), (48, .fn f48), (49, .fn f49), (50, .fn f50), (51, .fn f51), (52, .fn f52), (53, .fn f53), (54, .fn f54), (55, .fn f55), (56, .fn f56), (57, .fn f57), (58, .fn f58), (59, .fn f59), (60, .fn f60), (79, .fn f79), (80, .fn f80), (97, .fn f97), (98, .fn f98), (99, .fn f99), (100, .fn f100), (101, .fn f101), (102, .fn f102), (103, .fn f103), (104, .fn f104), (105, .fn f105), (106, .fn f106), (107, .fn f107), (108, .fn f108), (109, .fn f109), (110, .fn f110), (111, .fn f111), (112, .fn f112), (113, .fn f113), (114, .fn f114), (115, .fn f115), (116, .fn f116), (117, .fn f117), (118, .fn f118), (119, .fn f119), (120, .fn f120), (121, .fn f121), (122, .fn f122), (123, .fn f123), (124, .fn f124), (125, .fn f125), (126, .fn f126), (127, .fn f127), (128, .fn f128), (129, .fn f129), (146, .fn f146), (150, .fn f150), (154, .fn f154), (156, .fn f156), (157, .fn f157), (158, .fn f158), (159, .fn f159), (160, .fn f160), (161, .fn f161), (162, .fn f162), (163, .fn f163), (164, .fn f164), (165, .fn f165), (166, .fn f166), (167, .fn f167), (168, .fn f168), (169, .prim primTaken), (170, .fn f170), (171, .fn f171), (172, .fn f172), (173, .fn f173), (174, .fn f174), (175, .fn f175), (176, .prim primTake), (177, .fn f177), (178, .fn f178), (179, .fn f179), (180, .fn f180), (181, .fn f181), (182, .fn f182), (183, .fn f183), (184, .fn f184), (199, .fn f199), (200, .fn f200), (201, .fn f201), (202, .fn f202), (203, .fn f203), (204, .fn f204), (205, .fn f205), (209, .fn f209), (210, .fn f210), (211, .fn f211), (212, .fn f212), (213, .fn f213), (214, .fn f214), (215, .fn f215), (216, .fn f216), (217, .fn f217), (218, .fn f218), (219, .prim primNumber), (220, .prim primSum), (221, .fn f221), (222, .fn f222), (223, .fn f223), (224, .fn f224), (225, .fn f225), (226, .fn f226), (228, .fn f228), (229, .fn f229), (230, .fn f230), (231, .fn f231), (232, .fn f232), (233, .fn f233), (234, .fn f234), (235, .fn f235), (236, .fn f236), (237, .fn f237), (238, .fn f238), (239, .prim primCrc), (240, .fn f240), (241, .fn f241), (242, .fn f242), (243, .fn f243), (244, .fn f244), (245, .fn f245), (246, .fn f246), (247, .fn f247), (248, .fn f248), (249, .fn f249), (250, .fn f250), (251, .fn f251), (252, .fn f252), (253, .fn f253), (254, .fn f254), (255, .fn f255), (256, .fn f256), (257, .fn f257), (258, .fn f258), (259, .fn f259), (260, .fn f260)]
theorem tab_eq : tab = PT.ofList lst := by rfl
theorem all_ok (G : Nat → Option (List IV)) : AllOk Tryz.prog G lst := (AllOk.cons ok5 (AllOk.cons ok8 (AllOk.cons ok9 (AllOk.cons ok10 (AllOk.cons ok11 (AllOk.cons ok14 (AllOk.cons ok15 (AllOk.cons ok16 (AllOk.cons ok21 (AllOk.cons ok22 (AllOk.cons ok23 (AllOk.cons ok39 (AllOk.cons ok40 (AllOk.cons ok41 (AllOk.cons ok42 (AllOk.cons ok43 (AllOk.cons ok44 (AllOk.cons ok45 (AllOk.cons ok46 (AllOk.cons ok47 (AllOk.cons ok48 (AllOk.cons ok49 (AllOk.cons ok50 (AllOk.cons ok51 (AllOk.cons ok52 (AllOk.cons ok53 (AllOk.cons ok54 (AllOk.cons ok55 (AllOk.cons ok56 (AllOk.cons ok57 (AllOk.cons ok58 (AllOk.cons ok59 (AllOk.cons ok60 (AllOk.cons ok79 (AllOk.cons ok80 (AllOk.cons ok97 (AllOk.cons ok98 (AllOk.cons ok99 (AllOk.cons ok100 (AllOk.cons ok101 (AllOk.cons ok102 (AllOk.cons ok103 (AllOk.cons ok104 (AllOk.cons ok105 (AllOk.cons ok106 (AllOk.cons ok107 (AllOk.cons ok108 (AllOk.cons ok109 (AllOk.cons ok110 (AllOk.cons ok111 (AllOk.cons ok112 (AllOk.cons ok113 (AllOk.cons ok114 (AllOk.cons ok115 (AllOk.cons ok116 (AllOk.cons ok117 (AllOk.cons ok118 (AllOk.cons ok119 (AllOk.cons ok120 (AllOk.cons ok121 (AllOk.cons ok122 (AllOk.cons ok123 (AllOk.cons ok124 (AllOk.cons ok125 (AllOk.cons ok126 (AllOk.cons ok127 (AllOk.cons ok128 (AllOk.cons ok129 (AllOk.cons ok146 (AllOk.cons ok150 (AllOk.cons ok154 (AllOk.cons ok156 (AllOk.cons ok157 (AllOk.cons ok158 (AllOk.cons ok159 (AllOk.cons ok160 (AllOk.cons ok161 (AllOk.cons ok162 (AllOk.cons ok163 (AllOk.cons ok164 (AllOk.cons ok165 (AllOk.cons ok166 (AllOk.cons ok167 (AllOk.cons ok168 (AllOk.consP (pok169 G) (AllOk.cons ok170 (AllOk.cons ok171 (AllOk.cons ok172 (AllOk.cons ok173 (AllOk.cons ok174 (AllOk.cons ok175 (AllOk.consP (pok176 G) (AllOk.cons ok177 (AllOk.cons ok178 (AllOk.cons ok179 (AllOk.cons ok180 (AllOk.cons ok181 (AllOk.cons ok182 (AllOk.cons ok183 (AllOk.cons ok184 (AllOk.cons ok199 (AllOk.cons ok200 (AllOk.cons ok201 (AllOk.cons ok202 (AllOk.cons ok203 (AllOk.cons ok204 (AllOk.cons ok205 (AllOk.cons ok209 (AllOk.cons ok210 (AllOk.cons ok211 (AllOk.cons ok212 (AllOk.cons ok213 (AllOk.cons ok214 (AllOk.cons ok215 (AllOk.cons ok216 (AllOk.cons ok217 (AllOk.cons ok218 (AllOk.consP (pok219 G) (AllOk.consP (pok220 G) (AllOk.cons ok221 (AllOk.cons ok222 (AllOk.cons ok223 (AllOk.cons ok224 (AllOk.cons ok225 (AllOk.cons ok226 (AllOk.cons ok228 (AllOk.cons ok229 (AllOk.cons ok230 (AllOk.cons ok231 (AllOk.cons ok232 (AllOk.cons ok233 (AllOk.cons ok234 (AllOk.cons ok235 (AllOk.cons ok236 (AllOk.cons ok237 (AllOk.cons ok238 (AllOk.consP (pok239 G) (AllOk.cons ok240 (AllOk.cons ok241 (AllOk.cons ok242 (AllOk.cons ok243 (AllOk.cons ok244 (AllOk.cons ok245 (AllOk.cons ok246 (AllOk.cons ok247 (AllOk.cons ok248 (AllOk.cons ok249 (AllOk.cons ok250 (AllOk.cons ok251 (AllOk.cons ok252 (AllOk.cons ok253 (AllOk.cons ok254 (AllOk.cons ok255 (AllOk.cons ok256 (AllOk.cons ok257 (AllOk.cons ok258 (AllOk.cons ok259 (AllOk.cons ok260 AllOk.nil))))))))))))))))))))))))))))))))))))))))))))))))))))))))))))))))))))))))))))))))))))))))))))))))))))))))))))))))))))))))))))))))))))))))))))))))))))))))))))))
theorem kok (G : Nat → Option (List IV)) (d : Nat) : KOk Tryz.prog G (K G d) := table_ok (by kernel_rfl) tab_eq (all_ok G) d
end Go.Proofs.YtlknjgmhfimhbacGreatDoor.D
