/-
  D's functions of this seat, printed by program out of the translation.
-/
import Derived.Test.YtbhmihigfncfgaaDoorRun
set_option maxRecDepth 100000
namespace Go.Proofs.YtbhmihigfncfgaaDoor.D
open Go Go.PM
abbrev om (a b : Nat) : DO := ⟨some a, .mv (.t b), none⟩
abbrev omt (a b c : Nat) : DO := ⟨some a, .mv (.t b), some (c, true)⟩
abbrev omf (a b c : Nat) : DO := ⟨some a, .mv (.t b), some (c, false)⟩
abbrev oo (a : Nat) (o : DOp) : DO := ⟨some a, o, none⟩
abbrev ot (a b : Nat) (o : DOp) : DO := ⟨some a, o, some (b, true)⟩
abbrev of (a b : Nat) (o : DOp) : DO := ⟨some a, o, some (b, false)⟩
abbrev on (o : DOp) : DO := ⟨none, o, none⟩
def f3 : DFn := ⟨1, [.t 2],
 .seq (.reg [oo 1 (.boxL (.t 0)), oo 2 (.mv (.k (.bool false)))]) <|
 .seq (.seq (.reg [oo 3 (.ld 4 true (.t 1)), oo 4 (.call .blind 12 [(.t 3)]), oo 5 (.bin .geq .sc (.t 4) (.k (.int .i64 3000)))]) <|
 .cond (.t 5)
 (.seq (.reg [oo 2 (.mv (.k (.bool true)))]) <|
 .ret)
 (.skip)) <|
 .seq (.drw [oo 6 (.ld 4 true (.t 1)), oo 7 (.call .blind 13 [(.t 6)]), oo 8 (.ld 4 true (.t 1)), oo 9 (.call .blind 14 [(.t 8)]), oo 10 (.bin .eql .bl (.t 7) (.t 9)), om 11 10, ot 12 11 (.call .blind 15 []), oo 13 (.pick (.t 11) (.t 12) (.k (.bool false))), om 2 13] [[], [0], [], [0, 1, 2], [], [], [0, 1, 2, 3], [], []]) <|
 .ret⟩

def l9_4b : DC :=
 .seq (.seq (.reg [om 106 15, om 107 2, oo 108 (.bin .lss .sc (.t 106) (.t 107))]) <|
 .cond (.t 108)
 (.skip)
 (.exit 8)) <|
 .seq (.block 9 <|
 .reg [oo 111 (.fld 4 (.t 14)), oo 112 (.ld 1 false (.t 111)), om 113 15, oo 114 (.build [.int .i64 0, .bool false] [(0, 1, (.t 113))]), oo 115 (.bsl false 2 [.int .i64 0, .bool false] 1 [(0, (.t 114))]), oo 116 (.app 2 16 (.t 112) (.t 115)), oo 117 (.fld 4 (.t 14)), on (.st 1 (.t 117) (.t 116))]) <|
 .reg [om 109 15, oo 110 (.bin .add .sc (.t 109) (.k (.int .i64 1))), om 15 110]
def l9_4 : DC := .loop [0, 1, 2, 3, 9, 13, 14, 15] [9, 14] l9_4b
def l9_3b : DC :=
 .seq (.seq (.reg [om 94 13, om 95 3, oo 96 (.bin .lss .sc (.t 94) (.t 95))]) <|
 .cond (.t 96)
 (.skip)
 (.exit 6)) <|
 .seq (.block 7 <|
 .seq (.reg [om 99 13, oo 100 (.bin .add .sc (.k (.int .i64 97)) (.t 99)), oo 101 (.cvI .u8 (.t 100)), oo 102 (.bsl false 1 [.int .u8 0] 2 [(0, (.k (.int .u8 100))), (1, (.t 101))]), oo 103 (.cvBS (.t 102)), oo 104 (.bsl false 1 [.int .i64 0] 1 [(0, (.k (.int .i64 0)))]), oo 105 (.build [.str [], .int .i64 0, .int .i64 0, .nils, .nils, .nils] [(0, 1, (.t 103)), (2, 1, (.k (.int .i64 1))), (3, 1, (.t 104))]), oo 14 (.alL [.str [], .int .i64 0, .int .i64 0, .nils, .nils, .nils]), on (.st 6 (.t 14) (.t 105))]) <|
 .seq (.seq (.reg [oo 15 (.mv (.k (.int .i64 0)))]) <|
 .block 8 <|
 l9_4) <|
 .reg [oo 118 (.fld 3 (.t 9)), oo 119 (.ld 1 false (.t 118)), oo 120 (.ld 6 true (.t 14)), oo 121 (.bsl false 6 [.str [], .int .i64 0, .int .i64 0, .nils, .nils, .nils] 1 [(0, (.t 120))]), oo 122 (.app 6 104 (.t 119) (.t 121)), oo 123 (.fld 3 (.t 9)), on (.st 1 (.t 123) (.t 122))]) <|
 .reg [om 97 13, oo 98 (.bin .add .sc (.t 97) (.k (.int .i64 1))), om 13 98]
def l9_3 : DC := .loop [0, 1, 2, 3, 9, 13] [9] l9_3b
def l9_2b : DC :=
 .seq (.seq (.reg [om 78 12, om 79 2, oo 80 (.bin .lss .sc (.t 78) (.t 79))]) <|
 .cond (.t 80)
 (.skip)
 (.exit 4)) <|
 .seq (.block 5 <|
 .reg [oo 83 (.fld 1 (.t 9)), oo 84 (.ld 1 false (.t 83)), om 85 12, oo 86 (.bin .add .sc (.k (.int .i64 97)) (.t 85)), oo 87 (.cvI .u8 (.t 86)), oo 88 (.bsl false 1 [.int .u8 0] 2 [(0, (.k (.int .u8 99))), (1, (.t 87))]), oo 89 (.cvBS (.t 88)), oo 90 (.build [.str [], .int .i64 0] [(0, 1, (.t 89))]), oo 91 (.bsl false 2 [.str [], .int .i64 0] 1 [(0, (.t 90))]), oo 92 (.app 2 24 (.t 84) (.t 91)), oo 93 (.fld 1 (.t 9)), on (.st 1 (.t 93) (.t 92))]) <|
 .reg [om 81 12, oo 82 (.bin .add .sc (.t 81) (.k (.int .i64 1))), om 12 82]
def l9_2 : DC := .loop [0, 1, 2, 3, 9, 12] [9] l9_2b
def l9_1b : DC :=
 .seq (.seq (.reg [om 63 11, om 64 1, oo 65 (.bin .lss .sc (.t 63) (.t 64))]) <|
 .cond (.t 65)
 (.skip)
 (.exit 2)) <|
 .seq (.block 3 <|
 .reg [oo 68 (.fld 2 (.t 9)), oo 69 (.ld 1 false (.t 68)), om 70 11, oo 71 (.bin .add .sc (.k (.int .i64 97)) (.t 70)), oo 72 (.cvI .u8 (.t 71)), oo 73 (.bsl false 1 [.int .u8 0] 2 [(0, (.k (.int .u8 98))), (1, (.t 72))]), oo 74 (.cvBS (.t 73)), oo 75 (.bsl false 1 [.str []] 1 [(0, (.t 74))]), oo 76 (.app 1 16 (.t 69) (.t 75)), oo 77 (.fld 2 (.t 9)), on (.st 1 (.t 77) (.t 76))]) <|
 .reg [om 66 11, oo 67 (.bin .add .sc (.t 66) (.k (.int .i64 1))), om 11 67]
def l9_1 : DC := .loop [0, 1, 2, 3, 9, 11] [9] l9_1b
def l9_0b : DC :=
 .seq (.seq (.reg [om 48 10, om 49 0, oo 50 (.bin .lss .sc (.t 48) (.t 49))]) <|
 .cond (.t 50)
 (.skip)
 (.exit 0)) <|
 .seq (.block 1 <|
 .reg [oo 53 (.fld 0 (.t 9)), oo 54 (.ld 1 false (.t 53)), om 55 10, oo 56 (.bin .add .sc (.k (.int .i64 97)) (.t 55)), oo 57 (.cvI .u8 (.t 56)), oo 58 (.bsl false 1 [.int .u8 0] 2 [(0, (.k (.int .u8 97))), (1, (.t 57))]), oo 59 (.cvBS (.t 58)), oo 60 (.bsl false 1 [.str []] 1 [(0, (.t 59))]), oo 61 (.app 1 16 (.t 54) (.t 60)), oo 62 (.fld 0 (.t 9)), on (.st 1 (.t 62) (.t 61))]) <|
 .reg [om 51 10, oo 52 (.bin .add .sc (.t 51) (.k (.int .i64 1))), om 10 52]
def l9_0 : DC := .loop [0, 1, 2, 3, 9, 10] [9] l9_0b
def f9 : DFn := ⟨4, [.t 8],
 .seq (.reg [oo 8 (.mv (.k (.bool false)))]) <|
 .seq (.seq (.reg [om 17 0, oo 18 (.bin .lss .sc (.t 17) (.k (.int .i64 0))), om 19 18, omf 20 0 19, of 21 19 (.bin .gtr .sc (.t 20) (.k (.int .i64 15))), oo 22 (.pick (.t 19) (.k (.bool true)) (.t 21)), om 23 22, omf 24 1 23, of 25 23 (.bin .lss .sc (.t 24) (.k (.int .i64 0))), oo 26 (.pick (.t 23) (.k (.bool true)) (.t 25)), om 27 26, omf 28 1 27, of 29 27 (.bin .gtr .sc (.t 28) (.k (.int .i64 10))), oo 30 (.pick (.t 27) (.k (.bool true)) (.t 29)), om 31 30, omf 32 2 31, of 33 31 (.bin .lss .sc (.t 32) (.k (.int .i64 0))), oo 34 (.pick (.t 31) (.k (.bool true)) (.t 33)), om 35 34, omf 36 2 35, of 37 35 (.bin .gtr .sc (.t 36) (.k (.int .i64 8))), oo 38 (.pick (.t 35) (.k (.bool true)) (.t 37)), om 39 38, omf 40 3 39, of 41 39 (.bin .lss .sc (.t 40) (.k (.int .i64 0))), oo 42 (.pick (.t 39) (.k (.bool true)) (.t 41)), om 43 42, omf 44 3 43, of 45 43 (.bin .gtr .sc (.t 44) (.k (.int .i64 8))), oo 46 (.pick (.t 43) (.k (.bool true)) (.t 45))]) <|
 .cond (.t 46)
 (.seq (.reg [oo 8 (.mv (.k (.bool true)))]) <|
 .ret)
 (.skip)) <|
 .seq (.reg [oo 47 (.build [.nils, .nils, .nils, .nils] []), oo 9 (.alL [.nils, .nils, .nils, .nils]), on (.st 4 (.t 9) (.t 47))]) <|
 .seq (.seq (.reg [oo 10 (.mv (.k (.int .i64 0)))]) <|
 .block 0 <|
 l9_0) <|
 .seq (.seq (.reg [oo 11 (.mv (.k (.int .i64 0)))]) <|
 .block 2 <|
 l9_1) <|
 .seq (.seq (.reg [oo 12 (.mv (.k (.int .i64 0)))]) <|
 .block 4 <|
 l9_2) <|
 .seq (.seq (.reg [oo 13 (.mv (.k (.int .i64 0)))]) <|
 .block 6 <|
 l9_3) <|
 .seq (.reg [om 124 0, oo 125 (.bin .geq .sc (.t 124) (.k (.int .i64 1))), om 126 125, omt 127 0 126, ot 128 126 (.bin .leq .sc (.t 127) (.k (.int .i64 10))), oo 129 (.pick (.t 126) (.t 128) (.k (.bool false))), om 130 129, omt 131 1 130, ot 132 130 (.bin .geq .sc (.t 131) (.k (.int .i64 1))), oo 133 (.pick (.t 130) (.t 132) (.k (.bool false))), om 134 133, omt 135 1 134, ot 136 134 (.bin .leq .sc (.t 135) (.k (.int .i64 6))), oo 137 (.pick (.t 134) (.t 136) (.k (.bool false))), om 138 137, omt 139 2 138, ot 140 138 (.bin .leq .sc (.t 139) (.k (.int .i64 5))), oo 141 (.pick (.t 138) (.t 140) (.k (.bool false))), om 142 141, omt 143 3 142, ot 144 142 (.bin .leq .sc (.t 143) (.k (.int .i64 6))), oo 145 (.pick (.t 142) (.t 144) (.k (.bool false))), om 146 145, omt 147 3 146, ot 148 146 (.bin .eql .sc (.t 147) (.k (.int .i64 0))), omt 149 148 146, omf 150 1 149, of 151 149 (.bin .geq .sc (.t 150) (.k (.int .i64 2))), ot 152 146 (.pick (.t 149) (.k (.bool true)) (.t 151)), oo 153 (.pick (.t 146) (.t 152) (.k (.bool false))), om 16 153]) <|
 .seq (.reg [oo 154 (.ld 4 true (.t 9)), oo 155 (.call .blind 13 [(.t 154)]), om 156 16, oo 157 (.bin .eql .bl (.t 155) (.t 156)), om 158 157, ot 159 158 (.call .blind 15 []), oo 160 (.pick (.t 158) (.t 159) (.k (.bool false))), om 8 160]) <|
 .ret⟩

def l12_3b : DC :=
 .seq (.seq (.reg [om 82 7, oo 83 (.fld 3 (.t 1)), oo 84 (.ld 1 false (.t 83)), oo 85 (.len (.t 84)), oo 86 (.bin .lss .sc (.t 82) (.t 85)), om 87 86, omt 88 3 87, ot 89 87 (.bin .lss .sc (.t 88) (.k (.int .i64 3000))), oo 90 (.pick (.t 87) (.t 89) (.k (.bool false)))]) <|
 .cond (.t 90)
 (.skip)
 (.exit 6)) <|
 .seq (.block 7 <|
 .seq (.reg [oo 93 (.fld 3 (.t 1)), oo 94 (.ld 1 false (.t 93)), om 95 7, oo 96 (.idx 6 (.t 94) (.t 95)), oo 97 (.ld 6 true (.t 96)), oo 8 (.alL [.str [], .int .i64 0, .int .i64 0, .nils, .nils, .nils]), on (.st 6 (.t 8) (.t 97))]) <|
 .reg [om 98 3, oo 99 (.fld 0 (.t 8)), oo 100 (.ld 1 false (.t 99)), oo 101 (.lenS (.t 100)), oo 102 (.bin .add .sc (.t 98) (.t 101)), oo 103 (.fld 3 (.t 8)), oo 104 (.ld 1 false (.t 103)), oo 105 (.len (.t 104)), oo 106 (.bin .add .sc (.t 102) (.t 105)), oo 107 (.fld 4 (.t 8)), oo 108 (.ld 1 false (.t 107)), oo 109 (.len (.t 108)), oo 110 (.bin .add .sc (.t 106) (.t 109)), oo 111 (.fld 5 (.t 8)), oo 112 (.ld 1 false (.t 111)), oo 113 (.len (.t 112)), oo 114 (.bin .add .sc (.t 110) (.t 113)), om 3 114]) <|
 .reg [om 91 7, oo 92 (.bin .add .sc (.t 91) (.k (.int .i64 1))), om 7 92]
def l12_3 : DC := .loop [1, 3, 7] [1] l12_3b
def l12_2b : DC :=
 .seq (.seq (.reg [om 63 6, oo 64 (.fld 2 (.t 1)), oo 65 (.ld 1 false (.t 64)), oo 66 (.len (.t 65)), oo 67 (.bin .lss .sc (.t 63) (.t 66)), om 68 67, omt 69 3 68, ot 70 68 (.bin .lss .sc (.t 69) (.k (.int .i64 3000))), oo 71 (.pick (.t 68) (.t 70) (.k (.bool false)))]) <|
 .cond (.t 71)
 (.skip)
 (.exit 4)) <|
 .seq (.block 5 <|
 .reg [om 74 3, oo 75 (.fld 2 (.t 1)), oo 76 (.ld 1 false (.t 75)), om 77 6, oo 78 (.idx 1 (.t 76) (.t 77)), oo 79 (.ld 1 false (.t 78)), oo 80 (.lenS (.t 79)), oo 81 (.bin .add .sc (.t 74) (.t 80)), om 3 81]) <|
 .reg [om 72 6, oo 73 (.bin .add .sc (.t 72) (.k (.int .i64 1))), om 6 73]
def l12_2 : DC := .loop [1, 3, 6] [1] l12_2b
def l12_1b : DC :=
 .seq (.seq (.reg [om 43 5, oo 44 (.fld 1 (.t 1)), oo 45 (.ld 1 false (.t 44)), oo 46 (.len (.t 45)), oo 47 (.bin .lss .sc (.t 43) (.t 46)), om 48 47, omt 49 3 48, ot 50 48 (.bin .lss .sc (.t 49) (.k (.int .i64 3000))), oo 51 (.pick (.t 48) (.t 50) (.k (.bool false)))]) <|
 .cond (.t 51)
 (.skip)
 (.exit 2)) <|
 .seq (.block 3 <|
 .reg [om 54 3, oo 55 (.fld 1 (.t 1)), oo 56 (.ld 1 false (.t 55)), om 57 5, oo 58 (.idx 2 (.t 56) (.t 57)), oo 59 (.fld 0 (.t 58)), oo 60 (.ld 1 false (.t 59)), oo 61 (.lenS (.t 60)), oo 62 (.bin .add .sc (.t 54) (.t 61)), om 3 62]) <|
 .reg [om 52 5, oo 53 (.bin .add .sc (.t 52) (.k (.int .i64 1))), om 5 53]
def l12_1 : DC := .loop [1, 3, 5] [1] l12_1b
def l12_0b : DC :=
 .seq (.seq (.reg [om 24 4, oo 25 (.fld 0 (.t 1)), oo 26 (.ld 1 false (.t 25)), oo 27 (.len (.t 26)), oo 28 (.bin .lss .sc (.t 24) (.t 27)), om 29 28, omt 30 3 29, ot 31 29 (.bin .lss .sc (.t 30) (.k (.int .i64 3000))), oo 32 (.pick (.t 29) (.t 31) (.k (.bool false)))]) <|
 .cond (.t 32)
 (.skip)
 (.exit 0)) <|
 .seq (.block 1 <|
 .reg [om 35 3, oo 36 (.fld 0 (.t 1)), oo 37 (.ld 1 false (.t 36)), om 38 4, oo 39 (.idx 1 (.t 37) (.t 38)), oo 40 (.ld 1 false (.t 39)), oo 41 (.lenS (.t 40)), oo 42 (.bin .add .sc (.t 35) (.t 41)), om 3 42]) <|
 .reg [om 33 4, oo 34 (.bin .add .sc (.t 33) (.k (.int .i64 1))), om 4 34]
def l12_0 : DC := .loop [1, 3, 4] [1] l12_0b
def f12 : DFn := ⟨1, [.t 2],
 .seq (.reg [oo 1 (.boxL (.t 0)), oo 2 (.mv (.k (.int .i64 0)))]) <|
 .seq (.reg [oo 9 (.fld 0 (.t 1)), oo 10 (.ld 1 false (.t 9)), oo 11 (.len (.t 10)), oo 12 (.fld 1 (.t 1)), oo 13 (.ld 1 false (.t 12)), oo 14 (.len (.t 13)), oo 15 (.bin .add .sc (.t 11) (.t 14)), oo 16 (.fld 2 (.t 1)), oo 17 (.ld 1 false (.t 16)), oo 18 (.len (.t 17)), oo 19 (.bin .add .sc (.t 15) (.t 18)), oo 20 (.fld 3 (.t 1)), oo 21 (.ld 1 false (.t 20)), oo 22 (.len (.t 21)), oo 23 (.bin .add .sc (.t 19) (.t 22)), om 3 23]) <|
 .seq (.seq (.reg [oo 4 (.mv (.k (.int .i64 0)))]) <|
 .block 0 <|
 l12_0) <|
 .seq (.seq (.reg [oo 5 (.mv (.k (.int .i64 0)))]) <|
 .block 2 <|
 l12_1) <|
 .seq (.seq (.reg [oo 6 (.mv (.k (.int .i64 0)))]) <|
 .block 4 <|
 l12_2) <|
 .seq (.seq (.reg [oo 7 (.mv (.k (.int .i64 0)))]) <|
 .block 6 <|
 l12_3) <|
 .seq (.reg [om 115 3, om 2 115]) <|
 .ret⟩

def l13_1b : DC :=
 .seq (.reg [oo 58 (.bin .lss .sc (.t 57) (.t 56))]) <|
 .seq (.cond (.t 58)
 (.skip)
 (.exit 2)) <|
 .seq (.block 3 <|
 .seq (.reg [oo 59 (.idx 6 (.t 55) (.t 57)), oo 60 (.ld 6 true (.t 59)), oo 8 (.alL [.str [], .int .i64 0, .int .i64 0, .nils, .nils, .nils]), on (.st 6 (.t 8) (.t 60))]) <|
 .seq (.reg [om 61 4, oo 62 (.fld 0 (.t 8)), oo 63 (.ld 1 false (.t 62)), oo 64 (.bsl false 1 [.str []] 1 [(0, (.t 63))]), oo 65 (.app 1 16 (.t 61) (.t 64)), om 4 65]) <|
 .seq (.reg [oo 66 (.ld 4 true (.t 1)), oo 67 (.ld 6 true (.t 8)), oo 68 (.call .blind 27 [(.t 66), (.t 67)]), oo 69 (.un .not (.t 68))]) <|
 .cond (.t 69)
 (.seq (.reg [oo 2 (.mv (.k (.bool false)))]) <|
 .ret)
 (.skip)) <|
 .reg [oo 70 (.bin .add .sc (.t 57) (.k (.int .i64 1))), om 57 70]
def l13_1 : DC := .loop [1, 3, 4, 55, 56, 57] [1] l13_1b
def l13_0b : DC :=
 .seq (.reg [oo 37 (.bin .lss .sc (.t 36) (.t 35))]) <|
 .seq (.cond (.t 37)
 (.skip)
 (.exit 0)) <|
 .seq (.block 1 <|
 .seq (.reg [oo 38 (.idx 2 (.t 34) (.t 36)), oo 39 (.ld 2 true (.t 38)), oo 6 (.alL [.str [], .int .i64 0]), on (.st 2 (.t 6) (.t 39))]) <|
 .seq (.reg [om 40 3, oo 41 (.fld 0 (.t 6)), oo 42 (.ld 1 false (.t 41)), oo 43 (.bsl false 1 [.str []] 1 [(0, (.t 42))]), oo 44 (.app 1 16 (.t 40) (.t 43)), om 3 44]) <|
 .seq (.reg [oo 45 (.fld 1 (.t 6)), oo 46 (.ld 1 false (.t 45)), oo 47 (.fld 0 (.t 1)), oo 48 (.ld 1 false (.t 47)), oo 49 (.len (.t 48)), oo 50 (.bin .sub .sc (.t 49) (.k (.int .i64 1))), oo 51 (.call .blind 26 [(.t 46), (.k (.int .i64 0)), (.t 50)]), oo 52 (.un .not (.t 51))]) <|
 .cond (.t 52)
 (.seq (.reg [oo 2 (.mv (.k (.bool false)))]) <|
 .ret)
 (.skip)) <|
 .reg [oo 53 (.bin .add .sc (.t 36) (.k (.int .i64 1))), om 36 53]
def l13_0 : DC := .loop [1, 3, 4, 34, 35, 36] [1] l13_0b
def f13 : DFn := ⟨1, [.t 2],
 .seq (.reg [oo 1 (.boxL (.t 0)), oo 2 (.mv (.k (.bool false)))]) <|
 .seq (.reg [oo 3 (.mv (.k (.nils))), oo 4 (.mv (.k (.nils)))]) <|
 .seq (.seq (.reg [oo 9 (.fld 0 (.t 1)), oo 10 (.ld 1 false (.t 9)), oo 11 (.len (.t 10)), oo 12 (.call .blind 26 [(.t 11), (.k (.int .i64 1)), (.k (.int .i64 10))]), oo 13 (.un .not (.t 12)), om 14 13, of 15 14 (.fld 2 (.t 1)), of 16 14 (.ld 1 false (.t 15)), of 17 14 (.len (.t 16)), of 18 14 (.call .blind 26 [(.t 17), (.k (.int .i64 1)), (.k (.int .i64 6))]), of 19 14 (.un .not (.t 18)), oo 20 (.pick (.t 14) (.k (.bool true)) (.t 19)), om 21 20, of 22 21 (.fld 1 (.t 1)), of 23 21 (.ld 1 false (.t 22)), of 24 21 (.len (.t 23)), of 25 21 (.bin .gtr .sc (.t 24) (.k (.int .i64 5))), oo 26 (.pick (.t 21) (.k (.bool true)) (.t 25)), om 27 26, of 28 27 (.fld 3 (.t 1)), of 29 27 (.ld 1 false (.t 28)), of 30 27 (.len (.t 29)), of 31 27 (.bin .gtr .sc (.t 30) (.k (.int .i64 6))), oo 32 (.pick (.t 27) (.k (.bool true)) (.t 31))]) <|
 .cond (.t 32)
 (.seq (.reg [oo 2 (.mv (.k (.bool false)))]) <|
 .ret)
 (.skip)) <|
 .seq (.seq (.reg [oo 33 (.fld 1 (.t 1)), oo 34 (.ld 1 false (.t 33)), oo 35 (.len (.t 34)), oo 36 (.mv (.k (.int .i64 0)))]) <|
 .block 0 <|
 l13_0) <|
 .seq (.seq (.reg [oo 54 (.fld 3 (.t 1)), oo 55 (.ld 1 false (.t 54)), oo 56 (.len (.t 55)), oo 57 (.mv (.k (.int .i64 0)))]) <|
 .block 2 <|
 l13_1) <|
 .seq (.reg [oo 71 (.fld 0 (.t 1)), oo 72 (.ld 1 false (.t 71)), oo 73 (.call .blind 28 [(.t 72)]), om 74 73, ot 75 74 (.fld 2 (.t 1)), ot 76 74 (.ld 1 false (.t 75)), ot 77 74 (.call .blind 28 [(.t 76)]), oo 78 (.pick (.t 74) (.t 77) (.k (.bool false))), om 79 78, omt 80 3 79, ot 81 79 (.call .blind 28 [(.t 80)]), oo 82 (.pick (.t 79) (.t 81) (.k (.bool false))), om 83 82, omt 84 4 83, ot 85 83 (.call .blind 28 [(.t 84)]), oo 86 (.pick (.t 83) (.t 85) (.k (.bool false))), om 2 86]) <|
 .ret⟩

def l14_2b : DC :=
 .seq (.seq (.reg [om 113 7, oo 114 (.fld 3 (.t 1)), oo 115 (.ld 1 false (.t 114)), oo 116 (.len (.t 115)), oo 117 (.bin .lss .sc (.t 113) (.t 116))]) <|
 .cond (.t 117)
 (.skip)
 (.exit 4)) <|
 .seq (.block 5 <|
 .seq (.drw [oo 120 (.ld 4 true (.t 1)), oo 121 (.fld 3 (.t 1)), oo 122 (.ld 1 false (.t 121)), om 123 7, oo 124 (.idx 6 (.t 122) (.t 123)), oo 125 (.ld 6 true (.t 124)), oo 126 (.call .blind 30 [(.t 120), (.t 125)]), oo 127 (.un .not (.t 126))] [[], [], [], [], [2], [2, 4], [0, 2, 4, 5], []]) <|
 .cond (.t 127)
 (.seq (.reg [oo 2 (.mv (.k (.bool false)))]) <|
 .ret)
 (.skip)) <|
 .reg [om 118 7, oo 119 (.bin .add .sc (.t 118) (.k (.int .i64 1))), om 7 119]
def l14_2 : DC := .loop [1, 7] [1] l14_2b
def l14_1b : DC :=
 .seq (.seq (.reg [om 77 6, oo 78 (.fld 3 (.t 1)), oo 79 (.ld 1 false (.t 78)), oo 80 (.len (.t 79)), oo 81 (.bin .lss .sc (.t 77) (.t 80))]) <|
 .cond (.t 81)
 (.skip)
 (.exit 2)) <|
 .seq (.block 3 <|
 .reg [om 84 4, oo 85 (.fld 3 (.t 1)), oo 86 (.ld 1 false (.t 85)), om 87 6, oo 88 (.idx 6 (.t 86) (.t 87)), oo 89 (.fld 0 (.t 88)), oo 90 (.ld 1 false (.t 89)), oo 91 (.bsl false 1 [.str []] 1 [(0, (.t 90))]), oo 92 (.app 1 16 (.t 84) (.t 91)), om 4 92]) <|
 .reg [om 82 6, oo 83 (.bin .add .sc (.t 82) (.k (.int .i64 1))), om 6 83]
def l14_1 : DC := .loop [1, 3, 4, 6] [1] l14_1b
def l14_0b : DC :=
 .seq (.seq (.reg [om 42 5, oo 43 (.fld 1 (.t 1)), oo 44 (.ld 1 false (.t 43)), oo 45 (.len (.t 44)), oo 46 (.bin .lss .sc (.t 42) (.t 45))]) <|
 .cond (.t 46)
 (.skip)
 (.exit 0)) <|
 .seq (.block 1 <|
 .seq (.reg [om 49 3, oo 50 (.fld 1 (.t 1)), oo 51 (.ld 1 false (.t 50)), om 52 5, oo 53 (.idx 2 (.t 51) (.t 52)), oo 54 (.fld 0 (.t 53)), oo 55 (.ld 1 false (.t 54)), oo 56 (.bsl false 1 [.str []] 1 [(0, (.t 55))]), oo 57 (.app 1 16 (.t 49) (.t 56)), om 3 57]) <|
 .seq (.drw [oo 58 (.fld 1 (.t 1)), oo 59 (.ld 1 false (.t 58)), om 60 5, oo 61 (.idx 2 (.t 59) (.t 60)), oo 62 (.fld 1 (.t 61)), oo 63 (.ld 1 false (.t 62)), oo 64 (.bin .lss .sc (.t 63) (.k (.int .i64 0))), om 65 64, of 66 65 (.fld 1 (.t 1)), of 67 65 (.ld 1 false (.t 66)), omf 68 5 65, of 69 65 (.idx 2 (.t 67) (.t 68)), of 70 65 (.fld 1 (.t 69)), of 71 65 (.ld 1 false (.t 70)), of 72 65 (.fld 0 (.t 1)), of 73 65 (.ld 1 false (.t 72)), of 74 65 (.len (.t 73)), of 75 65 (.bin .geq .sc (.t 71) (.t 74)), oo 76 (.pick (.t 65) (.k (.bool true)) (.t 75))] [[], [], [], [1], [], [1, 3], [], [], [], [1, 3, 5], [], [1, 3, 5, 9], [], [1, 3, 5, 9, 11], [], [1, 3, 5], [], [], []]) <|
 .cond (.t 76)
 (.seq (.reg [oo 2 (.mv (.k (.bool false)))]) <|
 .ret)
 (.skip)) <|
 .reg [om 47 5, oo 48 (.bin .add .sc (.t 47) (.k (.int .i64 1))), om 5 48]
def l14_0 : DC := .loop [1, 3, 4, 5] [1] l14_0b
def f14 : DFn := ⟨1, [.t 2],
 .seq (.reg [oo 1 (.boxL (.t 0)), oo 2 (.mv (.k (.bool false)))]) <|
 .seq (.seq (.reg [oo 8 (.fld 0 (.t 1)), oo 9 (.ld 1 false (.t 8)), oo 10 (.len (.t 9)), oo 11 (.bin .lss .sc (.t 10) (.k (.int .i64 1))), om 12 11, of 13 12 (.fld 0 (.t 1)), of 14 12 (.ld 1 false (.t 13)), of 15 12 (.len (.t 14)), of 16 12 (.bin .gtr .sc (.t 15) (.k (.int .i64 10))), oo 17 (.pick (.t 12) (.k (.bool true)) (.t 16)), om 18 17, of 19 18 (.fld 2 (.t 1)), of 20 18 (.ld 1 false (.t 19)), of 21 18 (.len (.t 20)), of 22 18 (.bin .lss .sc (.t 21) (.k (.int .i64 1))), oo 23 (.pick (.t 18) (.k (.bool true)) (.t 22)), om 24 23, of 25 24 (.fld 2 (.t 1)), of 26 24 (.ld 1 false (.t 25)), of 27 24 (.len (.t 26)), of 28 24 (.bin .gtr .sc (.t 27) (.k (.int .i64 6))), oo 29 (.pick (.t 24) (.k (.bool true)) (.t 28)), om 30 29, of 31 30 (.fld 1 (.t 1)), of 32 30 (.ld 1 false (.t 31)), of 33 30 (.len (.t 32)), of 34 30 (.bin .gtr .sc (.t 33) (.k (.int .i64 5))), oo 35 (.pick (.t 30) (.k (.bool true)) (.t 34)), om 36 35, of 37 36 (.fld 3 (.t 1)), of 38 36 (.ld 1 false (.t 37)), of 39 36 (.len (.t 38)), of 40 36 (.bin .gtr .sc (.t 39) (.k (.int .i64 6))), oo 41 (.pick (.t 36) (.k (.bool true)) (.t 40))]) <|
 .cond (.t 41)
 (.seq (.reg [oo 2 (.mv (.k (.bool false)))]) <|
 .ret)
 (.skip)) <|
 .seq (.reg [oo 3 (.mv (.k (.nils))), oo 4 (.mv (.k (.nils)))]) <|
 .seq (.seq (.reg [oo 5 (.mv (.k (.int .i64 0)))]) <|
 .block 0 <|
 l14_0) <|
 .seq (.seq (.reg [oo 6 (.mv (.k (.int .i64 0)))]) <|
 .block 2 <|
 l14_1) <|
 .seq (.seq (.reg [oo 93 (.fld 0 (.t 1)), oo 94 (.ld 1 false (.t 93)), oo 95 (.call .blind 29 [(.t 94)]), oo 96 (.un .not (.t 95)), om 97 96, of 98 97 (.fld 2 (.t 1)), of 99 97 (.ld 1 false (.t 98)), of 100 97 (.call .blind 29 [(.t 99)]), of 101 97 (.un .not (.t 100)), oo 102 (.pick (.t 97) (.k (.bool true)) (.t 101)), om 103 102, omf 104 3 103, of 105 103 (.call .blind 29 [(.t 104)]), of 106 103 (.un .not (.t 105)), oo 107 (.pick (.t 103) (.k (.bool true)) (.t 106)), om 108 107, omf 109 4 108, of 110 108 (.call .blind 29 [(.t 109)]), of 111 108 (.un .not (.t 110)), oo 112 (.pick (.t 108) (.k (.bool true)) (.t 111))]) <|
 .cond (.t 112)
 (.seq (.reg [oo 2 (.mv (.k (.bool false)))]) <|
 .ret)
 (.skip)) <|
 .seq (.seq (.reg [oo 7 (.mv (.k (.int .i64 0)))]) <|
 .block 4 <|
 l14_2) <|
 .seq (.reg [oo 2 (.mv (.k (.bool true)))]) <|
 .ret⟩

def f15 : DFn := ⟨0, [.t 0],
 .seq (.reg [oo 0 (.mv (.k (.bool false)))]) <|
 .seq (.reg [oo 3 (.bsl false 1 [.int .i64 0] 2 [(0, (.k (.int .i64 0))), (1, (.k (.int .i64 1)))]), oo 4 (.bsl false 1 [.int .i64 0] 2 [(0, (.k (.int .i64 1))), (1, (.k (.int .i64 2)))]), oo 5 (.call .blind 17 [(.t 3), (.t 4)]), oo 6 (.bsl false 1 [.int .i64 0] 1 [(0, (.k (.int .i64 0)))]), oo 7 (.bsl false 1 [.int .i64 0] 1 [(0, (.k (.int .i64 1)))]), oo 8 (.call .blind 17 [(.t 6), (.t 7)]), oo 1 (.alL [.nils, .nils, .nils, .nils]), oo 2 (.alL [.nils, .nils, .nils, .nils]), on (.st 4 (.t 1) (.t 5)), on (.st 4 (.t 2) (.t 8))]) <|
 .seq (.reg [oo 9 (.ld 4 true (.t 1)), oo 10 (.call .blind 13 [(.t 9)]), om 11 10, ot 12 11 (.ld 4 true (.t 2)), ot 13 11 (.call .blind 13 [(.t 12)]), oo 14 (.pick (.t 11) (.t 13) (.k (.bool false))), om 15 14, ot 16 15 (.ld 4 true (.t 1)), ot 17 15 (.call .blind 18 [(.t 16), (.k (.int .i64 0)), (.k (.int .i64 1))]), oo 18 (.pick (.t 15) (.t 17) (.k (.bool false))), om 19 18, ot 20 19 (.ld 4 true (.t 2)), ot 21 19 (.call .blind 18 [(.t 20), (.k (.int .i64 0)), (.k (.int .i64 1))]), ot 22 19 (.un .not (.t 21)), oo 23 (.pick (.t 19) (.t 22) (.k (.bool false))), om 0 23]) <|
 .ret⟩

def l16_0b : DC :=
 .seq (.seq (.reg [om 6 5, om 7 0, oo 8 (.len (.t 7)), oo 9 (.bin .lss .sc (.t 6) (.t 8))]) <|
 .cond (.t 9)
 (.skip)
 (.exit 0)) <|
 .seq (.block 1 <|
 .seq (.reg [om 12 0, om 13 5, oo 14 (.idx 1 (.t 12) (.t 13)), oo 15 (.ld 1 false (.t 14)), om 16 1, oo 17 (.bin .eql .sc (.t 15) (.t 16))]) <|
 .cond (.t 17)
 (.seq (.reg [oo 4 (.mv (.k (.bool true)))]) <|
 .ret)
 (.skip)) <|
 .reg [om 10 5, oo 11 (.bin .add .sc (.t 10) (.k (.int .i64 1))), om 5 11]
def l16_0 : DC := .loop [0, 1, 5] [] l16_0b
def f16 : DFn := ⟨2, [.t 4],
 .seq (.reg [oo 4 (.mv (.k (.bool false)))]) <|
 .seq (.seq (.reg [oo 5 (.mv (.k (.int .i64 0)))]) <|
 .block 0 <|
 l16_0) <|
 .seq (.reg [oo 4 (.mv (.k (.bool false)))]) <|
 .ret⟩

def f17 : DFn := ⟨2, [.cell 4 4 true],
 .seq (.reg [oo 4 (.alL [.nils, .nils, .nils, .nils])]) <|
 .seq (.reg [oo 5 (.bsl true 1 [.str []] 4 [(0, (.k (.str [97]))), (1, (.k (.str [98]))), (2, (.k (.str [99]))), (3, (.k (.str [100])))]), oo 6 (.bsl true 1 [.str []] 3 [(0, (.k (.str [115]))), (1, (.k (.str [116]))), (2, (.k (.str [117])))]), om 7 0, oo 8 (.build [.str [], .int .i64 0, .int .i64 0, .nils, .nils, .nils] [(0, 1, (.k (.str [114]))), (1, 1, (.k (.int .i64 0))), (2, 1, (.k (.int .i64 2))), (3, 1, (.t 7))]), om 9 1, oo 10 (.build [.str [], .int .i64 0, .int .i64 0, .nils, .nils, .nils] [(0, 1, (.k (.str [113]))), (1, 1, (.k (.int .i64 1))), (2, 1, (.k (.int .i64 2))), (3, 1, (.t 9))]), oo 11 (.bsl true 6 [.str [], .int .i64 0, .int .i64 0, .nils, .nils, .nils] 2 [(0, (.t 8)), (1, (.t 10))]), oo 12 (.build [.nils, .nils, .nils, .nils] [(0, 1, (.t 5)), (2, 1, (.t 6)), (3, 1, (.t 11))]), on (.st 4 (.t 4) (.t 12))]) <|
 .ret⟩

def f18 : DFn := ⟨3, [.t 6],
 .seq (.reg [oo 3 (.boxH (.t 0)), oo 5 (.boxH (.t 2)), oo 6 (.mv (.k (.bool false)))]) <|
 .seq (.drw [oo 11 (.fld 3 (.t 3)), oo 12 (.ld 1 false (.t 11)), om 13 1, oo 14 (.idx 6 (.t 12) (.t 13)), oo 15 (.ld 6 true (.t 14)), oo 16 (.fld 3 (.t 3)), oo 17 (.ld 1 false (.t 16)), oo 18 (.ld 1 false (.t 5)), oo 19 (.idx 6 (.t 17) (.t 18)), oo 20 (.ld 6 true (.t 19)), oo 7 (.alL [.str [], .int .i64 0, .int .i64 0, .nils, .nils, .nils]), oo 8 (.alH [.str [], .int .i64 0, .int .i64 0, .nils, .nils, .nils]), on (.st 6 (.t 7) (.t 15)), on (.st 6 (.t 8) (.t 20))] [[], [], [], [1], [1, 3], [], [], [], [6, 7], [6, 7, 8], [], [], [1, 3, 4, 10, 11], [1, 3, 4, 6, 7, 8, 9, 10, 11, 12]]) <|
 .seq (.reg [oo 21 (.fld 3 (.t 7)), oo 22 (.ld 1 false (.t 21)), oo 23 (.mkF 32 [(.t 8)]), oo 24 (.call .ro 31 [(.t 22), (.t 23)]), om 9 24]) <|
 .seq (.reg [oo 25 (.ld 4 true (.t 3)), om 26 1, oo 27 (.call .blind 19 [(.t 25), (.t 26)]), oo 28 (.mkF 35 [(.t 3), (.t 5)]), oo 29 (.call .ro 34 [(.t 27), (.t 28)]), om 10 29]) <|
 .seq (.reg [om 30 1, oo 31 (.ld 1 false (.t 5)), oo 32 (.bin .eql .sc (.t 30) (.t 31)), om 33 32, of 34 33 (.fld 1 (.t 7)), of 35 33 (.ld 1 false (.t 34)), of 36 33 (.fld 1 (.t 8)), of 37 33 (.ld 1 false (.t 36)), of 38 33 (.bin .eql .sc (.t 35) (.t 37)), oo 39 (.pick (.t 33) (.k (.bool true)) (.t 38)), om 40 39, omf 41 9 40, oo 42 (.pick (.t 40) (.k (.bool true)) (.t 41)), om 43 42, omf 44 10 43, oo 45 (.pick (.t 43) (.k (.bool true)) (.t 44)), om 6 45]) <|
 .ret⟩

def f19 : DFn := ⟨2, [.t 4],
 .seq (.reg [oo 2 (.boxL (.t 0)), oo 4 (.mv (.k (.nils)))]) <|
 .seq (.drw [oo 5 (.fld 3 (.t 2)), oo 6 (.ld 1 false (.t 5)), om 7 1, oo 8 (.idx 6 (.t 6) (.t 7)), oo 9 (.fld 4 (.t 8)), oo 10 (.ld 1 false (.t 9)), oo 11 (.fld 3 (.t 2)), oo 12 (.ld 1 false (.t 11)), om 13 1, oo 14 (.idx 6 (.t 12) (.t 13)), oo 15 (.fld 5 (.t 14)), oo 16 (.ld 1 false (.t 15)), oo 17 (.bsl false 1 [.nils] 2 [(0, (.t 10)), (1, (.t 16))]), oo 18 (.call .blind 37 [(.t 17)]), om 4 18] [[], [], [], [1], [], [1, 3], [], [], [], [7], [], [7, 9], [1, 3, 5, 7, 9, 11], [1, 3, 5, 7, 9, 11, 12], []]) <|
 .ret⟩

def f26 : DFn := ⟨3, [.t 6],
 .seq (.reg [oo 6 (.mv (.k (.bool false)))]) <|
 .seq (.reg [om 7 0, om 8 1, oo 9 (.bin .geq .sc (.t 7) (.t 8)), om 10 9, omt 11 0 10, omt 12 2 10, ot 13 10 (.bin .leq .sc (.t 11) (.t 12)), oo 14 (.pick (.t 10) (.t 13) (.k (.bool false))), om 6 14]) <|
 .ret⟩

def l27_0b : DC :=
 .seq (.reg [oo 61 (.bin .lss .sc (.t 60) (.t 59))]) <|
 .seq (.cond (.t 61)
 (.skip)
 (.exit 0)) <|
 .seq (.block 1 <|
 .seq (.reg [oo 62 (.idx 2 (.t 58) (.t 60)), oo 63 (.ld 2 true (.t 62)), oo 8 (.alL [.str [], .int .i64 0]), on (.st 2 (.t 8) (.t 63))]) <|
 .seq (.reg [oo 64 (.fld 3 (.t 3)), oo 65 (.ld 1 false (.t 64)), oo 66 (.fld 1 (.t 8)), oo 67 (.ld 1 false (.t 66)), oo 68 (.call .blind 33 [(.t 65), (.t 67)])]) <|
 .cond (.t 68)
 (.reg [om 69 6, oo 70 (.bin .add .sc (.t 69) (.k (.int .i64 1))), om 6 70])
 (.skip)) <|
 .reg [oo 71 (.bin .add .sc (.t 60) (.k (.int .i64 1))), om 60 71]
def l27_0 : DC := .loop [3, 6, 58, 59, 60] [3] l27_0b
def f27 : DFn := ⟨2, [.t 4],
 .seq (.reg [oo 2 (.boxL (.t 0)), oo 3 (.boxL (.t 1)), oo 4 (.mv (.k (.bool false)))]) <|
 .seq (.reg [oo 9 (.fld 2 (.t 2)), oo 10 (.ld 1 false (.t 9)), oo 11 (.len (.t 10)), oo 12 (.bin .sub .sc (.t 11) (.k (.int .i64 1))), om 5 12]) <|
 .seq (.seq (.reg [oo 13 (.fld 1 (.t 3)), oo 14 (.ld 1 false (.t 13)), om 15 5, oo 16 (.call .blind 26 [(.t 14), (.k (.int .i64 0)), (.t 15)]), oo 17 (.un .not (.t 16)), om 18 17, of 19 18 (.fld 2 (.t 3)), of 20 18 (.ld 1 false (.t 19)), omf 21 5 18, of 22 18 (.call .blind 26 [(.t 20), (.k (.int .i64 0)), (.t 21)]), of 23 18 (.un .not (.t 22)), oo 24 (.pick (.t 18) (.k (.bool true)) (.t 23)), om 25 24, of 26 25 (.fld 1 (.t 3)), of 27 25 (.ld 1 false (.t 26)), of 28 25 (.fld 2 (.t 3)), of 29 25 (.ld 1 false (.t 28)), of 30 25 (.bin .eql .sc (.t 27) (.t 29)), oo 31 (.pick (.t 25) (.k (.bool true)) (.t 30)), om 32 31, of 33 32 (.ld 4 true (.t 2)), of 34 32 (.fld 3 (.t 3)), of 35 32 (.ld 1 false (.t 34)), of 36 32 (.call .blind 40 [(.t 33), (.t 35)]), of 37 32 (.un .not (.t 36)), oo 38 (.pick (.t 32) (.k (.bool true)) (.t 37)), om 39 38, of 40 39 (.ld 4 true (.t 2)), of 41 39 (.fld 4 (.t 3)), of 42 39 (.ld 1 false (.t 41)), of 43 39 (.fld 3 (.t 3)), of 44 39 (.ld 1 false (.t 43)), of 45 39 (.call .blind 41 [(.t 40), (.t 42), (.t 44), (.k (.bool true))]), of 46 39 (.un .not (.t 45)), oo 47 (.pick (.t 39) (.k (.bool true)) (.t 46)), om 48 47, of 49 48 (.ld 4 true (.t 2)), of 50 48 (.fld 5 (.t 3)), of 51 48 (.ld 1 false (.t 50)), of 52 48 (.fld 3 (.t 3)), of 53 48 (.ld 1 false (.t 52)), of 54 48 (.call .blind 41 [(.t 49), (.t 51), (.t 53), (.k (.bool false))]), of 55 48 (.un .not (.t 54)), oo 56 (.pick (.t 48) (.k (.bool true)) (.t 55))]) <|
 .cond (.t 56)
 (.seq (.reg [oo 4 (.mv (.k (.bool false)))]) <|
 .ret)
 (.skip)) <|
 .seq (.reg [oo 6 (.mv (.k (.int .i64 0)))]) <|
 .seq (.seq (.reg [oo 57 (.fld 1 (.t 2)), oo 58 (.ld 1 false (.t 57)), oo 59 (.len (.t 58)), oo 60 (.mv (.k (.int .i64 0)))]) <|
 .block 0 <|
 l27_0) <|
 .seq (.reg [om 72 6, oo 73 (.fld 4 (.t 3)), oo 74 (.ld 1 false (.t 73)), oo 75 (.len (.t 74)), oo 76 (.bin .eql .sc (.t 72) (.t 75)), om 4 76]) <|
 .ret⟩

def l28_0b : DC :=
 .seq (.reg [oo 8 (.bin .lss .sc (.t 7) (.t 6))]) <|
 .seq (.cond (.t 8)
 (.skip)
 (.exit 0)) <|
 .seq (.block 1 <|
 .seq (.reg [om 9 7, oo 10 (.idx 1 (.t 5) (.t 7)), oo 11 (.ld 1 false (.t 10)), om 3 9, om 4 11]) <|
 .seq (.reg [om 12 4, oo 13 (.call .blind 42 [(.t 12)]), oo 14 (.un .not (.t 13)), om 15 14, omf 16 4 15, of 17 15 (.bin .eql .sc (.t 16) (.k (.str [115, 101, 116]))), oo 18 (.pick (.t 15) (.k (.bool true)) (.t 17)), om 19 18, omf 20 4 19, of 21 19 (.bin .eql .sc (.t 20) (.k (.str [102, 108, 97, 110, 107]))), oo 22 (.pick (.t 19) (.k (.bool true)) (.t 21)), om 23 22, omf 24 0 23, omf 25 3 23, of 26 23 (.slc 1 (.t 24) none (some (.t 25)) none), omf 27 4 23, of 28 23 (.call .blind 43 [(.t 26), (.t 27)]), oo 29 (.pick (.t 23) (.k (.bool true)) (.t 28))]) <|
 .cond (.t 29)
 (.seq (.reg [oo 2 (.mv (.k (.bool false)))]) <|
 .ret)
 (.skip)) <|
 .reg [oo 30 (.bin .add .sc (.t 7) (.k (.int .i64 1))), om 7 30]
def l28_0 : DC := .loop [0, 5, 6, 7] [] l28_0b
def f28 : DFn := ⟨1, [.t 2],
 .seq (.reg [oo 2 (.mv (.k (.bool false)))]) <|
 .seq (.seq (.reg [om 5 0, oo 6 (.len (.t 5)), oo 7 (.mv (.k (.int .i64 0)))]) <|
 .block 0 <|
 l28_0) <|
 .seq (.reg [oo 2 (.mv (.k (.bool true)))]) <|
 .ret⟩

def l29_1b : DC :=
 .seq (.seq (.reg [om 17 4, om 18 3, oo 19 (.bin .lss .sc (.t 17) (.t 18))]) <|
 .cond (.t 19)
 (.skip)
 (.exit 2)) <|
 .seq (.block 3 <|
 .seq (.drw [om 22 0, om 23 4, oo 24 (.idx 1 (.t 22) (.t 23)), oo 25 (.ld 1 false (.t 24)), om 26 0, om 27 3, oo 28 (.idx 1 (.t 26) (.t 27)), oo 29 (.ld 1 false (.t 28)), oo 30 (.bin .eql .sc (.t 25) (.t 29))] [[], [], [], [2], [], [], [], [6], []]) <|
 .cond (.t 30)
 (.seq (.reg [oo 2 (.mv (.k (.bool false)))]) <|
 .ret)
 (.skip)) <|
 .reg [om 20 4, oo 21 (.bin .add .sc (.t 20) (.k (.int .i64 1))), om 4 21]
def l29_1 : DC := .loop [0, 3, 4] [] l29_1b
def l29_0b : DC :=
 .seq (.seq (.reg [om 5 3, om 6 0, oo 7 (.len (.t 6)), oo 8 (.bin .lss .sc (.t 5) (.t 7))]) <|
 .cond (.t 8)
 (.skip)
 (.exit 0)) <|
 .seq (.block 1 <|
 .seq (.seq (.reg [om 11 0, om 12 3, oo 13 (.idx 1 (.t 11) (.t 12)), oo 14 (.ld 1 false (.t 13)), oo 15 (.call .blind 44 [(.t 14)]), oo 16 (.un .not (.t 15))]) <|
 .cond (.t 16)
 (.seq (.reg [oo 2 (.mv (.k (.bool false)))]) <|
 .ret)
 (.skip)) <|
 .seq (.reg [oo 4 (.mv (.k (.int .i64 0)))]) <|
 .block 2 <|
 l29_1) <|
 .reg [om 9 3, oo 10 (.bin .add .sc (.t 9) (.k (.int .i64 1))), om 3 10]
def l29_0 : DC := .loop [0, 3] [] l29_0b
def f29 : DFn := ⟨1, [.t 2],
 .seq (.reg [oo 2 (.mv (.k (.bool false)))]) <|
 .seq (.seq (.reg [oo 3 (.mv (.k (.int .i64 0)))]) <|
 .block 0 <|
 l29_0) <|
 .seq (.reg [oo 2 (.mv (.k (.bool true)))]) <|
 .ret⟩

def l30_1b : DC :=
 .seq (.seq (.reg [om 87 7, oo 88 (.fld 1 (.t 2)), oo 89 (.ld 1 false (.t 88)), oo 90 (.len (.t 89)), oo 91 (.bin .lss .sc (.t 87) (.t 90))]) <|
 .cond (.t 91)
 (.skip)
 (.exit 2)) <|
 .seq (.block 3 <|
 .seq (.drw [oo 94 (.fld 3 (.t 3)), oo 95 (.ld 1 false (.t 94)), oo 96 (.fld 1 (.t 2)), oo 97 (.ld 1 false (.t 96)), om 98 7, oo 99 (.idx 2 (.t 97) (.t 98)), oo 100 (.fld 1 (.t 99)), oo 101 (.ld 1 false (.t 100)), oo 102 (.call .blind 16 [(.t 95), (.t 101)])] [[], [], [], [], [], [3], [], [3, 5], [1, 3, 5, 7]]) <|
 .cond (.t 102)
 (.reg [om 103 6, oo 104 (.bin .add .sc (.t 103) (.k (.int .i64 1))), om 6 104])
 (.skip)) <|
 .reg [om 92 7, oo 93 (.bin .add .sc (.t 92) (.k (.int .i64 1))), om 7 93]
def l30_1 : DC := .loop [2, 3, 6, 7] [2, 3] l30_1b
def l30_0b : DC :=
 .seq (.seq (.reg [om 51 5, oo 52 (.fld 3 (.t 3)), oo 53 (.ld 1 false (.t 52)), oo 54 (.len (.t 53)), oo 55 (.bin .lss .sc (.t 51) (.t 54))]) <|
 .cond (.t 55)
 (.skip)
 (.exit 0)) <|
 .seq (.block 1 <|
 .seq (.drw [oo 58 (.fld 3 (.t 3)), oo 59 (.ld 1 false (.t 58)), om 60 5, oo 61 (.idx 1 (.t 59) (.t 60)), oo 62 (.ld 1 false (.t 61)), oo 63 (.bin .lss .sc (.t 62) (.k (.int .i64 0))), om 64 63, of 65 64 (.fld 3 (.t 3)), of 66 64 (.ld 1 false (.t 65)), omf 67 5 64, of 68 64 (.idx 1 (.t 66) (.t 67)), of 69 64 (.ld 1 false (.t 68)), of 70 64 (.fld 0 (.t 2)), of 71 64 (.ld 1 false (.t 70)), of 72 64 (.len (.t 71)), of 73 64 (.bin .geq .sc (.t 69) (.t 72)), oo 74 (.pick (.t 64) (.k (.bool true)) (.t 73)), om 75 74, of 76 75 (.fld 3 (.t 3)), of 77 75 (.ld 1 false (.t 76)), omf 78 5 75, of 79 75 (.slc 1 (.t 77) none (some (.t 78)) none), of 80 75 (.fld 3 (.t 3)), of 81 75 (.ld 1 false (.t 80)), omf 82 5 75, of 83 75 (.idx 1 (.t 81) (.t 82)), of 84 75 (.ld 1 false (.t 83)), of 85 75 (.call .blind 16 [(.t 79), (.t 84)]), oo 86 (.pick (.t 75) (.k (.bool true)) (.t 85))] [[], [], [], [1], [1, 3], [], [], [], [1, 3, 4], [], [1, 3, 4, 8], [1, 3, 4, 8, 10], [], [1, 3, 4], [], [], [], [], [], [1, 3, 4, 8, 10, 11, 13], [], [], [], [1, 3, 4, 8, 10, 11, 13], [], [1, 3, 4, 8, 10, 11, 13, 23], [1, 3, 4, 8, 10, 11, 13, 23, 25], [1, 3, 4, 8, 10, 11, 13, 19, 23, 25, 26], []]) <|
 .cond (.t 86)
 (.seq (.reg [oo 4 (.mv (.k (.bool false)))]) <|
 .ret)
 (.skip)) <|
 .reg [om 56 5, oo 57 (.bin .add .sc (.t 56) (.k (.int .i64 1))), om 5 57]
def l30_0 : DC := .loop [2, 3, 5] [2, 3] l30_0b
def f30 : DFn := ⟨2, [.t 4],
 .seq (.reg [oo 2 (.boxL (.t 0)), oo 3 (.boxL (.t 1)), oo 4 (.mv (.k (.bool false)))]) <|
 .seq (.seq (.reg [oo 8 (.fld 1 (.t 3)), oo 9 (.ld 1 false (.t 8)), oo 10 (.bin .lss .sc (.t 9) (.k (.int .i64 0))), om 11 10, of 12 11 (.fld 1 (.t 3)), of 13 11 (.ld 1 false (.t 12)), of 14 11 (.fld 2 (.t 2)), of 15 11 (.ld 1 false (.t 14)), of 16 11 (.len (.t 15)), of 17 11 (.bin .geq .sc (.t 13) (.t 16)), oo 18 (.pick (.t 11) (.k (.bool true)) (.t 17)), om 19 18, of 20 19 (.fld 2 (.t 3)), of 21 19 (.ld 1 false (.t 20)), of 22 19 (.bin .lss .sc (.t 21) (.k (.int .i64 0))), oo 23 (.pick (.t 19) (.k (.bool true)) (.t 22)), om 24 23, of 25 24 (.fld 2 (.t 3)), of 26 24 (.ld 1 false (.t 25)), of 27 24 (.fld 2 (.t 2)), of 28 24 (.ld 1 false (.t 27)), of 29 24 (.len (.t 28)), of 30 24 (.bin .geq .sc (.t 26) (.t 29)), oo 31 (.pick (.t 24) (.k (.bool true)) (.t 30)), om 32 31, of 33 32 (.fld 1 (.t 3)), of 34 32 (.ld 1 false (.t 33)), of 35 32 (.fld 2 (.t 3)), of 36 32 (.ld 1 false (.t 35)), of 37 32 (.bin .eql .sc (.t 34) (.t 36)), oo 38 (.pick (.t 32) (.k (.bool true)) (.t 37)), om 39 38, of 40 39 (.fld 3 (.t 3)), of 41 39 (.ld 1 false (.t 40)), of 42 39 (.len (.t 41)), of 43 39 (.bin .lss .sc (.t 42) (.k (.int .i64 1))), oo 44 (.pick (.t 39) (.k (.bool true)) (.t 43)), om 45 44, of 46 45 (.fld 3 (.t 3)), of 47 45 (.ld 1 false (.t 46)), of 48 45 (.len (.t 47)), of 49 45 (.bin .gtr .sc (.t 48) (.k (.int .i64 5))), oo 50 (.pick (.t 45) (.k (.bool true)) (.t 49))]) <|
 .cond (.t 50)
 (.seq (.reg [oo 4 (.mv (.k (.bool false)))]) <|
 .ret)
 (.skip)) <|
 .seq (.seq (.reg [oo 5 (.mv (.k (.int .i64 0)))]) <|
 .block 0 <|
 l30_0) <|
 .seq (.reg [oo 6 (.mv (.k (.int .i64 0)))]) <|
 .seq (.seq (.reg [oo 7 (.mv (.k (.int .i64 0)))]) <|
 .block 2 <|
 l30_1) <|
 .seq (.reg [oo 105 (.fld 4 (.t 3)), oo 106 (.ld 1 false (.t 105)), oo 107 (.len (.t 106)), om 108 6, oo 109 (.bin .eql .sc (.t 107) (.t 108)), om 110 109, ot 111 110 (.ld 4 true (.t 2)), ot 112 110 (.fld 4 (.t 3)), ot 113 110 (.ld 1 false (.t 112)), ot 114 110 (.fld 3 (.t 3)), ot 115 110 (.ld 1 false (.t 114)), ot 116 110 (.call .blind 45 [(.t 111), (.t 113), (.t 115), (.k (.bool true))]), oo 117 (.pick (.t 110) (.t 116) (.k (.bool false))), om 118 117, ot 119 118 (.ld 4 true (.t 2)), ot 120 118 (.fld 5 (.t 3)), ot 121 118 (.ld 1 false (.t 120)), ot 122 118 (.fld 3 (.t 3)), ot 123 118 (.ld 1 false (.t 122)), ot 124 118 (.call .blind 45 [(.t 119), (.t 121), (.t 123), (.k (.bool false))]), oo 125 (.pick (.t 118) (.t 124) (.k (.bool false))), om 4 125]) <|
 .ret⟩

def f31 : DFn := ⟨2, [.t 4],
 .seq (.reg [oo 4 (.mv (.k (.bool false)))]) <|
 .seq (.reg [om 5 0, om 6 1, oo 7 (.call .ro 46 [(.t 5), (.t 6)]), oo 8 (.bin .geq .sc (.t 7) (.k (.int .i64 0))), om 4 8]) <|
 .ret⟩

def f32 : DFn := ⟨2, [.t 3],
 .seq (.reg [oo 3 (.mv (.k (.bool false)))]) <|
 .seq (.reg [oo 4 (.fld 3 (.t 1)), oo 5 (.ld 1 false (.t 4)), om 6 0, oo 7 (.call .blind 33 [(.t 5), (.t 6)]), om 3 7]) <|
 .ret⟩

def f33 : DFn := ⟨2, [.t 4],
 .seq (.reg [oo 4 (.mv (.k (.bool false)))]) <|
 .seq (.reg [om 5 0, om 6 1, oo 7 (.call .blind 47 [(.t 5), (.t 6)]), oo 8 (.bin .geq .sc (.t 7) (.k (.int .i64 0))), om 4 8]) <|
 .ret⟩

def f34 : DFn := ⟨2, [.t 4],
 .seq (.reg [oo 4 (.mv (.k (.bool false)))]) <|
 .seq (.reg [om 5 0, om 6 1, oo 7 (.call .ro 48 [(.t 5), (.t 6)]), oo 8 (.bin .geq .sc (.t 7) (.k (.int .i64 0))), om 4 8]) <|
 .ret⟩

def f35 : DFn := ⟨3, [.t 4],
 .seq (.reg [oo 3 (.boxL (.t 0)), oo 4 (.mv (.k (.bool false)))]) <|
 .seq (.drw [oo 5 (.ld 4 true (.t 1)), oo 6 (.ld 1 false (.t 2)), oo 7 (.call .blind 19 [(.t 5), (.t 6)]), oo 8 (.fld 0 (.t 3)), oo 9 (.ld 1 false (.t 8)), oo 10 (.fld 1 (.t 3)), oo 11 (.ld 1 false (.t 10)), oo 12 (.un .not (.t 11)), oo 13 (.build [.int .i64 0, .bool false] [(0, 1, (.t 9)), (1, 1, (.t 12))]), oo 14 (.call .blind 36 [(.t 7), (.t 13)]), om 4 14] [[], [], [0, 1], [], [], [], [], [], [], [0, 1, 2, 4, 6], []]) <|
 .ret⟩

def f36 : DFn := ⟨2, [.t 4],
 .seq (.reg [oo 3 (.boxL (.t 1)), oo 4 (.mv (.k (.bool false)))]) <|
 .seq (.reg [om 5 0, oo 6 (.ld 2 true (.t 3)), oo 7 (.call .blind 49 [(.t 5), (.t 6)]), oo 8 (.bin .geq .sc (.t 7) (.k (.int .i64 0))), om 4 8]) <|
 .ret⟩

def l37_1b : DC :=
 .seq (.reg [oo 28 (.bin .lss .sc (.t 27) (.t 26))]) <|
 .seq (.cond (.t 28)
 (.skip)
 (.exit 2)) <|
 .seq (.block 3 <|
 .seq (.reg [oo 29 (.idx 1 (.t 25) (.t 27)), oo 30 (.ld 1 false (.t 29)), om 8 30]) <|
 .reg [om 31 6, om 32 8, oo 33 (.app 2 16 (.t 31) (.t 32)), om 6 33]) <|
 .reg [oo 34 (.bin .add .sc (.t 27) (.k (.int .i64 1))), om 27 34]
def l37_1 : DC := .loop [6, 25, 26, 27] [] l37_1b
def l37_0b : DC :=
 .seq (.reg [oo 12 (.bin .lss .sc (.t 11) (.t 10))]) <|
 .seq (.cond (.t 12)
 (.skip)
 (.exit 0)) <|
 .seq (.block 1 <|
 .seq (.reg [oo 13 (.idx 1 (.t 9) (.t 11)), oo 14 (.ld 1 false (.t 13)), om 5 14]) <|
 .seq (.reg [om 15 3, om 16 5, oo 17 (.len (.t 16)), oo 18 (.bin .add .sc (.t 15) (.t 17)), om 3 18]) <|
 .seq (.reg [om 19 3, oo 20 (.bin .lss .sc (.t 19) (.k (.int .i64 0)))]) <|
 .cond (.t 20)
 (.reg [oo 21 (.mkI 9 (.k (.str [108, 101, 110, 32, 111, 117, 116, 32, 111, 102, 32, 114, 97, 110, 103, 101]))), on (.nilck (.k .nilp))])
 (.skip)) <|
 .reg [oo 22 (.bin .add .sc (.t 11) (.k (.int .i64 1))), om 11 22]
def l37_0 : DC := .loop [0, 3, 9, 10, 11] [] l37_0b
def f37 : DFn := ⟨1, [.t 2],
 .seq (.reg [oo 2 (.mv (.k (.nils)))]) <|
 .seq (.reg [oo 3 (.mv (.k (.int .i64 0)))]) <|
 .seq (.seq (.reg [om 9 0, oo 10 (.len (.t 9)), oo 11 (.mv (.k (.int .i64 0)))]) <|
 .block 0 <|
 l37_0) <|
 .seq (.reg [om 23 3, oo 24 (.call .eff 50 [(.k (.nils)), (.t 23)]), om 6 24]) <|
 .seq (.seq (.reg [om 25 0, oo 26 (.len (.t 25)), oo 27 (.mv (.k (.int .i64 0)))]) <|
 .block 2 <|
 l37_1) <|
 .seq (.reg [om 35 6, om 2 35]) <|
 .ret⟩

def l40_0b : DC :=
 .seq (.reg [oo 10 (.bin .lss .sc (.t 9) (.t 8))]) <|
 .seq (.cond (.t 10)
 (.skip)
 (.exit 0)) <|
 .seq (.block 1 <|
 .seq (.reg [om 11 9, oo 12 (.idx 1 (.t 7) (.t 9)), oo 13 (.ld 1 false (.t 12)), om 5 11, om 6 13]) <|
 .seq (.reg [om 14 6, oo 15 (.fld 0 (.t 2)), oo 16 (.ld 1 false (.t 15)), oo 17 (.len (.t 16)), oo 18 (.bin .sub .sc (.t 17) (.k (.int .i64 1))), oo 19 (.call .blind 26 [(.t 14), (.k (.int .i64 0)), (.t 18)]), oo 20 (.un .not (.t 19)), om 21 20, omf 22 1 21, omf 23 5 21, of 24 21 (.slc 1 (.t 22) none (some (.t 23)) none), omf 25 6 21, of 26 21 (.call .blind 33 [(.t 24), (.t 25)]), oo 27 (.pick (.t 21) (.k (.bool true)) (.t 26))]) <|
 .cond (.t 27)
 (.seq (.reg [oo 4 (.mv (.k (.bool false)))]) <|
 .ret)
 (.skip)) <|
 .reg [oo 28 (.bin .add .sc (.t 9) (.k (.int .i64 1))), om 9 28]
def l40_0 : DC := .loop [1, 2, 7, 8, 9] [2] l40_0b
def f40 : DFn := ⟨2, [.t 4],
 .seq (.reg [oo 2 (.boxL (.t 0)), oo 4 (.mv (.k (.bool false)))]) <|
 .seq (.seq (.reg [om 7 1, oo 8 (.len (.t 7)), oo 9 (.mv (.k (.int .i64 0)))]) <|
 .block 0 <|
 l40_0) <|
 .seq (.reg [om 29 1, oo 30 (.len (.t 29)), oo 31 (.call .blind 26 [(.t 30), (.k (.int .i64 1)), (.k (.int .i64 5))]), om 4 31]) <|
 .ret⟩

def l41_0b : DC :=
 .seq (.reg [oo 14 (.bin .lss .sc (.t 13) (.t 12))]) <|
 .seq (.cond (.t 14)
 (.skip)
 (.exit 0)) <|
 .seq (.block 1 <|
 .seq (.reg [om 15 13, oo 16 (.idx 2 (.t 11) (.t 13)), oo 17 (.ld 2 true (.t 16)), oo 10 (.alL [.int .i64 0, .bool false]), om 9 15, on (.st 2 (.t 10) (.t 17))]) <|
 .seq (.drw [oo 18 (.fld 0 (.t 10)), oo 19 (.ld 1 false (.t 18)), oo 20 (.fld 1 (.t 4)), oo 21 (.ld 1 false (.t 20)), oo 22 (.len (.t 21)), oo 23 (.bin .sub .sc (.t 22) (.k (.int .i64 1))), oo 24 (.call .blind 26 [(.t 19), (.k (.int .i64 0)), (.t 23)]), oo 25 (.un .not (.t 24)), om 26 25, omf 27 9 26, of 28 26 (.bin .gtr .sc (.t 27) (.k (.int .i64 0))), omf 29 28 26, omt 30 1 29, omt 31 9 29, ot 32 29 (.bin .sub .sc (.t 31) (.k (.int .i64 1))), ot 33 29 (.idx 2 (.t 30) (.t 32)), ot 34 29 (.fld 0 (.t 33)), ot 35 29 (.ld 1 false (.t 34)), ot 36 29 (.fld 0 (.t 10)), ot 37 29 (.ld 1 false (.t 36)), ot 38 29 (.bin .geq .sc (.t 35) (.t 37)), of 39 26 (.pick (.t 29) (.t 38) (.k (.bool false))), oo 40 (.pick (.t 26) (.k (.bool true)) (.t 39)), om 41 40, omf 42 2 41, of 43 41 (.fld 1 (.t 4)), of 44 41 (.ld 1 false (.t 43)), of 45 41 (.fld 0 (.t 10)), of 46 41 (.ld 1 false (.t 45)), of 47 41 (.idx 2 (.t 44) (.t 46)), of 48 41 (.fld 1 (.t 47)), of 49 41 (.ld 1 false (.t 48)), of 50 41 (.call .blind 33 [(.t 42), (.t 49)]), omf 51 3 41, of 52 41 (.bin .neq .bl (.t 50) (.t 51)), oo 53 (.pick (.t 41) (.k (.bool true)) (.t 52))] [[], [], [], [], [], [], [1, 3], [], [], [], [], [], [], [], [], [1, 3, 6], [], [1, 3, 6, 15], [], [1, 3, 6], [], [], [], [], [], [], [1, 3, 6, 15, 17, 19], [], [1, 3, 6, 15, 17, 19], [1, 3, 6, 15, 17, 19, 26, 28], [], [1, 3, 6, 15, 17, 19, 26, 28, 29], [1, 3, 6, 15, 17, 19, 26, 28, 29, 31], [], [], []]) <|
 .cond (.t 53)
 (.seq (.reg [oo 8 (.mv (.k (.bool false)))]) <|
 .ret)
 (.skip)) <|
 .reg [oo 54 (.bin .add .sc (.t 13) (.k (.int .i64 1))), om 13 54]
def l41_0 : DC := .loop [1, 2, 3, 4, 11, 12, 13] [4] l41_0b
def f41 : DFn := ⟨4, [.t 8],
 .seq (.reg [oo 4 (.boxL (.t 0)), oo 8 (.mv (.k (.bool false)))]) <|
 .seq (.seq (.reg [om 11 1, oo 12 (.len (.t 11)), oo 13 (.mv (.k (.int .i64 0)))]) <|
 .block 0 <|
 l41_0) <|
 .seq (.reg [oo 8 (.mv (.k (.bool true)))]) <|
 .ret⟩

def l42_0b : DC :=
 .seq (.reg [oo 9 (.nxt 8), oo 10 (.ext 0 (.t 9))]) <|
 .seq (.cond (.t 10)
 (.skip)
 (.exit 0)) <|
 .block 1 <|
 .seq (.reg [oo 11 (.ext 1 (.t 9)), oo 12 (.ext 2 (.t 9)), om 4 11, om 5 12]) <|
 .seq (.reg [om 13 5, oo 14 (.bin .geq .sc (.t 13) (.k (.int .i32 48))), om 15 14, omt 16 5 15, ot 17 15 (.bin .leq .sc (.t 16) (.k (.int .i32 57))), oo 18 (.pick (.t 15) (.t 17) (.k (.bool false))), om 19 18, omt 20 4 19, ot 21 19 (.bin .gtr .sc (.t 20) (.k (.int .i64 0))), oo 22 (.pick (.t 19) (.t 21) (.k (.bool false))), om 6 22]) <|
 .seq (.seq (.reg [om 23 0, om 24 4, oo 25 (.call .blind 51 [(.t 23), (.t 24)]), om 26 25, omf 27 5 26, of 28 26 (.call .blind 52 [(.t 27)]), of 29 26 (.un .not (.t 28)), omf 30 29 26, omt 31 6 30, ot 32 30 (.un .not (.t 31)), of 33 26 (.pick (.t 30) (.t 32) (.k (.bool false))), oo 34 (.pick (.t 26) (.k (.bool true)) (.t 33))]) <|
 .cond (.t 34)
 (.seq (.reg [oo 2 (.mv (.k (.bool false)))]) <|
 .ret)
 (.skip)) <|
 .reg [om 35 3, oo 36 (.bin .add .sc (.t 35) (.k (.int .i64 1))), om 3 36]
def l42_0 : DC := .loop [0, 3, 8] [8] l42_0b
def f42 : DFn := ⟨1, [.t 2],
 .seq (.reg [oo 2 (.mv (.k (.bool false)))]) <|
 .seq (.reg [oo 3 (.mv (.k (.int .i64 0)))]) <|
 .seq (.seq (.reg [om 7 0, oo 8 (.rng (.t 7))]) <|
 .block 0 <|
 l42_0) <|
 .seq (.reg [om 37 3, oo 38 (.bin .geq .sc (.t 37) (.k (.int .i64 1))), om 39 38, omt 40 3 39, ot 41 39 (.bin .leq .sc (.t 40) (.k (.int .i64 8))), oo 42 (.pick (.t 39) (.t 41) (.k (.bool false))), om 2 42]) <|
 .ret⟩

def f43 : DFn := ⟨2, [.t 4],
 .seq (.reg [oo 4 (.mv (.k (.bool false)))]) <|
 .seq (.reg [om 5 0, om 6 1, oo 7 (.call .blind 53 [(.t 5), (.t 6)]), oo 8 (.bin .geq .sc (.t 7) (.k (.int .i64 0))), om 4 8]) <|
 .ret⟩

def f44 : DFn := ⟨1, [.t 2],
 .seq (.reg [oo 2 (.mv (.k (.bool false)))]) <|
 .seq (.reg [om 3 0, oo 4 (.call .blind 54 [(.t 3)]), om 5 4, omt 6 0 5, ot 7 5 (.bin .neq .sc (.t 6) (.k (.str [115, 101, 116]))), oo 8 (.pick (.t 5) (.t 7) (.k (.bool false))), om 9 8, omt 10 0 9, ot 11 9 (.bin .neq .sc (.t 10) (.k (.str [102, 108, 97, 110, 107]))), oo 12 (.pick (.t 9) (.t 11) (.k (.bool false))), om 2 12]) <|
 .ret⟩

def l45_0b : DC :=
 .seq (.seq (.reg [om 11 9, om 12 1, oo 13 (.len (.t 12)), oo 14 (.bin .lss .sc (.t 11) (.t 13))]) <|
 .cond (.t 14)
 (.skip)
 (.exit 0)) <|
 .seq (.block 1 <|
 .seq (.reg [om 17 1, om 18 9, oo 19 (.idx 2 (.t 17) (.t 18)), oo 20 (.fld 0 (.t 19)), oo 21 (.ld 1 false (.t 20)), om 10 21]) <|
 .seq (.reg [om 22 10, oo 23 (.bin .lss .sc (.t 22) (.k (.int .i64 0))), om 24 23, omf 25 10 24, of 26 24 (.fld 1 (.t 4)), of 27 24 (.ld 1 false (.t 26)), of 28 24 (.len (.t 27)), of 29 24 (.bin .geq .sc (.t 25) (.t 28)), oo 30 (.pick (.t 24) (.k (.bool true)) (.t 29)), om 31 30, omf 32 9 31, of 33 31 (.bin .gtr .sc (.t 32) (.k (.int .i64 0))), omf 34 33 31, omt 35 1 34, omt 36 9 34, ot 37 34 (.bin .sub .sc (.t 36) (.k (.int .i64 1))), ot 38 34 (.idx 2 (.t 35) (.t 37)), ot 39 34 (.fld 0 (.t 38)), ot 40 34 (.ld 1 false (.t 39)), omt 41 10 34, ot 42 34 (.bin .geq .sc (.t 40) (.t 41)), of 43 31 (.pick (.t 34) (.t 42) (.k (.bool false))), oo 44 (.pick (.t 31) (.k (.bool true)) (.t 43)), om 45 44, omf 46 2 45, of 47 45 (.fld 1 (.t 4)), of 48 45 (.ld 1 false (.t 47)), omf 49 10 45, of 50 45 (.idx 2 (.t 48) (.t 49)), of 51 45 (.fld 1 (.t 50)), of 52 45 (.ld 1 false (.t 51)), of 53 45 (.call .blind 16 [(.t 46), (.t 52)]), omf 54 3 45, of 55 45 (.bin .neq .bl (.t 53) (.t 54)), oo 56 (.pick (.t 45) (.k (.bool true)) (.t 55))]) <|
 .cond (.t 56)
 (.seq (.reg [oo 8 (.mv (.k (.bool false)))]) <|
 .ret)
 (.skip)) <|
 .reg [om 15 9, oo 16 (.bin .add .sc (.t 15) (.k (.int .i64 1))), om 9 16]
def l45_0 : DC := .loop [1, 2, 3, 4, 9] [4] l45_0b
def f45 : DFn := ⟨4, [.t 8],
 .seq (.reg [oo 4 (.boxL (.t 0)), oo 8 (.mv (.k (.bool false)))]) <|
 .seq (.seq (.reg [oo 9 (.mv (.k (.int .i64 0)))]) <|
 .block 0 <|
 l45_0) <|
 .seq (.reg [oo 8 (.mv (.k (.bool true)))]) <|
 .ret⟩

def l46_0b : DC :=
 .seq (.reg [oo 9 (.bin .lss .sc (.t 8) (.t 7))]) <|
 .seq (.cond (.t 9)
 (.skip)
 (.exit 0)) <|
 .seq (.block 1 <|
 .seq (.reg [om 10 8, om 5 10]) <|
 .seq (.reg [om 11 1, om 12 0, om 13 5, oo 14 (.idx 1 (.t 12) (.t 13)), oo 15 (.ld 1 false (.t 14)), oo 16 (.calld .ro (.t 11) [(.t 15)])]) <|
 .cond (.t 16)
 (.seq (.reg [om 17 5, om 4 17]) <|
 .ret)
 (.skip)) <|
 .reg [oo 18 (.bin .add .sc (.t 8) (.k (.int .i64 1))), om 8 18]
def l46_0 : DC := .loop [0, 1, 7, 8] [] l46_0b
def f46 : DFn := ⟨2, [.t 4],
 .seq (.reg [oo 4 (.mv (.k (.int .i64 0)))]) <|
 .seq (.seq (.reg [om 6 0, oo 7 (.len (.t 6)), oo 8 (.mv (.k (.int .i64 0)))]) <|
 .block 0 <|
 l46_0) <|
 .seq (.reg [oo 4 (.mv (.k (.int .i64 (-1))))]) <|
 .ret⟩

def l47_0b : DC :=
 .seq (.reg [oo 9 (.bin .lss .sc (.t 8) (.t 7))]) <|
 .seq (.cond (.t 9)
 (.skip)
 (.exit 0)) <|
 .seq (.block 1 <|
 .seq (.reg [om 10 8, om 5 10]) <|
 .seq (.reg [om 11 1, om 12 0, om 13 5, oo 14 (.idx 1 (.t 12) (.t 13)), oo 15 (.ld 1 false (.t 14)), oo 16 (.bin .eql .sc (.t 11) (.t 15))]) <|
 .cond (.t 16)
 (.seq (.reg [om 17 5, om 4 17]) <|
 .ret)
 (.skip)) <|
 .reg [oo 18 (.bin .add .sc (.t 8) (.k (.int .i64 1))), om 8 18]
def l47_0 : DC := .loop [0, 1, 7, 8] [] l47_0b
def f47 : DFn := ⟨2, [.t 4],
 .seq (.reg [oo 4 (.mv (.k (.int .i64 0)))]) <|
 .seq (.seq (.reg [om 6 0, oo 7 (.len (.t 6)), oo 8 (.mv (.k (.int .i64 0)))]) <|
 .block 0 <|
 l47_0) <|
 .seq (.reg [oo 4 (.mv (.k (.int .i64 (-1))))]) <|
 .ret⟩

def l48_0b : DC :=
 .seq (.reg [oo 9 (.bin .lss .sc (.t 8) (.t 7))]) <|
 .seq (.cond (.t 9)
 (.skip)
 (.exit 0)) <|
 .seq (.block 1 <|
 .seq (.reg [om 10 8, om 5 10]) <|
 .seq (.reg [om 11 1, om 12 0, om 13 5, oo 14 (.idx 2 (.t 12) (.t 13)), oo 15 (.ld 2 true (.t 14)), oo 16 (.calld .ro (.t 11) [(.t 15)])]) <|
 .cond (.t 16)
 (.seq (.reg [om 17 5, om 4 17]) <|
 .ret)
 (.skip)) <|
 .reg [oo 18 (.bin .add .sc (.t 8) (.k (.int .i64 1))), om 8 18]
def l48_0 : DC := .loop [0, 1, 7, 8] [] l48_0b
def f48 : DFn := ⟨2, [.t 4],
 .seq (.reg [oo 4 (.mv (.k (.int .i64 0)))]) <|
 .seq (.seq (.reg [om 6 0, oo 7 (.len (.t 6)), oo 8 (.mv (.k (.int .i64 0)))]) <|
 .block 0 <|
 l48_0) <|
 .seq (.reg [oo 4 (.mv (.k (.int .i64 (-1))))]) <|
 .ret⟩

def l49_0b : DC :=
 .seq (.reg [oo 9 (.bin .lss .sc (.t 8) (.t 7))]) <|
 .seq (.cond (.t 9)
 (.skip)
 (.exit 0)) <|
 .seq (.block 1 <|
 .seq (.reg [om 10 8, om 5 10]) <|
 .seq (.drw [oo 11 (.ld 2 true (.t 3)), om 12 0, om 13 5, oo 14 (.idx 2 (.t 12) (.t 13)), oo 15 (.ld 2 true (.t 14)), oo 16 (.bin .eql (.st [.i, .b]) (.t 11) (.t 15))] [[], [], [], [], [3], []]) <|
 .cond (.t 16)
 (.seq (.reg [om 17 5, om 4 17]) <|
 .ret)
 (.skip)) <|
 .reg [oo 18 (.bin .add .sc (.t 8) (.k (.int .i64 1))), om 8 18]
def l49_0 : DC := .loop [0, 3, 7, 8] [3] l49_0b
def f49 : DFn := ⟨2, [.t 4],
 .seq (.reg [oo 3 (.boxL (.t 1)), oo 4 (.mv (.k (.int .i64 0)))]) <|
 .seq (.seq (.reg [om 6 0, oo 7 (.len (.t 6)), oo 8 (.mv (.k (.int .i64 0)))]) <|
 .block 0 <|
 l49_0) <|
 .seq (.reg [oo 4 (.mv (.k (.int .i64 (-1))))]) <|
 .ret⟩

def f50 : DFn := ⟨2, [.t 4],
 .seq (.reg [oo 4 (.mv (.k (.nils)))]) <|
 .seq (.seq (.reg [om 5 1, oo 6 (.bin .lss .sc (.t 5) (.k (.int .i64 0)))]) <|
 .cond (.t 6)
 (.reg [oo 7 (.mkI 9 (.k (.str [99, 97, 110, 110, 111, 116, 32, 98, 101, 32, 110, 101, 103, 97, 116, 105, 118, 101]))), on (.nilck (.k .nilp))])
 (.skip)) <|
 .seq (.seq (.reg [om 8 1, om 9 0, oo 10 (.cap (.t 9)), om 11 0, oo 12 (.len (.t 11)), oo 13 (.bin .sub .sc (.t 10) (.t 12)), oo 14 (.bin .sub .sc (.t 8) (.t 13)), om 1 14]) <|
 .seq (.reg [om 15 1, oo 16 (.bin .gtr .sc (.t 15) (.k (.int .i64 0)))]) <|
 .cond (.t 16)
 (.reg [om 17 0, om 18 0, oo 19 (.cap (.t 18)), oo 20 (.slc 2 (.t 17) none (some (.t 19)) none), om 21 1, oo 22 (.appZ 2 16 [.int .i64 0, .bool false] (.t 20) (.t 21)), om 23 0, oo 24 (.len (.t 23)), oo 25 (.slc 2 (.t 22) none (some (.t 24)) none), om 0 25])
 (.skip)) <|
 .seq (.reg [om 26 0, om 4 26]) <|
 .ret⟩

def f51 : DFn := ⟨2, [.t 4],
 .seq (.reg [oo 4 (.mv (.k (.bool false)))]) <|
 .seq (.reg [om 8 0, om 9 1, oo 10 (.slS (.t 8) (some (.t 9)) none), oo 11 (.call .blind 55 [(.t 10)]), om 7 11, oo 12 (.ext 0 (.t 7)), oo 13 (.ext 1 (.t 7)), om 5 12, om 6 13]) <|
 .seq (.reg [om 14 5, oo 15 (.bin .eql .sc (.t 14) (.k (.int .i32 65533))), om 16 15, omt 17 6 16, ot 18 16 (.bin .eql .sc (.t 17) (.k (.int .i64 1))), oo 19 (.pick (.t 16) (.t 18) (.k (.bool false))), om 4 19]) <|
 .ret⟩

def f52 : DFn := ⟨1, [.t 2],
 .seq (.reg [oo 2 (.mv (.k (.bool false)))]) <|
 .seq (.block 0 <|
 .seq (.seq (.reg [om 4 0, oo 5 (.bin .geq .sc (.t 4) (.k (.int .i32 97))), om 6 5, omt 7 0 6, ot 8 6 (.bin .leq .sc (.t 7) (.k (.int .i32 122))), oo 9 (.pick (.t 6) (.t 8) (.k (.bool false))), om 3 9]) <|
 .cond (.t 3)
 (.skip)
 (.reg [om 10 0, oo 11 (.bin .geq .sc (.t 10) (.k (.int .i32 65))), om 12 11, omt 13 0 12, ot 14 12 (.bin .leq .sc (.t 13) (.k (.int .i32 90))), oo 15 (.pick (.t 12) (.t 14) (.k (.bool false))), om 3 15])) <|
 .cond (.t 3)
 (.seq (.reg [oo 2 (.mv (.k (.bool true)))]) <|
 .ret)
 (.skip)) <|
 .seq (.reg [om 16 0, oo 17 (.bin .geq .sc (.t 16) (.k (.int .i32 192))), om 18 17, omt 19 0 18, ot 20 18 (.bin .leq .sc (.t 19) (.k (.int .i32 591))), oo 21 (.pick (.t 18) (.t 20) (.k (.bool false))), om 22 21, omt 23 0 22, ot 24 22 (.bin .neq .sc (.t 23) (.k (.int .i32 215))), oo 25 (.pick (.t 22) (.t 24) (.k (.bool false))), om 26 25, omt 27 0 26, ot 28 26 (.bin .neq .sc (.t 27) (.k (.int .i32 247))), oo 29 (.pick (.t 26) (.t 28) (.k (.bool false))), om 2 29]) <|
 .ret⟩

def l53_0b : DC :=
 .seq (.reg [oo 9 (.bin .lss .sc (.t 8) (.t 7))]) <|
 .seq (.cond (.t 9)
 (.skip)
 (.exit 0)) <|
 .seq (.block 1 <|
 .seq (.reg [om 10 8, om 5 10]) <|
 .seq (.reg [om 11 1, om 12 0, om 13 5, oo 14 (.idx 1 (.t 12) (.t 13)), oo 15 (.ld 1 false (.t 14)), oo 16 (.bin .eql .sc (.t 11) (.t 15))]) <|
 .cond (.t 16)
 (.seq (.reg [om 17 5, om 4 17]) <|
 .ret)
 (.skip)) <|
 .reg [oo 18 (.bin .add .sc (.t 8) (.k (.int .i64 1))), om 8 18]
def l53_0 : DC := .loop [0, 1, 7, 8] [] l53_0b
def f53 : DFn := ⟨2, [.t 4],
 .seq (.reg [oo 4 (.mv (.k (.int .i64 0)))]) <|
 .seq (.seq (.reg [om 6 0, oo 7 (.len (.t 6)), oo 8 (.mv (.k (.int .i64 0)))]) <|
 .block 0 <|
 l53_0) <|
 .seq (.reg [oo 4 (.mv (.k (.int .i64 (-1))))]) <|
 .ret⟩

def l54_0b : DC :=
 .seq (.seq (.reg [om 7 4, om 8 3, oo 9 (.len (.t 8)), oo 10 (.bin .lss .sc (.t 7) (.t 9))]) <|
 .cond (.t 10)
 (.skip)
 (.exit 0)) <|
 .seq (.block 1 <|
 .seq (.reg [om 13 3, om 14 4, oo 15 (.idx 3 (.t 13) (.t 14)), oo 16 (.fld 2 (.t 15)), oo 17 (.ld 1 false (.t 16)), om 18 17, omf 19 3 18, omf 20 4 18, of 21 18 (.idx 3 (.t 19) (.t 20)), of 22 18 (.fld 0 (.t 21)), of 23 18 (.ld 1 false (.t 22)), of 24 18 (.call .blind 57 [(.t 23)]), of 25 18 (.un .not (.t 24)), omf 26 25 18, omt 27 4 26, ot 28 26 (.bin .eql .sc (.t 27) (.k (.int .i64 0))), omt 29 28 26, omf 30 3 29, omf 31 4 29, of 32 29 (.idx 3 (.t 30) (.t 31)), of 33 29 (.fld 0 (.t 32)), of 34 29 (.ld 1 false (.t 33)), of 35 29 (.bin .lss .sc (.t 34) (.k (.int .i32 48))), ot 36 26 (.pick (.t 29) (.k (.bool true)) (.t 35)), omt 37 36 26, omf 38 3 37, omf 39 4 37, of 40 37 (.idx 3 (.t 38) (.t 39)), of 41 37 (.fld 0 (.t 40)), of 42 37 (.ld 1 false (.t 41)), of 43 37 (.bin .gtr .sc (.t 42) (.k (.int .i32 57))), ot 44 26 (.pick (.t 37) (.k (.bool true)) (.t 43)), of 45 18 (.pick (.t 26) (.t 44) (.k (.bool false))), oo 46 (.pick (.t 18) (.k (.bool true)) (.t 45))]) <|
 .cond (.t 46)
 (.seq (.reg [oo 2 (.mv (.k (.bool false)))]) <|
 .ret)
 (.skip)) <|
 .reg [om 11 4, oo 12 (.bin .add .sc (.t 11) (.k (.int .i64 1))), om 4 12]
def l54_0 : DC := .loop [3, 4] [] l54_0b
def f54 : DFn := ⟨1, [.t 2],
 .seq (.reg [oo 2 (.mv (.k (.bool false)))]) <|
 .seq (.reg [om 5 0, oo 6 (.call .blind 56 [(.t 5)]), om 3 6]) <|
 .seq (.seq (.reg [oo 4 (.mv (.k (.int .i64 0)))]) <|
 .block 0 <|
 l54_0) <|
 .seq (.reg [om 47 3, oo 48 (.len (.t 47)), oo 49 (.bin .geq .sc (.t 48) (.k (.int .i64 1))), om 50 49, omt 51 3 50, ot 52 50 (.len (.t 51)), ot 53 50 (.bin .leq .sc (.t 52) (.k (.int .i64 8))), oo 54 (.pick (.t 50) (.t 53) (.k (.bool false))), om 2 54]) <|
 .ret⟩

def f55 : DFn := ⟨1, [.t 2, .t 3],
 .seq (.reg [oo 2 (.mv (.k (.int .i32 0))), oo 3 (.mv (.k (.int .i64 0)))]) <|
 .seq (.seq (.reg [om 4 0, oo 5 (.bin .neq .sc (.t 4) (.k (.str []))), om 6 5, omt 7 0 6, ot 8 6 (.idxS (.t 7) (.k (.int .i64 0))), ot 9 6 (.bin .lss .sc (.t 8) (.k (.int .u8 128))), oo 10 (.pick (.t 6) (.t 9) (.k (.bool false)))]) <|
 .cond (.t 10)
 (.seq (.reg [om 11 0, oo 12 (.idxS (.t 11) (.k (.int .i64 0))), oo 13 (.cvI .i32 (.t 12)), om 2 13, oo 3 (.mv (.k (.int .i64 1)))]) <|
 .ret)
 (.reg [om 15 0, oo 16 (.call .blind 58 [(.t 15)]), om 14 16, oo 17 (.ext 0 (.t 14)), oo 18 (.ext 1 (.t 14)), om 2 17, om 3 18])) <|
 .ret⟩

def l56_0b : DC :=
 .seq (.seq (.reg [om 7 4, om 8 0, oo 9 (.lenS (.t 8)), oo 10 (.bin .lss .sc (.t 7) (.t 9))]) <|
 .cond (.t 10)
 (.skip)
 (.exit 0)) <|
 .block 1 <|
 .seq (.reg [om 12 0, om 13 4, oo 14 (.slS (.t 12) (some (.t 13)) none), oo 15 (.call .blind 55 [(.t 14)]), om 11 15, oo 16 (.ext 0 (.t 11)), oo 17 (.ext 1 (.t 11)), om 5 16, om 6 17]) <|
 .seq (.reg [om 18 3, om 19 5, om 20 6, om 21 5, oo 22 (.bin .eql .sc (.t 21) (.k (.int .i32 65533))), om 23 22, omt 24 6 23, ot 25 23 (.bin .eql .sc (.t 24) (.k (.int .i64 1))), oo 26 (.pick (.t 23) (.t 25) (.k (.bool false))), oo 27 (.build [.int .i32 0, .int .i64 0, .bool false] [(0, 1, (.t 19)), (1, 1, (.t 20)), (2, 1, (.t 26))]), oo 28 (.bsl false 3 [.int .i32 0, .int .i64 0, .bool false] 1 [(0, (.t 27))]), oo 29 (.app 3 24 (.t 18) (.t 28)), om 3 29]) <|
 .reg [om 30 4, om 31 6, oo 32 (.bin .add .sc (.t 30) (.t 31)), om 4 32]
def l56_0 : DC := .loop [0, 3, 4] [] l56_0b
def f56 : DFn := ⟨1, [.t 2],
 .seq (.reg [oo 2 (.mv (.k (.nils)))]) <|
 .seq (.reg [oo 3 (.mv (.k (.nils)))]) <|
 .seq (.seq (.reg [oo 4 (.mv (.k (.int .i64 0)))]) <|
 .block 0 <|
 l56_0) <|
 .seq (.reg [om 33 3, om 2 33]) <|
 .ret⟩

def f57 : DFn := ⟨1, [.t 2],
 .seq (.reg [oo 2 (.mv (.k (.bool false)))]) <|
 .seq (.reg [om 3 0, oo 4 (.bin .geq .sc (.t 3) (.k (.int .i32 97))), om 5 4, omt 6 0 5, ot 7 5 (.bin .leq .sc (.t 6) (.k (.int .i32 122))), oo 8 (.pick (.t 5) (.t 7) (.k (.bool false))), om 9 8, omf 10 0 9, of 11 9 (.bin .geq .sc (.t 10) (.k (.int .i32 65))), omf 12 11 9, omt 13 0 12, ot 14 12 (.bin .leq .sc (.t 13) (.k (.int .i32 90))), of 15 9 (.pick (.t 12) (.t 14) (.k (.bool false))), oo 16 (.pick (.t 9) (.k (.bool true)) (.t 15)), om 17 16, omf 18 0 17, of 19 17 (.bin .geq .sc (.t 18) (.k (.int .i32 192))), omf 20 19 17, omt 21 0 20, ot 22 20 (.bin .leq .sc (.t 21) (.k (.int .i32 591))), of 23 17 (.pick (.t 20) (.t 22) (.k (.bool false))), omf 24 23 17, omt 25 0 24, ot 26 24 (.bin .neq .sc (.t 25) (.k (.int .i32 215))), of 27 17 (.pick (.t 24) (.t 26) (.k (.bool false))), omf 28 27 17, omt 29 0 28, ot 30 28 (.bin .neq .sc (.t 29) (.k (.int .i32 247))), of 31 17 (.pick (.t 28) (.t 30) (.k (.bool false))), oo 32 (.pick (.t 17) (.k (.bool true)) (.t 31)), om 2 32]) <|
 .ret⟩

def f58 : DFn := ⟨1, [.t 2, .t 3],
 .seq (.reg [oo 2 (.mv (.k (.int .i32 0))), oo 3 (.mv (.k (.int .i64 0)))]) <|
 .seq (.reg [om 13 0, oo 14 (.lenS (.t 13)), om 4 14]) <|
 .seq (.seq (.reg [om 15 4, oo 16 (.bin .lss .sc (.t 15) (.k (.int .i64 1)))]) <|
 .cond (.t 16)
 (.seq (.reg [oo 2 (.mv (.k (.int .i32 65533))), oo 3 (.mv (.k (.int .i64 0)))]) <|
 .ret)
 (.skip)) <|
 .seq (.reg [om 17 0, oo 18 (.idxS (.t 17) (.k (.int .i64 0))), om 5 18]) <|
 .seq (.reg [om 19 5, oo 20 (.idxA 1 256 (.g 0) (.t 19)), oo 21 (.ld 1 false (.t 20)), om 6 21]) <|
 .seq (.seq (.reg [om 22 6, oo 23 (.bin .geq .sc (.t 22) (.k (.int .u8 240)))]) <|
 .cond (.t 23)
 (.seq (.reg [om 24 6, oo 25 (.cvI .i32 (.t 24)), oo 26 (.bin .shl .sc (.t 25) (.k (.int .u64 31))), oo 27 (.bin .shr .sc (.t 26) (.k (.int .u64 31))), om 7 27]) <|
 .seq (.reg [om 28 0, oo 29 (.idxS (.t 28) (.k (.int .i64 0))), oo 30 (.cvI .i32 (.t 29)), om 31 7, oo 32 (.bin .andNot .sc (.t 30) (.t 31)), om 33 7, oo 34 (.bin .and .sc (.k (.int .i32 65533)) (.t 33)), oo 35 (.bin .or .sc (.t 32) (.t 34)), om 2 35, oo 3 (.mv (.k (.int .i64 1)))]) <|
 .ret)
 (.skip)) <|
 .seq (.reg [om 36 6, oo 37 (.bin .and .sc (.t 36) (.k (.int .u8 7))), oo 38 (.cvI .i64 (.t 37)), om 8 38]) <|
 .seq (.reg [om 39 6, oo 40 (.bin .shr .sc (.t 39) (.k (.int .u64 4))), oo 41 (.idxA 2 16 (.g 1) (.t 40)), oo 42 (.ld 2 true (.t 41)), oo 9 (.alL [.int .u8 0, .int .u8 0]), on (.st 2 (.t 9) (.t 42))]) <|
 .seq (.seq (.reg [om 43 4, om 44 8, oo 45 (.bin .lss .sc (.t 43) (.t 44))]) <|
 .cond (.t 45)
 (.seq (.reg [oo 2 (.mv (.k (.int .i32 65533))), oo 3 (.mv (.k (.int .i64 1)))]) <|
 .ret)
 (.skip)) <|
 .seq (.reg [om 46 0, oo 47 (.idxS (.t 46) (.k (.int .i64 1))), om 10 47]) <|
 .seq (.seq (.reg [om 48 10, oo 49 (.fld 0 (.t 9)), oo 50 (.ld 1 false (.t 49)), oo 51 (.bin .lss .sc (.t 48) (.t 50)), om 52 51, of 53 52 (.fld 1 (.t 9)), of 54 52 (.ld 1 false (.t 53)), omf 55 10 52, of 56 52 (.bin .lss .sc (.t 54) (.t 55)), oo 57 (.pick (.t 52) (.k (.bool true)) (.t 56))]) <|
 .cond (.t 57)
 (.seq (.reg [oo 2 (.mv (.k (.int .i32 65533))), oo 3 (.mv (.k (.int .i64 1)))]) <|
 .ret)
 (.skip)) <|
 .seq (.seq (.reg [om 58 8, oo 59 (.bin .leq .sc (.t 58) (.k (.int .i64 2)))]) <|
 .cond (.t 59)
 (.seq (.reg [om 60 5, oo 61 (.bin .and .sc (.t 60) (.k (.int .u8 31))), oo 62 (.cvI .i32 (.t 61)), oo 63 (.bin .shl .sc (.t 62) (.k (.int .u64 6))), om 64 10, oo 65 (.bin .and .sc (.t 64) (.k (.int .u8 63))), oo 66 (.cvI .i32 (.t 65)), oo 67 (.bin .or .sc (.t 63) (.t 66)), om 2 67, oo 3 (.mv (.k (.int .i64 2)))]) <|
 .ret)
 (.skip)) <|
 .seq (.reg [om 68 0, oo 69 (.idxS (.t 68) (.k (.int .i64 2))), om 11 69]) <|
 .seq (.seq (.reg [om 70 11, oo 71 (.bin .lss .sc (.t 70) (.k (.int .u8 128))), om 72 71, omf 73 11 72, of 74 72 (.bin .lss .sc (.k (.int .u8 191)) (.t 73)), oo 75 (.pick (.t 72) (.k (.bool true)) (.t 74))]) <|
 .cond (.t 75)
 (.seq (.reg [oo 2 (.mv (.k (.int .i32 65533))), oo 3 (.mv (.k (.int .i64 1)))]) <|
 .ret)
 (.skip)) <|
 .seq (.seq (.reg [om 76 8, oo 77 (.bin .leq .sc (.t 76) (.k (.int .i64 3)))]) <|
 .cond (.t 77)
 (.seq (.reg [om 78 5, oo 79 (.bin .and .sc (.t 78) (.k (.int .u8 15))), oo 80 (.cvI .i32 (.t 79)), oo 81 (.bin .shl .sc (.t 80) (.k (.int .u64 12))), om 82 10, oo 83 (.bin .and .sc (.t 82) (.k (.int .u8 63))), oo 84 (.cvI .i32 (.t 83)), oo 85 (.bin .shl .sc (.t 84) (.k (.int .u64 6))), oo 86 (.bin .or .sc (.t 81) (.t 85)), om 87 11, oo 88 (.bin .and .sc (.t 87) (.k (.int .u8 63))), oo 89 (.cvI .i32 (.t 88)), oo 90 (.bin .or .sc (.t 86) (.t 89)), om 2 90, oo 3 (.mv (.k (.int .i64 3)))]) <|
 .ret)
 (.skip)) <|
 .seq (.reg [om 91 0, oo 92 (.idxS (.t 91) (.k (.int .i64 3))), om 12 92]) <|
 .seq (.seq (.reg [om 93 12, oo 94 (.bin .lss .sc (.t 93) (.k (.int .u8 128))), om 95 94, omf 96 12 95, of 97 95 (.bin .lss .sc (.k (.int .u8 191)) (.t 96)), oo 98 (.pick (.t 95) (.k (.bool true)) (.t 97))]) <|
 .cond (.t 98)
 (.seq (.reg [oo 2 (.mv (.k (.int .i32 65533))), oo 3 (.mv (.k (.int .i64 1)))]) <|
 .ret)
 (.skip)) <|
 .seq (.reg [om 99 5, oo 100 (.bin .and .sc (.t 99) (.k (.int .u8 7))), oo 101 (.cvI .i32 (.t 100)), oo 102 (.bin .shl .sc (.t 101) (.k (.int .u64 18))), om 103 10, oo 104 (.bin .and .sc (.t 103) (.k (.int .u8 63))), oo 105 (.cvI .i32 (.t 104)), oo 106 (.bin .shl .sc (.t 105) (.k (.int .u64 12))), oo 107 (.bin .or .sc (.t 102) (.t 106)), om 108 11, oo 109 (.bin .and .sc (.t 108) (.k (.int .u8 63))), oo 110 (.cvI .i32 (.t 109)), oo 111 (.bin .shl .sc (.t 110) (.k (.int .u64 6))), oo 112 (.bin .or .sc (.t 107) (.t 111)), om 113 12, oo 114 (.bin .and .sc (.t 113) (.k (.int .u8 63))), oo 115 (.cvI .i32 (.t 114)), oo 116 (.bin .or .sc (.t 112) (.t 115)), om 2 116, oo 3 (.mv (.k (.int .i64 4)))]) <|
 .ret⟩


def tab : PT Entry := (.nd (.nd (.nd (.nd (.nd (.nd .lf (some (.fn f31)) .lf) (some (.fn f15)) (.nd .lf (some (.fn f47)) .lf)) none (.nd .lf none (.nd .lf (some (.fn f55)) .lf))) (some (.fn f3)) (.nd (.nd (.nd .lf (some (.fn f35)) .lf) (some (.fn f19)) (.nd .lf (some (.fn f51)) .lf)) none (.nd (.nd .lf (some (.fn f43)) .lf) (some (.fn f27)) .lf))) none (.nd (.nd (.nd (.nd .lf (some (.fn f33)) .lf) (some (.fn f17)) (.nd .lf (some (.fn f49)) .lf)) (some (.fn f9)) (.nd (.nd .lf (some (.fn f41)) .lf) none (.nd .lf (some (.fn f57)) .lf))) none (.nd (.nd (.nd .lf (some (.fn f37)) .lf) none (.nd .lf (some (.fn f53)) .lf)) (some (.fn f13)) (.nd (.nd .lf (some (.fn f45)) .lf) (some (.fn f29)) .lf)))) none (.nd (.nd (.nd (.nd (.nd .lf (some (.fn f32)) .lf) (some (.fn f16)) (.nd .lf (some (.fn f48)) .lf)) none (.nd (.nd .lf (some (.fn f40)) .lf) none (.nd .lf (some (.fn f56)) .lf))) none (.nd (.nd (.nd .lf (some (.fn f36)) .lf) none (.nd .lf (some (.fn f52)) .lf)) (some (.fn f12)) (.nd (.nd .lf (some (.fn f44)) .lf) (some (.fn f28)) .lf))) none (.nd (.nd (.nd (.nd .lf (some (.fn f34)) .lf) (some (.fn f18)) (.nd .lf (some (.fn f50)) .lf)) none (.nd (.nd .lf (some (.fn f42)) .lf) (some (.fn f26)) (.nd .lf (some (.fn f58)) .lf))) none (.nd (.nd .lf none (.nd .lf (some (.fn f54)) .lf)) (some (.fn f14)) (.nd (.nd .lf (some (.fn f46)) .lf) (some (.fn f30)) .lf)))))
noncomputable abbrev K (G : Nat → Option (List IV)) (d : Nat) : Go.PM.Callee := dcall G (fun f => tab.get f) d
theorem k3 {G : Nat → Option (List IV)} {d : Nat} {args : List DV} {H : PT HB} {n lo : Nat} : K G (d + 1) 3 args H n lo = f3.run G (K G d) args H n lo := dcall_fn rfl
theorem k9 {G : Nat → Option (List IV)} {d : Nat} {args : List DV} {H : PT HB} {n lo : Nat} : K G (d + 1) 9 args H n lo = f9.run G (K G d) args H n lo := dcall_fn rfl
theorem k12 {G : Nat → Option (List IV)} {d : Nat} {args : List DV} {H : PT HB} {n lo : Nat} : K G (d + 1) 12 args H n lo = f12.run G (K G d) args H n lo := dcall_fn rfl
theorem k13 {G : Nat → Option (List IV)} {d : Nat} {args : List DV} {H : PT HB} {n lo : Nat} : K G (d + 1) 13 args H n lo = f13.run G (K G d) args H n lo := dcall_fn rfl
theorem k14 {G : Nat → Option (List IV)} {d : Nat} {args : List DV} {H : PT HB} {n lo : Nat} : K G (d + 1) 14 args H n lo = f14.run G (K G d) args H n lo := dcall_fn rfl
theorem k15 {G : Nat → Option (List IV)} {d : Nat} {args : List DV} {H : PT HB} {n lo : Nat} : K G (d + 1) 15 args H n lo = f15.run G (K G d) args H n lo := dcall_fn rfl
theorem k16 {G : Nat → Option (List IV)} {d : Nat} {args : List DV} {H : PT HB} {n lo : Nat} : K G (d + 1) 16 args H n lo = f16.run G (K G d) args H n lo := dcall_fn rfl
theorem k17 {G : Nat → Option (List IV)} {d : Nat} {args : List DV} {H : PT HB} {n lo : Nat} : K G (d + 1) 17 args H n lo = f17.run G (K G d) args H n lo := dcall_fn rfl
theorem k18 {G : Nat → Option (List IV)} {d : Nat} {args : List DV} {H : PT HB} {n lo : Nat} : K G (d + 1) 18 args H n lo = f18.run G (K G d) args H n lo := dcall_fn rfl
theorem k19 {G : Nat → Option (List IV)} {d : Nat} {args : List DV} {H : PT HB} {n lo : Nat} : K G (d + 1) 19 args H n lo = f19.run G (K G d) args H n lo := dcall_fn rfl
theorem k26 {G : Nat → Option (List IV)} {d : Nat} {args : List DV} {H : PT HB} {n lo : Nat} : K G (d + 1) 26 args H n lo = f26.run G (K G d) args H n lo := dcall_fn rfl
theorem k27 {G : Nat → Option (List IV)} {d : Nat} {args : List DV} {H : PT HB} {n lo : Nat} : K G (d + 1) 27 args H n lo = f27.run G (K G d) args H n lo := dcall_fn rfl
theorem k28 {G : Nat → Option (List IV)} {d : Nat} {args : List DV} {H : PT HB} {n lo : Nat} : K G (d + 1) 28 args H n lo = f28.run G (K G d) args H n lo := dcall_fn rfl
theorem k29 {G : Nat → Option (List IV)} {d : Nat} {args : List DV} {H : PT HB} {n lo : Nat} : K G (d + 1) 29 args H n lo = f29.run G (K G d) args H n lo := dcall_fn rfl
theorem k30 {G : Nat → Option (List IV)} {d : Nat} {args : List DV} {H : PT HB} {n lo : Nat} : K G (d + 1) 30 args H n lo = f30.run G (K G d) args H n lo := dcall_fn rfl
theorem k31 {G : Nat → Option (List IV)} {d : Nat} {args : List DV} {H : PT HB} {n lo : Nat} : K G (d + 1) 31 args H n lo = f31.run G (K G d) args H n lo := dcall_fn rfl
theorem k32 {G : Nat → Option (List IV)} {d : Nat} {args : List DV} {H : PT HB} {n lo : Nat} : K G (d + 1) 32 args H n lo = f32.run G (K G d) args H n lo := dcall_fn rfl
theorem k33 {G : Nat → Option (List IV)} {d : Nat} {args : List DV} {H : PT HB} {n lo : Nat} : K G (d + 1) 33 args H n lo = f33.run G (K G d) args H n lo := dcall_fn rfl
theorem k34 {G : Nat → Option (List IV)} {d : Nat} {args : List DV} {H : PT HB} {n lo : Nat} : K G (d + 1) 34 args H n lo = f34.run G (K G d) args H n lo := dcall_fn rfl
theorem k35 {G : Nat → Option (List IV)} {d : Nat} {args : List DV} {H : PT HB} {n lo : Nat} : K G (d + 1) 35 args H n lo = f35.run G (K G d) args H n lo := dcall_fn rfl
theorem k36 {G : Nat → Option (List IV)} {d : Nat} {args : List DV} {H : PT HB} {n lo : Nat} : K G (d + 1) 36 args H n lo = f36.run G (K G d) args H n lo := dcall_fn rfl
theorem k37 {G : Nat → Option (List IV)} {d : Nat} {args : List DV} {H : PT HB} {n lo : Nat} : K G (d + 1) 37 args H n lo = f37.run G (K G d) args H n lo := dcall_fn rfl
theorem k40 {G : Nat → Option (List IV)} {d : Nat} {args : List DV} {H : PT HB} {n lo : Nat} : K G (d + 1) 40 args H n lo = f40.run G (K G d) args H n lo := dcall_fn rfl
theorem k41 {G : Nat → Option (List IV)} {d : Nat} {args : List DV} {H : PT HB} {n lo : Nat} : K G (d + 1) 41 args H n lo = f41.run G (K G d) args H n lo := dcall_fn rfl
theorem k42 {G : Nat → Option (List IV)} {d : Nat} {args : List DV} {H : PT HB} {n lo : Nat} : K G (d + 1) 42 args H n lo = f42.run G (K G d) args H n lo := dcall_fn rfl
theorem k43 {G : Nat → Option (List IV)} {d : Nat} {args : List DV} {H : PT HB} {n lo : Nat} : K G (d + 1) 43 args H n lo = f43.run G (K G d) args H n lo := dcall_fn rfl
theorem k44 {G : Nat → Option (List IV)} {d : Nat} {args : List DV} {H : PT HB} {n lo : Nat} : K G (d + 1) 44 args H n lo = f44.run G (K G d) args H n lo := dcall_fn rfl
theorem k45 {G : Nat → Option (List IV)} {d : Nat} {args : List DV} {H : PT HB} {n lo : Nat} : K G (d + 1) 45 args H n lo = f45.run G (K G d) args H n lo := dcall_fn rfl
theorem k46 {G : Nat → Option (List IV)} {d : Nat} {args : List DV} {H : PT HB} {n lo : Nat} : K G (d + 1) 46 args H n lo = f46.run G (K G d) args H n lo := dcall_fn rfl
theorem k47 {G : Nat → Option (List IV)} {d : Nat} {args : List DV} {H : PT HB} {n lo : Nat} : K G (d + 1) 47 args H n lo = f47.run G (K G d) args H n lo := dcall_fn rfl
theorem k48 {G : Nat → Option (List IV)} {d : Nat} {args : List DV} {H : PT HB} {n lo : Nat} : K G (d + 1) 48 args H n lo = f48.run G (K G d) args H n lo := dcall_fn rfl
theorem k49 {G : Nat → Option (List IV)} {d : Nat} {args : List DV} {H : PT HB} {n lo : Nat} : K G (d + 1) 49 args H n lo = f49.run G (K G d) args H n lo := dcall_fn rfl
theorem k50 {G : Nat → Option (List IV)} {d : Nat} {args : List DV} {H : PT HB} {n lo : Nat} : K G (d + 1) 50 args H n lo = f50.run G (K G d) args H n lo := dcall_fn rfl
theorem k51 {G : Nat → Option (List IV)} {d : Nat} {args : List DV} {H : PT HB} {n lo : Nat} : K G (d + 1) 51 args H n lo = f51.run G (K G d) args H n lo := dcall_fn rfl
theorem k52 {G : Nat → Option (List IV)} {d : Nat} {args : List DV} {H : PT HB} {n lo : Nat} : K G (d + 1) 52 args H n lo = f52.run G (K G d) args H n lo := dcall_fn rfl
theorem k53 {G : Nat → Option (List IV)} {d : Nat} {args : List DV} {H : PT HB} {n lo : Nat} : K G (d + 1) 53 args H n lo = f53.run G (K G d) args H n lo := dcall_fn rfl
theorem k54 {G : Nat → Option (List IV)} {d : Nat} {args : List DV} {H : PT HB} {n lo : Nat} : K G (d + 1) 54 args H n lo = f54.run G (K G d) args H n lo := dcall_fn rfl
theorem k55 {G : Nat → Option (List IV)} {d : Nat} {args : List DV} {H : PT HB} {n lo : Nat} : K G (d + 1) 55 args H n lo = f55.run G (K G d) args H n lo := dcall_fn rfl
theorem k56 {G : Nat → Option (List IV)} {d : Nat} {args : List DV} {H : PT HB} {n lo : Nat} : K G (d + 1) 56 args H n lo = f56.run G (K G d) args H n lo := dcall_fn rfl
theorem k57 {G : Nat → Option (List IV)} {d : Nat} {args : List DV} {H : PT HB} {n lo : Nat} : K G (d + 1) 57 args H n lo = f57.run G (K G d) args H n lo := dcall_fn rfl
theorem k58 {G : Nat → Option (List IV)} {d : Nat} {args : List DV} {H : PT HB} {n lo : Nat} : K G (d + 1) 58 args H n lo = f58.run G (K G d) args H n lo := dcall_fn rfl
end Go.Proofs.YtbhmihigfncfgaaDoor.D
