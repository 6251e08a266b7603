/-
  D's functions of this seat, printed by program out of the translation.
-/
import Derived.Test.YtkgjgehffijepaaDoorRun
set_option maxRecDepth 100000
namespace Go.Proofs.YtkgjgehffijepaaDoor.D
open Go Go.PM
abbrev om (a b : Nat) : DO := ⟨some a, .mv (.t b), none⟩
abbrev omt (a b c : Nat) : DO := ⟨some a, .mv (.t b), some (c, true)⟩
abbrev omf (a b c : Nat) : DO := ⟨some a, .mv (.t b), some (c, false)⟩
abbrev oo (a : Nat) (o : DOp) : DO := ⟨some a, o, none⟩
abbrev ot (a b : Nat) (o : DOp) : DO := ⟨some a, o, some (b, true)⟩
abbrev of (a b : Nat) (o : DOp) : DO := ⟨some a, o, some (b, false)⟩
abbrev on (o : DOp) : DO := ⟨none, o, none⟩
def l3_0b : DC :=
 .seq (.seq (.reg [om 34 7, om 35 1, oo 36 (.len (.t 35)), oo 37 (.bin .lss .sc (.t 34) (.t 36)), om 38 37, omt 39 7 38, ot 40 38 (.bin .lss .sc (.t 39) (.k (.int .i64 60))), oo 41 (.pick (.t 38) (.t 40) (.k (.bool false)))]) <|
 .cond (.t 41)
 (.skip)
 (.exit 0)) <|
 .seq (.block 1 <|
 .seq (.reg [om 44 1, om 45 7, oo 46 (.idx 6 (.t 44) (.t 45)), oo 47 (.fld 1 (.t 46)), oo 48 (.ld 2 true (.t 47)), oo 8 (.alL [.nils, .nils]), on (.st 2 (.t 8) (.t 48))]) <|
 .seq (.seq (.reg [om 49 1, om 50 7, oo 51 (.idx 6 (.t 49) (.t 50)), oo 52 (.fld 0 (.t 51)), oo 53 (.ld 1 false (.t 52)), oo 54 (.bin .eql .sc (.t 53) (.k (.int .i64 1)))]) <|
 .cond (.t 54)
 (.drw [om 55 5, oo 56 (.ld 2 true (.t 8)), om 57 1, om 58 7, oo 59 (.idx 6 (.t 57) (.t 58)), oo 60 (.fld 3 (.t 59)), oo 61 (.ld 2 true (.t 60)), oo 62 (.call .eff 14 [(.t 55), (.t 56), (.t 61)])] [[], [], [], [], [], [], [4], [1, 4, 6]])
 (.skip)) <|
 .seq (.reg [om 63 5, oo 64 (.ld 2 true (.t 8)), oo 65 (.call .eff 15 [(.t 63), (.t 64)]), oo 9 (.alL [.nils, .nils]), on (.st 2 (.t 9) (.t 65))]) <|
 .seq (.reg [om 66 5, oo 67 (.call .ro 16 [(.t 66)]), om 10 67]) <|
 .seq (.seq (.reg [oo 68 (.fld 0 (.t 9)), oo 69 (.ld 1 false (.t 68)), oo 70 (.len (.t 69)), oo 71 (.fld 1 (.t 2)), oo 72 (.ld 1 false (.t 71)), oo 73 (.len (.t 72)), oo 74 (.bin .neq .sc (.t 70) (.t 73)), om 75 74, of 76 75 (.fld 1 (.t 9)), of 77 75 (.ld 1 false (.t 76)), of 78 75 (.len (.t 77)), of 79 75 (.fld 2 (.t 2)), of 80 75 (.ld 1 false (.t 79)), of 81 75 (.len (.t 80)), of 82 75 (.bin .neq .sc (.t 78) (.t 81)), oo 83 (.pick (.t 75) (.k (.bool true)) (.t 82)), om 84 83, omf 85 10 84, of 86 84 (.len (.t 85)), of 87 84 (.fld 3 (.t 2)), of 88 84 (.ld 1 false (.t 87)), of 89 84 (.len (.t 88)), of 90 84 (.bin .neq .sc (.t 86) (.t 89)), oo 91 (.pick (.t 84) (.k (.bool true)) (.t 90))]) <|
 .cond (.t 91)
 (.seq (.reg [oo 4 (.mv (.k (.bool false)))]) <|
 .ret)
 (.skip)) <|
 .seq (.seq (.reg [oo 92 (.ld 4 true (.t 2)), oo 93 (.ld 2 true (.t 8)), oo 94 (.call .blind 17 [(.t 92), (.t 93)]), oo 95 (.un .not (.t 94))]) <|
 .cond (.t 95)
 (.seq (.seq (.drw [oo 96 (.ld 2 true (.t 9)), om 97 5, oo 98 (.call .ro 19 [(.t 97)]), oo 99 (.call .blind 18 [(.t 96), (.t 98)]), oo 100 (.un .not (.t 99))] [[], [], [], [0, 2], []]) <|
 .cond (.t 100)
 (.seq (.reg [oo 4 (.mv (.k (.bool false)))]) <|
 .ret)
 (.skip)) <|
 .exit 1)
 (.skip)) <|
 .seq (.reg [oo 101 (.ld 4 true (.t 2)), om 102 10, oo 103 (.call .blind 20 [(.t 101), (.t 102)]), oo 104 (.un .not (.t 103)), om 105 104, of 106 105 (.ld 4 true (.t 2)), of 107 105 (.ld 2 true (.t 8)), of 108 105 (.ld 2 true (.t 9)), omf 109 10 105, of 110 105 (.call .blind 21 [(.t 106), (.t 107), (.t 108), (.t 109)]), of 111 105 (.un .not (.t 110)), oo 112 (.pick (.t 105) (.k (.bool true)) (.t 111))]) <|
 .cond (.t 112)
 (.seq (.reg [oo 4 (.mv (.k (.bool false)))]) <|
 .ret)
 (.skip)) <|
 .reg [om 42 7, oo 43 (.bin .add .sc (.t 42) (.k (.int .i64 1))), om 7 43]
def l3_0 : DC := .loop [1, 2, 5, 7] [2] l3_0b
def f3 : DFn := ⟨2, [.t 4],
 .seq (.reg [oo 2 (.boxL (.t 0)), oo 4 (.mv (.k (.bool false)))]) <|
 .seq (.seq (.reg [oo 11 (.ld 4 true (.t 2)), oo 12 (.call .blind 10 [(.t 11)]), oo 13 (.bin .geq .sc (.t 12) (.k (.int .i64 3000))), om 14 13, omf 15 1 14, of 16 14 (.call .blind 11 [(.t 15)]), oo 17 (.pick (.t 14) (.k (.bool true)) (.t 16)), om 18 17, of 19 18 (.ld 4 true (.t 2)), of 20 18 (.call .blind 12 [(.t 19)]), of 21 18 (.un .not (.t 20)), oo 22 (.pick (.t 18) (.k (.bool true)) (.t 21))]) <|
 .cond (.t 22)
 (.seq (.reg [oo 4 (.mv (.k (.bool true)))]) <|
 .ret)
 (.skip)) <|
 .seq (.reg [oo 24 (.ld 4 true (.t 2)), oo 25 (.call .eff 13 [(.t 24)]), om 23 25, oo 26 (.ext 0 (.t 23)), oo 27 (.ext 1 (.t 23)), om 5 26, om 6 27]) <|
 .seq (.seq (.reg [om 28 6, oo 29 (.bin .neq .sc (.t 28) (.k (.int .i64 0))), om 30 29, omf 31 5 30, of 32 30 (.bin .eql .np (.t 31) (.k (.nilp))), oo 33 (.pick (.t 30) (.k (.bool true)) (.t 32))]) <|
 .cond (.t 33)
 (.seq (.reg [oo 4 (.mv (.k (.bool false)))]) <|
 .ret)
 (.skip)) <|
 .seq (.seq (.reg [oo 7 (.mv (.k (.int .i64 0)))]) <|
 .block 0 <|
 l3_0) <|
 .seq (.reg [oo 113 (.call .blind 22 []), om 4 113]) <|
 .ret⟩

def l4_0b : DC :=
 .seq (.seq (.reg [om 45 11, om 46 1, oo 47 (.len (.t 46)), oo 48 (.bin .lss .sc (.t 45) (.t 47)), om 49 48, omt 50 11 49, ot 51 49 (.bin .lss .sc (.t 50) (.k (.int .i64 60))), oo 52 (.pick (.t 49) (.t 51) (.k (.bool false)))]) <|
 .cond (.t 52)
 (.skip)
 (.exit 0)) <|
 .seq (.block 1 <|
 .seq (.reg [om 55 1, om 56 11, oo 57 (.idx 6 (.t 55) (.t 56)), oo 58 (.fld 0 (.t 57)), oo 59 (.ld 1 false (.t 58)), oo 60 (.bin .eql .sc (.t 59) (.k (.int .i64 1)))]) <|
 .cond (.t 60)
 (.seq (.drw [om 61 7, om 62 1, om 63 11, oo 64 (.idx 6 (.t 62) (.t 63)), oo 65 (.fld 1 (.t 64)), oo 66 (.ld 2 true (.t 65)), om 67 1, om 68 11, oo 69 (.idx 6 (.t 67) (.t 68)), oo 70 (.fld 3 (.t 69)), oo 71 (.ld 2 true (.t 70)), oo 72 (.call .eff 14 [(.t 61), (.t 66), (.t 71)])] [[], [], [], [], [], [3], [], [], [], [], [8], [3, 5, 8, 10]]) <|
 .drw [om 73 9, om 74 1, om 75 11, oo 76 (.idx 6 (.t 74) (.t 75)), oo 77 (.fld 1 (.t 76)), oo 78 (.ld 2 true (.t 77)), om 79 1, om 80 11, oo 81 (.idx 6 (.t 79) (.t 80)), oo 82 (.fld 3 (.t 81)), oo 83 (.ld 2 true (.t 82)), oo 84 (.call .eff 24 [(.t 73), (.t 78), (.t 83)])] [[], [], [], [], [], [3], [], [], [], [], [8], [3, 5, 8, 10]])
 (.seq (.reg [om 85 7, om 86 1, om 87 11, oo 88 (.idx 6 (.t 86) (.t 87)), oo 89 (.fld 1 (.t 88)), oo 90 (.ld 2 true (.t 89)), oo 91 (.call .eff 15 [(.t 85), (.t 90)])]) <|
 .reg [om 92 9, om 93 1, om 94 11, oo 95 (.idx 6 (.t 93) (.t 94)), oo 96 (.fld 1 (.t 95)), oo 97 (.ld 2 true (.t 96)), oo 98 (.call .eff 25 [(.t 92), (.t 97)])])) <|
 .reg [om 53 11, oo 54 (.bin .add .sc (.t 53) (.k (.int .i64 1))), om 11 54]
def l4_0 : DC := .loop [1, 5, 7, 9, 11] [5] l4_0b
def f4 : DFn := ⟨3, [.t 6],
 .seq (.reg [oo 3 (.boxL (.t 0)), oo 5 (.boxL (.t 2)), oo 6 (.mv (.k (.bool false)))]) <|
 .seq (.seq (.reg [oo 12 (.ld 4 true (.t 3)), oo 13 (.call .blind 10 [(.t 12)]), oo 14 (.bin .geq .sc (.t 13) (.k (.int .i64 3000))), om 15 14, omf 16 1 15, of 17 15 (.call .blind 11 [(.t 16)]), oo 18 (.pick (.t 15) (.k (.bool true)) (.t 17)), om 19 18, of 20 19 (.ld 6 true (.t 5)), of 21 19 (.bsl false 6 [.int .i64 0, .nils, .nils, .int .i64 0, .int .i64 0, .nils] 1 [(0, (.t 20))]), of 22 19 (.call .blind 11 [(.t 21)]), oo 23 (.pick (.t 19) (.k (.bool true)) (.t 22)), om 24 23, of 25 24 (.ld 4 true (.t 3)), of 26 24 (.call .blind 12 [(.t 25)]), of 27 24 (.un .not (.t 26)), oo 28 (.pick (.t 24) (.k (.bool true)) (.t 27))]) <|
 .cond (.t 28)
 (.seq (.reg [oo 6 (.mv (.k (.bool true)))]) <|
 .ret)
 (.skip)) <|
 .seq (.reg [oo 30 (.ld 4 true (.t 3)), oo 31 (.call .eff 13 [(.t 30)]), om 29 31, oo 32 (.ext 0 (.t 29)), oo 33 (.ext 1 (.t 29)), om 7 32, om 8 33]) <|
 .seq (.reg [oo 35 (.ld 4 true (.t 3)), oo 36 (.call .eff 23 [(.t 35)]), om 34 36, oo 37 (.ext 0 (.t 34)), oo 38 (.ext 1 (.t 34)), om 9 37, om 10 38]) <|
 .seq (.seq (.reg [om 39 8, oo 40 (.bin .neq .sc (.t 39) (.k (.int .i64 0))), om 41 40, omf 42 7 41, of 43 41 (.bin .eql .np (.t 42) (.k (.nilp))), oo 44 (.pick (.t 41) (.k (.bool true)) (.t 43))]) <|
 .cond (.t 44)
 (.seq (.reg [oo 6 (.mv (.k (.bool false)))]) <|
 .ret)
 (.skip)) <|
 .seq (.seq (.reg [oo 11 (.mv (.k (.int .i64 0)))]) <|
 .block 0 <|
 l4_0) <|
 .seq (.reg [om 99 7, oo 100 (.fld 1 (.t 5)), oo 101 (.ld 2 true (.t 100)), oo 102 (.fld 3 (.t 5)), oo 103 (.ld 2 true (.t 102)), oo 104 (.call .eff 14 [(.t 99), (.t 101), (.t 103)]), oo 105 (.bin .eql .sc (.t 104) (.k (.int .i64 0))), om 106 105, omf 107 7 106, omf 108 9 106, of 109 106 (.call .ro 26 [(.t 107), (.t 108)]), oo 110 (.pick (.t 106) (.k (.bool true)) (.t 109)), om 111 110, ot 112 111 (.call .blind 22 []), oo 113 (.pick (.t 111) (.t 112) (.k (.bool false))), om 6 113]) <|
 .ret⟩

def l10_3b : DC :=
 .seq (.seq (.reg [om 82 7, oo 83 (.fld 3 (.t 1)), oo 84 (.ld 1 false (.t 83)), oo 85 (.len (.t 84)), oo 86 (.bin .lss .sc (.t 82) (.t 85)), om 87 86, omt 88 3 87, ot 89 87 (.bin .lss .sc (.t 88) (.k (.int .i64 3000))), oo 90 (.pick (.t 87) (.t 89) (.k (.bool false)))]) <|
 .cond (.t 90)
 (.skip)
 (.exit 6)) <|
 .seq (.block 7 <|
 .seq (.reg [oo 93 (.fld 3 (.t 1)), oo 94 (.ld 1 false (.t 93)), om 95 7, oo 96 (.idx 6 (.t 94) (.t 95)), oo 97 (.ld 6 true (.t 96)), oo 8 (.alL [.str [], .int .i64 0, .int .i64 0, .nils, .nils, .nils]), on (.st 6 (.t 8) (.t 97))]) <|
 .reg [om 98 3, oo 99 (.fld 0 (.t 8)), oo 100 (.ld 1 false (.t 99)), oo 101 (.lenS (.t 100)), oo 102 (.bin .add .sc (.t 98) (.t 101)), oo 103 (.fld 3 (.t 8)), oo 104 (.ld 1 false (.t 103)), oo 105 (.len (.t 104)), oo 106 (.bin .add .sc (.t 102) (.t 105)), oo 107 (.fld 4 (.t 8)), oo 108 (.ld 1 false (.t 107)), oo 109 (.len (.t 108)), oo 110 (.bin .add .sc (.t 106) (.t 109)), oo 111 (.fld 5 (.t 8)), oo 112 (.ld 1 false (.t 111)), oo 113 (.len (.t 112)), oo 114 (.bin .add .sc (.t 110) (.t 113)), om 3 114]) <|
 .reg [om 91 7, oo 92 (.bin .add .sc (.t 91) (.k (.int .i64 1))), om 7 92]
def l10_3 : DC := .loop [1, 3, 7] [1] l10_3b
def l10_2b : DC :=
 .seq (.seq (.reg [om 63 6, oo 64 (.fld 2 (.t 1)), oo 65 (.ld 1 false (.t 64)), oo 66 (.len (.t 65)), oo 67 (.bin .lss .sc (.t 63) (.t 66)), om 68 67, omt 69 3 68, ot 70 68 (.bin .lss .sc (.t 69) (.k (.int .i64 3000))), oo 71 (.pick (.t 68) (.t 70) (.k (.bool false)))]) <|
 .cond (.t 71)
 (.skip)
 (.exit 4)) <|
 .seq (.block 5 <|
 .reg [om 74 3, oo 75 (.fld 2 (.t 1)), oo 76 (.ld 1 false (.t 75)), om 77 6, oo 78 (.idx 1 (.t 76) (.t 77)), oo 79 (.ld 1 false (.t 78)), oo 80 (.lenS (.t 79)), oo 81 (.bin .add .sc (.t 74) (.t 80)), om 3 81]) <|
 .reg [om 72 6, oo 73 (.bin .add .sc (.t 72) (.k (.int .i64 1))), om 6 73]
def l10_2 : DC := .loop [1, 3, 6] [1] l10_2b
def l10_1b : DC :=
 .seq (.seq (.reg [om 43 5, oo 44 (.fld 1 (.t 1)), oo 45 (.ld 1 false (.t 44)), oo 46 (.len (.t 45)), oo 47 (.bin .lss .sc (.t 43) (.t 46)), om 48 47, omt 49 3 48, ot 50 48 (.bin .lss .sc (.t 49) (.k (.int .i64 3000))), oo 51 (.pick (.t 48) (.t 50) (.k (.bool false)))]) <|
 .cond (.t 51)
 (.skip)
 (.exit 2)) <|
 .seq (.block 3 <|
 .reg [om 54 3, oo 55 (.fld 1 (.t 1)), oo 56 (.ld 1 false (.t 55)), om 57 5, oo 58 (.idx 2 (.t 56) (.t 57)), oo 59 (.fld 0 (.t 58)), oo 60 (.ld 1 false (.t 59)), oo 61 (.lenS (.t 60)), oo 62 (.bin .add .sc (.t 54) (.t 61)), om 3 62]) <|
 .reg [om 52 5, oo 53 (.bin .add .sc (.t 52) (.k (.int .i64 1))), om 5 53]
def l10_1 : DC := .loop [1, 3, 5] [1] l10_1b
def l10_0b : DC :=
 .seq (.seq (.reg [om 24 4, oo 25 (.fld 0 (.t 1)), oo 26 (.ld 1 false (.t 25)), oo 27 (.len (.t 26)), oo 28 (.bin .lss .sc (.t 24) (.t 27)), om 29 28, omt 30 3 29, ot 31 29 (.bin .lss .sc (.t 30) (.k (.int .i64 3000))), oo 32 (.pick (.t 29) (.t 31) (.k (.bool false)))]) <|
 .cond (.t 32)
 (.skip)
 (.exit 0)) <|
 .seq (.block 1 <|
 .reg [om 35 3, oo 36 (.fld 0 (.t 1)), oo 37 (.ld 1 false (.t 36)), om 38 4, oo 39 (.idx 1 (.t 37) (.t 38)), oo 40 (.ld 1 false (.t 39)), oo 41 (.lenS (.t 40)), oo 42 (.bin .add .sc (.t 35) (.t 41)), om 3 42]) <|
 .reg [om 33 4, oo 34 (.bin .add .sc (.t 33) (.k (.int .i64 1))), om 4 34]
def l10_0 : DC := .loop [1, 3, 4] [1] l10_0b
def f10 : DFn := ⟨1, [.t 2],
 .seq (.reg [oo 1 (.boxL (.t 0)), oo 2 (.mv (.k (.int .i64 0)))]) <|
 .seq (.reg [oo 9 (.fld 0 (.t 1)), oo 10 (.ld 1 false (.t 9)), oo 11 (.len (.t 10)), oo 12 (.fld 1 (.t 1)), oo 13 (.ld 1 false (.t 12)), oo 14 (.len (.t 13)), oo 15 (.bin .add .sc (.t 11) (.t 14)), oo 16 (.fld 2 (.t 1)), oo 17 (.ld 1 false (.t 16)), oo 18 (.len (.t 17)), oo 19 (.bin .add .sc (.t 15) (.t 18)), oo 20 (.fld 3 (.t 1)), oo 21 (.ld 1 false (.t 20)), oo 22 (.len (.t 21)), oo 23 (.bin .add .sc (.t 19) (.t 22)), om 3 23]) <|
 .seq (.seq (.reg [oo 4 (.mv (.k (.int .i64 0)))]) <|
 .block 0 <|
 l10_0) <|
 .seq (.seq (.reg [oo 5 (.mv (.k (.int .i64 0)))]) <|
 .block 2 <|
 l10_1) <|
 .seq (.seq (.reg [oo 6 (.mv (.k (.int .i64 0)))]) <|
 .block 4 <|
 l10_2) <|
 .seq (.seq (.reg [oo 7 (.mv (.k (.int .i64 0)))]) <|
 .block 6 <|
 l10_3) <|
 .seq (.reg [om 115 3, om 2 115]) <|
 .ret⟩

def l11_0b : DC :=
 .seq (.seq (.reg [om 4 3, om 5 0, oo 6 (.len (.t 5)), oo 7 (.bin .lss .sc (.t 4) (.t 6)), om 8 7, omt 9 3 8, ot 10 8 (.bin .lss .sc (.t 9) (.k (.int .i64 60))), oo 11 (.pick (.t 8) (.t 10) (.k (.bool false)))]) <|
 .cond (.t 11)
 (.skip)
 (.exit 0)) <|
 .seq (.block 1 <|
 .seq (.reg [om 14 0, om 15 3, oo 16 (.idx 6 (.t 14) (.t 15)), oo 17 (.fld 1 (.t 16)), oo 18 (.ld 2 true (.t 17)), oo 19 (.call .blind 31 [(.t 18)]), om 20 19, omf 21 0 20, omf 22 3 20, of 23 20 (.idx 6 (.t 21) (.t 22)), of 24 20 (.fld 5 (.t 23)), of 25 20 (.ld 1 false (.t 24)), of 26 20 (.len (.t 25)), of 27 20 (.bin .gtr .sc (.t 26) (.k (.int .i64 50))), oo 28 (.pick (.t 20) (.k (.bool true)) (.t 27))]) <|
 .cond (.t 28)
 (.seq (.reg [oo 2 (.mv (.k (.bool true)))]) <|
 .ret)
 (.skip)) <|
 .reg [om 12 3, oo 13 (.bin .add .sc (.t 12) (.k (.int .i64 1))), om 3 13]
def l11_0 : DC := .loop [0, 3] [] l11_0b
def f11 : DFn := ⟨1, [.t 2],
 .seq (.reg [oo 2 (.mv (.k (.bool false)))]) <|
 .seq (.seq (.reg [oo 3 (.mv (.k (.int .i64 0)))]) <|
 .block 0 <|
 l11_0) <|
 .seq (.reg [oo 2 (.mv (.k (.bool false)))]) <|
 .ret⟩

def l12_2b : DC :=
 .seq (.seq (.reg [om 113 7, oo 114 (.fld 3 (.t 1)), oo 115 (.ld 1 false (.t 114)), oo 116 (.len (.t 115)), oo 117 (.bin .lss .sc (.t 113) (.t 116))]) <|
 .cond (.t 117)
 (.skip)
 (.exit 4)) <|
 .seq (.block 5 <|
 .seq (.drw [oo 120 (.ld 4 true (.t 1)), oo 121 (.fld 3 (.t 1)), oo 122 (.ld 1 false (.t 121)), om 123 7, oo 124 (.idx 6 (.t 122) (.t 123)), oo 125 (.ld 6 true (.t 124)), oo 126 (.call .blind 33 [(.t 120), (.t 125)]), oo 127 (.un .not (.t 126))] [[], [], [], [], [2], [2, 4], [0, 2, 4, 5], []]) <|
 .cond (.t 127)
 (.seq (.reg [oo 2 (.mv (.k (.bool false)))]) <|
 .ret)
 (.skip)) <|
 .reg [om 118 7, oo 119 (.bin .add .sc (.t 118) (.k (.int .i64 1))), om 7 119]
def l12_2 : DC := .loop [1, 7] [1] l12_2b
def l12_1b : DC :=
 .seq (.seq (.reg [om 77 6, oo 78 (.fld 3 (.t 1)), oo 79 (.ld 1 false (.t 78)), oo 80 (.len (.t 79)), oo 81 (.bin .lss .sc (.t 77) (.t 80))]) <|
 .cond (.t 81)
 (.skip)
 (.exit 2)) <|
 .seq (.block 3 <|
 .reg [om 84 4, oo 85 (.fld 3 (.t 1)), oo 86 (.ld 1 false (.t 85)), om 87 6, oo 88 (.idx 6 (.t 86) (.t 87)), oo 89 (.fld 0 (.t 88)), oo 90 (.ld 1 false (.t 89)), oo 91 (.bsl false 1 [.str []] 1 [(0, (.t 90))]), oo 92 (.app 1 16 (.t 84) (.t 91)), om 4 92]) <|
 .reg [om 82 6, oo 83 (.bin .add .sc (.t 82) (.k (.int .i64 1))), om 6 83]
def l12_1 : DC := .loop [1, 3, 4, 6] [1] l12_1b
def l12_0b : DC :=
 .seq (.seq (.reg [om 42 5, oo 43 (.fld 1 (.t 1)), oo 44 (.ld 1 false (.t 43)), oo 45 (.len (.t 44)), oo 46 (.bin .lss .sc (.t 42) (.t 45))]) <|
 .cond (.t 46)
 (.skip)
 (.exit 0)) <|
 .seq (.block 1 <|
 .seq (.reg [om 49 3, oo 50 (.fld 1 (.t 1)), oo 51 (.ld 1 false (.t 50)), om 52 5, oo 53 (.idx 2 (.t 51) (.t 52)), oo 54 (.fld 0 (.t 53)), oo 55 (.ld 1 false (.t 54)), oo 56 (.bsl false 1 [.str []] 1 [(0, (.t 55))]), oo 57 (.app 1 16 (.t 49) (.t 56)), om 3 57]) <|
 .seq (.drw [oo 58 (.fld 1 (.t 1)), oo 59 (.ld 1 false (.t 58)), om 60 5, oo 61 (.idx 2 (.t 59) (.t 60)), oo 62 (.fld 1 (.t 61)), oo 63 (.ld 1 false (.t 62)), oo 64 (.bin .lss .sc (.t 63) (.k (.int .i64 0))), om 65 64, of 66 65 (.fld 1 (.t 1)), of 67 65 (.ld 1 false (.t 66)), omf 68 5 65, of 69 65 (.idx 2 (.t 67) (.t 68)), of 70 65 (.fld 1 (.t 69)), of 71 65 (.ld 1 false (.t 70)), of 72 65 (.fld 0 (.t 1)), of 73 65 (.ld 1 false (.t 72)), of 74 65 (.len (.t 73)), of 75 65 (.bin .geq .sc (.t 71) (.t 74)), oo 76 (.pick (.t 65) (.k (.bool true)) (.t 75))] [[], [], [], [1], [], [1, 3], [], [], [], [1, 3, 5], [], [1, 3, 5, 9], [], [1, 3, 5, 9, 11], [], [1, 3, 5], [], [], []]) <|
 .cond (.t 76)
 (.seq (.reg [oo 2 (.mv (.k (.bool false)))]) <|
 .ret)
 (.skip)) <|
 .reg [om 47 5, oo 48 (.bin .add .sc (.t 47) (.k (.int .i64 1))), om 5 48]
def l12_0 : DC := .loop [1, 3, 4, 5] [1] l12_0b
def f12 : DFn := ⟨1, [.t 2],
 .seq (.reg [oo 1 (.boxL (.t 0)), oo 2 (.mv (.k (.bool false)))]) <|
 .seq (.seq (.reg [oo 8 (.fld 0 (.t 1)), oo 9 (.ld 1 false (.t 8)), oo 10 (.len (.t 9)), oo 11 (.bin .lss .sc (.t 10) (.k (.int .i64 1))), om 12 11, of 13 12 (.fld 0 (.t 1)), of 14 12 (.ld 1 false (.t 13)), of 15 12 (.len (.t 14)), of 16 12 (.bin .gtr .sc (.t 15) (.k (.int .i64 10))), oo 17 (.pick (.t 12) (.k (.bool true)) (.t 16)), om 18 17, of 19 18 (.fld 2 (.t 1)), of 20 18 (.ld 1 false (.t 19)), of 21 18 (.len (.t 20)), of 22 18 (.bin .lss .sc (.t 21) (.k (.int .i64 1))), oo 23 (.pick (.t 18) (.k (.bool true)) (.t 22)), om 24 23, of 25 24 (.fld 2 (.t 1)), of 26 24 (.ld 1 false (.t 25)), of 27 24 (.len (.t 26)), of 28 24 (.bin .gtr .sc (.t 27) (.k (.int .i64 6))), oo 29 (.pick (.t 24) (.k (.bool true)) (.t 28)), om 30 29, of 31 30 (.fld 1 (.t 1)), of 32 30 (.ld 1 false (.t 31)), of 33 30 (.len (.t 32)), of 34 30 (.bin .gtr .sc (.t 33) (.k (.int .i64 5))), oo 35 (.pick (.t 30) (.k (.bool true)) (.t 34)), om 36 35, of 37 36 (.fld 3 (.t 1)), of 38 36 (.ld 1 false (.t 37)), of 39 36 (.len (.t 38)), of 40 36 (.bin .gtr .sc (.t 39) (.k (.int .i64 6))), oo 41 (.pick (.t 36) (.k (.bool true)) (.t 40))]) <|
 .cond (.t 41)
 (.seq (.reg [oo 2 (.mv (.k (.bool false)))]) <|
 .ret)
 (.skip)) <|
 .seq (.reg [oo 3 (.mv (.k (.nils))), oo 4 (.mv (.k (.nils)))]) <|
 .seq (.seq (.reg [oo 5 (.mv (.k (.int .i64 0)))]) <|
 .block 0 <|
 l12_0) <|
 .seq (.seq (.reg [oo 6 (.mv (.k (.int .i64 0)))]) <|
 .block 2 <|
 l12_1) <|
 .seq (.seq (.reg [oo 93 (.fld 0 (.t 1)), oo 94 (.ld 1 false (.t 93)), oo 95 (.call .blind 32 [(.t 94)]), oo 96 (.un .not (.t 95)), om 97 96, of 98 97 (.fld 2 (.t 1)), of 99 97 (.ld 1 false (.t 98)), of 100 97 (.call .blind 32 [(.t 99)]), of 101 97 (.un .not (.t 100)), oo 102 (.pick (.t 97) (.k (.bool true)) (.t 101)), om 103 102, omf 104 3 103, of 105 103 (.call .blind 32 [(.t 104)]), of 106 103 (.un .not (.t 105)), oo 107 (.pick (.t 103) (.k (.bool true)) (.t 106)), om 108 107, omf 109 4 108, of 110 108 (.call .blind 32 [(.t 109)]), of 111 108 (.un .not (.t 110)), oo 112 (.pick (.t 108) (.k (.bool true)) (.t 111))]) <|
 .cond (.t 112)
 (.seq (.reg [oo 2 (.mv (.k (.bool false)))]) <|
 .ret)
 (.skip)) <|
 .seq (.seq (.reg [oo 7 (.mv (.k (.int .i64 0)))]) <|
 .block 4 <|
 l12_2) <|
 .seq (.reg [oo 2 (.mv (.k (.bool true)))]) <|
 .ret⟩

def f13 : DFn := ⟨1, [.t 2, .t 3],
 .seq (.reg [oo 1 (.boxL (.t 0)), oo 2 (.mv (.k (.nilp))), oo 3 (.mv (.k (.int .i64 0)))]) <|
 .seq (.seq (.reg [oo 4 (.ld 4 true (.t 1)), oo 5 (.call .blind 34 [(.t 4)]), oo 6 (.un .not (.t 5))]) <|
 .cond (.t 6)
 (.seq (.reg [oo 2 (.mv (.k (.nilp))), oo 3 (.mv (.k (.int .i64 9)))]) <|
 .ret)
 (.skip)) <|
 .seq (.drw [oo 7 (.ld 4 true (.t 1)), oo 8 (.call .blind 35 [(.t 7)]), oo 9 (.fld 3 (.t 1)), oo 10 (.ld 1 false (.t 9)), oo 11 (.len (.t 10)), oo 12 (.mks true 4 32 [.int .i64 0, .int .i64 0, .int .i64 0, .bool false] (.t 11)), oo 13 (.build [.nils, .nils, .nils, .nils, .nils] [(0, 4, (.t 8)), (4, 1, (.t 12))]), oo 14 (.boxH (.t 13)), om 2 14, oo 3 (.mv (.k (.int .i64 0)))] [[], [0], [], [], [], [3], [], [0, 1, 3, 5], [], []]) <|
 .ret⟩

def f14 : DFn := ⟨3, [.t 6],
 .seq (.reg [oo 4 (.boxL (.t 1)), oo 5 (.boxL (.t 2)), oo 6 (.mv (.k (.int .i64 0)))]) <|
 .seq (.block 0 <|
 .seq (.drw [om 8 0, oo 9 (.bin .eql .np (.t 8) (.k (.nilp))), om 10 9, omf 11 0 10, of 12 10 (.nilck (.t 11)), of 13 10 (.fld 0 (.t 12)), of 14 10 (.ld 4 true (.t 13)), of 15 10 (.ld 2 true (.t 4)), of 16 10 (.call .blind 36 [(.t 14), (.t 15)]), of 17 10 (.un .not (.t 16)), oo 18 (.pick (.t 10) (.k (.bool true)) (.t 17)), om 19 18, of 20 19 (.fld 0 (.t 5)), of 21 19 (.ld 1 false (.t 20)), of 22 19 (.bin .neq .sc (.t 21) (.k (.int .i64 1))), omf 23 22 19, ot 24 23 (.fld 0 (.t 5)), ot 25 23 (.ld 1 false (.t 24)), ot 26 23 (.bin .neq .sc (.t 25) (.k (.int .i64 2))), of 27 19 (.pick (.t 23) (.t 26) (.k (.bool false))), oo 28 (.pick (.t 19) (.k (.bool true)) (.t 27)), om 7 28] [[], [], [], [], [], [], [], [], [6, 7], [], [], [], [], [6, 7, 8], [], [], [], [6, 7, 8, 13], [], [], [], []]) <|
 .cond (.t 7)
 (.seq (.reg [oo 6 (.mv (.k (.int .i64 1)))]) <|
 .ret)
 (.seq (.drw [oo 30 (.fld 1 (.t 5)), oo 31 (.ld 1 false (.t 30)), oo 32 (.bin .lss .sc (.t 31) (.k (.int .i64 0))), om 33 32, of 34 33 (.fld 1 (.t 5)), of 35 33 (.ld 1 false (.t 34)), omf 36 0 33, of 37 33 (.nilck (.t 36)), of 38 33 (.fld 4 (.t 37)), of 39 33 (.ld 1 false (.t 38)), of 40 33 (.len (.t 39)), of 41 33 (.bin .geq .sc (.t 35) (.t 40)), oo 42 (.pick (.t 33) (.k (.bool true)) (.t 41)), om 29 42] [[], [], [], [], [], [1], [], [], [], [1], [], [], [], []]) <|
 .cond (.t 29)
 (.seq (.reg [oo 6 (.mv (.k (.int .i64 5)))]) <|
 .ret)
 (.seq (.reg [oo 44 (.fld 0 (.t 5)), oo 45 (.ld 1 false (.t 44)), oo 46 (.bin .eql .sc (.t 45) (.k (.int .i64 1))), om 43 46]) <|
 .cond (.t 43)
 (.seq (.reg [om 47 0, oo 48 (.ld 2 true (.t 4)), oo 49 (.fld 1 (.t 5)), oo 50 (.ld 1 false (.t 49)), oo 51 (.call .eff 37 [(.t 47), (.t 48), (.t 50)]), om 6 51]) <|
 .ret)
 (.skip)))) <|
 .seq (.reg [om 52 0, oo 53 (.fld 1 (.t 5)), oo 54 (.ld 1 false (.t 53)), oo 55 (.call .eff 38 [(.t 52), (.t 54)]), om 6 55]) <|
 .ret⟩

def l15_1b : DC :=
 .seq (.reg [oo 53 (.bin .lss .sc (.t 52) (.t 51))]) <|
 .seq (.cond (.t 53)
 (.skip)
 (.exit 2)) <|
 .seq (.block 3 <|
 .seq (.reg [om 54 52, oo 55 (.idx 4 (.t 50) (.t 52)), oo 56 (.ld 4 true (.t 55)), oo 8 (.alL [.int .i64 0, .int .i64 0, .int .i64 0, .bool false]), om 7 54, on (.st 4 (.t 8) (.t 56))]) <|
 .seq (.reg [om 57 0, oo 58 (.nilck (.t 57)), oo 59 (.fld 0 (.t 58)), oo 60 (.fld 3 (.t 59)), oo 61 (.ld 1 false (.t 60)), om 62 7, oo 63 (.idx 6 (.t 61) (.t 62)), oo 64 (.ld 6 true (.t 63)), oo 9 (.alL [.str [], .int .i64 0, .int .i64 0, .nils, .nils, .nils]), on (.st 6 (.t 9) (.t 64))]) <|
 .seq (.reg [oo 65 (.fld 0 (.t 8)), oo 66 (.ld 1 false (.t 65)), oo 67 (.bin .eql .sc (.t 66) (.k (.int .i64 2))), om 68 67, ot 69 68 (.ld 2 true (.t 3)), ot 70 68 (.fld 3 (.t 9)), ot 71 68 (.ld 1 false (.t 70)), ot 72 68 (.call .blind 41 [(.t 69), (.t 71)]), ot 73 68 (.un .not (.t 72)), oo 74 (.pick (.t 68) (.t 73) (.k (.bool false))), om 75 74, omt 76 0 75, ot 77 75 (.ld 2 true (.t 3)), omt 78 7 75, ot 79 75 (.call .ro 42 [(.t 76), (.t 77), (.t 78)]), oo 80 (.pick (.t 75) (.t 79) (.k (.bool false)))]) <|
 .cond (.t 80)
 (.reg [oo 81 (.fld 1 (.t 5)), oo 82 (.ld 1 false (.t 81)), oo 83 (.fld 1 (.t 9)), oo 84 (.ld 1 false (.t 83)), oo 85 (.idx 1 (.t 82) (.t 84)), on (.st 1 (.t 85) (.k (.bool true)))])
 (.skip)) <|
 .reg [oo 86 (.bin .add .sc (.t 52) (.k (.int .i64 1))), om 52 86]
def l15_1 : DC := .loop [0, 3, 4, 5, 50, 51, 52] [3, 4, 5] l15_1b
def l15_0b : DC :=
 .seq (.reg [oo 30 (.bin .lss .sc (.t 29) (.t 28))]) <|
 .seq (.cond (.t 30)
 (.skip)
 (.exit 0)) <|
 .seq (.block 1 <|
 .seq (.reg [om 31 29, om 6 31]) <|
 .drw [om 32 0, oo 33 (.nilck (.t 32)), oo 34 (.fld 4 (.t 33)), oo 35 (.ld 1 false (.t 34)), om 36 6, om 37 0, oo 38 (.ld 2 true (.t 3)), om 39 6, oo 40 (.call .ro 39 [(.t 37), (.t 38), (.t 39)]), oo 41 (.idx 4 (.t 35) (.t 36)), on (.st 4 (.t 41) (.t 40))] [[], [], [], [], [], [], [], [], [6], [3, 6, 8], [3, 6, 8, 9]]) <|
 .reg [oo 42 (.bin .add .sc (.t 29) (.k (.int .i64 1))), om 29 42]
def l15_0 : DC := .loop [0, 3, 4, 5, 28, 29] [3, 4, 5] l15_0b
def f15 : DFn := ⟨2, [.cell 4 2 true],
 .seq (.reg [oo 3 (.boxL (.t 1)), oo 4 (.alL [.nils, .nils])]) <|
 .seq (.reg [om 10 0, oo 11 (.call .eff 19 [(.t 10)]), oo 5 (.alL [.nils, .nils]), on (.st 2 (.t 5) (.t 11))]) <|
 .seq (.seq (.drw [om 12 0, oo 13 (.bin .eql .np (.t 12) (.k (.nilp))), om 14 13, omf 15 0 14, of 16 14 (.nilck (.t 15)), of 17 14 (.fld 0 (.t 16)), of 18 14 (.ld 4 true (.t 17)), of 19 14 (.ld 2 true (.t 3)), of 20 14 (.call .blind 36 [(.t 18), (.t 19)]), of 21 14 (.un .not (.t 20)), oo 22 (.pick (.t 14) (.k (.bool true)) (.t 21))] [[], [], [], [], [], [], [], [], [6, 7], [], []]) <|
 .cond (.t 22)
 (.seq (.reg [oo 23 (.ld 2 true (.t 5)), on (.st 2 (.t 4) (.t 23))]) <|
 .ret)
 (.skip)) <|
 .seq (.seq (.reg [om 24 0, oo 25 (.nilck (.t 24)), oo 26 (.fld 4 (.t 25)), oo 27 (.ld 1 false (.t 26)), oo 28 (.len (.t 27)), oo 29 (.mv (.k (.int .i64 0)))]) <|
 .block 0 <|
 l15_0) <|
 .seq (.reg [om 43 0, oo 44 (.ld 2 true (.t 3)), oo 45 (.ld 2 true (.t 5)), oo 46 (.call .eff 40 [(.t 43), (.t 44), (.t 45)])]) <|
 .seq (.seq (.reg [om 47 0, oo 48 (.nilck (.t 47)), oo 49 (.fld 4 (.t 48)), oo 50 (.ld 1 false (.t 49)), oo 51 (.len (.t 50)), oo 52 (.mv (.k (.int .i64 0)))]) <|
 .block 2 <|
 l15_1) <|
 .seq (.reg [oo 87 (.ld 2 true (.t 5)), on (.st 2 (.t 4) (.t 87))]) <|
 .ret⟩

def f16 : DFn := ⟨1, [.t 2],
 .seq (.reg [oo 2 (.mv (.k (.nils)))]) <|
 .seq (.seq (.reg [om 3 0, oo 4 (.bin .eql .np (.t 3) (.k (.nilp)))]) <|
 .cond (.t 4)
 (.seq (.reg [oo 2 (.mv (.k (.nils)))]) <|
 .ret)
 (.skip)) <|
 .seq (.reg [om 5 0, oo 6 (.nilck (.t 5)), oo 7 (.fld 4 (.t 6)), oo 8 (.ld 1 false (.t 7)), oo 9 (.call .eff 43 [(.t 8)]), om 2 9]) <|
 .ret⟩

def l17_0b : DC :=
 .seq (.seq (.reg [om 6 5, oo 7 (.fld 1 (.t 3)), oo 8 (.ld 1 false (.t 7)), oo 9 (.len (.t 8)), oo 10 (.bin .lss .sc (.t 6) (.t 9))]) <|
 .cond (.t 10)
 (.skip)
 (.exit 0)) <|
 .seq (.block 1 <|
 .seq (.reg [oo 13 (.fld 1 (.t 3)), oo 14 (.ld 1 false (.t 13)), om 15 5, oo 16 (.idx 1 (.t 14) (.t 15)), oo 17 (.ld 1 false (.t 16)), oo 18 (.bin .lss .sc (.t 17) (.k (.int .i64 0))), om 19 18, of 20 19 (.fld 1 (.t 3)), of 21 19 (.ld 1 false (.t 20)), omf 22 5 19, of 23 19 (.idx 1 (.t 21) (.t 22)), of 24 19 (.ld 1 false (.t 23)), of 25 19 (.bin .gtr .sc (.t 24) (.k (.int .i64 2))), oo 26 (.pick (.t 19) (.k (.bool true)) (.t 25))]) <|
 .cond (.t 26)
 (.seq (.reg [oo 4 (.mv (.k (.bool false)))]) <|
 .ret)
 (.skip)) <|
 .reg [om 11 5, oo 12 (.bin .add .sc (.t 11) (.k (.int .i64 1))), om 5 12]
def l17_0 : DC := .loop [2, 3, 5] [2, 3] l17_0b
def f17 : DFn := ⟨2, [.t 4],
 .seq (.reg [oo 2 (.boxL (.t 0)), oo 3 (.boxL (.t 1)), oo 4 (.mv (.k (.bool false)))]) <|
 .seq (.seq (.reg [oo 5 (.mv (.k (.int .i64 0)))]) <|
 .block 0 <|
 l17_0) <|
 .seq (.reg [oo 27 (.fld 0 (.t 3)), oo 28 (.ld 1 false (.t 27)), oo 29 (.len (.t 28)), oo 30 (.fld 0 (.t 2)), oo 31 (.ld 1 false (.t 30)), oo 32 (.len (.t 31)), oo 33 (.bin .eql .sc (.t 29) (.t 32)), om 34 33, ot 35 34 (.fld 1 (.t 3)), ot 36 34 (.ld 1 false (.t 35)), ot 37 34 (.len (.t 36)), ot 38 34 (.fld 1 (.t 2)), ot 39 34 (.ld 1 false (.t 38)), ot 40 34 (.len (.t 39)), ot 41 34 (.bin .eql .sc (.t 37) (.t 40)), oo 42 (.pick (.t 34) (.t 41) (.k (.bool false))), om 4 42]) <|
 .ret⟩

def l18_1b : DC :=
 .seq (.seq (.reg [om 41 6, oo 42 (.fld 1 (.t 2)), oo 43 (.ld 1 false (.t 42)), oo 44 (.len (.t 43)), oo 45 (.bin .lss .sc (.t 41) (.t 44))]) <|
 .cond (.t 45)
 (.skip)
 (.exit 2)) <|
 .seq (.block 3 <|
 .seq (.drw [oo 48 (.fld 1 (.t 2)), oo 49 (.ld 1 false (.t 48)), om 50 6, oo 51 (.idx 1 (.t 49) (.t 50)), oo 52 (.ld 1 false (.t 51)), oo 53 (.fld 1 (.t 3)), oo 54 (.ld 1 false (.t 53)), om 55 6, oo 56 (.idx 1 (.t 54) (.t 55)), oo 57 (.ld 1 false (.t 56)), oo 58 (.bin .neq .bl (.t 52) (.t 57))] [[], [], [], [1], [1, 3], [], [], [], [6], [6, 8], []]) <|
 .cond (.t 58)
 (.seq (.reg [oo 4 (.mv (.k (.bool false)))]) <|
 .ret)
 (.skip)) <|
 .reg [om 46 6, oo 47 (.bin .add .sc (.t 46) (.k (.int .i64 1))), om 6 47]
def l18_1 : DC := .loop [2, 3, 6] [2, 3] l18_1b
def l18_0b : DC :=
 .seq (.seq (.reg [om 23 5, oo 24 (.fld 0 (.t 2)), oo 25 (.ld 1 false (.t 24)), oo 26 (.len (.t 25)), oo 27 (.bin .lss .sc (.t 23) (.t 26))]) <|
 .cond (.t 27)
 (.skip)
 (.exit 0)) <|
 .seq (.block 1 <|
 .seq (.drw [oo 30 (.fld 0 (.t 2)), oo 31 (.ld 1 false (.t 30)), om 32 5, oo 33 (.idx 1 (.t 31) (.t 32)), oo 34 (.ld 1 false (.t 33)), oo 35 (.fld 0 (.t 3)), oo 36 (.ld 1 false (.t 35)), om 37 5, oo 38 (.idx 1 (.t 36) (.t 37)), oo 39 (.ld 1 false (.t 38)), oo 40 (.bin .neq .sc (.t 34) (.t 39))] [[], [], [], [1], [1, 3], [], [], [], [6], [6, 8], []]) <|
 .cond (.t 40)
 (.seq (.reg [oo 4 (.mv (.k (.bool false)))]) <|
 .ret)
 (.skip)) <|
 .reg [om 28 5, oo 29 (.bin .add .sc (.t 28) (.k (.int .i64 1))), om 5 29]
def l18_0 : DC := .loop [2, 3, 5] [2, 3] l18_0b
def f18 : DFn := ⟨2, [.t 4],
 .seq (.reg [oo 2 (.boxL (.t 0)), oo 3 (.boxL (.t 1)), oo 4 (.mv (.k (.bool false)))]) <|
 .seq (.seq (.reg [oo 7 (.fld 0 (.t 2)), oo 8 (.ld 1 false (.t 7)), oo 9 (.len (.t 8)), oo 10 (.fld 0 (.t 3)), oo 11 (.ld 1 false (.t 10)), oo 12 (.len (.t 11)), oo 13 (.bin .neq .sc (.t 9) (.t 12)), om 14 13, of 15 14 (.fld 1 (.t 2)), of 16 14 (.ld 1 false (.t 15)), of 17 14 (.len (.t 16)), of 18 14 (.fld 1 (.t 3)), of 19 14 (.ld 1 false (.t 18)), of 20 14 (.len (.t 19)), of 21 14 (.bin .neq .sc (.t 17) (.t 20)), oo 22 (.pick (.t 14) (.k (.bool true)) (.t 21))]) <|
 .cond (.t 22)
 (.seq (.reg [oo 4 (.mv (.k (.bool false)))]) <|
 .ret)
 (.skip)) <|
 .seq (.seq (.reg [oo 5 (.mv (.k (.int .i64 0)))]) <|
 .block 0 <|
 l18_0) <|
 .seq (.seq (.reg [oo 6 (.mv (.k (.int .i64 0)))]) <|
 .block 2 <|
 l18_1) <|
 .seq (.reg [oo 4 (.mv (.k (.bool true)))]) <|
 .ret⟩

def f19 : DFn := ⟨1, [.cell 2 2 true],
 .seq (.reg [oo 2 (.alL [.nils, .nils])]) <|
 .seq (.seq (.reg [om 3 0, oo 4 (.bin .eql .np (.t 3) (.k (.nilp)))]) <|
 .cond (.t 4)
 (.seq (.reg [oo 5 (.build [.nils, .nils] []), on (.st 2 (.t 2) (.t 5))]) <|
 .ret)
 (.skip)) <|
 .seq (.drw [om 6 0, oo 7 (.nilck (.t 6)), oo 8 (.fld 0 (.t 7)), oo 9 (.fld 1 (.t 8)), oo 10 (.ld 1 false (.t 9)), oo 11 (.len (.t 10)), oo 12 (.mks true 1 8 [.int .i64 0] (.t 11)), om 13 0, oo 14 (.nilck (.t 13)), oo 15 (.fld 0 (.t 14)), oo 16 (.fld 2 (.t 15)), oo 17 (.ld 1 false (.t 16)), oo 18 (.len (.t 17)), oo 19 (.mks true 1 1 [.bool false] (.t 18)), oo 20 (.build [.nils, .nils] [(0, 1, (.t 12)), (1, 1, (.t 19))]), on (.st 2 (.t 2) (.t 20))] [[], [], [], [], [], [], [4], [], [], [], [], [], [], [11], [], [4, 6, 11, 13]]) <|
 .ret⟩

def l20_1b : DC :=
 .seq (.seq (.reg [om 31 6, om 32 5, oo 33 (.bin .lss .sc (.t 31) (.t 32))]) <|
 .cond (.t 33)
 (.skip)
 (.exit 2)) <|
 .seq (.block 3 <|
 .seq (.reg [om 36 1, om 37 5, oo 38 (.idx 4 (.t 36) (.t 37)), oo 39 (.fld 0 (.t 38)), oo 40 (.ld 1 false (.t 39)), oo 41 (.bin .neq .sc (.t 40) (.k (.int .i64 0))), om 42 41, omt 43 1 42, omt 44 6 42, ot 45 42 (.idx 4 (.t 43) (.t 44)), ot 46 42 (.fld 0 (.t 45)), ot 47 42 (.ld 1 false (.t 46)), ot 48 42 (.bin .neq .sc (.t 47) (.k (.int .i64 0))), oo 49 (.pick (.t 42) (.t 48) (.k (.bool false))), om 50 49, ot 51 50 (.ld 4 true (.t 2)), omt 52 5 50, omt 53 6 50, ot 54 50 (.call .blind 30 [(.t 51), (.t 52), (.t 53)]), oo 55 (.pick (.t 50) (.t 54) (.k (.bool false)))]) <|
 .cond (.t 55)
 (.seq (.reg [oo 4 (.mv (.k (.bool false)))]) <|
 .ret)
 (.skip)) <|
 .reg [om 34 6, oo 35 (.bin .add .sc (.t 34) (.k (.int .i64 1))), om 6 35]
def l20_1 : DC := .loop [1, 2, 5, 6] [2] l20_1b
def l20_0b : DC :=
 .seq (.seq (.reg [om 13 5, om 14 1, oo 15 (.len (.t 14)), oo 16 (.bin .lss .sc (.t 13) (.t 15))]) <|
 .cond (.t 16)
 (.skip)
 (.exit 0)) <|
 .seq (.block 1 <|
 .seq (.seq (.drw [om 19 1, om 20 5, oo 21 (.idx 4 (.t 19) (.t 20)), oo 22 (.ld 4 true (.t 21)), oo 23 (.fld 3 (.t 2)), oo 24 (.ld 1 false (.t 23)), om 25 5, oo 26 (.idx 6 (.t 24) (.t 25)), oo 27 (.fld 3 (.t 26)), oo 28 (.ld 1 false (.t 27)), oo 29 (.call .blind 44 [(.t 22), (.t 28)]), oo 30 (.un .not (.t 29))] [[], [], [], [2], [], [], [], [5], [], [5, 7], [2, 3, 5, 7, 9], []]) <|
 .cond (.t 30)
 (.seq (.reg [oo 4 (.mv (.k (.bool false)))]) <|
 .ret)
 (.skip)) <|
 .seq (.reg [oo 6 (.mv (.k (.int .i64 0)))]) <|
 .block 2 <|
 l20_1) <|
 .reg [om 17 5, oo 18 (.bin .add .sc (.t 17) (.k (.int .i64 1))), om 5 18]
def l20_0 : DC := .loop [1, 2, 5] [2] l20_0b
def f20 : DFn := ⟨2, [.t 4],
 .seq (.reg [oo 2 (.boxL (.t 0)), oo 4 (.mv (.k (.bool false)))]) <|
 .seq (.seq (.reg [om 7 1, oo 8 (.len (.t 7)), oo 9 (.fld 3 (.t 2)), oo 10 (.ld 1 false (.t 9)), oo 11 (.len (.t 10)), oo 12 (.bin .neq .sc (.t 8) (.t 11))]) <|
 .cond (.t 12)
 (.seq (.reg [oo 4 (.mv (.k (.bool false)))]) <|
 .ret)
 (.skip)) <|
 .seq (.seq (.reg [oo 5 (.mv (.k (.int .i64 0)))]) <|
 .block 0 <|
 l20_0) <|
 .seq (.reg [oo 4 (.mv (.k (.bool true)))]) <|
 .ret⟩

def l21_3b : DC :=
 .seq (.seq (.reg [om 102 13, om 103 3, oo 104 (.len (.t 103)), oo 105 (.bin .lss .sc (.t 102) (.t 104))]) <|
 .cond (.t 105)
 (.skip)
 (.exit 6)) <|
 .seq (.block 7 <|
 .seq (.drw [oo 108 (.ld 4 true (.t 4)), om 109 13, om 110 3, om 111 13, oo 112 (.idx 4 (.t 110) (.t 111)), oo 113 (.ld 4 true (.t 112)), oo 114 (.fld 1 (.t 4)), oo 115 (.ld 1 false (.t 114)), om 116 12, oo 117 (.idx 2 (.t 115) (.t 116)), oo 118 (.fld 1 (.t 117)), oo 119 (.ld 1 false (.t 118)), oo 120 (.call .blind 47 [(.t 108), (.t 109), (.t 113), (.t 119)]), om 121 120, omt 122 3 121, omt 123 13 121, ot 124 121 (.idx 4 (.t 122) (.t 123)), ot 125 121 (.fld 0 (.t 124)), ot 126 121 (.ld 1 false (.t 125)), ot 127 121 (.bin .neq .sc (.t 126) (.k (.int .i64 1))), oo 128 (.pick (.t 121) (.t 127) (.k (.bool false)))] [[], [], [], [], [], [4], [], [], [], [7], [], [7, 9], [0, 4, 5, 7, 9, 11], [], [], [], [0, 4, 5, 7, 9, 11, 12], [], [0, 4, 5, 7, 9, 11, 12, 16], [], []]) <|
 .cond (.t 128)
 (.seq (.reg [oo 8 (.mv (.k (.bool false)))]) <|
 .ret)
 (.skip)) <|
 .reg [om 106 13, oo 107 (.bin .add .sc (.t 106) (.k (.int .i64 1))), om 13 107]
def l21_3 : DC := .loop [3, 4, 5, 6, 12, 13] [4, 5, 6] l21_3b
def l21_2b : DC :=
 .seq (.seq (.reg [om 66 12, oo 67 (.fld 1 (.t 4)), oo 68 (.ld 1 false (.t 67)), oo 69 (.len (.t 68)), oo 70 (.bin .lss .sc (.t 66) (.t 69))]) <|
 .cond (.t 70)
 (.skip)
 (.exit 4)) <|
 .seq (.block 5 <|
 .seq (.seq (.reg [oo 73 (.fld 0 (.t 6)), oo 74 (.ld 1 false (.t 73)), om 75 12, oo 76 (.idx 1 (.t 74) (.t 75)), oo 77 (.ld 1 false (.t 76)), oo 78 (.bin .eql .sc (.t 77) (.k (.int .i64 0)))]) <|
 .cond (.t 78)
 (.exit 5)
 (.skip)) <|
 .seq (.seq (.drw [oo 79 (.fld 0 (.t 5)), oo 80 (.ld 1 false (.t 79)), oo 81 (.fld 1 (.t 4)), oo 82 (.ld 1 false (.t 81)), om 83 12, oo 84 (.idx 2 (.t 82) (.t 83)), oo 85 (.fld 1 (.t 84)), oo 86 (.ld 1 false (.t 85)), oo 87 (.idx 1 (.t 80) (.t 86)), oo 88 (.ld 1 false (.t 87)), om 89 88, of 90 89 (.fld 0 (.t 6)), of 91 89 (.ld 1 false (.t 90)), omf 92 12 89, of 93 89 (.idx 1 (.t 91) (.t 92)), of 94 89 (.ld 1 false (.t 93)), of 95 89 (.fld 1 (.t 5)), of 96 89 (.ld 1 false (.t 95)), omf 97 12 89, of 98 89 (.idx 1 (.t 96) (.t 97)), of 99 89 (.ld 1 false (.t 98)), of 100 89 (.bin .eql .sc (.t 94) (.t 99)), oo 101 (.pick (.t 89) (.k (.bool true)) (.t 100))] [[], [], [], [], [], [3], [], [3, 5], [1, 3, 5, 7], [1, 3, 5, 7, 8], [], [], [1, 3, 5, 7, 8, 9], [], [1, 3, 5, 7, 8, 9, 12], [1, 3, 5, 7, 8, 9, 12, 14], [], [1, 3, 5, 7, 8, 9], [], [1, 3, 5, 7, 8, 9, 17], [1, 3, 5, 7, 8, 9, 17, 19], [], []]) <|
 .cond (.t 101)
 (.seq (.reg [oo 8 (.mv (.k (.bool false)))]) <|
 .ret)
 (.skip)) <|
 .seq (.reg [oo 13 (.mv (.k (.int .i64 0)))]) <|
 .block 6 <|
 l21_3) <|
 .reg [om 71 12, oo 72 (.bin .add .sc (.t 71) (.k (.int .i64 1))), om 12 72]
def l21_2 : DC := .loop [3, 4, 5, 6, 12] [4, 5, 6] l21_2b
def l21_1b : DC :=
 .seq (.seq (.reg [om 27 11, om 28 3, oo 29 (.len (.t 28)), oo 30 (.bin .lss .sc (.t 27) (.t 29))]) <|
 .cond (.t 30)
 (.skip)
 (.exit 2)) <|
 .seq (.block 3 <|
 .reg [om 33 10, om 34 33, omf 35 3 34, omf 36 11 34, of 37 34 (.idx 4 (.t 35) (.t 36)), of 38 34 (.fld 0 (.t 37)), of 39 34 (.ld 1 false (.t 38)), of 40 34 (.bin .eql .sc (.t 39) (.k (.int .i64 2))), omf 41 40 34, ot 42 41 (.fld 3 (.t 4)), ot 43 41 (.ld 1 false (.t 42)), omt 44 11 41, ot 45 41 (.idx 6 (.t 43) (.t 44)), ot 46 41 (.fld 1 (.t 45)), ot 47 41 (.ld 1 false (.t 46)), omt 48 9 41, ot 49 41 (.bin .eql .sc (.t 47) (.t 48)), of 50 34 (.pick (.t 41) (.t 49) (.k (.bool false))), omf 51 50 34, ot 52 51 (.ld 4 true (.t 4)), omt 53 11 51, ot 54 51 (.ld 2 true (.t 5)), ot 55 51 (.call .blind 45 [(.t 52), (.t 53), (.t 54)]), of 56 34 (.pick (.t 51) (.t 55) (.k (.bool false))), omf 57 56 34, ot 58 57 (.ld 4 true (.t 4)), omt 59 11 57, ot 60 57 (.ld 2 true (.t 5)), ot 61 57 (.call .blind 46 [(.t 58), (.t 59), (.t 60)]), of 62 34 (.pick (.t 57) (.t 61) (.k (.bool false))), oo 63 (.pick (.t 34) (.k (.bool true)) (.t 62)), om 10 63]) <|
 .reg [om 31 11, oo 32 (.bin .add .sc (.t 31) (.k (.int .i64 1))), om 11 32]
def l21_1 : DC := .loop [3, 4, 5, 6, 9, 10, 11] [4, 5, 6] l21_1b
def l21_0b : DC :=
 .seq (.seq (.reg [om 14 9, oo 15 (.fld 2 (.t 4)), oo 16 (.ld 1 false (.t 15)), oo 17 (.len (.t 16)), oo 18 (.bin .lss .sc (.t 14) (.t 17))]) <|
 .cond (.t 18)
 (.skip)
 (.exit 0)) <|
 .seq (.block 1 <|
 .seq (.reg [oo 21 (.fld 1 (.t 6)), oo 22 (.ld 1 false (.t 21)), om 23 9, oo 24 (.idx 1 (.t 22) (.t 23)), oo 25 (.ld 1 false (.t 24)), oo 26 (.un .not (.t 25)), om 10 26]) <|
 .seq (.seq (.reg [oo 11 (.mv (.k (.int .i64 0)))]) <|
 .block 2 <|
 l21_1) <|
 .seq (.reg [om 64 10, oo 65 (.un .not (.t 64))]) <|
 .cond (.t 65)
 (.seq (.reg [oo 8 (.mv (.k (.bool false)))]) <|
 .ret)
 (.skip)) <|
 .reg [om 19 9, oo 20 (.bin .add .sc (.t 19) (.k (.int .i64 1))), om 9 20]
def l21_0 : DC := .loop [3, 4, 5, 6, 9] [4, 5, 6] l21_0b
def f21 : DFn := ⟨4, [.t 8],
 .seq (.reg [oo 4 (.boxL (.t 0)), oo 5 (.boxL (.t 1)), oo 6 (.boxL (.t 2)), oo 8 (.mv (.k (.bool false)))]) <|
 .seq (.seq (.reg [oo 9 (.mv (.k (.int .i64 0)))]) <|
 .block 0 <|
 l21_0) <|
 .seq (.seq (.reg [oo 12 (.mv (.k (.int .i64 0)))]) <|
 .block 4 <|
 l21_2) <|
 .seq (.reg [oo 8 (.mv (.k (.bool true)))]) <|
 .ret⟩

def f22 : DFn := ⟨0, [.t 0],
 .seq (.reg [oo 0 (.mv (.k (.bool false)))]) <|
 .seq (.reg [oo 7 (.call .blind 27 []), oo 8 (.call .eff 13 [(.t 7)]), om 6 8, oo 9 (.ext 0 (.t 6)), oo 10 (.ext 1 (.t 6)), om 1 9, om 2 10]) <|
 .seq (.reg [oo 11 (.mks false 1 1 [.bool false] (.k (.int .i64 3))), oo 12 (.bsl false 1 [.int .i64 0] 1 [(0, (.k (.int .i64 1)))]), oo 13 (.build [.nils, .nils] [(0, 1, (.t 11)), (1, 1, (.t 12))]), oo 3 (.alL [.nils, .nils]), on (.st 2 (.t 3) (.t 13))]) <|
 .seq (.seq (.reg [om 14 2, oo 15 (.bin .neq .sc (.t 14) (.k (.int .i64 0))), om 16 15, omf 17 1 16, of 18 16 (.bin .eql .np (.t 17) (.k (.nilp))), oo 19 (.pick (.t 16) (.k (.bool true)) (.t 18)), om 20 19, omf 21 1 20, of 22 20 (.ld 2 true (.t 3)), of 23 20 (.build [.int .i64 0, .int .i64 0] [(0, 1, (.k (.int .i64 1)))]), of 24 20 (.call .eff 14 [(.t 21), (.t 22), (.t 23)]), of 25 20 (.bin .neq .sc (.t 24) (.k (.int .i64 0))), oo 26 (.pick (.t 20) (.k (.bool true)) (.t 25)), om 27 26, omf 28 1 27, of 29 27 (.call .ro 29 [(.t 28), (.k (.int .i64 1))]), of 30 27 (.bin .neq .sc (.t 29) (.k (.int .i64 0))), oo 31 (.pick (.t 27) (.k (.bool true)) (.t 30))]) <|
 .cond (.t 31)
 (.seq (.reg [oo 0 (.mv (.k (.bool false)))]) <|
 .ret)
 (.skip)) <|
 .seq (.reg [om 32 1, oo 33 (.ld 2 true (.t 3)), oo 34 (.call .eff 15 [(.t 32), (.t 33)]), oo 4 (.alL [.nils, .nils]), on (.st 2 (.t 4) (.t 34))]) <|
 .seq (.reg [om 35 1, oo 36 (.call .ro 16 [(.t 35)]), om 5 36]) <|
 .seq (.reg [om 37 5, oo 38 (.len (.t 37)), oo 39 (.bin .eql .sc (.t 38) (.k (.int .i64 2))), om 40 39, omt 41 5 40, ot 42 40 (.idx 4 (.t 41) (.k (.int .i64 0))), ot 43 40 (.fld 0 (.t 42)), ot 44 40 (.ld 1 false (.t 43)), ot 45 40 (.bin .eql .sc (.t 44) (.k (.int .i64 2))), oo 46 (.pick (.t 40) (.t 45) (.k (.bool false))), om 47 46, ot 48 47 (.fld 1 (.t 4)), ot 49 47 (.ld 1 false (.t 48)), ot 50 47 (.len (.t 49)), ot 51 47 (.bin .eql .sc (.t 50) (.k (.int .i64 3))), oo 52 (.pick (.t 47) (.t 51) (.k (.bool false))), om 53 52, ot 54 53 (.fld 1 (.t 4)), ot 55 53 (.ld 1 false (.t 54)), ot 56 53 (.idx 1 (.t 55) (.k (.int .i64 0))), ot 57 53 (.ld 1 false (.t 56)), oo 58 (.pick (.t 53) (.t 57) (.k (.bool false))), om 59 58, ot 60 59 (.fld 1 (.t 4)), ot 61 59 (.ld 1 false (.t 60)), ot 62 59 (.idx 1 (.t 61) (.k (.int .i64 1))), ot 63 59 (.ld 1 false (.t 62)), ot 64 59 (.un .not (.t 63)), oo 65 (.pick (.t 59) (.t 64) (.k (.bool false))), om 66 65, ot 67 66 (.fld 0 (.t 4)), ot 68 66 (.ld 1 false (.t 67)), ot 69 66 (.len (.t 68)), ot 70 66 (.bin .eql .sc (.t 69) (.k (.int .i64 1))), oo 71 (.pick (.t 66) (.t 70) (.k (.bool false))), om 72 71, ot 73 72 (.fld 0 (.t 4)), ot 74 72 (.ld 1 false (.t 73)), ot 75 72 (.idx 1 (.t 74) (.k (.int .i64 0))), ot 76 72 (.ld 1 false (.t 75)), ot 77 72 (.bin .eql .sc (.t 76) (.k (.int .i64 0))), oo 78 (.pick (.t 72) (.t 77) (.k (.bool false))), om 0 78]) <|
 .ret⟩

def f23 : DFn := ⟨1, [.t 2, .t 3],
 .seq (.reg [oo 1 (.boxL (.t 0)), oo 2 (.mv (.k (.nilp))), oo 3 (.mv (.k (.int .i64 0)))]) <|
 .seq (.seq (.reg [oo 4 (.ld 4 true (.t 1)), oo 5 (.call .blind 12 [(.t 4)]), oo 6 (.un .not (.t 5))]) <|
 .cond (.t 6)
 (.seq (.reg [oo 2 (.mv (.k (.nilp))), oo 3 (.mv (.k (.int .i64 9)))]) <|
 .ret)
 (.skip)) <|
 .seq (.drw [oo 7 (.ld 4 true (.t 1)), oo 8 (.fld 3 (.t 1)), oo 9 (.ld 1 false (.t 8)), oo 10 (.len (.t 9)), oo 11 (.mks true 4 32 [.int .i64 0, .int .i64 0, .int .i64 0, .bool false] (.t 10)), oo 12 (.build [.nils, .nils, .nils, .nils, .nils] [(0, 4, (.t 7)), (4, 1, (.t 11))]), oo 13 (.boxH (.t 12)), om 2 13, oo 3 (.mv (.k (.int .i64 0)))] [[], [], [], [], [2], [], [0, 2, 4], [], []]) <|
 .ret⟩

def f24 : DFn := ⟨3, [.t 6],
 .seq (.reg [oo 4 (.boxL (.t 1)), oo 5 (.boxL (.t 2)), oo 6 (.mv (.k (.int .i64 0)))]) <|
 .seq (.block 0 <|
 .seq (.drw [om 8 0, oo 9 (.nilck (.t 8)), oo 10 (.fld 0 (.t 9)), oo 11 (.ld 4 true (.t 10)), oo 12 (.ld 2 true (.t 4)), oo 13 (.call .blind 17 [(.t 11), (.t 12)]), oo 14 (.un .not (.t 13)), om 15 14, of 16 15 (.fld 0 (.t 5)), of 17 15 (.ld 1 false (.t 16)), of 18 15 (.bin .neq .sc (.t 17) (.k (.int .i64 1))), omf 19 18 15, ot 20 19 (.fld 0 (.t 5)), ot 21 19 (.ld 1 false (.t 20)), ot 22 19 (.bin .neq .sc (.t 21) (.k (.int .i64 2))), of 23 15 (.pick (.t 19) (.t 22) (.k (.bool false))), oo 24 (.pick (.t 15) (.k (.bool true)) (.t 23)), om 7 24] [[], [], [], [], [], [3, 4], [], [], [], [3, 4, 5], [], [], [], [3, 4, 5, 9], [], [], [], []]) <|
 .cond (.t 7)
 (.seq (.reg [oo 6 (.mv (.k (.int .i64 1)))]) <|
 .ret)
 (.seq (.drw [oo 26 (.fld 1 (.t 5)), oo 27 (.ld 1 false (.t 26)), oo 28 (.bin .lss .sc (.t 27) (.k (.int .i64 0))), om 29 28, of 30 29 (.fld 1 (.t 5)), of 31 29 (.ld 1 false (.t 30)), omf 32 0 29, of 33 29 (.nilck (.t 32)), of 34 29 (.fld 4 (.t 33)), of 35 29 (.ld 1 false (.t 34)), of 36 29 (.len (.t 35)), of 37 29 (.bin .geq .sc (.t 31) (.t 36)), oo 38 (.pick (.t 29) (.k (.bool true)) (.t 37)), om 25 38] [[], [], [], [], [], [1], [], [], [], [1], [], [], [], []]) <|
 .cond (.t 25)
 (.seq (.reg [oo 6 (.mv (.k (.int .i64 5)))]) <|
 .ret)
 (.seq (.reg [oo 40 (.fld 0 (.t 5)), oo 41 (.ld 1 false (.t 40)), oo 42 (.bin .eql .sc (.t 41) (.k (.int .i64 1))), om 39 42]) <|
 .cond (.t 39)
 (.seq (.reg [om 43 0, oo 44 (.ld 2 true (.t 4)), oo 45 (.fld 1 (.t 5)), oo 46 (.ld 1 false (.t 45)), oo 47 (.call .eff 48 [(.t 43), (.t 44), (.t 46)]), om 6 47]) <|
 .ret)
 (.seq (.drw [om 49 0, oo 50 (.nilck (.t 49)), oo 51 (.fld 4 (.t 50)), oo 52 (.ld 1 false (.t 51)), oo 53 (.fld 1 (.t 5)), oo 54 (.ld 1 false (.t 53)), oo 55 (.idx 4 (.t 52) (.t 54)), oo 56 (.fld 0 (.t 55)), oo 57 (.ld 1 false (.t 56)), oo 58 (.bin .eql .sc (.t 57) (.k (.int .i64 1))), om 48 58] [[], [], [], [], [], [], [3, 5], [], [3, 5, 6], [], []]) <|
 .cond (.t 48)
 (.seq (.drw [om 59 0, oo 60 (.nilck (.t 59)), oo 61 (.fld 4 (.t 60)), oo 62 (.ld 1 false (.t 61)), oo 63 (.fld 1 (.t 5)), oo 64 (.ld 1 false (.t 63)), oo 65 (.build [.int .i64 0, .int .i64 0, .int .i64 0, .bool false] []), oo 66 (.idx 4 (.t 62) (.t 64)), on (.st 4 (.t 66) (.t 65))] [[], [], [], [], [], [], [], [3, 5], [3, 5, 7]]) <|
 .seq (.reg [oo 6 (.mv (.k (.int .i64 0)))]) <|
 .ret)
 (.seq (.drw [om 68 0, oo 69 (.nilck (.t 68)), oo 70 (.fld 4 (.t 69)), oo 71 (.ld 1 false (.t 70)), oo 72 (.fld 1 (.t 5)), oo 73 (.ld 1 false (.t 72)), oo 74 (.idx 4 (.t 71) (.t 73)), oo 75 (.fld 0 (.t 74)), oo 76 (.ld 1 false (.t 75)), oo 77 (.bin .eql .sc (.t 76) (.k (.int .i64 2))), om 67 77] [[], [], [], [], [], [], [3, 5], [], [3, 5, 6], [], []]) <|
 .cond (.t 67)
 (.seq (.drw [om 78 0, oo 79 (.nilck (.t 78)), oo 80 (.fld 4 (.t 79)), oo 81 (.ld 1 false (.t 80)), oo 82 (.fld 1 (.t 5)), oo 83 (.ld 1 false (.t 82)), oo 84 (.build [.int .i64 0, .int .i64 0, .int .i64 0, .bool false] [(0, 1, (.k (.int .i64 4)))]), oo 85 (.idx 4 (.t 81) (.t 83)), on (.st 4 (.t 85) (.t 84))] [[], [], [], [], [], [], [], [3, 5], [3, 5, 7]]) <|
 .seq (.reg [oo 6 (.mv (.k (.int .i64 0)))]) <|
 .ret)
 (.skip)))))) <|
 .seq (.reg [oo 6 (.mv (.k (.int .i64 7)))]) <|
 .ret⟩

def l25_2b : DC :=
 .seq (.seq (.reg [om 59 9, om 60 8, oo 61 (.len (.t 60)), oo 62 (.bin .lss .sc (.t 59) (.t 61))]) <|
 .cond (.t 62)
 (.skip)
 (.exit 4)) <|
 .seq (.block 5 <|
 .seq (.drw [om 65 0, oo 66 (.nilck (.t 65)), oo 67 (.fld 0 (.t 66)), oo 68 (.fld 1 (.t 67)), oo 69 (.ld 1 false (.t 68)), om 70 8, om 71 9, oo 72 (.idx 2 (.t 70) (.t 71)), oo 73 (.fld 0 (.t 72)), oo 74 (.ld 1 false (.t 73)), oo 75 (.idx 2 (.t 69) (.t 74)), oo 76 (.fld 1 (.t 75)), oo 77 (.ld 1 false (.t 76)), om 10 77] [[], [], [], [], [], [], [], [], [], [7], [4, 7, 9], [], [4, 7, 9, 10], []]) <|
 .seq (.reg [om 78 0, om 79 10, oo 80 (.call .ro 52 [(.t 78), (.t 79)]), om 11 80]) <|
 .seq (.drw [oo 81 (.fld 1 (.t 3)), oo 82 (.ld 1 false (.t 81)), om 83 8, om 84 9, oo 85 (.idx 2 (.t 83) (.t 84)), oo 86 (.fld 0 (.t 85)), oo 87 (.ld 1 false (.t 86)), oo 88 (.idx 1 (.t 82) (.t 87)), oo 89 (.ld 1 false (.t 88)), om 90 8, om 91 9, oo 92 (.idx 2 (.t 90) (.t 91)), oo 93 (.ld 2 true (.t 92)), oo 94 (.call .blind 53 [(.t 93)]), oo 95 (.bin .neq .sc (.t 89) (.t 94)), om 96 95, ot 97 96 (.fld 0 (.t 3)), ot 98 96 (.ld 1 false (.t 97)), omt 99 10 96, ot 100 96 (.idx 1 (.t 98) (.t 99)), ot 101 96 (.ld 1 false (.t 100)), ot 102 96 (.un .not (.t 101)), oo 103 (.pick (.t 96) (.t 102) (.k (.bool false))), om 104 103, omt 105 11 104, ot 106 104 (.bin .lss .sc (.t 105) (.k (.int .i64 0))), omt 107 106 104, omf 108 11 107, omf 109 7 107, of 110 107 (.bin .eql .sc (.t 108) (.t 109)), ot 111 104 (.pick (.t 107) (.k (.bool true)) (.t 110)), oo 112 (.pick (.t 104) (.t 111) (.k (.bool false)))] [[], [], [], [], [], [], [4], [1, 4, 6], [1, 4, 6, 7], [], [], [], [11], [11, 12], [], [], [], [1, 4, 6, 7, 8, 11, 12, 13], [], [1, 4, 6, 7, 8, 11, 12, 13, 17], [1, 4, 6, 7, 8, 11, 12, 13, 17, 19], [], [], [], [], [], [], [], [], [], [], []]) <|
 .cond (.t 112)
 (.drw [oo 113 (.fld 0 (.t 5)), oo 114 (.ld 1 false (.t 113)), om 115 8, om 116 9, oo 117 (.idx 2 (.t 115) (.t 116)), oo 118 (.fld 0 (.t 117)), oo 119 (.ld 1 false (.t 118)), om 120 8, om 121 9, oo 122 (.idx 2 (.t 120) (.t 121)), oo 123 (.ld 2 true (.t 122)), oo 124 (.call .blind 53 [(.t 123)]), oo 125 (.idx 1 (.t 114) (.t 119)), on (.st 1 (.t 125) (.t 124))] [[], [], [], [], [], [], [4], [], [], [], [9], [9, 10], [1, 4, 6, 9, 10, 11], [1, 4, 6, 9, 10, 11, 12]])
 (.skip)) <|
 .reg [om 63 9, oo 64 (.bin .add .sc (.t 63) (.k (.int .i64 1))), om 9 64]
def l25_2 : DC := .loop [0, 3, 4, 5, 7, 8, 9] [3, 4, 5] l25_2b
def l25_1b : DC :=
 .seq (.seq (.reg [om 35 7, om 36 0, oo 37 (.nilck (.t 36)), oo 38 (.fld 4 (.t 37)), oo 39 (.ld 1 false (.t 38)), oo 40 (.len (.t 39)), oo 41 (.bin .lss .sc (.t 35) (.t 40))]) <|
 .cond (.t 41)
 (.skip)
 (.exit 2)) <|
 .seq (.block 3 <|
 .seq (.seq (.reg [om 44 0, oo 45 (.nilck (.t 44)), oo 46 (.fld 4 (.t 45)), oo 47 (.ld 1 false (.t 46)), om 48 7, oo 49 (.idx 4 (.t 47) (.t 48)), oo 50 (.fld 0 (.t 49)), oo 51 (.ld 1 false (.t 50)), oo 52 (.bin .eql .sc (.t 51) (.k (.int .i64 1)))]) <|
 .cond (.t 52)
 (.seq (.reg [om 53 0, oo 54 (.nilck (.t 53)), oo 55 (.fld 0 (.t 54)), oo 56 (.ld 4 true (.t 55)), om 57 7, oo 58 (.call .blind 51 [(.t 56), (.t 57)]), om 8 58]) <|
 .seq (.reg [oo 9 (.mv (.k (.int .i64 0)))]) <|
 .block 4 <|
 l25_2)
 (.skip)) <|
 .seq (.drw [om 126 0, oo 127 (.nilck (.t 126)), oo 128 (.fld 4 (.t 127)), oo 129 (.ld 1 false (.t 128)), om 130 7, oo 131 (.idx 4 (.t 129) (.t 130)), oo 132 (.fld 0 (.t 131)), oo 133 (.ld 1 false (.t 132)), oo 134 (.bin .eql .sc (.t 133) (.k (.int .i64 2))), om 135 134, omt 136 0 135, ot 137 135 (.nilck (.t 136)), ot 138 135 (.fld 0 (.t 137)), ot 139 135 (.ld 4 true (.t 138)), omt 140 7 135, ot 141 135 (.ld 2 true (.t 3)), ot 142 135 (.call .blind 45 [(.t 139), (.t 140), (.t 141)]), oo 143 (.pick (.t 135) (.t 142) (.k (.bool false))), om 144 143, omt 145 0 144, ot 146 144 (.nilck (.t 145)), ot 147 144 (.fld 0 (.t 146)), ot 148 144 (.ld 4 true (.t 147)), omt 149 7 144, ot 150 144 (.ld 2 true (.t 3)), ot 151 144 (.call .blind 46 [(.t 148), (.t 149), (.t 150)]), oo 152 (.pick (.t 144) (.t 151) (.k (.bool false)))] [[], [], [], [], [], [3], [], [3, 5], [], [], [], [], [], [3, 5, 7], [], [3, 5, 7], [3, 5, 7, 13, 15], [], [], [], [], [], [3, 5, 7, 13, 15, 16], [], [3, 5, 7, 13, 15, 16], [3, 5, 7, 13, 15, 16, 22, 24], []]) <|
 .cond (.t 152)
 (.drw [oo 153 (.fld 1 (.t 5)), oo 154 (.ld 1 false (.t 153)), om 155 0, oo 156 (.nilck (.t 155)), oo 157 (.fld 0 (.t 156)), oo 158 (.fld 3 (.t 157)), oo 159 (.ld 1 false (.t 158)), om 160 7, oo 161 (.idx 6 (.t 159) (.t 160)), oo 162 (.fld 1 (.t 161)), oo 163 (.ld 1 false (.t 162)), oo 164 (.idx 1 (.t 154) (.t 163)), on (.st 1 (.t 164) (.k (.bool true)))] [[], [], [], [], [], [], [], [], [6], [], [6, 8], [1, 6, 8, 10], [1, 6, 8, 10, 11]])
 (.skip)) <|
 .reg [om 42 7, oo 43 (.bin .add .sc (.t 42) (.k (.int .i64 1))), om 7 43]
def l25_1 : DC := .loop [0, 3, 4, 5, 7] [3, 4, 5] l25_1b
def l25_0b : DC :=
 .seq (.seq (.reg [om 22 6, om 23 0, oo 24 (.nilck (.t 23)), oo 25 (.fld 4 (.t 24)), oo 26 (.ld 1 false (.t 25)), oo 27 (.len (.t 26)), oo 28 (.bin .lss .sc (.t 22) (.t 27))]) <|
 .cond (.t 28)
 (.skip)
 (.exit 0)) <|
 .seq (.block 1 <|
 .reg [om 31 0, oo 32 (.ld 2 true (.t 3)), om 33 6, oo 34 (.call .eff 50 [(.t 31), (.t 32), (.t 33)])]) <|
 .reg [om 29 6, oo 30 (.bin .add .sc (.t 29) (.k (.int .i64 1))), om 6 30]
def l25_0 : DC := .loop [0, 3, 4, 5, 6] [3, 4, 5] l25_0b
def f25 : DFn := ⟨2, [.cell 4 2 true],
 .seq (.reg [oo 3 (.boxL (.t 1)), oo 4 (.alL [.nils, .nils])]) <|
 .seq (.reg [om 12 0, oo 13 (.call .eff 49 [(.t 12)]), oo 5 (.alL [.nils, .nils]), on (.st 2 (.t 5) (.t 13))]) <|
 .seq (.seq (.drw [om 14 0, oo 15 (.nilck (.t 14)), oo 16 (.fld 0 (.t 15)), oo 17 (.ld 4 true (.t 16)), oo 18 (.ld 2 true (.t 3)), oo 19 (.call .blind 17 [(.t 17), (.t 18)]), oo 20 (.un .not (.t 19))] [[], [], [], [], [], [3, 4], []]) <|
 .cond (.t 20)
 (.seq (.reg [oo 21 (.ld 2 true (.t 5)), on (.st 2 (.t 4) (.t 21))]) <|
 .ret)
 (.skip)) <|
 .seq (.seq (.reg [oo 6 (.mv (.k (.int .i64 0)))]) <|
 .block 0 <|
 l25_0) <|
 .seq (.seq (.reg [oo 7 (.mv (.k (.int .i64 0)))]) <|
 .block 2 <|
 l25_1) <|
 .seq (.reg [oo 165 (.ld 2 true (.t 5)), on (.st 2 (.t 4) (.t 165))]) <|
 .ret⟩

def l26_0b : DC :=
 .seq (.seq (.reg [om 22 5, om 23 1, oo 24 (.nilck (.t 23)), oo 25 (.fld 0 (.t 24)), oo 26 (.fld 0 (.t 25)), oo 27 (.ld 1 false (.t 26)), oo 28 (.len (.t 27)), oo 29 (.bin .leq .sc (.t 22) (.t 28))]) <|
 .cond (.t 29)
 (.skip)
 (.exit 0)) <|
 .seq (.block 1 <|
 .seq (.reg [om 32 0, om 33 5, oo 34 (.call .ro 29 [(.t 32), (.t 33)]), om 35 1, om 36 5, oo 37 (.call .ro 52 [(.t 35), (.t 36)]), oo 38 (.bin .neq .sc (.t 34) (.t 37))]) <|
 .cond (.t 38)
 (.seq (.reg [oo 4 (.mv (.k (.bool false)))]) <|
 .ret)
 (.skip)) <|
 .reg [om 30 5, oo 31 (.bin .add .sc (.t 30) (.k (.int .i64 1))), om 5 31]
def l26_0 : DC := .loop [0, 1, 5] [] l26_0b
def f26 : DFn := ⟨2, [.t 4],
 .seq (.reg [oo 4 (.mv (.k (.bool false)))]) <|
 .seq (.seq (.drw [om 6 0, oo 7 (.call .ro 16 [(.t 6)]), om 8 1, oo 9 (.nilck (.t 8)), oo 10 (.fld 4 (.t 9)), oo 11 (.ld 1 false (.t 10)), oo 12 (.call .blind 54 [(.t 7), (.t 11)]), oo 13 (.un .not (.t 12)), om 14 13, omf 15 0 14, of 16 14 (.call .ro 19 [(.t 15)]), omf 17 1 14, of 18 14 (.call .ro 49 [(.t 17)]), of 19 14 (.call .blind 18 [(.t 16), (.t 18)]), of 20 14 (.un .not (.t 19)), oo 21 (.pick (.t 14) (.k (.bool true)) (.t 20))] [[], [], [], [], [], [], [1, 5], [], [], [], [1, 5, 6], [], [1, 5, 6, 10], [1, 5, 6, 10, 12], [], []]) <|
 .cond (.t 21)
 (.seq (.reg [oo 4 (.mv (.k (.bool false)))]) <|
 .ret)
 (.skip)) <|
 .seq (.seq (.reg [oo 5 (.mv (.k (.int .i64 (-1))))]) <|
 .block 0 <|
 l26_0) <|
 .seq (.reg [oo 4 (.mv (.k (.bool true)))]) <|
 .ret⟩

def f27 : DFn := ⟨0, [.cell 0 4 true],
 .seq (.reg [oo 0 (.alL [.nils, .nils, .nils, .nils])]) <|
 .seq (.reg [oo 1 (.bsl false 1 [.str []] 3 [(0, (.k (.str [97]))), (1, (.k (.str [98]))), (2, (.k (.str [99])))]), oo 2 (.build [.str [], .int .i64 0] [(0, 1, (.k (.str [112]))), (1, 1, (.k (.int .i64 1)))]), oo 3 (.bsl false 2 [.str [], .int .i64 0] 1 [(0, (.t 2))]), oo 4 (.bsl false 1 [.str []] 3 [(0, (.k (.str [115]))), (1, (.k (.str [116]))), (2, (.k (.str [117])))]), oo 5 (.bsl false 1 [.int .i64 0] 2 [(0, (.k (.int .i64 0))), (1, (.k (.int .i64 1)))]), oo 6 (.build [.int .i64 0, .bool false] [(0, 1, (.k (.int .i64 0)))]), oo 7 (.bsl false 2 [.int .i64 0, .bool false] 1 [(0, (.t 6))]), oo 8 (.build [.str [], .int .i64 0, .int .i64 0, .nils, .nils, .nils] [(0, 1, (.k (.str [114]))), (1, 1, (.k (.int .i64 0))), (2, 1, (.k (.int .i64 1))), (3, 1, (.t 5)), (4, 1, (.t 7))]), oo 9 (.bsl false 1 [.int .i64 0] 1 [(0, (.k (.int .i64 2)))]), oo 10 (.build [.str [], .int .i64 0, .int .i64 0, .nils, .nils, .nils] [(0, 1, (.k (.str [113]))), (1, 1, (.k (.int .i64 1))), (2, 1, (.k (.int .i64 2))), (3, 1, (.t 9))]), oo 11 (.bsl false 6 [.str [], .int .i64 0, .int .i64 0, .nils, .nils, .nils] 2 [(0, (.t 8)), (1, (.t 10))]), oo 12 (.build [.nils, .nils, .nils, .nils] [(0, 1, (.t 1)), (1, 1, (.t 3)), (2, 1, (.t 4)), (3, 1, (.t 11))]), on (.st 4 (.t 0) (.t 12))]) <|
 .ret⟩

def l29_0b : DC :=
 .seq (.reg [oo 14 (.bin .lss .sc (.t 13) (.t 12))]) <|
 .seq (.cond (.t 14)
 (.skip)
 (.exit 0)) <|
 .seq (.block 1 <|
 .seq (.reg [om 15 13, om 5 15]) <|
 .seq (.reg [om 16 0, om 17 5, oo 18 (.call .ro 56 [(.t 16), (.t 17)]), om 19 1, oo 20 (.call .blind 55 [(.t 18), (.t 19)])]) <|
 .cond (.t 20)
 (.seq (.reg [om 21 5, om 4 21]) <|
 .ret)
 (.skip)) <|
 .reg [oo 22 (.bin .add .sc (.t 13) (.k (.int .i64 1))), om 13 22]
def l29_0 : DC := .loop [0, 1, 12, 13] [] l29_0b
def f29 : DFn := ⟨2, [.t 4],
 .seq (.reg [oo 4 (.mv (.k (.int .i64 0)))]) <|
 .seq (.seq (.reg [om 6 0, oo 7 (.bin .eql .np (.t 6) (.k (.nilp)))]) <|
 .cond (.t 7)
 (.seq (.reg [oo 4 (.mv (.k (.int .i64 (-1))))]) <|
 .ret)
 (.skip)) <|
 .seq (.seq (.reg [om 8 0, oo 9 (.nilck (.t 8)), oo 10 (.fld 4 (.t 9)), oo 11 (.ld 1 false (.t 10)), oo 12 (.len (.t 11)), oo 13 (.mv (.k (.int .i64 0)))]) <|
 .block 0 <|
 l29_0) <|
 .seq (.reg [oo 4 (.mv (.k (.int .i64 (-1))))]) <|
 .ret⟩

def l30_2b : DC :=
 .seq (.seq (.reg [om 61 13, om 62 11, oo 63 (.len (.t 62)), oo 64 (.bin .lss .sc (.t 61) (.t 63))]) <|
 .cond (.t 64)
 (.skip)
 (.exit 4)) <|
 .seq (.block 5 <|
 .seq (.drw [om 67 10, om 68 12, oo 69 (.idx 2 (.t 67) (.t 68)), oo 70 (.fld 0 (.t 69)), oo 71 (.ld 1 false (.t 70)), om 72 11, om 73 13, oo 74 (.idx 2 (.t 72) (.t 73)), oo 75 (.fld 0 (.t 74)), oo 76 (.ld 1 false (.t 75)), oo 77 (.bin .eql .sc (.t 71) (.t 76)), om 78 77, omt 79 10 78, omt 80 12 78, ot 81 78 (.idx 2 (.t 79) (.t 80)), ot 82 78 (.fld 1 (.t 81)), ot 83 78 (.ld 1 false (.t 82)), omt 84 11 78, omt 85 13 78, ot 86 78 (.idx 2 (.t 84) (.t 85)), ot 87 78 (.fld 1 (.t 86)), ot 88 78 (.ld 1 false (.t 87)), ot 89 78 (.bin .neq .bl (.t 83) (.t 88)), oo 90 (.pick (.t 78) (.t 89) (.k (.bool false)))] [[], [], [], [], [2], [], [], [], [], [7], [], [], [], [], [2, 4, 7, 9], [], [2, 4, 7, 9, 14], [], [], [2, 4, 7, 9], [], [2, 4, 7, 9, 19], [], []]) <|
 .cond (.t 90)
 (.seq (.reg [oo 6 (.mv (.k (.bool true)))]) <|
 .ret)
 (.skip)) <|
 .reg [om 65 13, oo 66 (.bin .add .sc (.t 65) (.k (.int .i64 1))), om 13 66]
def l30_2 : DC := .loop [10, 11, 12, 13] [] l30_2b
def l30_1b : DC :=
 .seq (.seq (.reg [om 55 12, om 56 10, oo 57 (.len (.t 56)), oo 58 (.bin .lss .sc (.t 55) (.t 57))]) <|
 .cond (.t 58)
 (.skip)
 (.exit 2)) <|
 .seq (.block 3 <|
 .seq (.reg [oo 13 (.mv (.k (.int .i64 0)))]) <|
 .block 4 <|
 l30_2) <|
 .reg [om 59 12, oo 60 (.bin .add .sc (.t 59) (.k (.int .i64 1))), om 12 60]
def l30_1 : DC := .loop [10, 11, 12] [] l30_1b
def l30_0b : DC :=
 .seq (.seq (.reg [om 34 9, oo 35 (.fld 3 (.t 7)), oo 36 (.ld 1 false (.t 35)), oo 37 (.len (.t 36)), oo 38 (.bin .lss .sc (.t 34) (.t 37))]) <|
 .cond (.t 38)
 (.skip)
 (.exit 0)) <|
 .seq (.block 1 <|
 .seq (.drw [oo 41 (.fld 3 (.t 8)), oo 42 (.ld 1 false (.t 41)), oo 43 (.fld 3 (.t 7)), oo 44 (.ld 1 false (.t 43)), om 45 9, oo 46 (.idx 1 (.t 44) (.t 45)), oo 47 (.ld 1 false (.t 46)), oo 48 (.call .blind 57 [(.t 42), (.t 47)])] [[], [], [], [], [], [3], [3, 5], [1, 3, 5, 6]]) <|
 .cond (.t 48)
 (.seq (.reg [oo 6 (.mv (.k (.bool true)))]) <|
 .ret)
 (.skip)) <|
 .reg [om 39 9, oo 40 (.bin .add .sc (.t 39) (.k (.int .i64 1))), om 9 40]
def l30_0 : DC := .loop [1, 2, 3, 7, 8, 9] [3, 7, 8] l30_0b
def f30 : DFn := ⟨3, [.t 6],
 .seq (.reg [oo 3 (.boxL (.t 0)), oo 6 (.mv (.k (.bool false)))]) <|
 .seq (.drw [oo 14 (.fld 3 (.t 3)), oo 15 (.ld 1 false (.t 14)), om 16 1, oo 17 (.idx 6 (.t 15) (.t 16)), oo 18 (.ld 6 true (.t 17)), oo 19 (.fld 3 (.t 3)), oo 20 (.ld 1 false (.t 19)), om 21 2, oo 22 (.idx 6 (.t 20) (.t 21)), oo 23 (.ld 6 true (.t 22)), oo 7 (.alL [.str [], .int .i64 0, .int .i64 0, .nils, .nils, .nils]), oo 8 (.alL [.str [], .int .i64 0, .int .i64 0, .nils, .nils, .nils]), on (.st 6 (.t 7) (.t 18)), on (.st 6 (.t 8) (.t 23))] [[], [], [], [1], [1, 3], [], [], [], [6], [6, 8], [], [], [1, 3, 4, 10, 11], [1, 3, 4, 6, 8, 9, 10, 11, 12]]) <|
 .seq (.seq (.reg [om 24 1, om 25 2, oo 26 (.bin .eql .sc (.t 24) (.t 25)), om 27 26, of 28 27 (.fld 1 (.t 7)), of 29 27 (.ld 1 false (.t 28)), of 30 27 (.fld 1 (.t 8)), of 31 27 (.ld 1 false (.t 30)), of 32 27 (.bin .eql .sc (.t 29) (.t 31)), oo 33 (.pick (.t 27) (.k (.bool true)) (.t 32))]) <|
 .cond (.t 33)
 (.seq (.reg [oo 6 (.mv (.k (.bool true)))]) <|
 .ret)
 (.skip)) <|
 .seq (.seq (.reg [oo 9 (.mv (.k (.int .i64 0)))]) <|
 .block 0 <|
 l30_0) <|
 .seq (.drw [oo 49 (.ld 4 true (.t 3)), om 50 1, oo 51 (.call .blind 51 [(.t 49), (.t 50)]), oo 52 (.ld 4 true (.t 3)), om 53 2, oo 54 (.call .blind 51 [(.t 52), (.t 53)]), om 10 51, om 11 54] [[], [], [0], [], [], [0, 2, 3], [], []]) <|
 .seq (.seq (.reg [oo 12 (.mv (.k (.int .i64 0)))]) <|
 .block 2 <|
 l30_1) <|
 .seq (.reg [oo 6 (.mv (.k (.bool false)))]) <|
 .ret⟩

def f31 : DFn := ⟨1, [.t 2],
 .seq (.reg [oo 1 (.boxL (.t 0)), oo 2 (.mv (.k (.bool false)))]) <|
 .seq (.reg [oo 3 (.fld 0 (.t 1)), oo 4 (.ld 1 false (.t 3)), oo 5 (.len (.t 4)), oo 6 (.bin .gtr .sc (.t 5) (.k (.int .i64 50))), om 7 6, of 8 7 (.fld 1 (.t 1)), of 9 7 (.ld 1 false (.t 8)), of 10 7 (.len (.t 9)), of 11 7 (.bin .gtr .sc (.t 10) (.k (.int .i64 50))), oo 12 (.pick (.t 7) (.k (.bool true)) (.t 11)), om 2 12]) <|
 .ret⟩

def l32_1b : DC :=
 .seq (.seq (.reg [om 17 4, om 18 3, oo 19 (.bin .lss .sc (.t 17) (.t 18))]) <|
 .cond (.t 19)
 (.skip)
 (.exit 2)) <|
 .seq (.block 3 <|
 .seq (.drw [om 22 0, om 23 4, oo 24 (.idx 1 (.t 22) (.t 23)), oo 25 (.ld 1 false (.t 24)), om 26 0, om 27 3, oo 28 (.idx 1 (.t 26) (.t 27)), oo 29 (.ld 1 false (.t 28)), oo 30 (.bin .eql .sc (.t 25) (.t 29))] [[], [], [], [2], [], [], [], [6], []]) <|
 .cond (.t 30)
 (.seq (.reg [oo 2 (.mv (.k (.bool false)))]) <|
 .ret)
 (.skip)) <|
 .reg [om 20 4, oo 21 (.bin .add .sc (.t 20) (.k (.int .i64 1))), om 4 21]
def l32_1 : DC := .loop [0, 3, 4] [] l32_1b
def l32_0b : DC :=
 .seq (.seq (.reg [om 5 3, om 6 0, oo 7 (.len (.t 6)), oo 8 (.bin .lss .sc (.t 5) (.t 7))]) <|
 .cond (.t 8)
 (.skip)
 (.exit 0)) <|
 .seq (.block 1 <|
 .seq (.seq (.reg [om 11 0, om 12 3, oo 13 (.idx 1 (.t 11) (.t 12)), oo 14 (.ld 1 false (.t 13)), oo 15 (.call .blind 58 [(.t 14)]), oo 16 (.un .not (.t 15))]) <|
 .cond (.t 16)
 (.seq (.reg [oo 2 (.mv (.k (.bool false)))]) <|
 .ret)
 (.skip)) <|
 .seq (.reg [oo 4 (.mv (.k (.int .i64 0)))]) <|
 .block 2 <|
 l32_1) <|
 .reg [om 9 3, oo 10 (.bin .add .sc (.t 9) (.k (.int .i64 1))), om 3 10]
def l32_0 : DC := .loop [0, 3] [] l32_0b
def f32 : DFn := ⟨1, [.t 2],
 .seq (.reg [oo 2 (.mv (.k (.bool false)))]) <|
 .seq (.seq (.reg [oo 3 (.mv (.k (.int .i64 0)))]) <|
 .block 0 <|
 l32_0) <|
 .seq (.reg [oo 2 (.mv (.k (.bool true)))]) <|
 .ret⟩

def l33_1b : DC :=
 .seq (.seq (.reg [om 87 7, oo 88 (.fld 1 (.t 2)), oo 89 (.ld 1 false (.t 88)), oo 90 (.len (.t 89)), oo 91 (.bin .lss .sc (.t 87) (.t 90))]) <|
 .cond (.t 91)
 (.skip)
 (.exit 2)) <|
 .seq (.block 3 <|
 .seq (.drw [oo 94 (.fld 3 (.t 3)), oo 95 (.ld 1 false (.t 94)), oo 96 (.fld 1 (.t 2)), oo 97 (.ld 1 false (.t 96)), om 98 7, oo 99 (.idx 2 (.t 97) (.t 98)), oo 100 (.fld 1 (.t 99)), oo 101 (.ld 1 false (.t 100)), oo 102 (.call .blind 57 [(.t 95), (.t 101)])] [[], [], [], [], [], [3], [], [3, 5], [1, 3, 5, 7]]) <|
 .cond (.t 102)
 (.reg [om 103 6, oo 104 (.bin .add .sc (.t 103) (.k (.int .i64 1))), om 6 104])
 (.skip)) <|
 .reg [om 92 7, oo 93 (.bin .add .sc (.t 92) (.k (.int .i64 1))), om 7 93]
def l33_1 : DC := .loop [2, 3, 6, 7] [2, 3] l33_1b
def l33_0b : DC :=
 .seq (.seq (.reg [om 51 5, oo 52 (.fld 3 (.t 3)), oo 53 (.ld 1 false (.t 52)), oo 54 (.len (.t 53)), oo 55 (.bin .lss .sc (.t 51) (.t 54))]) <|
 .cond (.t 55)
 (.skip)
 (.exit 0)) <|
 .seq (.block 1 <|
 .seq (.drw [oo 58 (.fld 3 (.t 3)), oo 59 (.ld 1 false (.t 58)), om 60 5, oo 61 (.idx 1 (.t 59) (.t 60)), oo 62 (.ld 1 false (.t 61)), oo 63 (.bin .lss .sc (.t 62) (.k (.int .i64 0))), om 64 63, of 65 64 (.fld 3 (.t 3)), of 66 64 (.ld 1 false (.t 65)), omf 67 5 64, of 68 64 (.idx 1 (.t 66) (.t 67)), of 69 64 (.ld 1 false (.t 68)), of 70 64 (.fld 0 (.t 2)), of 71 64 (.ld 1 false (.t 70)), of 72 64 (.len (.t 71)), of 73 64 (.bin .geq .sc (.t 69) (.t 72)), oo 74 (.pick (.t 64) (.k (.bool true)) (.t 73)), om 75 74, of 76 75 (.fld 3 (.t 3)), of 77 75 (.ld 1 false (.t 76)), omf 78 5 75, of 79 75 (.slc 1 (.t 77) none (some (.t 78)) none), of 80 75 (.fld 3 (.t 3)), of 81 75 (.ld 1 false (.t 80)), omf 82 5 75, of 83 75 (.idx 1 (.t 81) (.t 82)), of 84 75 (.ld 1 false (.t 83)), of 85 75 (.call .blind 57 [(.t 79), (.t 84)]), oo 86 (.pick (.t 75) (.k (.bool true)) (.t 85))] [[], [], [], [1], [1, 3], [], [], [], [1, 3, 4], [], [1, 3, 4, 8], [1, 3, 4, 8, 10], [], [1, 3, 4], [], [], [], [], [], [1, 3, 4, 8, 10, 11, 13], [], [], [], [1, 3, 4, 8, 10, 11, 13], [], [1, 3, 4, 8, 10, 11, 13, 23], [1, 3, 4, 8, 10, 11, 13, 23, 25], [1, 3, 4, 8, 10, 11, 13, 19, 23, 25, 26], []]) <|
 .cond (.t 86)
 (.seq (.reg [oo 4 (.mv (.k (.bool false)))]) <|
 .ret)
 (.skip)) <|
 .reg [om 56 5, oo 57 (.bin .add .sc (.t 56) (.k (.int .i64 1))), om 5 57]
def l33_0 : DC := .loop [2, 3, 5] [2, 3] l33_0b
def f33 : DFn := ⟨2, [.t 4],
 .seq (.reg [oo 2 (.boxL (.t 0)), oo 3 (.boxL (.t 1)), oo 4 (.mv (.k (.bool false)))]) <|
 .seq (.seq (.reg [oo 8 (.fld 1 (.t 3)), oo 9 (.ld 1 false (.t 8)), oo 10 (.bin .lss .sc (.t 9) (.k (.int .i64 0))), om 11 10, of 12 11 (.fld 1 (.t 3)), of 13 11 (.ld 1 false (.t 12)), of 14 11 (.fld 2 (.t 2)), of 15 11 (.ld 1 false (.t 14)), of 16 11 (.len (.t 15)), of 17 11 (.bin .geq .sc (.t 13) (.t 16)), oo 18 (.pick (.t 11) (.k (.bool true)) (.t 17)), om 19 18, of 20 19 (.fld 2 (.t 3)), of 21 19 (.ld 1 false (.t 20)), of 22 19 (.bin .lss .sc (.t 21) (.k (.int .i64 0))), oo 23 (.pick (.t 19) (.k (.bool true)) (.t 22)), om 24 23, of 25 24 (.fld 2 (.t 3)), of 26 24 (.ld 1 false (.t 25)), of 27 24 (.fld 2 (.t 2)), of 28 24 (.ld 1 false (.t 27)), of 29 24 (.len (.t 28)), of 30 24 (.bin .geq .sc (.t 26) (.t 29)), oo 31 (.pick (.t 24) (.k (.bool true)) (.t 30)), om 32 31, of 33 32 (.fld 1 (.t 3)), of 34 32 (.ld 1 false (.t 33)), of 35 32 (.fld 2 (.t 3)), of 36 32 (.ld 1 false (.t 35)), of 37 32 (.bin .eql .sc (.t 34) (.t 36)), oo 38 (.pick (.t 32) (.k (.bool true)) (.t 37)), om 39 38, of 40 39 (.fld 3 (.t 3)), of 41 39 (.ld 1 false (.t 40)), of 42 39 (.len (.t 41)), of 43 39 (.bin .lss .sc (.t 42) (.k (.int .i64 1))), oo 44 (.pick (.t 39) (.k (.bool true)) (.t 43)), om 45 44, of 46 45 (.fld 3 (.t 3)), of 47 45 (.ld 1 false (.t 46)), of 48 45 (.len (.t 47)), of 49 45 (.bin .gtr .sc (.t 48) (.k (.int .i64 5))), oo 50 (.pick (.t 45) (.k (.bool true)) (.t 49))]) <|
 .cond (.t 50)
 (.seq (.reg [oo 4 (.mv (.k (.bool false)))]) <|
 .ret)
 (.skip)) <|
 .seq (.seq (.reg [oo 5 (.mv (.k (.int .i64 0)))]) <|
 .block 0 <|
 l33_0) <|
 .seq (.reg [oo 6 (.mv (.k (.int .i64 0)))]) <|
 .seq (.seq (.reg [oo 7 (.mv (.k (.int .i64 0)))]) <|
 .block 2 <|
 l33_1) <|
 .seq (.reg [oo 105 (.fld 4 (.t 3)), oo 106 (.ld 1 false (.t 105)), oo 107 (.len (.t 106)), om 108 6, oo 109 (.bin .eql .sc (.t 107) (.t 108)), om 110 109, ot 111 110 (.ld 4 true (.t 2)), ot 112 110 (.fld 4 (.t 3)), ot 113 110 (.ld 1 false (.t 112)), ot 114 110 (.fld 3 (.t 3)), ot 115 110 (.ld 1 false (.t 114)), ot 116 110 (.call .blind 59 [(.t 111), (.t 113), (.t 115), (.k (.bool true))]), oo 117 (.pick (.t 110) (.t 116) (.k (.bool false))), om 118 117, ot 119 118 (.ld 4 true (.t 2)), ot 120 118 (.fld 5 (.t 3)), ot 121 118 (.ld 1 false (.t 120)), ot 122 118 (.fld 3 (.t 3)), ot 123 118 (.ld 1 false (.t 122)), ot 124 118 (.call .blind 59 [(.t 119), (.t 121), (.t 123), (.k (.bool false))]), oo 125 (.pick (.t 118) (.t 124) (.k (.bool false))), om 4 125]) <|
 .ret⟩

def l34_1b : DC :=
 .seq (.reg [oo 58 (.bin .lss .sc (.t 57) (.t 56))]) <|
 .seq (.cond (.t 58)
 (.skip)
 (.exit 2)) <|
 .seq (.block 3 <|
 .seq (.reg [oo 59 (.idx 6 (.t 55) (.t 57)), oo 60 (.ld 6 true (.t 59)), oo 8 (.alL [.str [], .int .i64 0, .int .i64 0, .nils, .nils, .nils]), on (.st 6 (.t 8) (.t 60))]) <|
 .seq (.reg [om 61 4, oo 62 (.fld 0 (.t 8)), oo 63 (.ld 1 false (.t 62)), oo 64 (.bsl false 1 [.str []] 1 [(0, (.t 63))]), oo 65 (.app 1 16 (.t 61) (.t 64)), om 4 65]) <|
 .seq (.reg [oo 66 (.ld 4 true (.t 1)), oo 67 (.ld 6 true (.t 8)), oo 68 (.call .blind 61 [(.t 66), (.t 67)]), oo 69 (.un .not (.t 68))]) <|
 .cond (.t 69)
 (.seq (.reg [oo 2 (.mv (.k (.bool false)))]) <|
 .ret)
 (.skip)) <|
 .reg [oo 70 (.bin .add .sc (.t 57) (.k (.int .i64 1))), om 57 70]
def l34_1 : DC := .loop [1, 3, 4, 55, 56, 57] [1] l34_1b
def l34_0b : DC :=
 .seq (.reg [oo 37 (.bin .lss .sc (.t 36) (.t 35))]) <|
 .seq (.cond (.t 37)
 (.skip)
 (.exit 0)) <|
 .seq (.block 1 <|
 .seq (.reg [oo 38 (.idx 2 (.t 34) (.t 36)), oo 39 (.ld 2 true (.t 38)), oo 6 (.alL [.str [], .int .i64 0]), on (.st 2 (.t 6) (.t 39))]) <|
 .seq (.reg [om 40 3, oo 41 (.fld 0 (.t 6)), oo 42 (.ld 1 false (.t 41)), oo 43 (.bsl false 1 [.str []] 1 [(0, (.t 42))]), oo 44 (.app 1 16 (.t 40) (.t 43)), om 3 44]) <|
 .seq (.reg [oo 45 (.fld 1 (.t 6)), oo 46 (.ld 1 false (.t 45)), oo 47 (.fld 0 (.t 1)), oo 48 (.ld 1 false (.t 47)), oo 49 (.len (.t 48)), oo 50 (.bin .sub .sc (.t 49) (.k (.int .i64 1))), oo 51 (.call .blind 60 [(.t 46), (.k (.int .i64 0)), (.t 50)]), oo 52 (.un .not (.t 51))]) <|
 .cond (.t 52)
 (.seq (.reg [oo 2 (.mv (.k (.bool false)))]) <|
 .ret)
 (.skip)) <|
 .reg [oo 53 (.bin .add .sc (.t 36) (.k (.int .i64 1))), om 36 53]
def l34_0 : DC := .loop [1, 3, 4, 34, 35, 36] [1] l34_0b
def f34 : DFn := ⟨1, [.t 2],
 .seq (.reg [oo 1 (.boxL (.t 0)), oo 2 (.mv (.k (.bool false)))]) <|
 .seq (.reg [oo 3 (.mv (.k (.nils))), oo 4 (.mv (.k (.nils)))]) <|
 .seq (.seq (.reg [oo 9 (.fld 0 (.t 1)), oo 10 (.ld 1 false (.t 9)), oo 11 (.len (.t 10)), oo 12 (.call .blind 60 [(.t 11), (.k (.int .i64 1)), (.k (.int .i64 10))]), oo 13 (.un .not (.t 12)), om 14 13, of 15 14 (.fld 2 (.t 1)), of 16 14 (.ld 1 false (.t 15)), of 17 14 (.len (.t 16)), of 18 14 (.call .blind 60 [(.t 17), (.k (.int .i64 1)), (.k (.int .i64 6))]), of 19 14 (.un .not (.t 18)), oo 20 (.pick (.t 14) (.k (.bool true)) (.t 19)), om 21 20, of 22 21 (.fld 1 (.t 1)), of 23 21 (.ld 1 false (.t 22)), of 24 21 (.len (.t 23)), of 25 21 (.bin .gtr .sc (.t 24) (.k (.int .i64 5))), oo 26 (.pick (.t 21) (.k (.bool true)) (.t 25)), om 27 26, of 28 27 (.fld 3 (.t 1)), of 29 27 (.ld 1 false (.t 28)), of 30 27 (.len (.t 29)), of 31 27 (.bin .gtr .sc (.t 30) (.k (.int .i64 6))), oo 32 (.pick (.t 27) (.k (.bool true)) (.t 31))]) <|
 .cond (.t 32)
 (.seq (.reg [oo 2 (.mv (.k (.bool false)))]) <|
 .ret)
 (.skip)) <|
 .seq (.seq (.reg [oo 33 (.fld 1 (.t 1)), oo 34 (.ld 1 false (.t 33)), oo 35 (.len (.t 34)), oo 36 (.mv (.k (.int .i64 0)))]) <|
 .block 0 <|
 l34_0) <|
 .seq (.seq (.reg [oo 54 (.fld 3 (.t 1)), oo 55 (.ld 1 false (.t 54)), oo 56 (.len (.t 55)), oo 57 (.mv (.k (.int .i64 0)))]) <|
 .block 2 <|
 l34_1) <|
 .seq (.reg [oo 71 (.fld 0 (.t 1)), oo 72 (.ld 1 false (.t 71)), oo 73 (.call .blind 62 [(.t 72)]), om 74 73, ot 75 74 (.fld 2 (.t 1)), ot 76 74 (.ld 1 false (.t 75)), ot 77 74 (.call .blind 62 [(.t 76)]), oo 78 (.pick (.t 74) (.t 77) (.k (.bool false))), om 79 78, omt 80 3 79, ot 81 79 (.call .blind 62 [(.t 80)]), oo 82 (.pick (.t 79) (.t 81) (.k (.bool false))), om 83 82, omt 84 4 83, ot 85 83 (.call .blind 62 [(.t 84)]), oo 86 (.pick (.t 83) (.t 85) (.k (.bool false))), om 2 86]) <|
 .ret⟩

def l35_0b : DC :=
 .seq (.reg [oo 25 (.bin .lss .sc (.t 24) (.t 23))]) <|
 .seq (.cond (.t 25)
 (.skip)
 (.exit 0)) <|
 .seq (.block 1 <|
 .seq (.reg [om 26 24, oo 27 (.idx 6 (.t 22) (.t 24)), oo 28 (.ld 6 true (.t 27)), oo 4 (.alL [.str [], .int .i64 0, .int .i64 0, .nils, .nils, .nils]), om 3 26, on (.st 6 (.t 4) (.t 28))]) <|
 .seq (.drw [oo 29 (.fld 3 (.t 4)), oo 30 (.ld 1 false (.t 29)), oo 31 (.call .blind 66 [(.t 30)]), oo 32 (.fld 4 (.t 4)), oo 33 (.ld 1 false (.t 32)), oo 34 (.call .blind 67 [(.t 33)]), oo 35 (.fld 5 (.t 4)), oo 36 (.ld 1 false (.t 35)), oo 37 (.call .blind 67 [(.t 36)]), oo 38 (.fld 3 (.t 4)), on (.st 1 (.t 38) (.t 31)), oo 39 (.fld 4 (.t 4)), on (.st 1 (.t 39) (.t 34)), oo 40 (.fld 5 (.t 4)), on (.st 1 (.t 40) (.t 37))] [[], [], [1], [], [], [1, 2, 4], [], [], [1, 2, 4, 5, 7], [], [1, 2, 4, 5, 7, 8], [], [1, 2, 4, 5, 7, 8, 10], [], [1, 2, 4, 5, 7, 8, 10, 12]]) <|
 .reg [oo 41 (.fld 3 (.t 1)), oo 42 (.ld 1 false (.t 41)), om 43 3, oo 44 (.ld 6 true (.t 4)), oo 45 (.idx 6 (.t 42) (.t 43)), on (.st 6 (.t 45) (.t 44))]) <|
 .reg [oo 46 (.bin .add .sc (.t 24) (.k (.int .i64 1))), om 24 46]
def l35_0 : DC := .loop [1, 2, 22, 23, 24] [1, 2] l35_0b
def f35 : DFn := ⟨1, [.cell 2 4 true],
 .seq (.reg [oo 1 (.boxL (.t 0)), oo 2 (.alL [.nils, .nils, .nils, .nils])]) <|
 .seq (.drw [oo 5 (.fld 0 (.t 1)), oo 6 (.ld 1 false (.t 5)), oo 7 (.call .blind 63 [(.t 6)]), oo 8 (.fld 1 (.t 1)), oo 9 (.ld 1 false (.t 8)), oo 10 (.call .blind 64 [(.t 9)]), oo 11 (.fld 2 (.t 1)), oo 12 (.ld 1 false (.t 11)), oo 13 (.call .blind 63 [(.t 12)]), oo 14 (.fld 3 (.t 1)), oo 15 (.ld 1 false (.t 14)), oo 16 (.call .eff 65 [(.t 15)]), oo 17 (.fld 0 (.t 1)), on (.st 1 (.t 17) (.t 7)), oo 18 (.fld 1 (.t 1)), on (.st 1 (.t 18) (.t 10)), oo 19 (.fld 2 (.t 1)), on (.st 1 (.t 19) (.t 13)), oo 20 (.fld 3 (.t 1)), on (.st 1 (.t 20) (.t 16))] [[], [], [1], [], [], [1, 2, 4], [], [], [1, 2, 4, 5, 7], [], [], [1, 2, 4, 5, 7, 8, 10], [], [1, 2, 4, 5, 7, 8, 10, 11], [], [1, 2, 4, 5, 7, 8, 10, 11, 13], [], [1, 2, 4, 5, 7, 8, 10, 11, 13, 15], [], [1, 2, 4, 5, 7, 8, 10, 11, 13, 15, 17]]) <|
 .seq (.seq (.reg [oo 21 (.fld 3 (.t 1)), oo 22 (.ld 1 false (.t 21)), oo 23 (.len (.t 22)), oo 24 (.mv (.k (.int .i64 0)))]) <|
 .block 0 <|
 l35_0) <|
 .seq (.reg [oo 47 (.ld 4 true (.t 1)), on (.st 4 (.t 2) (.t 47))]) <|
 .ret⟩

def f36 : DFn := ⟨2, [.t 4],
 .seq (.reg [oo 2 (.boxL (.t 0)), oo 3 (.boxL (.t 1)), oo 4 (.mv (.k (.bool false)))]) <|
 .seq (.reg [oo 5 (.mv (.f 68))]) <|
 .seq (.reg [oo 6 (.fld 0 (.t 3)), oo 7 (.ld 1 false (.t 6)), oo 8 (.len (.t 7)), oo 9 (.fld 0 (.t 2)), oo 10 (.ld 1 false (.t 9)), oo 11 (.len (.t 10)), oo 12 (.bin .eql .sc (.t 8) (.t 11)), om 13 12, ot 14 13 (.fld 1 (.t 3)), ot 15 13 (.ld 1 false (.t 14)), ot 16 13 (.len (.t 15)), ot 17 13 (.fld 1 (.t 2)), ot 18 13 (.ld 1 false (.t 17)), ot 19 13 (.len (.t 18)), ot 20 13 (.bin .eql .sc (.t 16) (.t 19)), oo 21 (.pick (.t 13) (.t 20) (.k (.bool false))), om 22 21, ot 23 22 (.fld 1 (.t 3)), ot 24 22 (.ld 1 false (.t 23)), omt 25 5 22, ot 26 22 (.call .ro 69 [(.t 24), (.t 25)]), ot 27 22 (.un .not (.t 26)), oo 28 (.pick (.t 22) (.t 27) (.k (.bool false))), om 4 28]) <|
 .ret⟩

def f37 : DFn := ⟨3, [.t 6],
 .seq (.reg [oo 4 (.boxL (.t 1)), oo 6 (.mv (.k (.int .i64 0)))]) <|
 .seq (.block 0 <|
 .seq (.reg [om 8 0, oo 9 (.nilck (.t 8)), oo 10 (.fld 4 (.t 9)), oo 11 (.ld 1 false (.t 10)), om 12 2, oo 13 (.idx 4 (.t 11) (.t 12)), oo 14 (.fld 0 (.t 13)), oo 15 (.ld 1 false (.t 14)), oo 16 (.bin .neq .sc (.t 15) (.k (.int .i64 0))), om 7 16]) <|
 .cond (.t 7)
 (.seq (.reg [oo 6 (.mv (.k (.int .i64 7)))]) <|
 .ret)
 (.seq (.reg [om 18 0, oo 19 (.ld 2 true (.t 4)), om 20 2, oo 21 (.call .ro 70 [(.t 18), (.t 19), (.t 20)]), oo 22 (.un .not (.t 21)), om 17 22]) <|
 .cond (.t 17)
 (.seq (.reg [oo 6 (.mv (.k (.int .i64 8)))]) <|
 .ret)
 (.skip))) <|
 .seq (.reg [om 23 0, oo 24 (.nilck (.t 23)), oo 25 (.fld 4 (.t 24)), oo 26 (.ld 1 false (.t 25)), om 27 2, oo 28 (.build [.int .i64 0, .int .i64 0, .int .i64 0, .bool false] [(0, 1, (.k (.int .i64 1)))]), oo 29 (.idx 4 (.t 26) (.t 27)), on (.st 4 (.t 29) (.t 28))]) <|
 .seq (.reg [oo 6 (.mv (.k (.int .i64 0)))]) <|
 .ret⟩

def f38 : DFn := ⟨2, [.t 4],
 .seq (.reg [oo 4 (.mv (.k (.int .i64 0)))]) <|
 .seq (.seq (.reg [om 5 0, oo 6 (.nilck (.t 5)), oo 7 (.fld 4 (.t 6)), oo 8 (.ld 1 false (.t 7)), om 9 1, oo 10 (.idx 4 (.t 8) (.t 9)), oo 11 (.fld 0 (.t 10)), oo 12 (.ld 1 false (.t 11))]) <|
 .block 0 <|
 .seq (.reg [oo 14 (.bin .eql .sc (.t 12) (.k (.int .i64 1))), om 13 14]) <|
 .cond (.t 13)
 (.reg [om 15 0, oo 16 (.nilck (.t 15)), oo 17 (.fld 4 (.t 16)), oo 18 (.ld 1 false (.t 17)), om 19 1, oo 20 (.build [.int .i64 0, .int .i64 0, .int .i64 0, .bool false] []), oo 21 (.idx 4 (.t 18) (.t 19)), on (.st 4 (.t 21) (.t 20))])
 (.seq (.reg [oo 23 (.bin .eql .sc (.t 12) (.k (.int .i64 2))), om 22 23]) <|
 .cond (.t 22)
 (.reg [om 24 0, oo 25 (.nilck (.t 24)), oo 26 (.fld 4 (.t 25)), oo 27 (.ld 1 false (.t 26)), om 28 1, oo 29 (.build [.int .i64 0, .int .i64 0, .int .i64 0, .bool false] [(0, 1, (.k (.int .i64 4)))]), oo 30 (.idx 4 (.t 27) (.t 28)), on (.st 4 (.t 30) (.t 29))])
 (.seq (.reg [oo 4 (.mv (.k (.int .i64 7)))]) <|
 .ret))) <|
 .seq (.reg [oo 4 (.mv (.k (.int .i64 0)))]) <|
 .ret⟩

def f39 : DFn := ⟨3, [.cell 6 4 true],
 .seq (.reg [oo 4 (.boxL (.t 1)), oo 6 (.alL [.int .i64 0, .int .i64 0, .int .i64 0, .bool false])]) <|
 .seq (.reg [om 9 0, oo 10 (.nilck (.t 9)), oo 11 (.fld 4 (.t 10)), oo 12 (.ld 1 false (.t 11)), om 13 2, oo 14 (.idx 4 (.t 12) (.t 13)), oo 15 (.ld 4 true (.t 14)), oo 7 (.alL [.int .i64 0, .int .i64 0, .int .i64 0, .bool false]), on (.st 4 (.t 7) (.t 15))]) <|
 .seq (.drw [oo 16 (.fld 0 (.t 4)), oo 17 (.ld 1 false (.t 16)), om 18 0, oo 19 (.nilck (.t 18)), oo 20 (.fld 0 (.t 19)), oo 21 (.fld 3 (.t 20)), oo 22 (.ld 1 false (.t 21)), om 23 2, oo 24 (.idx 6 (.t 22) (.t 23)), oo 25 (.fld 3 (.t 24)), oo 26 (.ld 1 false (.t 25)), oo 27 (.idx 1 (.t 26) (.k (.int .i64 0))), oo 28 (.ld 1 false (.t 27)), oo 29 (.idx 1 (.t 17) (.t 28)), oo 30 (.ld 1 false (.t 29)), om 8 30] [[], [], [], [], [], [], [], [], [6], [], [6, 8], [6, 8, 10], [6, 8, 10, 11], [1, 6, 8, 10, 11, 12], [1, 6, 8, 10, 11, 12, 13], []]) <|
 .seq (.seq (.reg [oo 31 (.fld 0 (.t 7)), oo 32 (.ld 1 false (.t 31))]) <|
 .block 0 <|
 .seq (.reg [oo 34 (.bin .eql .sc (.t 32) (.k (.int .i64 1))), om 33 34]) <|
 .cond (.t 33)
 (.seq (.seq (.reg [om 35 0, oo 36 (.ld 2 true (.t 4)), om 37 2, oo 38 (.call .ro 42 [(.t 35), (.t 36), (.t 37)])]) <|
 .cond (.t 38)
 (.seq (.reg [oo 39 (.build [.int .i64 0, .int .i64 0, .int .i64 0, .bool false] [(0, 1, (.k (.int .i64 2)))]), on (.st 4 (.t 6) (.t 39))]) <|
 .ret)
 (.skip)) <|
 .seq (.reg [oo 40 (.ld 4 true (.t 7)), oo 41 (.call .blind 71 [(.t 40), (.k (.int .i64 8))]), on (.st 4 (.t 6) (.t 41))]) <|
 .ret)
 (.seq (.seq (.reg [oo 43 (.bin .eql .sc (.t 32) (.k (.int .i64 2))), om 42 43]) <|
 .cond (.t 42)
 (.skip)
 (.reg [oo 44 (.bin .eql .sc (.t 32) (.k (.int .i64 4))), om 42 44])) <|
 .cond (.t 42)
 (.block 1 <|
 .seq (.reg [om 46 8, om 45 46]) <|
 .cond (.t 45)
 (.seq (.reg [oo 47 (.build [.int .i64 0, .int .i64 0, .int .i64 0, .bool false] [(0, 1, (.k (.int .i64 3))), (3, 1, (.k (.bool true)))]), on (.st 4 (.t 6) (.t 47))]) <|
 .ret)
 (.seq (.reg [oo 49 (.fld 0 (.t 7)), oo 50 (.ld 1 false (.t 49)), oo 51 (.bin .eql .sc (.t 50) (.k (.int .i64 4))), om 48 51]) <|
 .cond (.t 48)
 (.seq (.reg [oo 52 (.ld 4 true (.t 7)), oo 53 (.call .blind 71 [(.t 52), (.k (.int .i64 5))]), on (.st 4 (.t 6) (.t 53))]) <|
 .ret)
 (.skip)))
 (.seq (.reg [oo 55 (.bin .eql .sc (.t 32) (.k (.int .i64 3))), om 54 55]) <|
 .cond (.t 54)
 (.seq (.reg [om 56 0, oo 57 (.ld 2 true (.t 4)), om 58 2, oo 59 (.call .ro 72 [(.t 56), (.t 57), (.t 58)]), on (.st 4 (.t 6) (.t 59))]) <|
 .ret)
 (.skip)))) <|
 .seq (.reg [oo 60 (.ld 4 true (.t 7)), on (.st 4 (.t 6) (.t 60))]) <|
 .ret⟩

def l40_1b : DC :=
 .seq (.reg [oo 33 (.bin .lss .sc (.t 32) (.t 31))]) <|
 .seq (.cond (.t 33)
 (.skip)
 (.exit 2)) <|
 .seq (.block 3 <|
 .seq (.reg [oo 34 (.idx 2 (.t 30) (.t 32)), oo 35 (.ld 2 true (.t 34)), oo 9 (.alL [.int .i64 0, .bool false]), on (.st 2 (.t 9) (.t 35))]) <|
 .seq (.drw [om 36 0, oo 37 (.nilck (.t 36)), oo 38 (.fld 0 (.t 37)), oo 39 (.fld 1 (.t 38)), oo 40 (.ld 1 false (.t 39)), oo 41 (.fld 0 (.t 9)), oo 42 (.ld 1 false (.t 41)), oo 43 (.idx 2 (.t 40) (.t 42)), oo 44 (.fld 1 (.t 43)), oo 45 (.ld 1 false (.t 44)), om 10 45] [[], [], [], [], [], [], [], [4, 6], [], [4, 6, 7], []]) <|
 .seq (.reg [om 46 0, om 47 10, oo 48 (.call .ro 29 [(.t 46), (.t 47)]), om 11 48]) <|
 .seq (.reg [oo 49 (.ld 2 true (.t 4)), oo 50 (.ld 2 true (.t 9)), oo 51 (.call .blind 74 [(.t 49), (.t 50)]), oo 52 (.un .not (.t 51)), om 53 52, ot 54 53 (.fld 0 (.t 4)), ot 55 53 (.ld 1 false (.t 54)), omt 56 10 53, ot 57 53 (.idx 1 (.t 55) (.t 56)), ot 58 53 (.ld 1 false (.t 57)), ot 59 53 (.un .not (.t 58)), oo 60 (.pick (.t 53) (.t 59) (.k (.bool false))), om 61 60, omt 62 11 61, ot 63 61 (.bin .lss .sc (.t 62) (.k (.int .i64 0))), omt 64 63 61, omf 65 11 64, omf 66 6 64, of 67 64 (.bin .eql .sc (.t 65) (.t 66)), ot 68 61 (.pick (.t 64) (.k (.bool true)) (.t 67)), oo 69 (.pick (.t 61) (.t 68) (.k (.bool false)))]) <|
 .cond (.t 69)
 (.drw [oo 70 (.fld 0 (.t 5)), oo 71 (.ld 1 false (.t 70)), oo 72 (.fld 0 (.t 9)), oo 73 (.ld 1 false (.t 72)), oo 74 (.ld 2 true (.t 9)), oo 75 (.call .blind 75 [(.t 74)]), oo 76 (.idx 1 (.t 71) (.t 73)), on (.st 1 (.t 76) (.t 75))] [[], [], [], [], [], [4], [1, 3, 4, 5], [1, 3, 4, 5, 6]])
 (.skip)) <|
 .reg [oo 77 (.bin .add .sc (.t 32) (.k (.int .i64 1))), om 32 77]
def l40_1 : DC := .loop [0, 4, 5, 6, 15, 16, 17, 30, 31, 32] [4, 5] l40_1b
def l40_0b : DC :=
 .seq (.reg [oo 18 (.bin .lss .sc (.t 17) (.t 16))]) <|
 .seq (.cond (.t 18)
 (.skip)
 (.exit 0)) <|
 .seq (.block 1 <|
 .seq (.reg [om 19 17, oo 20 (.idx 4 (.t 15) (.t 17)), oo 21 (.ld 4 true (.t 20)), oo 7 (.alL [.int .i64 0, .int .i64 0, .int .i64 0, .bool false]), om 6 19, on (.st 4 (.t 7) (.t 21))]) <|
 .seq (.seq (.reg [oo 22 (.fld 0 (.t 7)), oo 23 (.ld 1 false (.t 22)), oo 24 (.bin .neq .sc (.t 23) (.k (.int .i64 1)))]) <|
 .cond (.t 24)
 (.exit 1)
 (.skip)) <|
 .seq (.reg [om 25 0, oo 26 (.nilck (.t 25)), oo 27 (.fld 0 (.t 26)), oo 28 (.ld 4 true (.t 27)), om 29 6, oo 30 (.call .blind 73 [(.t 28), (.t 29)]), oo 31 (.len (.t 30)), oo 32 (.mv (.k (.int .i64 0)))]) <|
 .block 2 <|
 l40_1) <|
 .reg [oo 78 (.bin .add .sc (.t 17) (.k (.int .i64 1))), om 17 78]
def l40_0 : DC := .loop [0, 4, 5, 15, 16, 17] [4, 5] l40_0b
def f40 : DFn := ⟨3, [],
 .seq (.reg [oo 4 (.boxL (.t 1)), oo 5 (.boxL (.t 2))]) <|
 .seq (.reg [om 12 0, oo 13 (.nilck (.t 12)), oo 14 (.fld 4 (.t 13)), oo 15 (.ld 1 false (.t 14)), oo 16 (.len (.t 15)), oo 17 (.mv (.k (.int .i64 0)))]) <|
 .block 0 <|
 l40_0⟩

def f41 : DFn := ⟨2, [.t 4],
 .seq (.reg [oo 2 (.boxH (.t 0)), oo 4 (.mv (.k (.bool false)))]) <|
 .seq (.reg [om 5 1, oo 6 (.mkF 76 [(.t 2)]), oo 7 (.call .ro 69 [(.t 5), (.t 6)]), om 4 7]) <|
 .ret⟩

def f42 : DFn := ⟨3, [.t 6],
 .seq (.reg [oo 4 (.boxH (.t 1)), oo 6 (.mv (.k (.bool false)))]) <|
 .seq (.reg [om 7 0, oo 8 (.nilck (.t 7)), oo 9 (.fld 0 (.t 8)), oo 10 (.ld 4 true (.t 9)), om 11 2, oo 12 (.call .blind 73 [(.t 10), (.t 11)]), oo 13 (.mkF 78 [(.t 4)]), oo 14 (.call .ro 77 [(.t 12), (.t 13)]), oo 15 (.un .not (.t 14)), om 6 15]) <|
 .ret⟩

def f43 : DFn := ⟨1, [.t 2],
 .seq (.reg [oo 2 (.mv (.k (.nils)))]) <|
 .seq (.seq (.reg [om 3 0, oo 4 (.bin .eql .ns (.t 3) (.k (.nils)))]) <|
 .cond (.t 4)
 (.seq (.reg [oo 2 (.mv (.k (.nils)))]) <|
 .ret)
 (.skip)) <|
 .seq (.reg [oo 5 (.bsl false 4 [.int .i64 0, .int .i64 0, .int .i64 0, .bool false] 0 []), om 6 0, oo 7 (.app 4 32 (.t 5) (.t 6)), om 2 7]) <|
 .ret⟩

def f44 : DFn := ⟨2, [.t 4],
 .seq (.reg [oo 2 (.boxL (.t 0)), oo 4 (.mv (.k (.bool false)))]) <|
 .seq (.seq (.reg [oo 5 (.fld 0 (.t 2)), oo 6 (.ld 1 false (.t 5))]) <|
 .block 0 <|
 .seq (.reg [oo 8 (.bin .eql .sc (.t 6) (.k (.int .i64 1))), om 7 8]) <|
 .cond (.t 7)
 (.seq (.reg [oo 9 (.fld 1 (.t 2)), oo 10 (.ld 1 false (.t 9)), oo 11 (.bin .geq .sc (.t 10) (.k (.int .i64 0))), om 12 11, ot 13 12 (.fld 1 (.t 2)), ot 14 12 (.ld 1 false (.t 13)), ot 15 12 (.bin .leq .sc (.t 14) (.k (.int .i64 8))), oo 16 (.pick (.t 12) (.t 15) (.k (.bool false))), om 17 16, ot 18 17 (.fld 2 (.t 2)), ot 19 17 (.ld 1 false (.t 18)), ot 20 17 (.bin .eql .sc (.t 19) (.k (.int .i64 0))), oo 21 (.pick (.t 17) (.t 20) (.k (.bool false))), om 22 21, ot 23 22 (.fld 3 (.t 2)), ot 24 22 (.ld 1 false (.t 23)), ot 25 22 (.un .not (.t 24)), oo 26 (.pick (.t 22) (.t 25) (.k (.bool false))), om 4 26]) <|
 .ret)
 (.seq (.reg [oo 28 (.bin .eql .sc (.t 6) (.k (.int .i64 4))), om 27 28]) <|
 .cond (.t 27)
 (.seq (.reg [oo 29 (.fld 1 (.t 2)), oo 30 (.ld 1 false (.t 29)), oo 31 (.bin .geq .sc (.t 30) (.k (.int .i64 0))), om 32 31, ot 33 32 (.fld 1 (.t 2)), ot 34 32 (.ld 1 false (.t 33)), ot 35 32 (.bin .lss .sc (.t 34) (.k (.int .i64 6))), oo 36 (.pick (.t 32) (.t 35) (.k (.bool false))), om 37 36, ot 38 37 (.fld 2 (.t 2)), ot 39 37 (.ld 1 false (.t 38)), ot 40 37 (.bin .eql .sc (.t 39) (.k (.int .i64 0))), oo 41 (.pick (.t 37) (.t 40) (.k (.bool false))), om 42 41, ot 43 42 (.fld 3 (.t 2)), ot 44 42 (.ld 1 false (.t 43)), ot 45 42 (.un .not (.t 44)), oo 46 (.pick (.t 42) (.t 45) (.k (.bool false))), om 4 46]) <|
 .ret)
 (.seq (.reg [oo 48 (.bin .eql .sc (.t 6) (.k (.int .i64 3))), om 47 48]) <|
 .cond (.t 47)
 (.seq (.reg [oo 49 (.fld 1 (.t 2)), oo 50 (.ld 1 false (.t 49)), oo 51 (.bin .eql .sc (.t 50) (.k (.int .i64 0))), om 52 51, ot 53 52 (.fld 2 (.t 2)), ot 54 52 (.ld 1 false (.t 53)), ot 55 52 (.bin .geq .sc (.t 54) (.k (.int .i64 0))), oo 56 (.pick (.t 52) (.t 55) (.k (.bool false))), om 57 56, ot 58 57 (.fld 2 (.t 2)), ot 59 57 (.ld 1 false (.t 58)), omt 60 1 57, ot 61 57 (.len (.t 60)), ot 62 57 (.bin .lss .sc (.t 59) (.t 61)), oo 63 (.pick (.t 57) (.t 62) (.k (.bool false))), om 4 63]) <|
 .ret)
 (.seq (.seq (.reg [oo 65 (.bin .eql .sc (.t 6) (.k (.int .i64 0))), om 64 65]) <|
 .cond (.t 64)
 (.skip)
 (.reg [oo 66 (.bin .eql .sc (.t 6) (.k (.int .i64 2))), om 64 66])) <|
 .cond (.t 64)
 (.seq (.reg [oo 67 (.fld 1 (.t 2)), oo 68 (.ld 1 false (.t 67)), oo 69 (.bin .eql .sc (.t 68) (.k (.int .i64 0))), om 70 69, ot 71 70 (.fld 2 (.t 2)), ot 72 70 (.ld 1 false (.t 71)), ot 73 70 (.bin .eql .sc (.t 72) (.k (.int .i64 0))), oo 74 (.pick (.t 70) (.t 73) (.k (.bool false))), om 75 74, ot 76 75 (.fld 3 (.t 2)), ot 77 75 (.ld 1 false (.t 76)), ot 78 75 (.un .not (.t 77)), oo 79 (.pick (.t 75) (.t 78) (.k (.bool false))), om 4 79]) <|
 .ret)
 (.skip))))) <|
 .seq (.reg [oo 4 (.mv (.k (.bool false)))]) <|
 .ret⟩

def l45_0b : DC :=
 .seq (.seq (.reg [om 8 7, oo 9 (.fld 3 (.t 3)), oo 10 (.ld 1 false (.t 9)), om 11 1, oo 12 (.idx 6 (.t 10) (.t 11)), oo 13 (.fld 3 (.t 12)), oo 14 (.ld 1 false (.t 13)), oo 15 (.len (.t 14)), oo 16 (.bin .lss .sc (.t 8) (.t 15))]) <|
 .cond (.t 16)
 (.skip)
 (.exit 0)) <|
 .seq (.block 1 <|
 .seq (.drw [oo 19 (.fld 0 (.t 5)), oo 20 (.ld 1 false (.t 19)), oo 21 (.fld 3 (.t 3)), oo 22 (.ld 1 false (.t 21)), om 23 1, oo 24 (.idx 6 (.t 22) (.t 23)), oo 25 (.fld 3 (.t 24)), oo 26 (.ld 1 false (.t 25)), om 27 7, oo 28 (.idx 1 (.t 26) (.t 27)), oo 29 (.ld 1 false (.t 28)), oo 30 (.idx 1 (.t 20) (.t 29)), oo 31 (.ld 1 false (.t 30))] [[], [], [], [], [], [3], [], [3, 5], [], [3, 5, 7], [3, 5, 7, 9], [1, 3, 5, 7, 9, 10], [1, 3, 5, 7, 9, 10, 11]]) <|
 .cond (.t 31)
 (.seq (.reg [oo 6 (.mv (.k (.bool false)))]) <|
 .ret)
 (.skip)) <|
 .reg [om 17 7, oo 18 (.bin .add .sc (.t 17) (.k (.int .i64 1))), om 7 18]
def l45_0 : DC := .loop [1, 3, 5, 7] [3, 5] l45_0b
def f45 : DFn := ⟨3, [.t 6],
 .seq (.reg [oo 3 (.boxL (.t 0)), oo 5 (.boxL (.t 2)), oo 6 (.mv (.k (.bool false)))]) <|
 .seq (.seq (.reg [oo 7 (.mv (.k (.int .i64 0)))]) <|
 .block 0 <|
 l45_0) <|
 .seq (.reg [oo 6 (.mv (.k (.bool true)))]) <|
 .ret⟩

def l46_0b : DC :=
 .seq (.seq (.reg [om 12 8, om 13 7, oo 14 (.len (.t 13)), oo 15 (.bin .lss .sc (.t 12) (.t 14))]) <|
 .cond (.t 15)
 (.skip)
 (.exit 0)) <|
 .seq (.block 1 <|
 .seq (.drw [oo 18 (.fld 1 (.t 5)), oo 19 (.ld 1 false (.t 18)), om 20 7, om 21 8, oo 22 (.idx 2 (.t 20) (.t 21)), oo 23 (.fld 0 (.t 22)), oo 24 (.ld 1 false (.t 23)), oo 25 (.idx 1 (.t 19) (.t 24)), oo 26 (.ld 1 false (.t 25)), om 27 7, om 28 8, oo 29 (.idx 2 (.t 27) (.t 28)), oo 30 (.ld 2 true (.t 29)), oo 31 (.call .blind 53 [(.t 30)]), oo 32 (.bin .neq .sc (.t 26) (.t 31))] [[], [], [], [], [], [], [4], [1, 4, 6], [1, 4, 6, 7], [], [], [], [11], [11, 12], []]) <|
 .cond (.t 32)
 (.seq (.reg [oo 6 (.mv (.k (.bool false)))]) <|
 .ret)
 (.skip)) <|
 .reg [om 16 8, oo 17 (.bin .add .sc (.t 16) (.k (.int .i64 1))), om 8 17]
def l46_0 : DC := .loop [5, 7, 8] [5] l46_0b
def f46 : DFn := ⟨3, [.t 6],
 .seq (.reg [oo 3 (.boxL (.t 0)), oo 5 (.boxL (.t 2)), oo 6 (.mv (.k (.bool false)))]) <|
 .seq (.reg [oo 9 (.ld 4 true (.t 3)), om 10 1, oo 11 (.call .blind 51 [(.t 9), (.t 10)]), om 7 11]) <|
 .seq (.seq (.reg [oo 8 (.mv (.k (.int .i64 0)))]) <|
 .block 0 <|
 l46_0) <|
 .seq (.reg [oo 6 (.mv (.k (.bool true)))]) <|
 .ret⟩

def f47 : DFn := ⟨4, [.t 8],
 .seq (.reg [oo 4 (.boxL (.t 0)), oo 6 (.boxL (.t 2)), oo 8 (.mv (.k (.bool false)))]) <|
 .seq (.seq (.reg [oo 9 (.fld 0 (.t 6)), oo 10 (.ld 1 false (.t 9))]) <|
 .block 0 <|
 .seq (.seq (.reg [oo 12 (.bin .eql .sc (.t 10) (.k (.int .i64 1))), om 11 12]) <|
 .cond (.t 11)
 (.skip)
 (.seq (.reg [oo 13 (.bin .eql .sc (.t 10) (.k (.int .i64 2))), om 11 13]) <|
 .cond (.t 11)
 (.skip)
 (.reg [oo 14 (.bin .eql .sc (.t 10) (.k (.int .i64 4))), om 11 14]))) <|
 .cond (.t 11)
 (.seq (.reg [oo 15 (.fld 3 (.t 4)), oo 16 (.ld 1 false (.t 15)), om 17 1, oo 18 (.idx 6 (.t 16) (.t 17)), oo 19 (.fld 3 (.t 18)), oo 20 (.ld 1 false (.t 19)), om 21 3, oo 22 (.call .blind 57 [(.t 20), (.t 21)]), om 8 22]) <|
 .ret)
 (.seq (.reg [oo 24 (.bin .eql .sc (.t 10) (.k (.int .i64 3))), om 23 24]) <|
 .cond (.t 23)
 (.seq (.drw [oo 25 (.fld 3 (.t 4)), oo 26 (.ld 1 false (.t 25)), om 27 1, oo 28 (.idx 6 (.t 26) (.t 27)), oo 29 (.fld 3 (.t 28)), oo 30 (.ld 1 false (.t 29)), oo 31 (.fld 2 (.t 6)), oo 32 (.ld 1 false (.t 31)), oo 33 (.slc 1 (.t 30) (some (.t 32)) none none), om 34 3, oo 35 (.call .blind 57 [(.t 33), (.t 34)]), om 8 35] [[], [], [], [1], [], [1, 3], [], [], [], [], [1, 3, 5, 7], []]) <|
 .ret)
 (.skip))) <|
 .seq (.reg [oo 8 (.mv (.k (.bool false)))]) <|
 .ret⟩

def l48_1b : DC :=
 .seq (.seq (.reg [om 53 9, om 54 8, oo 55 (.len (.t 54)), oo 56 (.bin .lss .sc (.t 53) (.t 55))]) <|
 .cond (.t 56)
 (.skip)
 (.exit 2)) <|
 .seq (.block 3 <|
 .seq (.drw [om 59 0, oo 60 (.nilck (.t 59)), oo 61 (.fld 0 (.t 60)), oo 62 (.fld 1 (.t 61)), oo 63 (.ld 1 false (.t 62)), om 64 8, om 65 9, oo 66 (.idx 2 (.t 64) (.t 65)), oo 67 (.fld 0 (.t 66)), oo 68 (.ld 1 false (.t 67)), oo 69 (.idx 2 (.t 63) (.t 68)), oo 70 (.fld 1 (.t 69)), oo 71 (.ld 1 false (.t 70)), om 10 71] [[], [], [], [], [], [], [], [], [], [7], [4, 7, 9], [], [4, 7, 9, 10], []]) <|
 .seq (.drw [oo 72 (.fld 1 (.t 4)), oo 73 (.ld 1 false (.t 72)), om 74 8, om 75 9, oo 76 (.idx 2 (.t 74) (.t 75)), oo 77 (.fld 0 (.t 76)), oo 78 (.ld 1 false (.t 77)), oo 79 (.idx 1 (.t 73) (.t 78)), oo 80 (.ld 1 false (.t 79)), om 81 8, om 82 9, oo 83 (.idx 2 (.t 81) (.t 82)), oo 84 (.ld 2 true (.t 83)), oo 85 (.call .blind 53 [(.t 84)]), oo 86 (.bin .neq .sc (.t 80) (.t 85)), om 87 86, ot 88 87 (.fld 0 (.t 4)), ot 89 87 (.ld 1 false (.t 88)), omt 90 10 87, ot 91 87 (.idx 1 (.t 89) (.t 90)), ot 92 87 (.ld 1 false (.t 91)), omt 93 92 87, omf 94 0 93, omf 95 10 93, of 96 93 (.call .ro 52 [(.t 94), (.t 95)]), of 97 93 (.bin .geq .sc (.t 96) (.k (.int .i64 0))), ot 98 87 (.pick (.t 93) (.k (.bool true)) (.t 97)), oo 99 (.pick (.t 87) (.t 98) (.k (.bool false)))] [[], [], [], [], [], [], [4], [1, 4, 6], [1, 4, 6, 7], [], [], [], [11], [11, 12], [], [], [], [1, 4, 6, 7, 8, 11, 12, 13], [], [1, 4, 6, 7, 8, 11, 12, 13, 17], [1, 4, 6, 7, 8, 11, 12, 13, 17, 19], [], [], [], [1, 4, 6, 7, 8, 11, 12, 13, 17, 19, 20], [], [], []]) <|
 .cond (.t 99)
 (.seq (.reg [oo 6 (.mv (.k (.int .i64 8)))]) <|
 .ret)
 (.skip)) <|
 .reg [om 57 9, oo 58 (.bin .add .sc (.t 57) (.k (.int .i64 1))), om 9 58]
def l48_1 : DC := .loop [0, 2, 4, 8, 9] [4] l48_1b
def l48_0b : DC :=
 .seq (.seq (.reg [om 20 7, om 21 0, oo 22 (.nilck (.t 21)), oo 23 (.fld 4 (.t 22)), oo 24 (.ld 1 false (.t 23)), oo 25 (.len (.t 24)), oo 26 (.bin .lss .sc (.t 20) (.t 25))]) <|
 .cond (.t 26)
 (.skip)
 (.exit 0)) <|
 .seq (.block 1 <|
 .seq (.reg [om 29 0, oo 30 (.nilck (.t 29)), oo 31 (.fld 4 (.t 30)), oo 32 (.ld 1 false (.t 31)), om 33 7, oo 34 (.idx 4 (.t 32) (.t 33)), oo 35 (.fld 0 (.t 34)), oo 36 (.ld 1 false (.t 35)), oo 37 (.bin .neq .sc (.t 36) (.k (.int .i64 0))), om 38 37, omt 39 0 38, ot 40 38 (.nilck (.t 39)), ot 41 38 (.fld 0 (.t 40)), ot 42 38 (.ld 4 true (.t 41)), omt 43 2 38, omt 44 7 38, ot 45 38 (.call .blind 30 [(.t 42), (.t 43), (.t 44)]), oo 46 (.pick (.t 38) (.t 45) (.k (.bool false)))]) <|
 .cond (.t 46)
 (.seq (.reg [oo 6 (.mv (.k (.int .i64 8)))]) <|
 .ret)
 (.skip)) <|
 .reg [om 27 7, oo 28 (.bin .add .sc (.t 27) (.k (.int .i64 1))), om 7 28]
def l48_0 : DC := .loop [0, 2, 4, 7] [4] l48_0b
def f48 : DFn := ⟨3, [.t 6],
 .seq (.reg [oo 4 (.boxL (.t 1)), oo 6 (.mv (.k (.int .i64 0)))]) <|
 .seq (.seq (.reg [om 11 0, oo 12 (.nilck (.t 11)), oo 13 (.fld 4 (.t 12)), oo 14 (.ld 1 false (.t 13)), om 15 2, oo 16 (.idx 4 (.t 14) (.t 15)), oo 17 (.fld 0 (.t 16)), oo 18 (.ld 1 false (.t 17)), oo 19 (.bin .neq .sc (.t 18) (.k (.int .i64 0)))]) <|
 .cond (.t 19)
 (.seq (.reg [oo 6 (.mv (.k (.int .i64 7)))]) <|
 .ret)
 (.skip)) <|
 .seq (.seq (.reg [oo 7 (.mv (.k (.int .i64 0)))]) <|
 .block 0 <|
 l48_0) <|
 .seq (.reg [om 47 0, oo 48 (.nilck (.t 47)), oo 49 (.fld 0 (.t 48)), oo 50 (.ld 4 true (.t 49)), om 51 2, oo 52 (.call .blind 51 [(.t 50), (.t 51)]), om 8 52]) <|
 .seq (.seq (.reg [oo 9 (.mv (.k (.int .i64 0)))]) <|
 .block 2 <|
 l48_1) <|
 .seq (.seq (.drw [om 100 0, oo 101 (.nilck (.t 100)), oo 102 (.fld 0 (.t 101)), oo 103 (.ld 4 true (.t 102)), om 104 2, oo 105 (.ld 2 true (.t 4)), oo 106 (.call .blind 45 [(.t 103), (.t 104), (.t 105)]), oo 107 (.un .not (.t 106))] [[], [], [], [], [], [], [3, 5], []]) <|
 .cond (.t 107)
 (.seq (.reg [oo 6 (.mv (.k (.int .i64 8)))]) <|
 .ret)
 (.skip)) <|
 .seq (.reg [om 108 0, oo 109 (.nilck (.t 108)), oo 110 (.fld 4 (.t 109)), oo 111 (.ld 1 false (.t 110)), om 112 2, oo 113 (.build [.int .i64 0, .int .i64 0, .int .i64 0, .bool false] [(0, 1, (.k (.int .i64 1)))]), oo 114 (.idx 4 (.t 111) (.t 112)), on (.st 4 (.t 114) (.t 113))]) <|
 .seq (.reg [oo 6 (.mv (.k (.int .i64 0)))]) <|
 .ret⟩

def f49 : DFn := ⟨1, [.cell 2 2 true],
 .seq (.reg [oo 2 (.alL [.nils, .nils])]) <|
 .seq (.drw [om 3 0, oo 4 (.nilck (.t 3)), oo 5 (.fld 0 (.t 4)), oo 6 (.fld 1 (.t 5)), oo 7 (.ld 1 false (.t 6)), oo 8 (.len (.t 7)), oo 9 (.mks true 1 8 [.int .i64 0] (.t 8)), om 10 0, oo 11 (.nilck (.t 10)), oo 12 (.fld 0 (.t 11)), oo 13 (.fld 2 (.t 12)), oo 14 (.ld 1 false (.t 13)), oo 15 (.len (.t 14)), oo 16 (.mks true 1 1 [.bool false] (.t 15)), oo 17 (.build [.nils, .nils] [(0, 1, (.t 9)), (1, 1, (.t 16))]), on (.st 2 (.t 2) (.t 17))] [[], [], [], [], [], [], [4], [], [], [], [], [], [], [11], [], [4, 6, 11, 13]]) <|
 .ret⟩

def f50 : DFn := ⟨3, [],
 .seq (.reg [oo 4 (.boxL (.t 1))]) <|
 .seq (.reg [om 8 0, oo 9 (.nilck (.t 8)), oo 10 (.fld 4 (.t 9)), oo 11 (.ld 1 false (.t 10)), om 12 2, oo 13 (.idx 4 (.t 11) (.t 12)), om 6 13]) <|
 .seq (.reg [om 14 0, oo 15 (.nilck (.t 14)), oo 16 (.fld 0 (.t 15)), oo 17 (.fld 3 (.t 16)), oo 18 (.ld 1 false (.t 17)), om 19 2, oo 20 (.idx 6 (.t 18) (.t 19)), oo 21 (.fld 3 (.t 20)), oo 22 (.ld 1 false (.t 21)), om 7 22]) <|
 .block 0 <|
 .seq (.drw [om 24 6, oo 25 (.nilck (.t 24)), oo 26 (.fld 0 (.t 25)), oo 27 (.ld 1 false (.t 26)), oo 28 (.bin .eql .sc (.t 27) (.k (.int .i64 1))), om 29 28, omt 30 0 29, ot 31 29 (.nilck (.t 30)), ot 32 29 (.fld 0 (.t 31)), ot 33 29 (.ld 4 true (.t 32)), omt 34 2 29, ot 35 29 (.ld 2 true (.t 4)), ot 36 29 (.call .blind 46 [(.t 33), (.t 34), (.t 35)]), oo 37 (.pick (.t 29) (.t 36) (.k (.bool false))), om 23 37] [[], [], [], [], [], [], [], [], [], [3], [], [3], [3, 9, 11], [], []]) <|
 .cond (.t 23)
 (.reg [om 38 6, oo 39 (.build [.int .i64 0, .int .i64 0, .int .i64 0, .bool false] [(0, 1, (.k (.int .i64 2)))]), oo 40 (.nilck (.t 38)), on (.st 4 (.t 40) (.t 39))])
 (.seq (.reg [om 42 6, oo 43 (.nilck (.t 42)), oo 44 (.fld 0 (.t 43)), oo 45 (.ld 1 false (.t 44)), oo 46 (.bin .eql .sc (.t 45) (.k (.int .i64 1))), om 41 46]) <|
 .cond (.t 41)
 (.seq (.reg [om 47 6, oo 48 (.nilck (.t 47)), oo 49 (.fld 1 (.t 48)), oo 50 (.ld 1 false (.t 49)), oo 51 (.bin .add .sc (.t 50) (.k (.int .i64 1))), oo 52 (.nilck (.t 47)), oo 53 (.fld 1 (.t 52)), on (.st 1 (.t 53) (.t 51))]) <|
 .seq (.reg [om 54 6, oo 55 (.nilck (.t 54)), oo 56 (.fld 1 (.t 55)), oo 57 (.ld 1 false (.t 56)), oo 58 (.bin .gtr .sc (.t 57) (.k (.int .i64 8)))]) <|
 .cond (.t 58)
 (.reg [om 59 6, oo 60 (.build [.int .i64 0, .int .i64 0, .int .i64 0, .bool false] []), oo 61 (.nilck (.t 59)), on (.st 4 (.t 61) (.t 60))])
 (.skip))
 (.seq (.drw [om 63 6, oo 64 (.nilck (.t 63)), oo 65 (.fld 0 (.t 64)), oo 66 (.ld 1 false (.t 65)), oo 67 (.bin .eql .sc (.t 66) (.k (.int .i64 2))), om 68 67, omf 69 6 68, of 70 68 (.nilck (.t 69)), of 71 68 (.fld 0 (.t 70)), of 72 68 (.ld 1 false (.t 71)), of 73 68 (.bin .eql .sc (.t 72) (.k (.int .i64 4))), oo 74 (.pick (.t 68) (.k (.bool true)) (.t 73)), om 75 74, ot 76 75 (.fld 0 (.t 4)), ot 77 75 (.ld 1 false (.t 76)), omt 78 7 75, ot 79 75 (.idx 1 (.t 78) (.k (.int .i64 0))), ot 80 75 (.ld 1 false (.t 79)), ot 81 75 (.idx 1 (.t 77) (.t 80)), ot 82 75 (.ld 1 false (.t 81)), oo 83 (.pick (.t 75) (.t 82) (.k (.bool false))), om 62 83] [[], [], [], [], [], [], [], [], [], [3], [], [], [], [], [3, 9], [], [3, 9], [3, 9, 16], [3, 9, 14, 16, 17], [3, 9, 14, 16, 17, 18], [], []]) <|
 .cond (.t 62)
 (.reg [om 84 6, oo 85 (.build [.int .i64 0, .int .i64 0, .int .i64 0, .bool false] [(0, 1, (.k (.int .i64 3))), (3, 1, (.k (.bool true)))]), oo 86 (.nilck (.t 84)), on (.st 4 (.t 86) (.t 85))])
 (.seq (.reg [om 88 6, oo 89 (.nilck (.t 88)), oo 90 (.fld 0 (.t 89)), oo 91 (.ld 1 false (.t 90)), oo 92 (.bin .eql .sc (.t 91) (.k (.int .i64 4))), om 87 92]) <|
 .cond (.t 87)
 (.seq (.reg [om 93 6, oo 94 (.nilck (.t 93)), oo 95 (.fld 1 (.t 94)), oo 96 (.ld 1 false (.t 95)), oo 97 (.bin .add .sc (.t 96) (.k (.int .i64 1))), oo 98 (.nilck (.t 93)), oo 99 (.fld 1 (.t 98)), on (.st 1 (.t 99) (.t 97))]) <|
 .seq (.reg [om 100 6, oo 101 (.nilck (.t 100)), oo 102 (.fld 1 (.t 101)), oo 103 (.ld 1 false (.t 102)), oo 104 (.bin .eql .sc (.t 103) (.k (.int .i64 6)))]) <|
 .cond (.t 104)
 (.reg [om 105 6, oo 106 (.build [.int .i64 0, .int .i64 0, .int .i64 0, .bool false] []), oo 107 (.nilck (.t 105)), on (.st 4 (.t 107) (.t 106))])
 (.skip))
 (.seq (.drw [om 109 6, oo 110 (.nilck (.t 109)), oo 111 (.fld 0 (.t 110)), oo 112 (.ld 1 false (.t 111)), oo 113 (.bin .eql .sc (.t 112) (.k (.int .i64 3))), om 114 113, ot 115 114 (.fld 0 (.t 4)), ot 116 114 (.ld 1 false (.t 115)), omt 117 7 114, omt 118 6 114, ot 119 114 (.nilck (.t 118)), ot 120 114 (.fld 2 (.t 119)), ot 121 114 (.ld 1 false (.t 120)), ot 122 114 (.idx 1 (.t 117) (.t 121)), ot 123 114 (.ld 1 false (.t 122)), ot 124 114 (.idx 1 (.t 116) (.t 123)), ot 125 114 (.ld 1 false (.t 124)), oo 126 (.pick (.t 114) (.t 125) (.k (.bool false))), om 108 126] [[], [], [], [], [], [], [], [3], [], [], [], [], [3], [3, 12], [3, 12, 13], [3, 7, 12, 13, 14], [3, 7, 12, 13, 14, 15], [], []]) <|
 .cond (.t 108)
 (.reg [om 127 6, oo 128 (.nilck (.t 127)), oo 129 (.fld 3 (.t 128)), on (.st 1 (.t 129) (.k (.bool true)))])
 (.seq (.reg [om 131 6, oo 132 (.nilck (.t 131)), oo 133 (.fld 0 (.t 132)), oo 134 (.ld 1 false (.t 133)), oo 135 (.bin .eql .sc (.t 134) (.k (.int .i64 3))), om 136 135, omt 137 6 136, ot 138 136 (.nilck (.t 137)), ot 139 136 (.fld 3 (.t 138)), ot 140 136 (.ld 1 false (.t 139)), oo 141 (.pick (.t 136) (.t 140) (.k (.bool false))), om 130 141]) <|
 .cond (.t 130)
 (.seq (.reg [om 142 6, oo 143 (.nilck (.t 142)), oo 144 (.fld 2 (.t 143)), oo 145 (.ld 1 false (.t 144)), oo 146 (.bin .add .sc (.t 145) (.k (.int .i64 1))), oo 147 (.nilck (.t 142)), oo 148 (.fld 2 (.t 147)), on (.st 1 (.t 148) (.t 146))]) <|
 .seq (.reg [om 149 6, oo 150 (.nilck (.t 149)), oo 151 (.fld 3 (.t 150)), on (.st 1 (.t 151) (.k (.bool false)))]) <|
 .seq (.reg [om 152 6, oo 153 (.nilck (.t 152)), oo 154 (.fld 2 (.t 153)), oo 155 (.ld 1 false (.t 154)), om 156 7, oo 157 (.len (.t 156)), oo 158 (.bin .eql .sc (.t 155) (.t 157))]) <|
 .cond (.t 158)
 (.reg [om 159 6, oo 160 (.build [.int .i64 0, .int .i64 0, .int .i64 0, .bool false] []), oo 161 (.nilck (.t 159)), on (.st 4 (.t 161) (.t 160))])
 (.skip))
 (.skip))))))⟩

def f51 : DFn := ⟨2, [.t 4],
 .seq (.reg [oo 2 (.boxL (.t 0)), oo 4 (.mv (.k (.nils)))]) <|
 .seq (.drw [oo 5 (.bsl false 2 [.int .i64 0, .bool false] 0 []), oo 6 (.fld 3 (.t 2)), oo 7 (.ld 1 false (.t 6)), om 8 1, oo 9 (.idx 6 (.t 7) (.t 8)), oo 10 (.fld 4 (.t 9)), oo 11 (.ld 1 false (.t 10)), oo 12 (.app 2 16 (.t 5) (.t 11)), oo 13 (.fld 3 (.t 2)), oo 14 (.ld 1 false (.t 13)), om 15 1, oo 16 (.idx 6 (.t 14) (.t 15)), oo 17 (.fld 5 (.t 16)), oo 18 (.ld 1 false (.t 17)), oo 19 (.app 2 16 (.t 12) (.t 18)), om 4 19] [[], [], [], [], [2], [], [2, 4], [0, 2, 4, 6], [], [], [], [9], [], [9, 11], [0, 2, 4, 6, 7, 9, 11, 13], []]) <|
 .ret⟩

def l52_0b : DC :=
 .seq (.seq (.reg [om 6 5, om 7 0, oo 8 (.nilck (.t 7)), oo 9 (.fld 4 (.t 8)), oo 10 (.ld 1 false (.t 9)), oo 11 (.len (.t 10)), oo 12 (.bin .lss .sc (.t 6) (.t 11))]) <|
 .cond (.t 12)
 (.skip)
 (.exit 0)) <|
 .seq (.block 1 <|
 .seq (.drw [om 15 0, oo 16 (.nilck (.t 15)), oo 17 (.fld 0 (.t 16)), oo 18 (.ld 4 true (.t 17)), om 19 5, om 20 0, oo 21 (.nilck (.t 20)), oo 22 (.fld 4 (.t 21)), oo 23 (.ld 1 false (.t 22)), om 24 5, oo 25 (.idx 4 (.t 23) (.t 24)), oo 26 (.ld 4 true (.t 25)), om 27 1, oo 28 (.call .blind 47 [(.t 18), (.t 19), (.t 26), (.t 27)])] [[], [], [], [], [], [], [], [], [], [], [8], [8, 10], [], [3, 8, 10, 11]]) <|
 .cond (.t 28)
 (.seq (.reg [om 29 5, om 4 29]) <|
 .ret)
 (.skip)) <|
 .reg [om 13 5, oo 14 (.bin .add .sc (.t 13) (.k (.int .i64 1))), om 5 14]
def l52_0 : DC := .loop [0, 1, 5] [] l52_0b
def f52 : DFn := ⟨2, [.t 4],
 .seq (.reg [oo 4 (.mv (.k (.int .i64 0)))]) <|
 .seq (.seq (.reg [oo 5 (.mv (.k (.int .i64 0)))]) <|
 .block 0 <|
 l52_0) <|
 .seq (.reg [oo 4 (.mv (.k (.int .i64 (-1))))]) <|
 .ret⟩

def f53 : DFn := ⟨1, [.t 2],
 .seq (.reg [oo 1 (.boxL (.t 0)), oo 2 (.mv (.k (.int .i64 0)))]) <|
 .seq (.seq (.reg [oo 3 (.fld 1 (.t 1)), oo 4 (.ld 1 false (.t 3))]) <|
 .cond (.t 4)
 (.seq (.reg [oo 2 (.mv (.k (.int .i64 2)))]) <|
 .ret)
 (.skip)) <|
 .seq (.reg [oo 2 (.mv (.k (.int .i64 1)))]) <|
 .ret⟩

def l54_0b : DC :=
 .seq (.seq (.reg [om 11 5, om 12 0, oo 13 (.len (.t 12)), oo 14 (.bin .lss .sc (.t 11) (.t 13))]) <|
 .cond (.t 14)
 (.skip)
 (.exit 0)) <|
 .seq (.block 1 <|
 .seq (.drw [om 17 0, om 18 5, oo 19 (.idx 4 (.t 17) (.t 18)), oo 20 (.ld 4 true (.t 19)), om 21 1, om 22 5, oo 23 (.idx 4 (.t 21) (.t 22)), oo 24 (.ld 4 true (.t 23)), oo 25 (.bin .neq (.st [.i, .i, .i, .b]) (.t 20) (.t 24))] [[], [], [], [2], [], [], [], [6], []]) <|
 .cond (.t 25)
 (.seq (.reg [oo 4 (.mv (.k (.bool false)))]) <|
 .ret)
 (.skip)) <|
 .reg [om 15 5, oo 16 (.bin .add .sc (.t 15) (.k (.int .i64 1))), om 5 16]
def l54_0 : DC := .loop [0, 1, 5] [] l54_0b
def f54 : DFn := ⟨2, [.t 4],
 .seq (.reg [oo 4 (.mv (.k (.bool false)))]) <|
 .seq (.seq (.reg [om 6 0, oo 7 (.len (.t 6)), om 8 1, oo 9 (.len (.t 8)), oo 10 (.bin .neq .sc (.t 7) (.t 9))]) <|
 .cond (.t 10)
 (.seq (.reg [oo 4 (.mv (.k (.bool false)))]) <|
 .ret)
 (.skip)) <|
 .seq (.seq (.reg [oo 5 (.mv (.k (.int .i64 0)))]) <|
 .block 0 <|
 l54_0) <|
 .seq (.reg [oo 4 (.mv (.k (.bool true)))]) <|
 .ret⟩

def f55 : DFn := ⟨2, [.t 4],
 .seq (.reg [oo 4 (.mv (.k (.bool false)))]) <|
 .seq (.reg [om 5 0, om 6 1, oo 7 (.call .blind 79 [(.t 5), (.t 6)]), oo 8 (.bin .geq .sc (.t 7) (.k (.int .i64 0))), om 4 8]) <|
 .ret⟩

def f56 : DFn := ⟨2, [.t 4],
 .seq (.reg [oo 4 (.mv (.k (.nils)))]) <|
 .seq (.drw [om 7 0, oo 8 (.nilck (.t 7)), oo 9 (.fld 4 (.t 8)), oo 10 (.ld 1 false (.t 9)), om 11 1, oo 12 (.idx 4 (.t 10) (.t 11)), oo 13 (.ld 4 true (.t 12)), om 14 0, oo 15 (.nilck (.t 14)), oo 16 (.fld 0 (.t 15)), oo 17 (.fld 3 (.t 16)), oo 18 (.ld 1 false (.t 17)), om 19 1, oo 20 (.idx 6 (.t 18) (.t 19)), oo 21 (.fld 3 (.t 20)), oo 22 (.ld 1 false (.t 21)), oo 5 (.alL [.int .i64 0, .int .i64 0, .int .i64 0, .bool false]), on (.st 4 (.t 5) (.t 13)), om 6 22] [[], [], [], [], [], [3], [3, 5], [], [], [], [], [], [], [11], [], [11, 13], [], [3, 5, 6, 16], []]) <|
 .seq (.seq (.reg [oo 23 (.fld 0 (.t 5)), oo 24 (.ld 1 false (.t 23))]) <|
 .block 0 <|
 .seq (.seq (.reg [oo 26 (.bin .eql .sc (.t 24) (.k (.int .i64 1))), om 25 26]) <|
 .cond (.t 25)
 (.skip)
 (.seq (.reg [oo 27 (.bin .eql .sc (.t 24) (.k (.int .i64 2))), om 25 27]) <|
 .cond (.t 25)
 (.skip)
 (.reg [oo 28 (.bin .eql .sc (.t 24) (.k (.int .i64 4))), om 25 28]))) <|
 .cond (.t 25)
 (.seq (.reg [om 29 6, om 4 29]) <|
 .ret)
 (.seq (.reg [oo 31 (.bin .eql .sc (.t 24) (.k (.int .i64 3))), om 30 31]) <|
 .cond (.t 30)
 (.seq (.reg [om 32 6, oo 33 (.fld 2 (.t 5)), oo 34 (.ld 1 false (.t 33)), oo 35 (.slc 1 (.t 32) (some (.t 34)) none none), om 4 35]) <|
 .ret)
 (.skip))) <|
 .seq (.reg [oo 4 (.mv (.k (.nils)))]) <|
 .ret⟩

def l57_0b : DC :=
 .seq (.seq (.reg [om 6 5, om 7 0, oo 8 (.len (.t 7)), oo 9 (.bin .lss .sc (.t 6) (.t 8))]) <|
 .cond (.t 9)
 (.skip)
 (.exit 0)) <|
 .seq (.block 1 <|
 .seq (.reg [om 12 0, om 13 5, oo 14 (.idx 1 (.t 12) (.t 13)), oo 15 (.ld 1 false (.t 14)), om 16 1, oo 17 (.bin .eql .sc (.t 15) (.t 16))]) <|
 .cond (.t 17)
 (.seq (.reg [oo 4 (.mv (.k (.bool true)))]) <|
 .ret)
 (.skip)) <|
 .reg [om 10 5, oo 11 (.bin .add .sc (.t 10) (.k (.int .i64 1))), om 5 11]
def l57_0 : DC := .loop [0, 1, 5] [] l57_0b
def f57 : DFn := ⟨2, [.t 4],
 .seq (.reg [oo 4 (.mv (.k (.bool false)))]) <|
 .seq (.seq (.reg [oo 5 (.mv (.k (.int .i64 0)))]) <|
 .block 0 <|
 l57_0) <|
 .seq (.reg [oo 4 (.mv (.k (.bool false)))]) <|
 .ret⟩

def f58 : DFn := ⟨1, [.t 2],
 .seq (.reg [oo 2 (.mv (.k (.bool false)))]) <|
 .seq (.reg [om 3 0, oo 4 (.call .blind 80 [(.t 3)]), om 5 4, omt 6 0 5, ot 7 5 (.bin .neq .sc (.t 6) (.k (.str [115, 101, 116]))), oo 8 (.pick (.t 5) (.t 7) (.k (.bool false))), om 9 8, omt 10 0 9, ot 11 9 (.bin .neq .sc (.t 10) (.k (.str [102, 108, 97, 110, 107]))), oo 12 (.pick (.t 9) (.t 11) (.k (.bool false))), om 2 12]) <|
 .ret⟩

def l59_0b : DC :=
 .seq (.seq (.reg [om 11 9, om 12 1, oo 13 (.len (.t 12)), oo 14 (.bin .lss .sc (.t 11) (.t 13))]) <|
 .cond (.t 14)
 (.skip)
 (.exit 0)) <|
 .seq (.block 1 <|
 .seq (.reg [om 17 1, om 18 9, oo 19 (.idx 2 (.t 17) (.t 18)), oo 20 (.fld 0 (.t 19)), oo 21 (.ld 1 false (.t 20)), om 10 21]) <|
 .seq (.reg [om 22 10, oo 23 (.bin .lss .sc (.t 22) (.k (.int .i64 0))), om 24 23, omf 25 10 24, of 26 24 (.fld 1 (.t 4)), of 27 24 (.ld 1 false (.t 26)), of 28 24 (.len (.t 27)), of 29 24 (.bin .geq .sc (.t 25) (.t 28)), oo 30 (.pick (.t 24) (.k (.bool true)) (.t 29)), om 31 30, omf 32 9 31, of 33 31 (.bin .gtr .sc (.t 32) (.k (.int .i64 0))), omf 34 33 31, omt 35 1 34, omt 36 9 34, ot 37 34 (.bin .sub .sc (.t 36) (.k (.int .i64 1))), ot 38 34 (.idx 2 (.t 35) (.t 37)), ot 39 34 (.fld 0 (.t 38)), ot 40 34 (.ld 1 false (.t 39)), omt 41 10 34, ot 42 34 (.bin .geq .sc (.t 40) (.t 41)), of 43 31 (.pick (.t 34) (.t 42) (.k (.bool false))), oo 44 (.pick (.t 31) (.k (.bool true)) (.t 43)), om 45 44, omf 46 2 45, of 47 45 (.fld 1 (.t 4)), of 48 45 (.ld 1 false (.t 47)), omf 49 10 45, of 50 45 (.idx 2 (.t 48) (.t 49)), of 51 45 (.fld 1 (.t 50)), of 52 45 (.ld 1 false (.t 51)), of 53 45 (.call .blind 57 [(.t 46), (.t 52)]), omf 54 3 45, of 55 45 (.bin .neq .bl (.t 53) (.t 54)), oo 56 (.pick (.t 45) (.k (.bool true)) (.t 55))]) <|
 .cond (.t 56)
 (.seq (.reg [oo 8 (.mv (.k (.bool false)))]) <|
 .ret)
 (.skip)) <|
 .reg [om 15 9, oo 16 (.bin .add .sc (.t 15) (.k (.int .i64 1))), om 9 16]
def l59_0 : DC := .loop [1, 2, 3, 4, 9] [4] l59_0b
def f59 : DFn := ⟨4, [.t 8],
 .seq (.reg [oo 4 (.boxL (.t 0)), oo 8 (.mv (.k (.bool false)))]) <|
 .seq (.seq (.reg [oo 9 (.mv (.k (.int .i64 0)))]) <|
 .block 0 <|
 l59_0) <|
 .seq (.reg [oo 8 (.mv (.k (.bool true)))]) <|
 .ret⟩

def f60 : DFn := ⟨3, [.t 6],
 .seq (.reg [oo 6 (.mv (.k (.bool false)))]) <|
 .seq (.reg [om 7 0, om 8 1, oo 9 (.bin .geq .sc (.t 7) (.t 8)), om 10 9, omt 11 0 10, omt 12 2 10, ot 13 10 (.bin .leq .sc (.t 11) (.t 12)), oo 14 (.pick (.t 10) (.t 13) (.k (.bool false))), om 6 14]) <|
 .ret⟩

def l61_0b : DC :=
 .seq (.reg [oo 61 (.bin .lss .sc (.t 60) (.t 59))]) <|
 .seq (.cond (.t 61)
 (.skip)
 (.exit 0)) <|
 .seq (.block 1 <|
 .seq (.reg [oo 62 (.idx 2 (.t 58) (.t 60)), oo 63 (.ld 2 true (.t 62)), oo 8 (.alL [.str [], .int .i64 0]), on (.st 2 (.t 8) (.t 63))]) <|
 .seq (.reg [oo 64 (.fld 3 (.t 3)), oo 65 (.ld 1 false (.t 64)), oo 66 (.fld 1 (.t 8)), oo 67 (.ld 1 false (.t 66)), oo 68 (.call .blind 55 [(.t 65), (.t 67)])]) <|
 .cond (.t 68)
 (.reg [om 69 6, oo 70 (.bin .add .sc (.t 69) (.k (.int .i64 1))), om 6 70])
 (.skip)) <|
 .reg [oo 71 (.bin .add .sc (.t 60) (.k (.int .i64 1))), om 60 71]
def l61_0 : DC := .loop [3, 6, 58, 59, 60] [3] l61_0b
def f61 : DFn := ⟨2, [.t 4],
 .seq (.reg [oo 2 (.boxL (.t 0)), oo 3 (.boxL (.t 1)), oo 4 (.mv (.k (.bool false)))]) <|
 .seq (.reg [oo 9 (.fld 2 (.t 2)), oo 10 (.ld 1 false (.t 9)), oo 11 (.len (.t 10)), oo 12 (.bin .sub .sc (.t 11) (.k (.int .i64 1))), om 5 12]) <|
 .seq (.seq (.reg [oo 13 (.fld 1 (.t 3)), oo 14 (.ld 1 false (.t 13)), om 15 5, oo 16 (.call .blind 60 [(.t 14), (.k (.int .i64 0)), (.t 15)]), oo 17 (.un .not (.t 16)), om 18 17, of 19 18 (.fld 2 (.t 3)), of 20 18 (.ld 1 false (.t 19)), omf 21 5 18, of 22 18 (.call .blind 60 [(.t 20), (.k (.int .i64 0)), (.t 21)]), of 23 18 (.un .not (.t 22)), oo 24 (.pick (.t 18) (.k (.bool true)) (.t 23)), om 25 24, of 26 25 (.fld 1 (.t 3)), of 27 25 (.ld 1 false (.t 26)), of 28 25 (.fld 2 (.t 3)), of 29 25 (.ld 1 false (.t 28)), of 30 25 (.bin .eql .sc (.t 27) (.t 29)), oo 31 (.pick (.t 25) (.k (.bool true)) (.t 30)), om 32 31, of 33 32 (.ld 4 true (.t 2)), of 34 32 (.fld 3 (.t 3)), of 35 32 (.ld 1 false (.t 34)), of 36 32 (.call .blind 81 [(.t 33), (.t 35)]), of 37 32 (.un .not (.t 36)), oo 38 (.pick (.t 32) (.k (.bool true)) (.t 37)), om 39 38, of 40 39 (.ld 4 true (.t 2)), of 41 39 (.fld 4 (.t 3)), of 42 39 (.ld 1 false (.t 41)), of 43 39 (.fld 3 (.t 3)), of 44 39 (.ld 1 false (.t 43)), of 45 39 (.call .blind 82 [(.t 40), (.t 42), (.t 44), (.k (.bool true))]), of 46 39 (.un .not (.t 45)), oo 47 (.pick (.t 39) (.k (.bool true)) (.t 46)), om 48 47, of 49 48 (.ld 4 true (.t 2)), of 50 48 (.fld 5 (.t 3)), of 51 48 (.ld 1 false (.t 50)), of 52 48 (.fld 3 (.t 3)), of 53 48 (.ld 1 false (.t 52)), of 54 48 (.call .blind 82 [(.t 49), (.t 51), (.t 53), (.k (.bool false))]), of 55 48 (.un .not (.t 54)), oo 56 (.pick (.t 48) (.k (.bool true)) (.t 55))]) <|
 .cond (.t 56)
 (.seq (.reg [oo 4 (.mv (.k (.bool false)))]) <|
 .ret)
 (.skip)) <|
 .seq (.reg [oo 6 (.mv (.k (.int .i64 0)))]) <|
 .seq (.seq (.reg [oo 57 (.fld 1 (.t 2)), oo 58 (.ld 1 false (.t 57)), oo 59 (.len (.t 58)), oo 60 (.mv (.k (.int .i64 0)))]) <|
 .block 0 <|
 l61_0) <|
 .seq (.reg [om 72 6, oo 73 (.fld 4 (.t 3)), oo 74 (.ld 1 false (.t 73)), oo 75 (.len (.t 74)), oo 76 (.bin .eql .sc (.t 72) (.t 75)), om 4 76]) <|
 .ret⟩

def l62_0b : DC :=
 .seq (.reg [oo 8 (.bin .lss .sc (.t 7) (.t 6))]) <|
 .seq (.cond (.t 8)
 (.skip)
 (.exit 0)) <|
 .seq (.block 1 <|
 .seq (.reg [om 9 7, oo 10 (.idx 1 (.t 5) (.t 7)), oo 11 (.ld 1 false (.t 10)), om 3 9, om 4 11]) <|
 .seq (.reg [om 12 4, oo 13 (.call .blind 83 [(.t 12)]), oo 14 (.un .not (.t 13)), om 15 14, omf 16 4 15, of 17 15 (.bin .eql .sc (.t 16) (.k (.str [115, 101, 116]))), oo 18 (.pick (.t 15) (.k (.bool true)) (.t 17)), om 19 18, omf 20 4 19, of 21 19 (.bin .eql .sc (.t 20) (.k (.str [102, 108, 97, 110, 107]))), oo 22 (.pick (.t 19) (.k (.bool true)) (.t 21)), om 23 22, omf 24 0 23, omf 25 3 23, of 26 23 (.slc 1 (.t 24) none (some (.t 25)) none), omf 27 4 23, of 28 23 (.call .blind 84 [(.t 26), (.t 27)]), oo 29 (.pick (.t 23) (.k (.bool true)) (.t 28))]) <|
 .cond (.t 29)
 (.seq (.reg [oo 2 (.mv (.k (.bool false)))]) <|
 .ret)
 (.skip)) <|
 .reg [oo 30 (.bin .add .sc (.t 7) (.k (.int .i64 1))), om 7 30]
def l62_0 : DC := .loop [0, 5, 6, 7] [] l62_0b
def f62 : DFn := ⟨1, [.t 2],
 .seq (.reg [oo 2 (.mv (.k (.bool false)))]) <|
 .seq (.seq (.reg [om 5 0, oo 6 (.len (.t 5)), oo 7 (.mv (.k (.int .i64 0)))]) <|
 .block 0 <|
 l62_0) <|
 .seq (.reg [oo 2 (.mv (.k (.bool true)))]) <|
 .ret⟩

def f63 : DFn := ⟨1, [.t 2],
 .seq (.reg [oo 2 (.mv (.k (.nils)))]) <|
 .seq (.seq (.reg [om 3 0, oo 4 (.bin .eql .ns (.t 3) (.k (.nils)))]) <|
 .cond (.t 4)
 (.seq (.reg [oo 2 (.mv (.k (.nils)))]) <|
 .ret)
 (.skip)) <|
 .seq (.reg [oo 5 (.bsl false 1 [.str []] 0 []), om 6 0, oo 7 (.app 1 16 (.t 5) (.t 6)), om 2 7]) <|
 .ret⟩

def f64 : DFn := ⟨1, [.t 2],
 .seq (.reg [oo 2 (.mv (.k (.nils)))]) <|
 .seq (.seq (.reg [om 3 0, oo 4 (.bin .eql .ns (.t 3) (.k (.nils)))]) <|
 .cond (.t 4)
 (.seq (.reg [oo 2 (.mv (.k (.nils)))]) <|
 .ret)
 (.skip)) <|
 .seq (.reg [oo 5 (.bsl false 2 [.str [], .int .i64 0] 0 []), om 6 0, oo 7 (.app 2 24 (.t 5) (.t 6)), om 2 7]) <|
 .ret⟩

def f65 : DFn := ⟨1, [.t 2],
 .seq (.reg [oo 2 (.mv (.k (.nils)))]) <|
 .seq (.seq (.reg [om 3 0, oo 4 (.bin .eql .ns (.t 3) (.k (.nils)))]) <|
 .cond (.t 4)
 (.seq (.reg [oo 2 (.mv (.k (.nils)))]) <|
 .ret)
 (.skip)) <|
 .seq (.reg [oo 5 (.bsl false 6 [.str [], .int .i64 0, .int .i64 0, .nils, .nils, .nils] 0 []), om 6 0, oo 7 (.app 6 104 (.t 5) (.t 6)), om 2 7]) <|
 .ret⟩

def f66 : DFn := ⟨1, [.t 2],
 .seq (.reg [oo 2 (.mv (.k (.nils)))]) <|
 .seq (.seq (.reg [om 3 0, oo 4 (.bin .eql .ns (.t 3) (.k (.nils)))]) <|
 .cond (.t 4)
 (.seq (.reg [oo 2 (.mv (.k (.nils)))]) <|
 .ret)
 (.skip)) <|
 .seq (.reg [oo 5 (.bsl false 1 [.int .i64 0] 0 []), om 6 0, oo 7 (.app 1 8 (.t 5) (.t 6)), om 2 7]) <|
 .ret⟩

def f67 : DFn := ⟨1, [.t 2],
 .seq (.reg [oo 2 (.mv (.k (.nils)))]) <|
 .seq (.seq (.reg [om 3 0, oo 4 (.bin .eql .ns (.t 3) (.k (.nils)))]) <|
 .cond (.t 4)
 (.seq (.reg [oo 2 (.mv (.k (.nils)))]) <|
 .ret)
 (.skip)) <|
 .seq (.reg [oo 5 (.bsl false 2 [.int .i64 0, .bool false] 0 []), om 6 0, oo 7 (.app 2 16 (.t 5) (.t 6)), om 2 7]) <|
 .ret⟩

def f68 : DFn := ⟨1, [.t 2],
 .seq (.reg [oo 2 (.mv (.k (.bool false)))]) <|
 .seq (.reg [om 3 0, oo 4 (.bin .lss .sc (.t 3) (.k (.int .i64 0))), om 5 4, omf 6 0 5, of 7 5 (.bin .gtr .sc (.t 6) (.k (.int .i64 2))), oo 8 (.pick (.t 5) (.k (.bool true)) (.t 7)), om 2 8]) <|
 .ret⟩

def f69 : DFn := ⟨2, [.t 4],
 .seq (.reg [oo 4 (.mv (.k (.bool false)))]) <|
 .seq (.reg [om 5 0, om 6 1, oo 7 (.call .ro 85 [(.t 5), (.t 6)]), oo 8 (.bin .geq .sc (.t 7) (.k (.int .i64 0))), om 4 8]) <|
 .ret⟩

def l70_1b : DC :=
 .seq (.reg [oo 43 (.bin .lss .sc (.t 42) (.t 41))]) <|
 .seq (.cond (.t 43)
 (.skip)
 (.exit 2)) <|
 .seq (.block 3 <|
 .seq (.reg [oo 44 (.idx 2 (.t 40) (.t 42)), oo 45 (.ld 2 true (.t 44)), oo 10 (.alL [.int .i64 0, .bool false]), on (.st 2 (.t 10) (.t 45))]) <|
 .seq (.drw [om 46 0, oo 47 (.nilck (.t 46)), oo 48 (.fld 0 (.t 47)), oo 49 (.fld 1 (.t 48)), oo 50 (.ld 1 false (.t 49)), oo 51 (.fld 0 (.t 10)), oo 52 (.ld 1 false (.t 51)), oo 53 (.idx 2 (.t 50) (.t 52)), oo 54 (.fld 1 (.t 53)), oo 55 (.ld 1 false (.t 54)), om 11 55] [[], [], [], [], [], [], [], [4, 6], [], [4, 6, 7], []]) <|
 .seq (.reg [oo 56 (.ld 2 true (.t 4)), oo 57 (.ld 2 true (.t 10)), oo 58 (.call .blind 74 [(.t 56), (.t 57)]), oo 59 (.un .not (.t 58)), om 60 59, ot 61 60 (.fld 0 (.t 4)), ot 62 60 (.ld 1 false (.t 61)), omt 63 11 60, ot 64 60 (.idx 1 (.t 62) (.t 63)), ot 65 60 (.ld 1 false (.t 64)), omt 66 65 60, omf 67 0 66, omf 68 11 66, of 69 66 (.call .ro 29 [(.t 67), (.t 68)]), of 70 66 (.bin .geq .sc (.t 69) (.k (.int .i64 0))), ot 71 60 (.pick (.t 66) (.k (.bool true)) (.t 70)), oo 72 (.pick (.t 60) (.t 71) (.k (.bool false)))]) <|
 .cond (.t 72)
 (.seq (.reg [oo 6 (.mv (.k (.bool false)))]) <|
 .ret)
 (.skip)) <|
 .reg [oo 73 (.bin .add .sc (.t 42) (.k (.int .i64 1))), om 42 73]
def l70_1 : DC := .loop [0, 2, 4, 40, 41, 42] [4] l70_1b
def l70_0b : DC :=
 .seq (.reg [oo 18 (.bin .lss .sc (.t 17) (.t 16))]) <|
 .seq (.cond (.t 18)
 (.skip)
 (.exit 0)) <|
 .seq (.block 1 <|
 .seq (.reg [om 19 17, oo 20 (.idx 4 (.t 15) (.t 17)), oo 21 (.ld 4 true (.t 20)), oo 8 (.alL [.int .i64 0, .int .i64 0, .int .i64 0, .bool false]), om 7 19, on (.st 4 (.t 8) (.t 21))]) <|
 .seq (.reg [oo 22 (.fld 0 (.t 8)), oo 23 (.ld 1 false (.t 22)), oo 24 (.bin .neq .sc (.t 23) (.k (.int .i64 0))), om 25 24, omt 26 0 25, ot 27 25 (.nilck (.t 26)), ot 28 25 (.fld 0 (.t 27)), ot 29 25 (.ld 4 true (.t 28)), omt 30 2 25, omt 31 7 25, ot 32 25 (.call .blind 86 [(.t 29), (.t 30), (.t 31)]), oo 33 (.pick (.t 25) (.t 32) (.k (.bool false)))]) <|
 .cond (.t 33)
 (.seq (.reg [oo 6 (.mv (.k (.bool false)))]) <|
 .ret)
 (.skip)) <|
 .reg [oo 34 (.bin .add .sc (.t 17) (.k (.int .i64 1))), om 17 34]
def l70_0 : DC := .loop [0, 2, 4, 15, 16, 17] [4] l70_0b
def f70 : DFn := ⟨3, [.t 6],
 .seq (.reg [oo 4 (.boxL (.t 1)), oo 6 (.mv (.k (.bool false)))]) <|
 .seq (.seq (.reg [om 12 0, oo 13 (.nilck (.t 12)), oo 14 (.fld 4 (.t 13)), oo 15 (.ld 1 false (.t 14)), oo 16 (.len (.t 15)), oo 17 (.mv (.k (.int .i64 0)))]) <|
 .block 0 <|
 l70_0) <|
 .seq (.seq (.reg [om 35 0, oo 36 (.nilck (.t 35)), oo 37 (.fld 0 (.t 36)), oo 38 (.ld 4 true (.t 37)), om 39 2, oo 40 (.call .blind 73 [(.t 38), (.t 39)]), oo 41 (.len (.t 40)), oo 42 (.mv (.k (.int .i64 0)))]) <|
 .block 2 <|
 l70_1) <|
 .seq (.drw [oo 74 (.ld 2 true (.t 4)), om 75 0, oo 76 (.nilck (.t 75)), oo 77 (.fld 0 (.t 76)), oo 78 (.fld 3 (.t 77)), oo 79 (.ld 1 false (.t 78)), om 80 2, oo 81 (.idx 6 (.t 79) (.t 80)), oo 82 (.fld 3 (.t 81)), oo 83 (.ld 1 false (.t 82)), oo 84 (.call .blind 41 [(.t 74), (.t 83)]), oo 85 (.un .not (.t 84)), om 6 85] [[], [], [], [], [], [], [], [5], [], [5, 7], [0, 5, 7, 9], [], []]) <|
 .ret⟩

def f71 : DFn := ⟨2, [.cell 4 4 true],
 .seq (.reg [oo 2 (.boxL (.t 0)), oo 4 (.alL [.int .i64 0, .int .i64 0, .int .i64 0, .bool false])]) <|
 .seq (.reg [oo 5 (.fld 1 (.t 2)), oo 6 (.ld 1 false (.t 5)), oo 7 (.bin .add .sc (.t 6) (.k (.int .i64 1))), oo 8 (.fld 1 (.t 2)), on (.st 1 (.t 8) (.t 7))]) <|
 .seq (.seq (.reg [oo 9 (.fld 1 (.t 2)), oo 10 (.ld 1 false (.t 9)), om 11 1, oo 12 (.bin .gtr .sc (.t 10) (.t 11))]) <|
 .cond (.t 12)
 (.seq (.reg [oo 13 (.build [.int .i64 0, .int .i64 0, .int .i64 0, .bool false] []), on (.st 4 (.t 4) (.t 13))]) <|
 .ret)
 (.skip)) <|
 .seq (.reg [oo 14 (.ld 4 true (.t 2)), on (.st 4 (.t 4) (.t 14))]) <|
 .ret⟩

def f72 : DFn := ⟨3, [.cell 6 4 true],
 .seq (.reg [oo 4 (.boxL (.t 1)), oo 6 (.alL [.int .i64 0, .int .i64 0, .int .i64 0, .bool false])]) <|
 .seq (.drw [om 9 0, oo 10 (.nilck (.t 9)), oo 11 (.fld 4 (.t 10)), oo 12 (.ld 1 false (.t 11)), om 13 2, oo 14 (.idx 4 (.t 12) (.t 13)), oo 15 (.ld 4 true (.t 14)), om 16 0, oo 17 (.nilck (.t 16)), oo 18 (.fld 0 (.t 17)), oo 19 (.fld 3 (.t 18)), oo 20 (.ld 1 false (.t 19)), om 21 2, oo 22 (.idx 6 (.t 20) (.t 21)), oo 23 (.fld 3 (.t 22)), oo 24 (.ld 1 false (.t 23)), oo 7 (.alL [.int .i64 0, .int .i64 0, .int .i64 0, .bool false]), on (.st 4 (.t 7) (.t 15)), om 8 24] [[], [], [], [], [], [3], [3, 5], [], [], [], [], [], [], [11], [], [11, 13], [], [3, 5, 6, 16], []]) <|
 .seq (.block 0 <|
 .seq (.drw [oo 26 (.fld 0 (.t 4)), oo 27 (.ld 1 false (.t 26)), om 28 8, oo 29 (.fld 2 (.t 7)), oo 30 (.ld 1 false (.t 29)), oo 31 (.idx 1 (.t 28) (.t 30)), oo 32 (.ld 1 false (.t 31)), oo 33 (.idx 1 (.t 27) (.t 32)), oo 34 (.ld 1 false (.t 33)), om 25 34] [[], [], [], [], [], [4], [4, 5], [1, 4, 5, 6], [1, 4, 5, 6, 7], []]) <|
 .cond (.t 25)
 (.reg [oo 35 (.fld 3 (.t 7)), on (.st 1 (.t 35) (.k (.bool true)))])
 (.seq (.reg [oo 37 (.fld 3 (.t 7)), oo 38 (.ld 1 false (.t 37)), om 36 38]) <|
 .cond (.t 36)
 (.reg [oo 39 (.fld 2 (.t 7)), oo 40 (.ld 1 false (.t 39)), oo 41 (.bin .add .sc (.t 40) (.k (.int .i64 1))), oo 42 (.fld 2 (.t 7)), on (.st 1 (.t 42) (.t 41)), oo 43 (.fld 3 (.t 7)), on (.st 1 (.t 43) (.k (.bool false)))])
 (.skip))) <|
 .seq (.seq (.reg [oo 44 (.fld 2 (.t 7)), oo 45 (.ld 1 false (.t 44)), om 46 8, oo 47 (.len (.t 46)), oo 48 (.bin .geq .sc (.t 45) (.t 47))]) <|
 .cond (.t 48)
 (.seq (.reg [oo 49 (.build [.int .i64 0, .int .i64 0, .int .i64 0, .bool false] []), on (.st 4 (.t 6) (.t 49))]) <|
 .ret)
 (.skip)) <|
 .seq (.reg [oo 50 (.ld 4 true (.t 7)), on (.st 4 (.t 6) (.t 50))]) <|
 .ret⟩

def f73 : DFn := ⟨2, [.t 4],
 .seq (.reg [oo 2 (.boxL (.t 0)), oo 4 (.mv (.k (.nils)))]) <|
 .seq (.drw [oo 5 (.fld 3 (.t 2)), oo 6 (.ld 1 false (.t 5)), om 7 1, oo 8 (.idx 6 (.t 6) (.t 7)), oo 9 (.fld 4 (.t 8)), oo 10 (.ld 1 false (.t 9)), oo 11 (.fld 3 (.t 2)), oo 12 (.ld 1 false (.t 11)), om 13 1, oo 14 (.idx 6 (.t 12) (.t 13)), oo 15 (.fld 5 (.t 14)), oo 16 (.ld 1 false (.t 15)), oo 17 (.bsl false 1 [.nils] 2 [(0, (.t 10)), (1, (.t 16))]), oo 18 (.call .blind 87 [(.t 17)]), om 4 18] [[], [], [], [1], [], [1, 3], [], [], [], [7], [], [7, 9], [1, 3, 5, 7, 9, 11], [1, 3, 5, 7, 9, 11, 12], []]) <|
 .ret⟩

def f74 : DFn := ⟨2, [.t 4],
 .seq (.reg [oo 2 (.boxL (.t 0)), oo 3 (.boxL (.t 1)), oo 4 (.mv (.k (.bool false)))]) <|
 .seq (.drw [oo 5 (.fld 1 (.t 2)), oo 6 (.ld 1 false (.t 5)), oo 7 (.fld 0 (.t 3)), oo 8 (.ld 1 false (.t 7)), oo 9 (.idx 1 (.t 6) (.t 8)), oo 10 (.ld 1 false (.t 9)), oo 11 (.ld 2 true (.t 3)), oo 12 (.call .blind 75 [(.t 11)]), oo 13 (.bin .eql .sc (.t 10) (.t 12)), om 4 13] [[], [], [], [], [1, 3], [1, 3, 4], [], [6], [], []]) <|
 .ret⟩

def f75 : DFn := ⟨1, [.t 2],
 .seq (.reg [oo 1 (.boxL (.t 0)), oo 2 (.mv (.k (.int .i64 0)))]) <|
 .seq (.seq (.reg [oo 3 (.fld 1 (.t 1)), oo 4 (.ld 1 false (.t 3))]) <|
 .cond (.t 4)
 (.seq (.reg [oo 2 (.mv (.k (.int .i64 2)))]) <|
 .ret)
 (.skip)) <|
 .seq (.reg [oo 2 (.mv (.k (.int .i64 1)))]) <|
 .ret⟩

def f76 : DFn := ⟨2, [.t 3],
 .seq (.reg [oo 3 (.mv (.k (.bool false)))]) <|
 .seq (.reg [oo 4 (.fld 0 (.t 1)), oo 5 (.ld 1 false (.t 4)), om 6 0, oo 7 (.idx 1 (.t 5) (.t 6)), oo 8 (.ld 1 false (.t 7)), om 3 8]) <|
 .ret⟩

def f77 : DFn := ⟨2, [.t 4],
 .seq (.reg [oo 4 (.mv (.k (.bool false)))]) <|
 .seq (.reg [om 5 0, om 6 1, oo 7 (.call .ro 88 [(.t 5), (.t 6)]), oo 8 (.bin .geq .sc (.t 7) (.k (.int .i64 0))), om 4 8]) <|
 .ret⟩

def f78 : DFn := ⟨2, [.t 3],
 .seq (.reg [oo 2 (.boxL (.t 0)), oo 3 (.mv (.k (.bool false)))]) <|
 .seq (.reg [oo 4 (.ld 2 true (.t 1)), oo 5 (.ld 2 true (.t 2)), oo 6 (.call .blind 74 [(.t 4), (.t 5)]), oo 7 (.un .not (.t 6)), om 3 7]) <|
 .ret⟩

def l79_0b : DC :=
 .seq (.reg [oo 9 (.bin .lss .sc (.t 8) (.t 7))]) <|
 .seq (.cond (.t 9)
 (.skip)
 (.exit 0)) <|
 .seq (.block 1 <|
 .seq (.reg [om 10 8, om 5 10]) <|
 .seq (.reg [om 11 1, om 12 0, om 13 5, oo 14 (.idx 1 (.t 12) (.t 13)), oo 15 (.ld 1 false (.t 14)), oo 16 (.bin .eql .sc (.t 11) (.t 15))]) <|
 .cond (.t 16)
 (.seq (.reg [om 17 5, om 4 17]) <|
 .ret)
 (.skip)) <|
 .reg [oo 18 (.bin .add .sc (.t 8) (.k (.int .i64 1))), om 8 18]
def l79_0 : DC := .loop [0, 1, 7, 8] [] l79_0b
def f79 : DFn := ⟨2, [.t 4],
 .seq (.reg [oo 4 (.mv (.k (.int .i64 0)))]) <|
 .seq (.seq (.reg [om 6 0, oo 7 (.len (.t 6)), oo 8 (.mv (.k (.int .i64 0)))]) <|
 .block 0 <|
 l79_0) <|
 .seq (.reg [oo 4 (.mv (.k (.int .i64 (-1))))]) <|
 .ret⟩

def l80_0b : DC :=
 .seq (.seq (.reg [om 7 4, om 8 3, oo 9 (.len (.t 8)), oo 10 (.bin .lss .sc (.t 7) (.t 9))]) <|
 .cond (.t 10)
 (.skip)
 (.exit 0)) <|
 .seq (.block 1 <|
 .seq (.reg [om 13 3, om 14 4, oo 15 (.idx 3 (.t 13) (.t 14)), oo 16 (.fld 2 (.t 15)), oo 17 (.ld 1 false (.t 16)), om 18 17, omf 19 3 18, omf 20 4 18, of 21 18 (.idx 3 (.t 19) (.t 20)), of 22 18 (.fld 0 (.t 21)), of 23 18 (.ld 1 false (.t 22)), of 24 18 (.call .blind 90 [(.t 23)]), of 25 18 (.un .not (.t 24)), omf 26 25 18, omt 27 4 26, ot 28 26 (.bin .eql .sc (.t 27) (.k (.int .i64 0))), omt 29 28 26, omf 30 3 29, omf 31 4 29, of 32 29 (.idx 3 (.t 30) (.t 31)), of 33 29 (.fld 0 (.t 32)), of 34 29 (.ld 1 false (.t 33)), of 35 29 (.bin .lss .sc (.t 34) (.k (.int .i32 48))), ot 36 26 (.pick (.t 29) (.k (.bool true)) (.t 35)), omt 37 36 26, omf 38 3 37, omf 39 4 37, of 40 37 (.idx 3 (.t 38) (.t 39)), of 41 37 (.fld 0 (.t 40)), of 42 37 (.ld 1 false (.t 41)), of 43 37 (.bin .gtr .sc (.t 42) (.k (.int .i32 57))), ot 44 26 (.pick (.t 37) (.k (.bool true)) (.t 43)), of 45 18 (.pick (.t 26) (.t 44) (.k (.bool false))), oo 46 (.pick (.t 18) (.k (.bool true)) (.t 45))]) <|
 .cond (.t 46)
 (.seq (.reg [oo 2 (.mv (.k (.bool false)))]) <|
 .ret)
 (.skip)) <|
 .reg [om 11 4, oo 12 (.bin .add .sc (.t 11) (.k (.int .i64 1))), om 4 12]
def l80_0 : DC := .loop [3, 4] [] l80_0b
def f80 : DFn := ⟨1, [.t 2],
 .seq (.reg [oo 2 (.mv (.k (.bool false)))]) <|
 .seq (.reg [om 5 0, oo 6 (.call .blind 89 [(.t 5)]), om 3 6]) <|
 .seq (.seq (.reg [oo 4 (.mv (.k (.int .i64 0)))]) <|
 .block 0 <|
 l80_0) <|
 .seq (.reg [om 47 3, oo 48 (.len (.t 47)), oo 49 (.bin .geq .sc (.t 48) (.k (.int .i64 1))), om 50 49, omt 51 3 50, ot 52 50 (.len (.t 51)), ot 53 50 (.bin .leq .sc (.t 52) (.k (.int .i64 8))), oo 54 (.pick (.t 50) (.t 53) (.k (.bool false))), om 2 54]) <|
 .ret⟩

def l81_0b : DC :=
 .seq (.reg [oo 10 (.bin .lss .sc (.t 9) (.t 8))]) <|
 .seq (.cond (.t 10)
 (.skip)
 (.exit 0)) <|
 .seq (.block 1 <|
 .seq (.reg [om 11 9, oo 12 (.idx 1 (.t 7) (.t 9)), oo 13 (.ld 1 false (.t 12)), om 5 11, om 6 13]) <|
 .seq (.reg [om 14 6, oo 15 (.fld 0 (.t 2)), oo 16 (.ld 1 false (.t 15)), oo 17 (.len (.t 16)), oo 18 (.bin .sub .sc (.t 17) (.k (.int .i64 1))), oo 19 (.call .blind 60 [(.t 14), (.k (.int .i64 0)), (.t 18)]), oo 20 (.un .not (.t 19)), om 21 20, omf 22 1 21, omf 23 5 21, of 24 21 (.slc 1 (.t 22) none (some (.t 23)) none), omf 25 6 21, of 26 21 (.call .blind 55 [(.t 24), (.t 25)]), oo 27 (.pick (.t 21) (.k (.bool true)) (.t 26))]) <|
 .cond (.t 27)
 (.seq (.reg [oo 4 (.mv (.k (.bool false)))]) <|
 .ret)
 (.skip)) <|
 .reg [oo 28 (.bin .add .sc (.t 9) (.k (.int .i64 1))), om 9 28]
def l81_0 : DC := .loop [1, 2, 7, 8, 9] [2] l81_0b
def f81 : DFn := ⟨2, [.t 4],
 .seq (.reg [oo 2 (.boxL (.t 0)), oo 4 (.mv (.k (.bool false)))]) <|
 .seq (.seq (.reg [om 7 1, oo 8 (.len (.t 7)), oo 9 (.mv (.k (.int .i64 0)))]) <|
 .block 0 <|
 l81_0) <|
 .seq (.reg [om 29 1, oo 30 (.len (.t 29)), oo 31 (.call .blind 60 [(.t 30), (.k (.int .i64 1)), (.k (.int .i64 5))]), om 4 31]) <|
 .ret⟩

def l82_0b : DC :=
 .seq (.reg [oo 14 (.bin .lss .sc (.t 13) (.t 12))]) <|
 .seq (.cond (.t 14)
 (.skip)
 (.exit 0)) <|
 .seq (.block 1 <|
 .seq (.reg [om 15 13, oo 16 (.idx 2 (.t 11) (.t 13)), oo 17 (.ld 2 true (.t 16)), oo 10 (.alL [.int .i64 0, .bool false]), om 9 15, on (.st 2 (.t 10) (.t 17))]) <|
 .seq (.drw [oo 18 (.fld 0 (.t 10)), oo 19 (.ld 1 false (.t 18)), oo 20 (.fld 1 (.t 4)), oo 21 (.ld 1 false (.t 20)), oo 22 (.len (.t 21)), oo 23 (.bin .sub .sc (.t 22) (.k (.int .i64 1))), oo 24 (.call .blind 60 [(.t 19), (.k (.int .i64 0)), (.t 23)]), oo 25 (.un .not (.t 24)), om 26 25, omf 27 9 26, of 28 26 (.bin .gtr .sc (.t 27) (.k (.int .i64 0))), omf 29 28 26, omt 30 1 29, omt 31 9 29, ot 32 29 (.bin .sub .sc (.t 31) (.k (.int .i64 1))), ot 33 29 (.idx 2 (.t 30) (.t 32)), ot 34 29 (.fld 0 (.t 33)), ot 35 29 (.ld 1 false (.t 34)), ot 36 29 (.fld 0 (.t 10)), ot 37 29 (.ld 1 false (.t 36)), ot 38 29 (.bin .geq .sc (.t 35) (.t 37)), of 39 26 (.pick (.t 29) (.t 38) (.k (.bool false))), oo 40 (.pick (.t 26) (.k (.bool true)) (.t 39)), om 41 40, omf 42 2 41, of 43 41 (.fld 1 (.t 4)), of 44 41 (.ld 1 false (.t 43)), of 45 41 (.fld 0 (.t 10)), of 46 41 (.ld 1 false (.t 45)), of 47 41 (.idx 2 (.t 44) (.t 46)), of 48 41 (.fld 1 (.t 47)), of 49 41 (.ld 1 false (.t 48)), of 50 41 (.call .blind 55 [(.t 42), (.t 49)]), omf 51 3 41, of 52 41 (.bin .neq .bl (.t 50) (.t 51)), oo 53 (.pick (.t 41) (.k (.bool true)) (.t 52))] [[], [], [], [], [], [], [1, 3], [], [], [], [], [], [], [], [], [1, 3, 6], [], [1, 3, 6, 15], [], [1, 3, 6], [], [], [], [], [], [], [1, 3, 6, 15, 17, 19], [], [1, 3, 6, 15, 17, 19], [1, 3, 6, 15, 17, 19, 26, 28], [], [1, 3, 6, 15, 17, 19, 26, 28, 29], [1, 3, 6, 15, 17, 19, 26, 28, 29, 31], [], [], []]) <|
 .cond (.t 53)
 (.seq (.reg [oo 8 (.mv (.k (.bool false)))]) <|
 .ret)
 (.skip)) <|
 .reg [oo 54 (.bin .add .sc (.t 13) (.k (.int .i64 1))), om 13 54]
def l82_0 : DC := .loop [1, 2, 3, 4, 11, 12, 13] [4] l82_0b
def f82 : DFn := ⟨4, [.t 8],
 .seq (.reg [oo 4 (.boxL (.t 0)), oo 8 (.mv (.k (.bool false)))]) <|
 .seq (.seq (.reg [om 11 1, oo 12 (.len (.t 11)), oo 13 (.mv (.k (.int .i64 0)))]) <|
 .block 0 <|
 l82_0) <|
 .seq (.reg [oo 8 (.mv (.k (.bool true)))]) <|
 .ret⟩

def l83_0b : DC :=
 .seq (.reg [oo 9 (.nxt 8), oo 10 (.ext 0 (.t 9))]) <|
 .seq (.cond (.t 10)
 (.skip)
 (.exit 0)) <|
 .block 1 <|
 .seq (.reg [oo 11 (.ext 1 (.t 9)), oo 12 (.ext 2 (.t 9)), om 4 11, om 5 12]) <|
 .seq (.reg [om 13 5, oo 14 (.bin .geq .sc (.t 13) (.k (.int .i32 48))), om 15 14, omt 16 5 15, ot 17 15 (.bin .leq .sc (.t 16) (.k (.int .i32 57))), oo 18 (.pick (.t 15) (.t 17) (.k (.bool false))), om 19 18, omt 20 4 19, ot 21 19 (.bin .gtr .sc (.t 20) (.k (.int .i64 0))), oo 22 (.pick (.t 19) (.t 21) (.k (.bool false))), om 6 22]) <|
 .seq (.seq (.reg [om 23 0, om 24 4, oo 25 (.call .blind 91 [(.t 23), (.t 24)]), om 26 25, omf 27 5 26, of 28 26 (.call .blind 92 [(.t 27)]), of 29 26 (.un .not (.t 28)), omf 30 29 26, omt 31 6 30, ot 32 30 (.un .not (.t 31)), of 33 26 (.pick (.t 30) (.t 32) (.k (.bool false))), oo 34 (.pick (.t 26) (.k (.bool true)) (.t 33))]) <|
 .cond (.t 34)
 (.seq (.reg [oo 2 (.mv (.k (.bool false)))]) <|
 .ret)
 (.skip)) <|
 .reg [om 35 3, oo 36 (.bin .add .sc (.t 35) (.k (.int .i64 1))), om 3 36]
def l83_0 : DC := .loop [0, 3, 8] [8] l83_0b
def f83 : DFn := ⟨1, [.t 2],
 .seq (.reg [oo 2 (.mv (.k (.bool false)))]) <|
 .seq (.reg [oo 3 (.mv (.k (.int .i64 0)))]) <|
 .seq (.seq (.reg [om 7 0, oo 8 (.rng (.t 7))]) <|
 .block 0 <|
 l83_0) <|
 .seq (.reg [om 37 3, oo 38 (.bin .geq .sc (.t 37) (.k (.int .i64 1))), om 39 38, omt 40 3 39, ot 41 39 (.bin .leq .sc (.t 40) (.k (.int .i64 8))), oo 42 (.pick (.t 39) (.t 41) (.k (.bool false))), om 2 42]) <|
 .ret⟩

def f84 : DFn := ⟨2, [.t 4],
 .seq (.reg [oo 4 (.mv (.k (.bool false)))]) <|
 .seq (.reg [om 5 0, om 6 1, oo 7 (.call .blind 93 [(.t 5), (.t 6)]), oo 8 (.bin .geq .sc (.t 7) (.k (.int .i64 0))), om 4 8]) <|
 .ret⟩

def l85_0b : DC :=
 .seq (.reg [oo 9 (.bin .lss .sc (.t 8) (.t 7))]) <|
 .seq (.cond (.t 9)
 (.skip)
 (.exit 0)) <|
 .seq (.block 1 <|
 .seq (.reg [om 10 8, om 5 10]) <|
 .seq (.reg [om 11 1, om 12 0, om 13 5, oo 14 (.idx 1 (.t 12) (.t 13)), oo 15 (.ld 1 false (.t 14)), oo 16 (.calld .ro (.t 11) [(.t 15)])]) <|
 .cond (.t 16)
 (.seq (.reg [om 17 5, om 4 17]) <|
 .ret)
 (.skip)) <|
 .reg [oo 18 (.bin .add .sc (.t 8) (.k (.int .i64 1))), om 8 18]
def l85_0 : DC := .loop [0, 1, 7, 8] [] l85_0b
def f85 : DFn := ⟨2, [.t 4],
 .seq (.reg [oo 4 (.mv (.k (.int .i64 0)))]) <|
 .seq (.seq (.reg [om 6 0, oo 7 (.len (.t 6)), oo 8 (.mv (.k (.int .i64 0)))]) <|
 .block 0 <|
 l85_0) <|
 .seq (.reg [oo 4 (.mv (.k (.int .i64 (-1))))]) <|
 .ret⟩

def f86 : DFn := ⟨3, [.t 6],
 .seq (.reg [oo 3 (.boxH (.t 0)), oo 5 (.boxH (.t 2)), oo 6 (.mv (.k (.bool false)))]) <|
 .seq (.drw [oo 11 (.fld 3 (.t 3)), oo 12 (.ld 1 false (.t 11)), om 13 1, oo 14 (.idx 6 (.t 12) (.t 13)), oo 15 (.ld 6 true (.t 14)), oo 16 (.fld 3 (.t 3)), oo 17 (.ld 1 false (.t 16)), oo 18 (.ld 1 false (.t 5)), oo 19 (.idx 6 (.t 17) (.t 18)), oo 20 (.ld 6 true (.t 19)), oo 7 (.alL [.str [], .int .i64 0, .int .i64 0, .nils, .nils, .nils]), oo 8 (.alH [.str [], .int .i64 0, .int .i64 0, .nils, .nils, .nils]), on (.st 6 (.t 7) (.t 15)), on (.st 6 (.t 8) (.t 20))] [[], [], [], [1], [1, 3], [], [], [], [6, 7], [6, 7, 8], [], [], [1, 3, 4, 10, 11], [1, 3, 4, 6, 7, 8, 9, 10, 11, 12]]) <|
 .seq (.reg [oo 21 (.fld 3 (.t 7)), oo 22 (.ld 1 false (.t 21)), oo 23 (.mkF 94 [(.t 8)]), oo 24 (.call .ro 69 [(.t 22), (.t 23)]), om 9 24]) <|
 .seq (.reg [oo 25 (.ld 4 true (.t 3)), om 26 1, oo 27 (.call .blind 73 [(.t 25), (.t 26)]), oo 28 (.mkF 95 [(.t 3), (.t 5)]), oo 29 (.call .ro 77 [(.t 27), (.t 28)]), om 10 29]) <|
 .seq (.reg [om 30 1, oo 31 (.ld 1 false (.t 5)), oo 32 (.bin .eql .sc (.t 30) (.t 31)), om 33 32, of 34 33 (.fld 1 (.t 7)), of 35 33 (.ld 1 false (.t 34)), of 36 33 (.fld 1 (.t 8)), of 37 33 (.ld 1 false (.t 36)), of 38 33 (.bin .eql .sc (.t 35) (.t 37)), oo 39 (.pick (.t 33) (.k (.bool true)) (.t 38)), om 40 39, omf 41 9 40, oo 42 (.pick (.t 40) (.k (.bool true)) (.t 41)), om 43 42, omf 44 10 43, oo 45 (.pick (.t 43) (.k (.bool true)) (.t 44)), om 6 45]) <|
 .ret⟩

def l87_1b : DC :=
 .seq (.reg [oo 28 (.bin .lss .sc (.t 27) (.t 26))]) <|
 .seq (.cond (.t 28)
 (.skip)
 (.exit 2)) <|
 .seq (.block 3 <|
 .seq (.reg [oo 29 (.idx 1 (.t 25) (.t 27)), oo 30 (.ld 1 false (.t 29)), om 8 30]) <|
 .reg [om 31 6, om 32 8, oo 33 (.app 2 16 (.t 31) (.t 32)), om 6 33]) <|
 .reg [oo 34 (.bin .add .sc (.t 27) (.k (.int .i64 1))), om 27 34]
def l87_1 : DC := .loop [6, 25, 26, 27] [] l87_1b
def l87_0b : DC :=
 .seq (.reg [oo 12 (.bin .lss .sc (.t 11) (.t 10))]) <|
 .seq (.cond (.t 12)
 (.skip)
 (.exit 0)) <|
 .seq (.block 1 <|
 .seq (.reg [oo 13 (.idx 1 (.t 9) (.t 11)), oo 14 (.ld 1 false (.t 13)), om 5 14]) <|
 .seq (.reg [om 15 3, om 16 5, oo 17 (.len (.t 16)), oo 18 (.bin .add .sc (.t 15) (.t 17)), om 3 18]) <|
 .seq (.reg [om 19 3, oo 20 (.bin .lss .sc (.t 19) (.k (.int .i64 0)))]) <|
 .cond (.t 20)
 (.reg [oo 21 (.mkI 9 (.k (.str [108, 101, 110, 32, 111, 117, 116, 32, 111, 102, 32, 114, 97, 110, 103, 101]))), on (.nilck (.k .nilp))])
 (.skip)) <|
 .reg [oo 22 (.bin .add .sc (.t 11) (.k (.int .i64 1))), om 11 22]
def l87_0 : DC := .loop [0, 3, 9, 10, 11] [] l87_0b
def f87 : DFn := ⟨1, [.t 2],
 .seq (.reg [oo 2 (.mv (.k (.nils)))]) <|
 .seq (.reg [oo 3 (.mv (.k (.int .i64 0)))]) <|
 .seq (.seq (.reg [om 9 0, oo 10 (.len (.t 9)), oo 11 (.mv (.k (.int .i64 0)))]) <|
 .block 0 <|
 l87_0) <|
 .seq (.reg [om 23 3, oo 24 (.call .eff 97 [(.k (.nils)), (.t 23)]), om 6 24]) <|
 .seq (.seq (.reg [om 25 0, oo 26 (.len (.t 25)), oo 27 (.mv (.k (.int .i64 0)))]) <|
 .block 2 <|
 l87_1) <|
 .seq (.reg [om 35 6, om 2 35]) <|
 .ret⟩

def l88_0b : DC :=
 .seq (.reg [oo 9 (.bin .lss .sc (.t 8) (.t 7))]) <|
 .seq (.cond (.t 9)
 (.skip)
 (.exit 0)) <|
 .seq (.block 1 <|
 .seq (.reg [om 10 8, om 5 10]) <|
 .seq (.reg [om 11 1, om 12 0, om 13 5, oo 14 (.idx 2 (.t 12) (.t 13)), oo 15 (.ld 2 true (.t 14)), oo 16 (.calld .ro (.t 11) [(.t 15)])]) <|
 .cond (.t 16)
 (.seq (.reg [om 17 5, om 4 17]) <|
 .ret)
 (.skip)) <|
 .reg [oo 18 (.bin .add .sc (.t 8) (.k (.int .i64 1))), om 8 18]
def l88_0 : DC := .loop [0, 1, 7, 8] [] l88_0b
def f88 : DFn := ⟨2, [.t 4],
 .seq (.reg [oo 4 (.mv (.k (.int .i64 0)))]) <|
 .seq (.seq (.reg [om 6 0, oo 7 (.len (.t 6)), oo 8 (.mv (.k (.int .i64 0)))]) <|
 .block 0 <|
 l88_0) <|
 .seq (.reg [oo 4 (.mv (.k (.int .i64 (-1))))]) <|
 .ret⟩

def l89_0b : DC :=
 .seq (.seq (.reg [om 7 4, om 8 0, oo 9 (.lenS (.t 8)), oo 10 (.bin .lss .sc (.t 7) (.t 9))]) <|
 .cond (.t 10)
 (.skip)
 (.exit 0)) <|
 .block 1 <|
 .seq (.reg [om 12 0, om 13 4, oo 14 (.slS (.t 12) (some (.t 13)) none), oo 15 (.call .blind 98 [(.t 14)]), om 11 15, oo 16 (.ext 0 (.t 11)), oo 17 (.ext 1 (.t 11)), om 5 16, om 6 17]) <|
 .seq (.reg [om 18 3, om 19 5, om 20 6, om 21 5, oo 22 (.bin .eql .sc (.t 21) (.k (.int .i32 65533))), om 23 22, omt 24 6 23, ot 25 23 (.bin .eql .sc (.t 24) (.k (.int .i64 1))), oo 26 (.pick (.t 23) (.t 25) (.k (.bool false))), oo 27 (.build [.int .i32 0, .int .i64 0, .bool false] [(0, 1, (.t 19)), (1, 1, (.t 20)), (2, 1, (.t 26))]), oo 28 (.bsl false 3 [.int .i32 0, .int .i64 0, .bool false] 1 [(0, (.t 27))]), oo 29 (.app 3 24 (.t 18) (.t 28)), om 3 29]) <|
 .reg [om 30 4, om 31 6, oo 32 (.bin .add .sc (.t 30) (.t 31)), om 4 32]
def l89_0 : DC := .loop [0, 3, 4] [] l89_0b
def f89 : DFn := ⟨1, [.t 2],
 .seq (.reg [oo 2 (.mv (.k (.nils)))]) <|
 .seq (.reg [oo 3 (.mv (.k (.nils)))]) <|
 .seq (.seq (.reg [oo 4 (.mv (.k (.int .i64 0)))]) <|
 .block 0 <|
 l89_0) <|
 .seq (.reg [om 33 3, om 2 33]) <|
 .ret⟩

def f90 : DFn := ⟨1, [.t 2],
 .seq (.reg [oo 2 (.mv (.k (.bool false)))]) <|
 .seq (.reg [om 3 0, oo 4 (.bin .geq .sc (.t 3) (.k (.int .i32 97))), om 5 4, omt 6 0 5, ot 7 5 (.bin .leq .sc (.t 6) (.k (.int .i32 122))), oo 8 (.pick (.t 5) (.t 7) (.k (.bool false))), om 9 8, omf 10 0 9, of 11 9 (.bin .geq .sc (.t 10) (.k (.int .i32 65))), omf 12 11 9, omt 13 0 12, ot 14 12 (.bin .leq .sc (.t 13) (.k (.int .i32 90))), of 15 9 (.pick (.t 12) (.t 14) (.k (.bool false))), oo 16 (.pick (.t 9) (.k (.bool true)) (.t 15)), om 17 16, omf 18 0 17, of 19 17 (.bin .geq .sc (.t 18) (.k (.int .i32 192))), omf 20 19 17, omt 21 0 20, ot 22 20 (.bin .leq .sc (.t 21) (.k (.int .i32 591))), of 23 17 (.pick (.t 20) (.t 22) (.k (.bool false))), omf 24 23 17, omt 25 0 24, ot 26 24 (.bin .neq .sc (.t 25) (.k (.int .i32 215))), of 27 17 (.pick (.t 24) (.t 26) (.k (.bool false))), omf 28 27 17, omt 29 0 28, ot 30 28 (.bin .neq .sc (.t 29) (.k (.int .i32 247))), of 31 17 (.pick (.t 28) (.t 30) (.k (.bool false))), oo 32 (.pick (.t 17) (.k (.bool true)) (.t 31)), om 2 32]) <|
 .ret⟩

def f91 : DFn := ⟨2, [.t 4],
 .seq (.reg [oo 4 (.mv (.k (.bool false)))]) <|
 .seq (.reg [om 8 0, om 9 1, oo 10 (.slS (.t 8) (some (.t 9)) none), oo 11 (.call .blind 98 [(.t 10)]), om 7 11, oo 12 (.ext 0 (.t 7)), oo 13 (.ext 1 (.t 7)), om 5 12, om 6 13]) <|
 .seq (.reg [om 14 5, oo 15 (.bin .eql .sc (.t 14) (.k (.int .i32 65533))), om 16 15, omt 17 6 16, ot 18 16 (.bin .eql .sc (.t 17) (.k (.int .i64 1))), oo 19 (.pick (.t 16) (.t 18) (.k (.bool false))), om 4 19]) <|
 .ret⟩

def f92 : DFn := ⟨1, [.t 2],
 .seq (.reg [oo 2 (.mv (.k (.bool false)))]) <|
 .seq (.block 0 <|
 .seq (.seq (.reg [om 4 0, oo 5 (.bin .geq .sc (.t 4) (.k (.int .i32 97))), om 6 5, omt 7 0 6, ot 8 6 (.bin .leq .sc (.t 7) (.k (.int .i32 122))), oo 9 (.pick (.t 6) (.t 8) (.k (.bool false))), om 3 9]) <|
 .cond (.t 3)
 (.skip)
 (.reg [om 10 0, oo 11 (.bin .geq .sc (.t 10) (.k (.int .i32 65))), om 12 11, omt 13 0 12, ot 14 12 (.bin .leq .sc (.t 13) (.k (.int .i32 90))), oo 15 (.pick (.t 12) (.t 14) (.k (.bool false))), om 3 15])) <|
 .cond (.t 3)
 (.seq (.reg [oo 2 (.mv (.k (.bool true)))]) <|
 .ret)
 (.skip)) <|
 .seq (.reg [om 16 0, oo 17 (.bin .geq .sc (.t 16) (.k (.int .i32 192))), om 18 17, omt 19 0 18, ot 20 18 (.bin .leq .sc (.t 19) (.k (.int .i32 591))), oo 21 (.pick (.t 18) (.t 20) (.k (.bool false))), om 22 21, omt 23 0 22, ot 24 22 (.bin .neq .sc (.t 23) (.k (.int .i32 215))), oo 25 (.pick (.t 22) (.t 24) (.k (.bool false))), om 26 25, omt 27 0 26, ot 28 26 (.bin .neq .sc (.t 27) (.k (.int .i32 247))), oo 29 (.pick (.t 26) (.t 28) (.k (.bool false))), om 2 29]) <|
 .ret⟩

def l93_0b : DC :=
 .seq (.reg [oo 9 (.bin .lss .sc (.t 8) (.t 7))]) <|
 .seq (.cond (.t 9)
 (.skip)
 (.exit 0)) <|
 .seq (.block 1 <|
 .seq (.reg [om 10 8, om 5 10]) <|
 .seq (.reg [om 11 1, om 12 0, om 13 5, oo 14 (.idx 1 (.t 12) (.t 13)), oo 15 (.ld 1 false (.t 14)), oo 16 (.bin .eql .sc (.t 11) (.t 15))]) <|
 .cond (.t 16)
 (.seq (.reg [om 17 5, om 4 17]) <|
 .ret)
 (.skip)) <|
 .reg [oo 18 (.bin .add .sc (.t 8) (.k (.int .i64 1))), om 8 18]
def l93_0 : DC := .loop [0, 1, 7, 8] [] l93_0b
def f93 : DFn := ⟨2, [.t 4],
 .seq (.reg [oo 4 (.mv (.k (.int .i64 0)))]) <|
 .seq (.seq (.reg [om 6 0, oo 7 (.len (.t 6)), oo 8 (.mv (.k (.int .i64 0)))]) <|
 .block 0 <|
 l93_0) <|
 .seq (.reg [oo 4 (.mv (.k (.int .i64 (-1))))]) <|
 .ret⟩

def f94 : DFn := ⟨2, [.t 3],
 .seq (.reg [oo 3 (.mv (.k (.bool false)))]) <|
 .seq (.reg [oo 4 (.fld 3 (.t 1)), oo 5 (.ld 1 false (.t 4)), om 6 0, oo 7 (.call .blind 55 [(.t 5), (.t 6)]), om 3 7]) <|
 .ret⟩

def f95 : DFn := ⟨3, [.t 4],
 .seq (.reg [oo 3 (.boxL (.t 0)), oo 4 (.mv (.k (.bool false)))]) <|
 .seq (.drw [oo 5 (.ld 4 true (.t 1)), oo 6 (.ld 1 false (.t 2)), oo 7 (.call .blind 73 [(.t 5), (.t 6)]), oo 8 (.fld 0 (.t 3)), oo 9 (.ld 1 false (.t 8)), oo 10 (.fld 1 (.t 3)), oo 11 (.ld 1 false (.t 10)), oo 12 (.un .not (.t 11)), oo 13 (.build [.int .i64 0, .bool false] [(0, 1, (.t 9)), (1, 1, (.t 12))]), oo 14 (.call .blind 96 [(.t 7), (.t 13)]), om 4 14] [[], [], [0, 1], [], [], [], [], [], [], [0, 1, 2, 4, 6], []]) <|
 .ret⟩

def f96 : DFn := ⟨2, [.t 4],
 .seq (.reg [oo 3 (.boxL (.t 1)), oo 4 (.mv (.k (.bool false)))]) <|
 .seq (.reg [om 5 0, oo 6 (.ld 2 true (.t 3)), oo 7 (.call .blind 99 [(.t 5), (.t 6)]), oo 8 (.bin .geq .sc (.t 7) (.k (.int .i64 0))), om 4 8]) <|
 .ret⟩

def f97 : DFn := ⟨2, [.t 4],
 .seq (.reg [oo 4 (.mv (.k (.nils)))]) <|
 .seq (.seq (.reg [om 5 1, oo 6 (.bin .lss .sc (.t 5) (.k (.int .i64 0)))]) <|
 .cond (.t 6)
 (.reg [oo 7 (.mkI 9 (.k (.str [99, 97, 110, 110, 111, 116, 32, 98, 101, 32, 110, 101, 103, 97, 116, 105, 118, 101]))), on (.nilck (.k .nilp))])
 (.skip)) <|
 .seq (.seq (.reg [om 8 1, om 9 0, oo 10 (.cap (.t 9)), om 11 0, oo 12 (.len (.t 11)), oo 13 (.bin .sub .sc (.t 10) (.t 12)), oo 14 (.bin .sub .sc (.t 8) (.t 13)), om 1 14]) <|
 .seq (.reg [om 15 1, oo 16 (.bin .gtr .sc (.t 15) (.k (.int .i64 0)))]) <|
 .cond (.t 16)
 (.reg [om 17 0, om 18 0, oo 19 (.cap (.t 18)), oo 20 (.slc 2 (.t 17) none (some (.t 19)) none), om 21 1, oo 22 (.appZ 2 16 [.int .i64 0, .bool false] (.t 20) (.t 21)), om 23 0, oo 24 (.len (.t 23)), oo 25 (.slc 2 (.t 22) none (some (.t 24)) none), om 0 25])
 (.skip)) <|
 .seq (.reg [om 26 0, om 4 26]) <|
 .ret⟩

def f98 : DFn := ⟨1, [.t 2, .t 3],
 .seq (.reg [oo 2 (.mv (.k (.int .i32 0))), oo 3 (.mv (.k (.int .i64 0)))]) <|
 .seq (.seq (.reg [om 4 0, oo 5 (.bin .neq .sc (.t 4) (.k (.str []))), om 6 5, omt 7 0 6, ot 8 6 (.idxS (.t 7) (.k (.int .i64 0))), ot 9 6 (.bin .lss .sc (.t 8) (.k (.int .u8 128))), oo 10 (.pick (.t 6) (.t 9) (.k (.bool false)))]) <|
 .cond (.t 10)
 (.seq (.reg [om 11 0, oo 12 (.idxS (.t 11) (.k (.int .i64 0))), oo 13 (.cvI .i32 (.t 12)), om 2 13, oo 3 (.mv (.k (.int .i64 1)))]) <|
 .ret)
 (.reg [om 15 0, oo 16 (.call .blind 100 [(.t 15)]), om 14 16, oo 17 (.ext 0 (.t 14)), oo 18 (.ext 1 (.t 14)), om 2 17, om 3 18])) <|
 .ret⟩

def l99_0b : DC :=
 .seq (.reg [oo 9 (.bin .lss .sc (.t 8) (.t 7))]) <|
 .seq (.cond (.t 9)
 (.skip)
 (.exit 0)) <|
 .seq (.block 1 <|
 .seq (.reg [om 10 8, om 5 10]) <|
 .seq (.drw [oo 11 (.ld 2 true (.t 3)), om 12 0, om 13 5, oo 14 (.idx 2 (.t 12) (.t 13)), oo 15 (.ld 2 true (.t 14)), oo 16 (.bin .eql (.st [.i, .b]) (.t 11) (.t 15))] [[], [], [], [], [3], []]) <|
 .cond (.t 16)
 (.seq (.reg [om 17 5, om 4 17]) <|
 .ret)
 (.skip)) <|
 .reg [oo 18 (.bin .add .sc (.t 8) (.k (.int .i64 1))), om 8 18]
def l99_0 : DC := .loop [0, 3, 7, 8] [3] l99_0b
def f99 : DFn := ⟨2, [.t 4],
 .seq (.reg [oo 3 (.boxL (.t 1)), oo 4 (.mv (.k (.int .i64 0)))]) <|
 .seq (.seq (.reg [om 6 0, oo 7 (.len (.t 6)), oo 8 (.mv (.k (.int .i64 0)))]) <|
 .block 0 <|
 l99_0) <|
 .seq (.reg [oo 4 (.mv (.k (.int .i64 (-1))))]) <|
 .ret⟩

def f100 : DFn := ⟨1, [.t 2, .t 3],
 .seq (.reg [oo 2 (.mv (.k (.int .i32 0))), oo 3 (.mv (.k (.int .i64 0)))]) <|
 .seq (.reg [om 13 0, oo 14 (.lenS (.t 13)), om 4 14]) <|
 .seq (.seq (.reg [om 15 4, oo 16 (.bin .lss .sc (.t 15) (.k (.int .i64 1)))]) <|
 .cond (.t 16)
 (.seq (.reg [oo 2 (.mv (.k (.int .i32 65533))), oo 3 (.mv (.k (.int .i64 0)))]) <|
 .ret)
 (.skip)) <|
 .seq (.reg [om 17 0, oo 18 (.idxS (.t 17) (.k (.int .i64 0))), om 5 18]) <|
 .seq (.reg [om 19 5, oo 20 (.idxA 1 256 (.g 0) (.t 19)), oo 21 (.ld 1 false (.t 20)), om 6 21]) <|
 .seq (.seq (.reg [om 22 6, oo 23 (.bin .geq .sc (.t 22) (.k (.int .u8 240)))]) <|
 .cond (.t 23)
 (.seq (.reg [om 24 6, oo 25 (.cvI .i32 (.t 24)), oo 26 (.bin .shl .sc (.t 25) (.k (.int .u64 31))), oo 27 (.bin .shr .sc (.t 26) (.k (.int .u64 31))), om 7 27]) <|
 .seq (.reg [om 28 0, oo 29 (.idxS (.t 28) (.k (.int .i64 0))), oo 30 (.cvI .i32 (.t 29)), om 31 7, oo 32 (.bin .andNot .sc (.t 30) (.t 31)), om 33 7, oo 34 (.bin .and .sc (.k (.int .i32 65533)) (.t 33)), oo 35 (.bin .or .sc (.t 32) (.t 34)), om 2 35, oo 3 (.mv (.k (.int .i64 1)))]) <|
 .ret)
 (.skip)) <|
 .seq (.reg [om 36 6, oo 37 (.bin .and .sc (.t 36) (.k (.int .u8 7))), oo 38 (.cvI .i64 (.t 37)), om 8 38]) <|
 .seq (.reg [om 39 6, oo 40 (.bin .shr .sc (.t 39) (.k (.int .u64 4))), oo 41 (.idxA 2 16 (.g 1) (.t 40)), oo 42 (.ld 2 true (.t 41)), oo 9 (.alL [.int .u8 0, .int .u8 0]), on (.st 2 (.t 9) (.t 42))]) <|
 .seq (.seq (.reg [om 43 4, om 44 8, oo 45 (.bin .lss .sc (.t 43) (.t 44))]) <|
 .cond (.t 45)
 (.seq (.reg [oo 2 (.mv (.k (.int .i32 65533))), oo 3 (.mv (.k (.int .i64 1)))]) <|
 .ret)
 (.skip)) <|
 .seq (.reg [om 46 0, oo 47 (.idxS (.t 46) (.k (.int .i64 1))), om 10 47]) <|
 .seq (.seq (.reg [om 48 10, oo 49 (.fld 0 (.t 9)), oo 50 (.ld 1 false (.t 49)), oo 51 (.bin .lss .sc (.t 48) (.t 50)), om 52 51, of 53 52 (.fld 1 (.t 9)), of 54 52 (.ld 1 false (.t 53)), omf 55 10 52, of 56 52 (.bin .lss .sc (.t 54) (.t 55)), oo 57 (.pick (.t 52) (.k (.bool true)) (.t 56))]) <|
 .cond (.t 57)
 (.seq (.reg [oo 2 (.mv (.k (.int .i32 65533))), oo 3 (.mv (.k (.int .i64 1)))]) <|
 .ret)
 (.skip)) <|
 .seq (.seq (.reg [om 58 8, oo 59 (.bin .leq .sc (.t 58) (.k (.int .i64 2)))]) <|
 .cond (.t 59)
 (.seq (.reg [om 60 5, oo 61 (.bin .and .sc (.t 60) (.k (.int .u8 31))), oo 62 (.cvI .i32 (.t 61)), oo 63 (.bin .shl .sc (.t 62) (.k (.int .u64 6))), om 64 10, oo 65 (.bin .and .sc (.t 64) (.k (.int .u8 63))), oo 66 (.cvI .i32 (.t 65)), oo 67 (.bin .or .sc (.t 63) (.t 66)), om 2 67, oo 3 (.mv (.k (.int .i64 2)))]) <|
 .ret)
 (.skip)) <|
 .seq (.reg [om 68 0, oo 69 (.idxS (.t 68) (.k (.int .i64 2))), om 11 69]) <|
 .seq (.seq (.reg [om 70 11, oo 71 (.bin .lss .sc (.t 70) (.k (.int .u8 128))), om 72 71, omf 73 11 72, of 74 72 (.bin .lss .sc (.k (.int .u8 191)) (.t 73)), oo 75 (.pick (.t 72) (.k (.bool true)) (.t 74))]) <|
 .cond (.t 75)
 (.seq (.reg [oo 2 (.mv (.k (.int .i32 65533))), oo 3 (.mv (.k (.int .i64 1)))]) <|
 .ret)
 (.skip)) <|
 .seq (.seq (.reg [om 76 8, oo 77 (.bin .leq .sc (.t 76) (.k (.int .i64 3)))]) <|
 .cond (.t 77)
 (.seq (.reg [om 78 5, oo 79 (.bin .and .sc (.t 78) (.k (.int .u8 15))), oo 80 (.cvI .i32 (.t 79)), oo 81 (.bin .shl .sc (.t 80) (.k (.int .u64 12))), om 82 10, oo 83 (.bin .and .sc (.t 82) (.k (.int .u8 63))), oo 84 (.cvI .i32 (.t 83)), oo 85 (.bin .shl .sc (.t 84) (.k (.int .u64 6))), oo 86 (.bin .or .sc (.t 81) (.t 85)), om 87 11, oo 88 (.bin .and .sc (.t 87) (.k (.int .u8 63))), oo 89 (.cvI .i32 (.t 88)), oo 90 (.bin .or .sc (.t 86) (.t 89)), om 2 90, oo 3 (.mv (.k (.int .i64 3)))]) <|
 .ret)
 (.skip)) <|
 .seq (.reg [om 91 0, oo 92 (.idxS (.t 91) (.k (.int .i64 3))), om 12 92]) <|
 .seq (.seq (.reg [om 93 12, oo 94 (.bin .lss .sc (.t 93) (.k (.int .u8 128))), om 95 94, omf 96 12 95, of 97 95 (.bin .lss .sc (.k (.int .u8 191)) (.t 96)), oo 98 (.pick (.t 95) (.k (.bool true)) (.t 97))]) <|
 .cond (.t 98)
 (.seq (.reg [oo 2 (.mv (.k (.int .i32 65533))), oo 3 (.mv (.k (.int .i64 1)))]) <|
 .ret)
 (.skip)) <|
 .seq (.reg [om 99 5, oo 100 (.bin .and .sc (.t 99) (.k (.int .u8 7))), oo 101 (.cvI .i32 (.t 100)), oo 102 (.bin .shl .sc (.t 101) (.k (.int .u64 18))), om 103 10, oo 104 (.bin .and .sc (.t 103) (.k (.int .u8 63))), oo 105 (.cvI .i32 (.t 104)), oo 106 (.bin .shl .sc (.t 105) (.k (.int .u64 12))), oo 107 (.bin .or .sc (.t 102) (.t 106)), om 108 11, oo 109 (.bin .and .sc (.t 108) (.k (.int .u8 63))), oo 110 (.cvI .i32 (.t 109)), oo 111 (.bin .shl .sc (.t 110) (.k (.int .u64 6))), oo 112 (.bin .or .sc (.t 107) (.t 111)), om 113 12, oo 114 (.bin .and .sc (.t 113) (.k (.int .u8 63))), oo 115 (.cvI .i32 (.t 114)), oo 116 (.bin .or .sc (.t 112) (.t 115)), om 2 116, oo 3 (.mv (.k (.int .i64 4)))]) <|
 .ret⟩


def tab : PT Entry := (.nd (.nd (.nd (.nd (.nd (.nd (.nd .lf (some (.fn f63)) .lf) (some (.fn f31)) (.nd .lf (some (.fn f95)) .lf)) (some (.fn f15)) (.nd (.nd .lf (some (.fn f79)) .lf) (some (.fn f47)) .lf)) none (.nd (.nd (.nd .lf (some (.fn f71)) .lf) (some (.fn f39)) .lf) (some (.fn f23)) (.nd (.nd .lf (some (.fn f87)) .lf) (some (.fn f55)) .lf))) (some (.fn f3)) (.nd (.nd (.nd (.nd .lf (some (.fn f67)) .lf) (some (.fn f35)) (.nd .lf (some (.fn f99)) .lf)) (some (.fn f19)) (.nd (.nd .lf (some (.fn f83)) .lf) (some (.fn f51)) .lf)) (some (.fn f11)) (.nd (.nd (.nd .lf (some (.fn f75)) .lf) (some (.fn f43)) .lf) (some (.fn f27)) (.nd (.nd .lf (some (.fn f91)) .lf) (some (.fn f59)) .lf)))) none (.nd (.nd (.nd (.nd (.nd .lf (some (.fn f65)) .lf) (some (.fn f33)) (.nd .lf (some (.fn f97)) .lf)) (some (.fn f17)) (.nd (.nd .lf (some (.fn f81)) .lf) (some (.fn f49)) .lf)) none (.nd (.nd (.nd .lf (some (.fn f73)) .lf) (some (.fn f41)) .lf) (some (.fn f25)) (.nd (.nd .lf (some (.fn f89)) .lf) (some (.fn f57)) .lf))) none (.nd (.nd (.nd (.nd .lf (some (.fn f69)) .lf) (some (.fn f37)) .lf) (some (.fn f21)) (.nd (.nd .lf (some (.fn f85)) .lf) (some (.fn f53)) .lf)) (some (.fn f13)) (.nd (.nd (.nd .lf (some (.fn f77)) .lf) (some (.fn f45)) .lf) (some (.fn f29)) (.nd (.nd .lf (some (.fn f93)) .lf) (some (.fn f61)) .lf))))) none (.nd (.nd (.nd (.nd (.nd (.nd .lf (some (.fn f64)) .lf) (some (.fn f32)) (.nd .lf (some (.fn f96)) .lf)) (some (.fn f16)) (.nd (.nd .lf (some (.fn f80)) .lf) (some (.fn f48)) .lf)) none (.nd (.nd (.nd .lf (some (.fn f72)) .lf) (some (.fn f40)) .lf) (some (.fn f24)) (.nd (.nd .lf (some (.fn f88)) .lf) (some (.fn f56)) .lf))) (some (.fn f4)) (.nd (.nd (.nd (.nd .lf (some (.fn f68)) .lf) (some (.fn f36)) (.nd .lf (some (.fn f100)) .lf)) (some (.fn f20)) (.nd (.nd .lf (some (.fn f84)) .lf) (some (.fn f52)) .lf)) (some (.fn f12)) (.nd (.nd (.nd .lf (some (.fn f76)) .lf) (some (.fn f44)) .lf) none (.nd (.nd .lf (some (.fn f92)) .lf) (some (.fn f60)) .lf)))) none (.nd (.nd (.nd (.nd (.nd .lf (some (.fn f66)) .lf) (some (.fn f34)) (.nd .lf (some (.fn f98)) .lf)) (some (.fn f18)) (.nd (.nd .lf (some (.fn f82)) .lf) (some (.fn f50)) .lf)) (some (.fn f10)) (.nd (.nd (.nd .lf (some (.fn f74)) .lf) (some (.fn f42)) .lf) (some (.fn f26)) (.nd (.nd .lf (some (.fn f90)) .lf) (some (.fn f58)) .lf))) none (.nd (.nd (.nd (.nd .lf (some (.fn f70)) .lf) (some (.fn f38)) .lf) (some (.fn f22)) (.nd (.nd .lf (some (.fn f86)) .lf) (some (.fn f54)) .lf)) (some (.fn f14)) (.nd (.nd (.nd .lf (some (.fn f78)) .lf) (some (.fn f46)) .lf) (some (.fn f30)) (.nd (.nd .lf (some (.fn f94)) .lf) (some (.fn f62)) .lf))))))
noncomputable abbrev K (G : Nat → Option (List IV)) (d : Nat) : Go.PM.Callee := dcall G (fun f => tab.get f) d
theorem k3 {G : Nat → Option (List IV)} {d : Nat} {args : List DV} {H : PT HB} {n lo : Nat} : K G (d + 1) 3 args H n lo = f3.run G (K G d) args H n lo := dcall_fn rfl
theorem k4 {G : Nat → Option (List IV)} {d : Nat} {args : List DV} {H : PT HB} {n lo : Nat} : K G (d + 1) 4 args H n lo = f4.run G (K G d) args H n lo := dcall_fn rfl
theorem k10 {G : Nat → Option (List IV)} {d : Nat} {args : List DV} {H : PT HB} {n lo : Nat} : K G (d + 1) 10 args H n lo = f10.run G (K G d) args H n lo := dcall_fn rfl
theorem k11 {G : Nat → Option (List IV)} {d : Nat} {args : List DV} {H : PT HB} {n lo : Nat} : K G (d + 1) 11 args H n lo = f11.run G (K G d) args H n lo := dcall_fn rfl
theorem k12 {G : Nat → Option (List IV)} {d : Nat} {args : List DV} {H : PT HB} {n lo : Nat} : K G (d + 1) 12 args H n lo = f12.run G (K G d) args H n lo := dcall_fn rfl
theorem k13 {G : Nat → Option (List IV)} {d : Nat} {args : List DV} {H : PT HB} {n lo : Nat} : K G (d + 1) 13 args H n lo = f13.run G (K G d) args H n lo := dcall_fn rfl
theorem k14 {G : Nat → Option (List IV)} {d : Nat} {args : List DV} {H : PT HB} {n lo : Nat} : K G (d + 1) 14 args H n lo = f14.run G (K G d) args H n lo := dcall_fn rfl
theorem k15 {G : Nat → Option (List IV)} {d : Nat} {args : List DV} {H : PT HB} {n lo : Nat} : K G (d + 1) 15 args H n lo = f15.run G (K G d) args H n lo := dcall_fn rfl
theorem k16 {G : Nat → Option (List IV)} {d : Nat} {args : List DV} {H : PT HB} {n lo : Nat} : K G (d + 1) 16 args H n lo = f16.run G (K G d) args H n lo := dcall_fn rfl
theorem k17 {G : Nat → Option (List IV)} {d : Nat} {args : List DV} {H : PT HB} {n lo : Nat} : K G (d + 1) 17 args H n lo = f17.run G (K G d) args H n lo := dcall_fn rfl
theorem k18 {G : Nat → Option (List IV)} {d : Nat} {args : List DV} {H : PT HB} {n lo : Nat} : K G (d + 1) 18 args H n lo = f18.run G (K G d) args H n lo := dcall_fn rfl
theorem k19 {G : Nat → Option (List IV)} {d : Nat} {args : List DV} {H : PT HB} {n lo : Nat} : K G (d + 1) 19 args H n lo = f19.run G (K G d) args H n lo := dcall_fn rfl
theorem k20 {G : Nat → Option (List IV)} {d : Nat} {args : List DV} {H : PT HB} {n lo : Nat} : K G (d + 1) 20 args H n lo = f20.run G (K G d) args H n lo := dcall_fn rfl
theorem k21 {G : Nat → Option (List IV)} {d : Nat} {args : List DV} {H : PT HB} {n lo : Nat} : K G (d + 1) 21 args H n lo = f21.run G (K G d) args H n lo := dcall_fn rfl
theorem k22 {G : Nat → Option (List IV)} {d : Nat} {args : List DV} {H : PT HB} {n lo : Nat} : K G (d + 1) 22 args H n lo = f22.run G (K G d) args H n lo := dcall_fn rfl
theorem k23 {G : Nat → Option (List IV)} {d : Nat} {args : List DV} {H : PT HB} {n lo : Nat} : K G (d + 1) 23 args H n lo = f23.run G (K G d) args H n lo := dcall_fn rfl
theorem k24 {G : Nat → Option (List IV)} {d : Nat} {args : List DV} {H : PT HB} {n lo : Nat} : K G (d + 1) 24 args H n lo = f24.run G (K G d) args H n lo := dcall_fn rfl
theorem k25 {G : Nat → Option (List IV)} {d : Nat} {args : List DV} {H : PT HB} {n lo : Nat} : K G (d + 1) 25 args H n lo = f25.run G (K G d) args H n lo := dcall_fn rfl
theorem k26 {G : Nat → Option (List IV)} {d : Nat} {args : List DV} {H : PT HB} {n lo : Nat} : K G (d + 1) 26 args H n lo = f26.run G (K G d) args H n lo := dcall_fn rfl
theorem k27 {G : Nat → Option (List IV)} {d : Nat} {args : List DV} {H : PT HB} {n lo : Nat} : K G (d + 1) 27 args H n lo = f27.run G (K G d) args H n lo := dcall_fn rfl
theorem k29 {G : Nat → Option (List IV)} {d : Nat} {args : List DV} {H : PT HB} {n lo : Nat} : K G (d + 1) 29 args H n lo = f29.run G (K G d) args H n lo := dcall_fn rfl
theorem k30 {G : Nat → Option (List IV)} {d : Nat} {args : List DV} {H : PT HB} {n lo : Nat} : K G (d + 1) 30 args H n lo = f30.run G (K G d) args H n lo := dcall_fn rfl
theorem k31 {G : Nat → Option (List IV)} {d : Nat} {args : List DV} {H : PT HB} {n lo : Nat} : K G (d + 1) 31 args H n lo = f31.run G (K G d) args H n lo := dcall_fn rfl
theorem k32 {G : Nat → Option (List IV)} {d : Nat} {args : List DV} {H : PT HB} {n lo : Nat} : K G (d + 1) 32 args H n lo = f32.run G (K G d) args H n lo := dcall_fn rfl
theorem k33 {G : Nat → Option (List IV)} {d : Nat} {args : List DV} {H : PT HB} {n lo : Nat} : K G (d + 1) 33 args H n lo = f33.run G (K G d) args H n lo := dcall_fn rfl
theorem k34 {G : Nat → Option (List IV)} {d : Nat} {args : List DV} {H : PT HB} {n lo : Nat} : K G (d + 1) 34 args H n lo = f34.run G (K G d) args H n lo := dcall_fn rfl
theorem k35 {G : Nat → Option (List IV)} {d : Nat} {args : List DV} {H : PT HB} {n lo : Nat} : K G (d + 1) 35 args H n lo = f35.run G (K G d) args H n lo := dcall_fn rfl
theorem k36 {G : Nat → Option (List IV)} {d : Nat} {args : List DV} {H : PT HB} {n lo : Nat} : K G (d + 1) 36 args H n lo = f36.run G (K G d) args H n lo := dcall_fn rfl
theorem k37 {G : Nat → Option (List IV)} {d : Nat} {args : List DV} {H : PT HB} {n lo : Nat} : K G (d + 1) 37 args H n lo = f37.run G (K G d) args H n lo := dcall_fn rfl
theorem k38 {G : Nat → Option (List IV)} {d : Nat} {args : List DV} {H : PT HB} {n lo : Nat} : K G (d + 1) 38 args H n lo = f38.run G (K G d) args H n lo := dcall_fn rfl
theorem k39 {G : Nat → Option (List IV)} {d : Nat} {args : List DV} {H : PT HB} {n lo : Nat} : K G (d + 1) 39 args H n lo = f39.run G (K G d) args H n lo := dcall_fn rfl
theorem k40 {G : Nat → Option (List IV)} {d : Nat} {args : List DV} {H : PT HB} {n lo : Nat} : K G (d + 1) 40 args H n lo = f40.run G (K G d) args H n lo := dcall_fn rfl
theorem k41 {G : Nat → Option (List IV)} {d : Nat} {args : List DV} {H : PT HB} {n lo : Nat} : K G (d + 1) 41 args H n lo = f41.run G (K G d) args H n lo := dcall_fn rfl
theorem k42 {G : Nat → Option (List IV)} {d : Nat} {args : List DV} {H : PT HB} {n lo : Nat} : K G (d + 1) 42 args H n lo = f42.run G (K G d) args H n lo := dcall_fn rfl
theorem k43 {G : Nat → Option (List IV)} {d : Nat} {args : List DV} {H : PT HB} {n lo : Nat} : K G (d + 1) 43 args H n lo = f43.run G (K G d) args H n lo := dcall_fn rfl
theorem k44 {G : Nat → Option (List IV)} {d : Nat} {args : List DV} {H : PT HB} {n lo : Nat} : K G (d + 1) 44 args H n lo = f44.run G (K G d) args H n lo := dcall_fn rfl
theorem k45 {G : Nat → Option (List IV)} {d : Nat} {args : List DV} {H : PT HB} {n lo : Nat} : K G (d + 1) 45 args H n lo = f45.run G (K G d) args H n lo := dcall_fn rfl
theorem k46 {G : Nat → Option (List IV)} {d : Nat} {args : List DV} {H : PT HB} {n lo : Nat} : K G (d + 1) 46 args H n lo = f46.run G (K G d) args H n lo := dcall_fn rfl
theorem k47 {G : Nat → Option (List IV)} {d : Nat} {args : List DV} {H : PT HB} {n lo : Nat} : K G (d + 1) 47 args H n lo = f47.run G (K G d) args H n lo := dcall_fn rfl
theorem k48 {G : Nat → Option (List IV)} {d : Nat} {args : List DV} {H : PT HB} {n lo : Nat} : K G (d + 1) 48 args H n lo = f48.run G (K G d) args H n lo := dcall_fn rfl
theorem k49 {G : Nat → Option (List IV)} {d : Nat} {args : List DV} {H : PT HB} {n lo : Nat} : K G (d + 1) 49 args H n lo = f49.run G (K G d) args H n lo := dcall_fn rfl
theorem k50 {G : Nat → Option (List IV)} {d : Nat} {args : List DV} {H : PT HB} {n lo : Nat} : K G (d + 1) 50 args H n lo = f50.run G (K G d) args H n lo := dcall_fn rfl
theorem k51 {G : Nat → Option (List IV)} {d : Nat} {args : List DV} {H : PT HB} {n lo : Nat} : K G (d + 1) 51 args H n lo = f51.run G (K G d) args H n lo := dcall_fn rfl
theorem k52 {G : Nat → Option (List IV)} {d : Nat} {args : List DV} {H : PT HB} {n lo : Nat} : K G (d + 1) 52 args H n lo = f52.run G (K G d) args H n lo := dcall_fn rfl
theorem k53 {G : Nat → Option (List IV)} {d : Nat} {args : List DV} {H : PT HB} {n lo : Nat} : K G (d + 1) 53 args H n lo = f53.run G (K G d) args H n lo := dcall_fn rfl
theorem k54 {G : Nat → Option (List IV)} {d : Nat} {args : List DV} {H : PT HB} {n lo : Nat} : K G (d + 1) 54 args H n lo = f54.run G (K G d) args H n lo := dcall_fn rfl
theorem k55 {G : Nat → Option (List IV)} {d : Nat} {args : List DV} {H : PT HB} {n lo : Nat} : K G (d + 1) 55 args H n lo = f55.run G (K G d) args H n lo := dcall_fn rfl
theorem k56 {G : Nat → Option (List IV)} {d : Nat} {args : List DV} {H : PT HB} {n lo : Nat} : K G (d + 1) 56 args H n lo = f56.run G (K G d) args H n lo := dcall_fn rfl
theorem k57 {G : Nat → Option (List IV)} {d : Nat} {args : List DV} {H : PT HB} {n lo : Nat} : K G (d + 1) 57 args H n lo = f57.run G (K G d) args H n lo := dcall_fn rfl
theorem k58 {G : Nat → Option (List IV)} {d : Nat} {args : List DV} {H : PT HB} {n lo : Nat} : K G (d + 1) 58 args H n lo = f58.run G (K G d) args H n lo := dcall_fn rfl
theorem k59 {G : Nat → Option (List IV)} {d : Nat} {args : List DV} {H : PT HB} {n lo : Nat} : K G (d + 1) 59 args H n lo = f59.run G (K G d) args H n lo := dcall_fn rfl
theorem k60 {G : Nat → Option (List IV)} {d : Nat} {args : List DV} {H : PT HB} {n lo : Nat} : K G (d + 1) 60 args H n lo = f60.run G (K G d) args H n lo := dcall_fn rfl
theorem k61 {G : Nat → Option (List IV)} {d : Nat} {args : List DV} {H : PT HB} {n lo : Nat} : K G (d + 1) 61 args H n lo = f61.run G (K G d) args H n lo := dcall_fn rfl
theorem k62 {G : Nat → Option (List IV)} {d : Nat} {args : List DV} {H : PT HB} {n lo : Nat} : K G (d + 1) 62 args H n lo = f62.run G (K G d) args H n lo := dcall_fn rfl
theorem k63 {G : Nat → Option (List IV)} {d : Nat} {args : List DV} {H : PT HB} {n lo : Nat} : K G (d + 1) 63 args H n lo = f63.run G (K G d) args H n lo := dcall_fn rfl
theorem k64 {G : Nat → Option (List IV)} {d : Nat} {args : List DV} {H : PT HB} {n lo : Nat} : K G (d + 1) 64 args H n lo = f64.run G (K G d) args H n lo := dcall_fn rfl
theorem k65 {G : Nat → Option (List IV)} {d : Nat} {args : List DV} {H : PT HB} {n lo : Nat} : K G (d + 1) 65 args H n lo = f65.run G (K G d) args H n lo := dcall_fn rfl
theorem k66 {G : Nat → Option (List IV)} {d : Nat} {args : List DV} {H : PT HB} {n lo : Nat} : K G (d + 1) 66 args H n lo = f66.run G (K G d) args H n lo := dcall_fn rfl
theorem k67 {G : Nat → Option (List IV)} {d : Nat} {args : List DV} {H : PT HB} {n lo : Nat} : K G (d + 1) 67 args H n lo = f67.run G (K G d) args H n lo := dcall_fn rfl
theorem k68 {G : Nat → Option (List IV)} {d : Nat} {args : List DV} {H : PT HB} {n lo : Nat} : K G (d + 1) 68 args H n lo = f68.run G (K G d) args H n lo := dcall_fn rfl
theorem k69 {G : Nat → Option (List IV)} {d : Nat} {args : List DV} {H : PT HB} {n lo : Nat} : K G (d + 1) 69 args H n lo = f69.run G (K G d) args H n lo := dcall_fn rfl
theorem k70 {G : Nat → Option (List IV)} {d : Nat} {args : List DV} {H : PT HB} {n lo : Nat} : K G (d + 1) 70 args H n lo = f70.run G (K G d) args H n lo := dcall_fn rfl
theorem k71 {G : Nat → Option (List IV)} {d : Nat} {args : List DV} {H : PT HB} {n lo : Nat} : K G (d + 1) 71 args H n lo = f71.run G (K G d) args H n lo := dcall_fn rfl
theorem k72 {G : Nat → Option (List IV)} {d : Nat} {args : List DV} {H : PT HB} {n lo : Nat} : K G (d + 1) 72 args H n lo = f72.run G (K G d) args H n lo := dcall_fn rfl
theorem k73 {G : Nat → Option (List IV)} {d : Nat} {args : List DV} {H : PT HB} {n lo : Nat} : K G (d + 1) 73 args H n lo = f73.run G (K G d) args H n lo := dcall_fn rfl
theorem k74 {G : Nat → Option (List IV)} {d : Nat} {args : List DV} {H : PT HB} {n lo : Nat} : K G (d + 1) 74 args H n lo = f74.run G (K G d) args H n lo := dcall_fn rfl
theorem k75 {G : Nat → Option (List IV)} {d : Nat} {args : List DV} {H : PT HB} {n lo : Nat} : K G (d + 1) 75 args H n lo = f75.run G (K G d) args H n lo := dcall_fn rfl
theorem k76 {G : Nat → Option (List IV)} {d : Nat} {args : List DV} {H : PT HB} {n lo : Nat} : K G (d + 1) 76 args H n lo = f76.run G (K G d) args H n lo := dcall_fn rfl
theorem k77 {G : Nat → Option (List IV)} {d : Nat} {args : List DV} {H : PT HB} {n lo : Nat} : K G (d + 1) 77 args H n lo = f77.run G (K G d) args H n lo := dcall_fn rfl
theorem k78 {G : Nat → Option (List IV)} {d : Nat} {args : List DV} {H : PT HB} {n lo : Nat} : K G (d + 1) 78 args H n lo = f78.run G (K G d) args H n lo := dcall_fn rfl
theorem k79 {G : Nat → Option (List IV)} {d : Nat} {args : List DV} {H : PT HB} {n lo : Nat} : K G (d + 1) 79 args H n lo = f79.run G (K G d) args H n lo := dcall_fn rfl
theorem k80 {G : Nat → Option (List IV)} {d : Nat} {args : List DV} {H : PT HB} {n lo : Nat} : K G (d + 1) 80 args H n lo = f80.run G (K G d) args H n lo := dcall_fn rfl
theorem k81 {G : Nat → Option (List IV)} {d : Nat} {args : List DV} {H : PT HB} {n lo : Nat} : K G (d + 1) 81 args H n lo = f81.run G (K G d) args H n lo := dcall_fn rfl
theorem k82 {G : Nat → Option (List IV)} {d : Nat} {args : List DV} {H : PT HB} {n lo : Nat} : K G (d + 1) 82 args H n lo = f82.run G (K G d) args H n lo := dcall_fn rfl
theorem k83 {G : Nat → Option (List IV)} {d : Nat} {args : List DV} {H : PT HB} {n lo : Nat} : K G (d + 1) 83 args H n lo = f83.run G (K G d) args H n lo := dcall_fn rfl
theorem k84 {G : Nat → Option (List IV)} {d : Nat} {args : List DV} {H : PT HB} {n lo : Nat} : K G (d + 1) 84 args H n lo = f84.run G (K G d) args H n lo := dcall_fn rfl
theorem k85 {G : Nat → Option (List IV)} {d : Nat} {args : List DV} {H : PT HB} {n lo : Nat} : K G (d + 1) 85 args H n lo = f85.run G (K G d) args H n lo := dcall_fn rfl
theorem k86 {G : Nat → Option (List IV)} {d : Nat} {args : List DV} {H : PT HB} {n lo : Nat} : K G (d + 1) 86 args H n lo = f86.run G (K G d) args H n lo := dcall_fn rfl
theorem k87 {G : Nat → Option (List IV)} {d : Nat} {args : List DV} {H : PT HB} {n lo : Nat} : K G (d + 1) 87 args H n lo = f87.run G (K G d) args H n lo := dcall_fn rfl
theorem k88 {G : Nat → Option (List IV)} {d : Nat} {args : List DV} {H : PT HB} {n lo : Nat} : K G (d + 1) 88 args H n lo = f88.run G (K G d) args H n lo := dcall_fn rfl
theorem k89 {G : Nat → Option (List IV)} {d : Nat} {args : List DV} {H : PT HB} {n lo : Nat} : K G (d + 1) 89 args H n lo = f89.run G (K G d) args H n lo := dcall_fn rfl
theorem k90 {G : Nat → Option (List IV)} {d : Nat} {args : List DV} {H : PT HB} {n lo : Nat} : K G (d + 1) 90 args H n lo = f90.run G (K G d) args H n lo := dcall_fn rfl
theorem k91 {G : Nat → Option (List IV)} {d : Nat} {args : List DV} {H : PT HB} {n lo : Nat} : K G (d + 1) 91 args H n lo = f91.run G (K G d) args H n lo := dcall_fn rfl
theorem k92 {G : Nat → Option (List IV)} {d : Nat} {args : List DV} {H : PT HB} {n lo : Nat} : K G (d + 1) 92 args H n lo = f92.run G (K G d) args H n lo := dcall_fn rfl
theorem k93 {G : Nat → Option (List IV)} {d : Nat} {args : List DV} {H : PT HB} {n lo : Nat} : K G (d + 1) 93 args H n lo = f93.run G (K G d) args H n lo := dcall_fn rfl
theorem k94 {G : Nat → Option (List IV)} {d : Nat} {args : List DV} {H : PT HB} {n lo : Nat} : K G (d + 1) 94 args H n lo = f94.run G (K G d) args H n lo := dcall_fn rfl
theorem k95 {G : Nat → Option (List IV)} {d : Nat} {args : List DV} {H : PT HB} {n lo : Nat} : K G (d + 1) 95 args H n lo = f95.run G (K G d) args H n lo := dcall_fn rfl
theorem k96 {G : Nat → Option (List IV)} {d : Nat} {args : List DV} {H : PT HB} {n lo : Nat} : K G (d + 1) 96 args H n lo = f96.run G (K G d) args H n lo := dcall_fn rfl
theorem k97 {G : Nat → Option (List IV)} {d : Nat} {args : List DV} {H : PT HB} {n lo : Nat} : K G (d + 1) 97 args H n lo = f97.run G (K G d) args H n lo := dcall_fn rfl
theorem k98 {G : Nat → Option (List IV)} {d : Nat} {args : List DV} {H : PT HB} {n lo : Nat} : K G (d + 1) 98 args H n lo = f98.run G (K G d) args H n lo := dcall_fn rfl
theorem k99 {G : Nat → Option (List IV)} {d : Nat} {args : List DV} {H : PT HB} {n lo : Nat} : K G (d + 1) 99 args H n lo = f99.run G (K G d) args H n lo := dcall_fn rfl
theorem k100 {G : Nat → Option (List IV)} {d : Nat} {args : List DV} {H : PT HB} {n lo : Nat} : K G (d + 1) 100 args H n lo = f100.run G (K G d) args H n lo := dcall_fn rfl
end Go.Proofs.YtkgjgehffijepaaDoor.D
