/-
  D's functions of this seat, printed by program out of the translation.
-/
import Derived.Test.YtbhmihigfncfgabDoorRun
set_option maxRecDepth 100000
namespace Go.Proofs.YtbhmihigfncfgabDoor.D
open Go Go.PM
abbrev om (a b : Nat) : DO := ⟨some a, .mv (.t b), none⟩
abbrev omt (a b c : Nat) : DO := ⟨some a, .mv (.t b), some (c, true)⟩
abbrev omf (a b c : Nat) : DO := ⟨some a, .mv (.t b), some (c, false)⟩
abbrev oo (a : Nat) (o : DOp) : DO := ⟨some a, o, none⟩
abbrev ot (a b : Nat) (o : DOp) : DO := ⟨some a, o, some (b, true)⟩
abbrev of (a b : Nat) (o : DOp) : DO := ⟨some a, o, some (b, false)⟩
abbrev on (o : DOp) : DO := ⟨none, o, none⟩
def l9_0b : DC :=
 .seq (.seq (.reg [om 39 8, oo 40 (.bin .eql .sc (.t 39) (.k (.int .i64 0))), om 41 40, omt 42 9 41, omt 43 1 41, ot 44 41 (.len (.t 43)), ot 45 41 (.bin .lss .sc (.t 42) (.t 44)), oo 46 (.pick (.t 41) (.t 45) (.k (.bool false))), om 47 46, omt 48 9 47, ot 49 47 (.bin .lss .sc (.t 48) (.k (.int .i64 60))), oo 50 (.pick (.t 47) (.t 49) (.k (.bool false)))]) <|
 .cond (.t 50)
 (.skip)
 (.exit 0)) <|
 .seq (.block 1 <|
 .seq (.seq (.reg [om 53 1, om 54 9, oo 55 (.idx 3 (.t 53) (.t 54)), oo 56 (.fld 0 (.t 55)), oo 57 (.ld 1 false (.t 56))]) <|
 .block 2 <|
 .seq (.reg [oo 74 (.bin .eql .sc (.t 57) (.k (.int .i64 1))), om 73 74]) <|
 .cond (.t 73)
 (.seq (.drw [om 75 5, om 76 1, om 77 9, oo 78 (.idx 3 (.t 76) (.t 77)), oo 79 (.fld 1 (.t 78)), oo 80 (.ld 1 false (.t 79)), oo 81 (.call .eff 29 [(.t 75), (.t 80)]), om 82 7, om 83 1, om 84 9, oo 85 (.idx 3 (.t 83) (.t 84)), oo 86 (.fld 1 (.t 85)), oo 87 (.ld 1 false (.t 86)), oo 88 (.call .eff 31 [(.t 82), (.t 87)]), oo 89 (.bin .neq .sc (.t 81) (.t 88))] [[], [], [], [], [], [3], [3, 5], [], [], [], [], [], [10], [3, 5, 6, 10, 12], []]) <|
 .cond (.t 89)
 (.seq (.reg [oo 4 (.mv (.k (.bool false)))]) <|
 .ret)
 (.skip))
 (.seq (.reg [oo 91 (.bin .eql .sc (.t 57) (.k (.int .i64 2))), om 90 91]) <|
 .cond (.t 90)
 (.seq (.drw [om 92 5, om 93 1, om 94 9, oo 95 (.idx 3 (.t 93) (.t 94)), oo 96 (.fld 1 (.t 95)), oo 97 (.ld 1 false (.t 96)), oo 98 (.call .eff 27 [(.t 92), (.t 97)]), om 99 7, om 100 1, om 101 9, oo 102 (.idx 3 (.t 100) (.t 101)), oo 103 (.fld 1 (.t 102)), oo 104 (.ld 1 false (.t 103)), oo 105 (.call .eff 32 [(.t 99), (.t 104)]), oo 106 (.bin .neq .sc (.t 98) (.t 105))] [[], [], [], [], [], [3], [3, 5], [], [], [], [], [], [10], [3, 5, 6, 10, 12], []]) <|
 .cond (.t 106)
 (.seq (.reg [oo 4 (.mv (.k (.bool false)))]) <|
 .ret)
 (.skip))
 (.seq (.drw [om 58 1, om 59 9, oo 60 (.idx 3 (.t 58) (.t 59)), oo 61 (.fld 2 (.t 60)), oo 62 (.ld 1 false (.t 61)), oo 63 (.fld 1 (.t 2)), oo 64 (.ld 1 false (.t 63)), oo 65 (.len (.t 64)), oo 66 (.call .blind 33 [(.t 62), (.t 65)]), om 10 66] [[], [], [], [], [2], [], [], [], [2, 4, 6], []]) <|
 .seq (.reg [om 67 5, om 68 10, oo 69 (.call .eff 13 [(.t 67), (.t 68)])]) <|
 .reg [om 70 7, om 71 10, oo 72 (.call .eff 34 [(.t 70), (.t 71)])]))) <|
 .seq (.drw [om 107 5, oo 108 (.call .ro 14 [(.t 107)]), om 109 7, oo 110 (.nilck (.t 109)), oo 111 (.fld 0 (.t 110)), oo 112 (.ld 2 true (.t 111)), oo 113 (.call .blind 35 [(.t 108), (.t 112)]), oo 114 (.un .not (.t 113))] [[], [], [], [], [], [], [1, 5], []]) <|
 .cond (.t 114)
 (.seq (.reg [oo 4 (.mv (.k (.bool false)))]) <|
 .ret)
 (.skip)) <|
 .reg [om 51 9, oo 52 (.bin .add .sc (.t 51) (.k (.int .i64 1))), om 9 52]
def l9_0 : DC := .loop [1, 2, 5, 7, 8, 9] [2] l9_0b
def f9 : DFn := ⟨2, [.t 4],
 .seq (.reg [oo 2 (.boxL (.t 0)), oo 4 (.mv (.k (.bool false)))]) <|
 .seq (.seq (.reg [oo 11 (.ld 4 true (.t 2)), oo 12 (.call .blind 28 [(.t 11)]), oo 13 (.bin .geq .sc (.t 12) (.k (.int .i64 3000))), om 14 13, omf 15 1 14, of 16 14 (.len (.t 15)), of 17 14 (.bin .gtr .sc (.t 16) (.k (.int .i64 10000))), oo 18 (.pick (.t 14) (.k (.bool true)) (.t 17))]) <|
 .cond (.t 18)
 (.seq (.reg [oo 4 (.mv (.k (.bool true)))]) <|
 .ret)
 (.skip)) <|
 .seq (.reg [oo 20 (.ld 4 true (.t 2)), oo 21 (.call .eff 11 [(.t 20)]), om 19 21, oo 22 (.ext 0 (.t 19)), oo 23 (.ext 1 (.t 19)), om 5 22, om 6 23]) <|
 .seq (.reg [oo 25 (.ld 4 true (.t 2)), oo 26 (.call .eff 30 [(.t 25)]), om 24 26, oo 27 (.ext 0 (.t 24)), oo 28 (.ext 1 (.t 24)), om 7 27, om 8 28]) <|
 .seq (.seq (.reg [om 29 6, om 30 8, oo 31 (.bin .neq .sc (.t 29) (.t 30)), om 32 31, omf 33 5 32, of 34 32 (.bin .eql .np (.t 33) (.k (.nilp))), omf 35 8 32, of 36 32 (.bin .neq .sc (.t 35) (.k (.int .i64 0))), of 37 32 (.bin .neq .bl (.t 34) (.t 36)), oo 38 (.pick (.t 32) (.k (.bool true)) (.t 37))]) <|
 .cond (.t 38)
 (.seq (.reg [oo 4 (.mv (.k (.bool false)))]) <|
 .ret)
 (.skip)) <|
 .seq (.seq (.reg [oo 9 (.mv (.k (.int .i64 0)))]) <|
 .block 0 <|
 l9_0) <|
 .seq (.reg [oo 115 (.call .blind 15 []), om 4 115]) <|
 .ret⟩

def l11_0b : DC :=
 .seq (.reg [oo 18 (.bin .lss .sc (.t 17) (.t 16))]) <|
 .seq (.cond (.t 18)
 (.skip)
 (.exit 0)) <|
 .seq (.block 1 <|
 .reg [om 19 4, om 20 4, oo 21 (.nilck (.t 20)), oo 22 (.fld 1 (.t 21)), oo 23 (.ld 1 false (.t 22)), oo 24 (.build [.int .i64 0, .int .i64 0, .int .i64 0] [(0, 1, (.k (.int .i64 1)))]), oo 25 (.bsl true 3 [.int .i64 0, .int .i64 0, .int .i64 0] 1 [(0, (.t 24))]), oo 26 (.app 3 24 (.t 23) (.t 25)), oo 27 (.nilck (.t 19)), oo 28 (.fld 1 (.t 27)), on (.st 1 (.t 28) (.t 26))]) <|
 .reg [oo 29 (.bin .add .sc (.t 17) (.k (.int .i64 1))), om 17 29]
def l11_0 : DC := .loop [4, 16, 17] [] l11_0b
def f11 : DFn := ⟨1, [.t 2, .t 3],
 .seq (.reg [oo 1 (.boxL (.t 0)), oo 2 (.mv (.k (.nilp))), oo 3 (.mv (.k (.int .i64 0)))]) <|
 .seq (.seq (.reg [oo 5 (.ld 4 true (.t 1)), oo 6 (.call .blind 36 [(.t 5)]), oo 7 (.un .not (.t 6))]) <|
 .cond (.t 7)
 (.seq (.reg [oo 2 (.mv (.k (.nilp))), oo 3 (.mv (.k (.int .i64 9)))]) <|
 .ret)
 (.skip)) <|
 .seq (.reg [oo 8 (.fld 0 (.t 1)), oo 9 (.ld 1 false (.t 8)), oo 10 (.len (.t 9)), oo 11 (.mks true 1 1 [.bool false] (.t 10)), oo 12 (.build [.nils, .nils] [(0, 1, (.t 11))]), oo 13 (.boxH (.t 12)), om 4 13]) <|
 .seq (.seq (.reg [oo 14 (.fld 1 (.t 1)), oo 15 (.ld 1 false (.t 14)), oo 16 (.len (.t 15)), oo 17 (.mv (.k (.int .i64 0)))]) <|
 .block 0 <|
 l11_0) <|
 .seq (.reg [om 30 4, om 2 30, oo 3 (.mv (.k (.int .i64 0)))]) <|
 .ret⟩

def l12_0b : DC :=
 .seq (.seq (.reg [om 8 4, om 9 0, oo 10 (.bin .lss .sc (.t 8) (.t 9))]) <|
 .cond (.t 10)
 (.skip)
 (.exit 0)) <|
 .seq (.block 1 <|
 .reg [oo 13 (.fld 1 (.t 3)), oo 14 (.ld 1 false (.t 13)), om 15 4, oo 16 (.bin .add .sc (.k (.int .i64 112)) (.t 15)), oo 17 (.cvI .u8 (.t 16)), oo 18 (.bsl false 1 [.int .u8 0] 1 [(0, (.t 17))]), oo 19 (.cvBS (.t 18)), oo 20 (.build [.str [], .int .i64 0] [(0, 1, (.t 19))]), oo 21 (.bsl false 2 [.str [], .int .i64 0] 1 [(0, (.t 20))]), oo 22 (.app 2 24 (.t 14) (.t 21)), oo 23 (.fld 1 (.t 3)), on (.st 1 (.t 23) (.t 22))]) <|
 .reg [om 11 4, oo 12 (.bin .add .sc (.t 11) (.k (.int .i64 1))), om 4 12]
def l12_0 : DC := .loop [0, 2, 3, 4] [2, 3] l12_0b
def f12 : DFn := ⟨1, [.cell 2 4 true],
 .seq (.reg [oo 2 (.alL [.nils, .nils, .nils, .nils])]) <|
 .seq (.reg [oo 5 (.bsl false 1 [.str []] 1 [(0, (.k (.str [97])))]), oo 6 (.bsl false 1 [.str []] 1 [(0, (.k (.str [115])))]), oo 7 (.build [.nils, .nils, .nils, .nils] [(0, 1, (.t 5)), (2, 1, (.t 6))]), oo 3 (.alL [.nils, .nils, .nils, .nils]), on (.st 4 (.t 3) (.t 7))]) <|
 .seq (.seq (.reg [oo 4 (.mv (.k (.int .i64 0)))]) <|
 .block 0 <|
 l12_0) <|
 .seq (.reg [oo 24 (.ld 4 true (.t 3)), on (.st 4 (.t 2) (.t 24))]) <|
 .ret⟩

def l13_0b : DC :=
 .seq (.reg [oo 14 (.bin .lss .sc (.t 13) (.t 12))]) <|
 .seq (.cond (.t 14)
 (.skip)
 (.exit 0)) <|
 .seq (.block 1 <|
 .seq (.reg [om 15 13, oo 16 (.idx 3 (.t 11) (.t 13)), oo 17 (.ld 3 true (.t 16)), oo 5 (.alL [.int .i64 0, .int .i64 0, .int .i64 0]), om 4 15, on (.st 3 (.t 5) (.t 17))]) <|
 .seq (.reg [om 18 4, om 19 1, oo 20 (.len (.t 19)), oo 21 (.bin .lss .sc (.t 18) (.t 20))]) <|
 .cond (.t 21)
 (.drw [om 22 0, oo 23 (.nilck (.t 22)), oo 24 (.fld 1 (.t 23)), oo 25 (.ld 1 false (.t 24)), om 26 4, oo 27 (.ld 3 true (.t 5)), om 28 1, om 29 4, oo 30 (.idx 1 (.t 28) (.t 29)), oo 31 (.ld 1 false (.t 30)), oo 32 (.call .blind 37 [(.t 27), (.t 31)]), oo 33 (.idx 3 (.t 25) (.t 26)), on (.st 3 (.t 33) (.t 32))] [[], [], [], [], [], [], [], [], [], [8], [5, 8, 9], [3, 5, 8, 9, 10], [3, 5, 8, 9, 10, 11]])
 (.skip)) <|
 .reg [oo 34 (.bin .add .sc (.t 13) (.k (.int .i64 1))), om 13 34]
def l13_0 : DC := .loop [0, 1, 11, 12, 13] [] l13_0b
def f13 : DFn := ⟨2, [],
 .seq (.seq (.reg [om 6 0, oo 7 (.bin .eql .np (.t 6) (.k (.nilp)))]) <|
 .cond (.t 7)
 (.ret)
 (.skip)) <|
 .seq (.reg [om 8 0, oo 9 (.nilck (.t 8)), oo 10 (.fld 1 (.t 9)), oo 11 (.ld 1 false (.t 10)), oo 12 (.len (.t 11)), oo 13 (.mv (.k (.int .i64 0)))]) <|
 .block 0 <|
 l13_0⟩

def l14_0b : DC :=
 .seq (.reg [oo 21 (.bin .lss .sc (.t 20) (.t 19))]) <|
 .seq (.cond (.t 21)
 (.skip)
 (.exit 0)) <|
 .seq (.block 1 <|
 .seq (.reg [oo 22 (.idx 3 (.t 18) (.t 20)), oo 23 (.ld 3 true (.t 22)), oo 5 (.alL [.int .i64 0, .int .i64 0, .int .i64 0]), on (.st 3 (.t 5) (.t 23))]) <|
 .reg [oo 24 (.fld 1 (.t 3)), oo 25 (.ld 1 false (.t 24)), oo 26 (.fld 0 (.t 5)), oo 27 (.ld 1 false (.t 26)), oo 28 (.bsl false 1 [.int .i64 0] 1 [(0, (.t 27))]), oo 29 (.app 1 8 (.t 25) (.t 28)), oo 30 (.fld 1 (.t 3)), on (.st 1 (.t 30) (.t 29))]) <|
 .reg [oo 31 (.bin .add .sc (.t 20) (.k (.int .i64 1))), om 20 31]
def l14_0 : DC := .loop [2, 3, 18, 19, 20] [2, 3] l14_0b
def f14 : DFn := ⟨1, [.cell 2 2 true],
 .seq (.reg [oo 2 (.alL [.nils, .nils])]) <|
 .seq (.seq (.reg [om 6 0, oo 7 (.bin .eql .np (.t 6) (.k (.nilp)))]) <|
 .cond (.t 7)
 (.seq (.reg [oo 8 (.build [.nils, .nils] []), on (.st 2 (.t 2) (.t 8))]) <|
 .ret)
 (.skip)) <|
 .seq (.reg [om 9 0, oo 10 (.nilck (.t 9)), oo 11 (.fld 0 (.t 10)), oo 12 (.ld 1 false (.t 11)), oo 13 (.call .eff 38 [(.t 12)]), oo 14 (.build [.nils, .nils] [(0, 1, (.t 13))]), oo 3 (.alL [.nils, .nils]), on (.st 2 (.t 3) (.t 14))]) <|
 .seq (.seq (.reg [om 15 0, oo 16 (.nilck (.t 15)), oo 17 (.fld 1 (.t 16)), oo 18 (.ld 1 false (.t 17)), oo 19 (.len (.t 18)), oo 20 (.mv (.k (.int .i64 0)))]) <|
 .block 0 <|
 l14_0) <|
 .seq (.reg [oo 32 (.ld 2 true (.t 3)), on (.st 2 (.t 2) (.t 32))]) <|
 .ret⟩

def l15_0b : DC :=
 .seq (.seq (.reg [om 16 3, oo 17 (.bin .lss .sc (.t 16) (.k (.int .i64 3)))]) <|
 .cond (.t 17)
 (.skip)
 (.exit 0)) <|
 .seq (.block 1 <|
 .reg [om 20 1, oo 21 (.bsl false 1 [.int .i64 0] 1 [(0, (.k (.int .i64 2)))]), oo 22 (.call .eff 13 [(.t 20), (.t 21)])]) <|
 .reg [om 18 3, oo 19 (.bin .add .sc (.t 18) (.k (.int .i64 1))), om 3 19]
def l15_0 : DC := .loop [1, 3] [] l15_0b
def f15 : DFn := ⟨0, [.t 0],
 .seq (.reg [oo 0 (.mv (.k (.bool false)))]) <|
 .seq (.reg [oo 6 (.call .blind 12 [(.k (.int .i64 1))]), oo 7 (.call .eff 11 [(.t 6)]), om 5 7, oo 8 (.ext 0 (.t 5)), oo 9 (.ext 1 (.t 5)), om 1 8, om 2 9]) <|
 .seq (.seq (.reg [om 10 2, oo 11 (.bin .neq .sc (.t 10) (.k (.int .i64 0))), om 12 11, omf 13 1 12, of 14 12 (.bin .eql .np (.t 13) (.k (.nilp))), oo 15 (.pick (.t 12) (.k (.bool true)) (.t 14))]) <|
 .cond (.t 15)
 (.seq (.reg [oo 0 (.mv (.k (.bool false)))]) <|
 .ret)
 (.skip)) <|
 .seq (.seq (.reg [oo 3 (.mv (.k (.int .i64 0)))]) <|
 .block 0 <|
 l15_0) <|
 .seq (.reg [om 23 1, oo 24 (.call .ro 14 [(.t 23)]), oo 4 (.alL [.nils, .nils]), on (.st 2 (.t 4) (.t 24))]) <|
 .seq (.reg [oo 25 (.fld 1 (.t 4)), oo 26 (.ld 1 false (.t 25)), oo 27 (.len (.t 26)), oo 28 (.bin .eql .sc (.t 27) (.k (.int .i64 1))), om 29 28, ot 30 29 (.fld 1 (.t 4)), ot 31 29 (.ld 1 false (.t 30)), ot 32 29 (.idx 1 (.t 31) (.k (.int .i64 0))), ot 33 29 (.ld 1 false (.t 32)), ot 34 29 (.bin .eql .sc (.t 33) (.k (.int .i64 2))), oo 35 (.pick (.t 29) (.t 34) (.k (.bool false))), om 36 35, ot 37 36 (.fld 0 (.t 4)), ot 38 36 (.ld 1 false (.t 37)), ot 39 36 (.len (.t 38)), ot 40 36 (.bin .eql .sc (.t 39) (.k (.int .i64 1))), oo 41 (.pick (.t 36) (.t 40) (.k (.bool false))), om 42 41, ot 43 42 (.fld 0 (.t 4)), ot 44 42 (.ld 1 false (.t 43)), ot 45 42 (.idx 1 (.t 44) (.k (.int .i64 0))), ot 46 42 (.ld 1 false (.t 45)), ot 47 42 (.un .not (.t 46)), oo 48 (.pick (.t 42) (.t 47) (.k (.bool false))), om 0 48]) <|
 .ret⟩

def l17_2b : DC :=
 .seq (.seq (.reg [om 113 7, oo 114 (.fld 3 (.t 1)), oo 115 (.ld 1 false (.t 114)), oo 116 (.len (.t 115)), oo 117 (.bin .lss .sc (.t 113) (.t 116))]) <|
 .cond (.t 117)
 (.skip)
 (.exit 4)) <|
 .seq (.block 5 <|
 .seq (.drw [oo 120 (.ld 4 true (.t 1)), oo 121 (.fld 3 (.t 1)), oo 122 (.ld 1 false (.t 121)), om 123 7, oo 124 (.idx 6 (.t 122) (.t 123)), oo 125 (.ld 6 true (.t 124)), oo 126 (.call .blind 40 [(.t 120), (.t 125)]), oo 127 (.un .not (.t 126))] [[], [], [], [], [2], [2, 4], [0, 2, 4, 5], []]) <|
 .cond (.t 127)
 (.seq (.reg [oo 2 (.mv (.k (.bool false)))]) <|
 .ret)
 (.skip)) <|
 .reg [om 118 7, oo 119 (.bin .add .sc (.t 118) (.k (.int .i64 1))), om 7 119]
def l17_2 : DC := .loop [1, 7] [1] l17_2b
def l17_1b : DC :=
 .seq (.seq (.reg [om 77 6, oo 78 (.fld 3 (.t 1)), oo 79 (.ld 1 false (.t 78)), oo 80 (.len (.t 79)), oo 81 (.bin .lss .sc (.t 77) (.t 80))]) <|
 .cond (.t 81)
 (.skip)
 (.exit 2)) <|
 .seq (.block 3 <|
 .reg [om 84 4, oo 85 (.fld 3 (.t 1)), oo 86 (.ld 1 false (.t 85)), om 87 6, oo 88 (.idx 6 (.t 86) (.t 87)), oo 89 (.fld 0 (.t 88)), oo 90 (.ld 1 false (.t 89)), oo 91 (.bsl false 1 [.str []] 1 [(0, (.t 90))]), oo 92 (.app 1 16 (.t 84) (.t 91)), om 4 92]) <|
 .reg [om 82 6, oo 83 (.bin .add .sc (.t 82) (.k (.int .i64 1))), om 6 83]
def l17_1 : DC := .loop [1, 3, 4, 6] [1] l17_1b
def l17_0b : DC :=
 .seq (.seq (.reg [om 42 5, oo 43 (.fld 1 (.t 1)), oo 44 (.ld 1 false (.t 43)), oo 45 (.len (.t 44)), oo 46 (.bin .lss .sc (.t 42) (.t 45))]) <|
 .cond (.t 46)
 (.skip)
 (.exit 0)) <|
 .seq (.block 1 <|
 .seq (.reg [om 49 3, oo 50 (.fld 1 (.t 1)), oo 51 (.ld 1 false (.t 50)), om 52 5, oo 53 (.idx 2 (.t 51) (.t 52)), oo 54 (.fld 0 (.t 53)), oo 55 (.ld 1 false (.t 54)), oo 56 (.bsl false 1 [.str []] 1 [(0, (.t 55))]), oo 57 (.app 1 16 (.t 49) (.t 56)), om 3 57]) <|
 .seq (.drw [oo 58 (.fld 1 (.t 1)), oo 59 (.ld 1 false (.t 58)), om 60 5, oo 61 (.idx 2 (.t 59) (.t 60)), oo 62 (.fld 1 (.t 61)), oo 63 (.ld 1 false (.t 62)), oo 64 (.bin .lss .sc (.t 63) (.k (.int .i64 0))), om 65 64, of 66 65 (.fld 1 (.t 1)), of 67 65 (.ld 1 false (.t 66)), omf 68 5 65, of 69 65 (.idx 2 (.t 67) (.t 68)), of 70 65 (.fld 1 (.t 69)), of 71 65 (.ld 1 false (.t 70)), of 72 65 (.fld 0 (.t 1)), of 73 65 (.ld 1 false (.t 72)), of 74 65 (.len (.t 73)), of 75 65 (.bin .geq .sc (.t 71) (.t 74)), oo 76 (.pick (.t 65) (.k (.bool true)) (.t 75))] [[], [], [], [1], [], [1, 3], [], [], [], [1, 3, 5], [], [1, 3, 5, 9], [], [1, 3, 5, 9, 11], [], [1, 3, 5], [], [], []]) <|
 .cond (.t 76)
 (.seq (.reg [oo 2 (.mv (.k (.bool false)))]) <|
 .ret)
 (.skip)) <|
 .reg [om 47 5, oo 48 (.bin .add .sc (.t 47) (.k (.int .i64 1))), om 5 48]
def l17_0 : DC := .loop [1, 3, 4, 5] [1] l17_0b
def f17 : DFn := ⟨1, [.t 2],
 .seq (.reg [oo 1 (.boxL (.t 0)), oo 2 (.mv (.k (.bool false)))]) <|
 .seq (.seq (.reg [oo 8 (.fld 0 (.t 1)), oo 9 (.ld 1 false (.t 8)), oo 10 (.len (.t 9)), oo 11 (.bin .lss .sc (.t 10) (.k (.int .i64 1))), om 12 11, of 13 12 (.fld 0 (.t 1)), of 14 12 (.ld 1 false (.t 13)), of 15 12 (.len (.t 14)), of 16 12 (.bin .gtr .sc (.t 15) (.k (.int .i64 10))), oo 17 (.pick (.t 12) (.k (.bool true)) (.t 16)), om 18 17, of 19 18 (.fld 2 (.t 1)), of 20 18 (.ld 1 false (.t 19)), of 21 18 (.len (.t 20)), of 22 18 (.bin .lss .sc (.t 21) (.k (.int .i64 1))), oo 23 (.pick (.t 18) (.k (.bool true)) (.t 22)), om 24 23, of 25 24 (.fld 2 (.t 1)), of 26 24 (.ld 1 false (.t 25)), of 27 24 (.len (.t 26)), of 28 24 (.bin .gtr .sc (.t 27) (.k (.int .i64 6))), oo 29 (.pick (.t 24) (.k (.bool true)) (.t 28)), om 30 29, of 31 30 (.fld 1 (.t 1)), of 32 30 (.ld 1 false (.t 31)), of 33 30 (.len (.t 32)), of 34 30 (.bin .gtr .sc (.t 33) (.k (.int .i64 5))), oo 35 (.pick (.t 30) (.k (.bool true)) (.t 34)), om 36 35, of 37 36 (.fld 3 (.t 1)), of 38 36 (.ld 1 false (.t 37)), of 39 36 (.len (.t 38)), of 40 36 (.bin .gtr .sc (.t 39) (.k (.int .i64 6))), oo 41 (.pick (.t 36) (.k (.bool true)) (.t 40))]) <|
 .cond (.t 41)
 (.seq (.reg [oo 2 (.mv (.k (.bool false)))]) <|
 .ret)
 (.skip)) <|
 .seq (.reg [oo 3 (.mv (.k (.nils))), oo 4 (.mv (.k (.nils)))]) <|
 .seq (.seq (.reg [oo 5 (.mv (.k (.int .i64 0)))]) <|
 .block 0 <|
 l17_0) <|
 .seq (.seq (.reg [oo 6 (.mv (.k (.int .i64 0)))]) <|
 .block 2 <|
 l17_1) <|
 .seq (.seq (.reg [oo 93 (.fld 0 (.t 1)), oo 94 (.ld 1 false (.t 93)), oo 95 (.call .blind 39 [(.t 94)]), oo 96 (.un .not (.t 95)), om 97 96, of 98 97 (.fld 2 (.t 1)), of 99 97 (.ld 1 false (.t 98)), of 100 97 (.call .blind 39 [(.t 99)]), of 101 97 (.un .not (.t 100)), oo 102 (.pick (.t 97) (.k (.bool true)) (.t 101)), om 103 102, omf 104 3 103, of 105 103 (.call .blind 39 [(.t 104)]), of 106 103 (.un .not (.t 105)), oo 107 (.pick (.t 103) (.k (.bool true)) (.t 106)), om 108 107, omf 109 4 108, of 110 108 (.call .blind 39 [(.t 109)]), of 111 108 (.un .not (.t 110)), oo 112 (.pick (.t 108) (.k (.bool true)) (.t 111))]) <|
 .cond (.t 112)
 (.seq (.reg [oo 2 (.mv (.k (.bool false)))]) <|
 .ret)
 (.skip)) <|
 .seq (.seq (.reg [oo 7 (.mv (.k (.int .i64 0)))]) <|
 .block 4 <|
 l17_2) <|
 .seq (.reg [oo 2 (.mv (.k (.bool true)))]) <|
 .ret⟩

def f27 : DFn := ⟨2, [.t 4],
 .seq (.reg [oo 4 (.mv (.k (.int .i64 0)))]) <|
 .seq (.seq (.reg [om 5 0, oo 6 (.bin .eql .np (.t 5) (.k (.nilp))), om 7 6, omf 8 1 7, of 9 7 (.bin .lss .sc (.t 8) (.k (.int .i64 0))), oo 10 (.pick (.t 7) (.k (.bool true)) (.t 9)), om 11 10, omf 12 1 11, omf 13 0 11, of 14 11 (.nilck (.t 13)), of 15 11 (.fld 1 (.t 14)), of 16 11 (.ld 1 false (.t 15)), of 17 11 (.len (.t 16)), of 18 11 (.bin .geq .sc (.t 12) (.t 17)), oo 19 (.pick (.t 11) (.k (.bool true)) (.t 18))]) <|
 .cond (.t 19)
 (.seq (.reg [oo 4 (.mv (.k (.int .i64 5)))]) <|
 .ret)
 (.skip)) <|
 .seq (.reg [om 20 0, oo 21 (.nilck (.t 20)), oo 22 (.fld 1 (.t 21)), oo 23 (.ld 1 false (.t 22)), om 24 1, oo 25 (.build [.int .i64 0, .int .i64 0, .int .i64 0] []), oo 26 (.idx 3 (.t 23) (.t 24)), on (.st 3 (.t 26) (.t 25))]) <|
 .seq (.reg [oo 4 (.mv (.k (.int .i64 0)))]) <|
 .ret⟩

def l28_3b : DC :=
 .seq (.seq (.reg [om 82 7, oo 83 (.fld 3 (.t 1)), oo 84 (.ld 1 false (.t 83)), oo 85 (.len (.t 84)), oo 86 (.bin .lss .sc (.t 82) (.t 85)), om 87 86, omt 88 3 87, ot 89 87 (.bin .lss .sc (.t 88) (.k (.int .i64 3000))), oo 90 (.pick (.t 87) (.t 89) (.k (.bool false)))]) <|
 .cond (.t 90)
 (.skip)
 (.exit 6)) <|
 .seq (.block 7 <|
 .seq (.reg [oo 93 (.fld 3 (.t 1)), oo 94 (.ld 1 false (.t 93)), om 95 7, oo 96 (.idx 6 (.t 94) (.t 95)), oo 97 (.ld 6 true (.t 96)), oo 8 (.alL [.str [], .int .i64 0, .int .i64 0, .nils, .nils, .nils]), on (.st 6 (.t 8) (.t 97))]) <|
 .reg [om 98 3, oo 99 (.fld 0 (.t 8)), oo 100 (.ld 1 false (.t 99)), oo 101 (.lenS (.t 100)), oo 102 (.bin .add .sc (.t 98) (.t 101)), oo 103 (.fld 3 (.t 8)), oo 104 (.ld 1 false (.t 103)), oo 105 (.len (.t 104)), oo 106 (.bin .add .sc (.t 102) (.t 105)), oo 107 (.fld 4 (.t 8)), oo 108 (.ld 1 false (.t 107)), oo 109 (.len (.t 108)), oo 110 (.bin .add .sc (.t 106) (.t 109)), oo 111 (.fld 5 (.t 8)), oo 112 (.ld 1 false (.t 111)), oo 113 (.len (.t 112)), oo 114 (.bin .add .sc (.t 110) (.t 113)), om 3 114]) <|
 .reg [om 91 7, oo 92 (.bin .add .sc (.t 91) (.k (.int .i64 1))), om 7 92]
def l28_3 : DC := .loop [1, 3, 7] [1] l28_3b
def l28_2b : DC :=
 .seq (.seq (.reg [om 63 6, oo 64 (.fld 2 (.t 1)), oo 65 (.ld 1 false (.t 64)), oo 66 (.len (.t 65)), oo 67 (.bin .lss .sc (.t 63) (.t 66)), om 68 67, omt 69 3 68, ot 70 68 (.bin .lss .sc (.t 69) (.k (.int .i64 3000))), oo 71 (.pick (.t 68) (.t 70) (.k (.bool false)))]) <|
 .cond (.t 71)
 (.skip)
 (.exit 4)) <|
 .seq (.block 5 <|
 .reg [om 74 3, oo 75 (.fld 2 (.t 1)), oo 76 (.ld 1 false (.t 75)), om 77 6, oo 78 (.idx 1 (.t 76) (.t 77)), oo 79 (.ld 1 false (.t 78)), oo 80 (.lenS (.t 79)), oo 81 (.bin .add .sc (.t 74) (.t 80)), om 3 81]) <|
 .reg [om 72 6, oo 73 (.bin .add .sc (.t 72) (.k (.int .i64 1))), om 6 73]
def l28_2 : DC := .loop [1, 3, 6] [1] l28_2b
def l28_1b : DC :=
 .seq (.seq (.reg [om 43 5, oo 44 (.fld 1 (.t 1)), oo 45 (.ld 1 false (.t 44)), oo 46 (.len (.t 45)), oo 47 (.bin .lss .sc (.t 43) (.t 46)), om 48 47, omt 49 3 48, ot 50 48 (.bin .lss .sc (.t 49) (.k (.int .i64 3000))), oo 51 (.pick (.t 48) (.t 50) (.k (.bool false)))]) <|
 .cond (.t 51)
 (.skip)
 (.exit 2)) <|
 .seq (.block 3 <|
 .reg [om 54 3, oo 55 (.fld 1 (.t 1)), oo 56 (.ld 1 false (.t 55)), om 57 5, oo 58 (.idx 2 (.t 56) (.t 57)), oo 59 (.fld 0 (.t 58)), oo 60 (.ld 1 false (.t 59)), oo 61 (.lenS (.t 60)), oo 62 (.bin .add .sc (.t 54) (.t 61)), om 3 62]) <|
 .reg [om 52 5, oo 53 (.bin .add .sc (.t 52) (.k (.int .i64 1))), om 5 53]
def l28_1 : DC := .loop [1, 3, 5] [1] l28_1b
def l28_0b : DC :=
 .seq (.seq (.reg [om 24 4, oo 25 (.fld 0 (.t 1)), oo 26 (.ld 1 false (.t 25)), oo 27 (.len (.t 26)), oo 28 (.bin .lss .sc (.t 24) (.t 27)), om 29 28, omt 30 3 29, ot 31 29 (.bin .lss .sc (.t 30) (.k (.int .i64 3000))), oo 32 (.pick (.t 29) (.t 31) (.k (.bool false)))]) <|
 .cond (.t 32)
 (.skip)
 (.exit 0)) <|
 .seq (.block 1 <|
 .reg [om 35 3, oo 36 (.fld 0 (.t 1)), oo 37 (.ld 1 false (.t 36)), om 38 4, oo 39 (.idx 1 (.t 37) (.t 38)), oo 40 (.ld 1 false (.t 39)), oo 41 (.lenS (.t 40)), oo 42 (.bin .add .sc (.t 35) (.t 41)), om 3 42]) <|
 .reg [om 33 4, oo 34 (.bin .add .sc (.t 33) (.k (.int .i64 1))), om 4 34]
def l28_0 : DC := .loop [1, 3, 4] [1] l28_0b
def f28 : DFn := ⟨1, [.t 2],
 .seq (.reg [oo 1 (.boxL (.t 0)), oo 2 (.mv (.k (.int .i64 0)))]) <|
 .seq (.reg [oo 9 (.fld 0 (.t 1)), oo 10 (.ld 1 false (.t 9)), oo 11 (.len (.t 10)), oo 12 (.fld 1 (.t 1)), oo 13 (.ld 1 false (.t 12)), oo 14 (.len (.t 13)), oo 15 (.bin .add .sc (.t 11) (.t 14)), oo 16 (.fld 2 (.t 1)), oo 17 (.ld 1 false (.t 16)), oo 18 (.len (.t 17)), oo 19 (.bin .add .sc (.t 15) (.t 18)), oo 20 (.fld 3 (.t 1)), oo 21 (.ld 1 false (.t 20)), oo 22 (.len (.t 21)), oo 23 (.bin .add .sc (.t 19) (.t 22)), om 3 23]) <|
 .seq (.seq (.reg [oo 4 (.mv (.k (.int .i64 0)))]) <|
 .block 0 <|
 l28_0) <|
 .seq (.seq (.reg [oo 5 (.mv (.k (.int .i64 0)))]) <|
 .block 2 <|
 l28_1) <|
 .seq (.seq (.reg [oo 6 (.mv (.k (.int .i64 0)))]) <|
 .block 4 <|
 l28_2) <|
 .seq (.seq (.reg [oo 7 (.mv (.k (.int .i64 0)))]) <|
 .block 6 <|
 l28_3) <|
 .seq (.reg [om 115 3, om 2 115]) <|
 .ret⟩

def f29 : DFn := ⟨2, [.t 4],
 .seq (.reg [oo 4 (.mv (.k (.int .i64 0)))]) <|
 .seq (.seq (.reg [om 5 0, oo 6 (.bin .eql .np (.t 5) (.k (.nilp))), om 7 6, omf 8 1 7, of 9 7 (.bin .lss .sc (.t 8) (.k (.int .i64 0))), oo 10 (.pick (.t 7) (.k (.bool true)) (.t 9)), om 11 10, omf 12 1 11, omf 13 0 11, of 14 11 (.nilck (.t 13)), of 15 11 (.fld 0 (.t 14)), of 16 11 (.ld 1 false (.t 15)), of 17 11 (.len (.t 16)), of 18 11 (.bin .geq .sc (.t 12) (.t 17)), oo 19 (.pick (.t 11) (.k (.bool true)) (.t 18))]) <|
 .cond (.t 19)
 (.seq (.reg [oo 4 (.mv (.k (.int .i64 5)))]) <|
 .ret)
 (.skip)) <|
 .seq (.drw [om 20 0, oo 21 (.nilck (.t 20)), oo 22 (.fld 0 (.t 21)), oo 23 (.ld 1 false (.t 22)), om 24 1, om 25 0, oo 26 (.nilck (.t 25)), oo 27 (.fld 0 (.t 26)), oo 28 (.ld 1 false (.t 27)), om 29 1, oo 30 (.idx 1 (.t 28) (.t 29)), oo 31 (.ld 1 false (.t 30)), oo 32 (.un .not (.t 31)), oo 33 (.idx 1 (.t 23) (.t 24)), on (.st 1 (.t 33) (.t 32))] [[], [], [], [], [], [], [], [], [], [], [8], [8, 10], [], [3, 8, 10, 11], [3, 8, 10, 11, 13]]) <|
 .seq (.reg [oo 4 (.mv (.k (.int .i64 0)))]) <|
 .ret⟩

def l30_0b : DC :=
 .seq (.seq (.reg [om 27 5, oo 28 (.fld 1 (.t 1)), oo 29 (.ld 1 false (.t 28)), oo 30 (.len (.t 29)), oo 31 (.bin .lss .sc (.t 27) (.t 30))]) <|
 .cond (.t 31)
 (.skip)
 (.exit 0)) <|
 .seq (.block 1 <|
 .reg [om 34 4, om 35 4, oo 36 (.nilck (.t 35)), oo 37 (.fld 0 (.t 36)), oo 38 (.fld 1 (.t 37)), oo 39 (.ld 1 false (.t 38)), oo 40 (.bsl true 1 [.int .i64 0] 1 [(0, (.k (.int .i64 1)))]), oo 41 (.app 1 8 (.t 39) (.t 40)), oo 42 (.nilck (.t 34)), oo 43 (.fld 0 (.t 42)), oo 44 (.fld 1 (.t 43)), on (.st 1 (.t 44) (.t 41))]) <|
 .reg [om 32 5, oo 33 (.bin .add .sc (.t 32) (.k (.int .i64 1))), om 5 33]
def l30_0 : DC := .loop [1, 4, 5] [1] l30_0b
def f30 : DFn := ⟨1, [.t 2, .t 3],
 .seq (.reg [oo 1 (.boxL (.t 0)), oo 2 (.mv (.k (.nilp))), oo 3 (.mv (.k (.int .i64 0)))]) <|
 .seq (.seq (.reg [oo 6 (.ld 4 true (.t 1)), oo 7 (.call .blind 17 [(.t 6)]), oo 8 (.un .not (.t 7))]) <|
 .cond (.t 8)
 (.seq (.reg [oo 2 (.mv (.k (.nilp))), oo 3 (.mv (.k (.int .i64 9)))]) <|
 .ret)
 (.skip)) <|
 .seq (.drw [oo 9 (.fld 1 (.t 1)), oo 10 (.ld 1 false (.t 9)), oo 11 (.len (.t 10)), oo 12 (.mks true 1 8 [.int .i64 0] (.t 11)), oo 13 (.fld 1 (.t 1)), oo 14 (.ld 1 false (.t 13)), oo 15 (.len (.t 14)), oo 16 (.mks true 1 8 [.int .i64 0] (.t 15)), oo 17 (.build [.nils, .nils, .nils, .nils] [(2, 1, (.t 12)), (3, 1, (.t 16))]), oo 18 (.boxH (.t 17)), om 4 18] [[], [], [], [1], [], [], [], [5], [], [1, 3, 5, 7], []]) <|
 .seq (.reg [om 19 4, oo 20 (.fld 0 (.t 1)), oo 21 (.ld 1 false (.t 20)), oo 22 (.len (.t 21)), oo 23 (.mks true 1 1 [.bool false] (.t 22)), oo 24 (.nilck (.t 19)), oo 25 (.fld 0 (.t 24)), oo 26 (.fld 0 (.t 25)), on (.st 1 (.t 26) (.t 23))]) <|
 .seq (.seq (.reg [oo 5 (.mv (.k (.int .i64 0)))]) <|
 .block 0 <|
 l30_0) <|
 .seq (.reg [om 45 4, om 2 45, oo 3 (.mv (.k (.int .i64 0)))]) <|
 .ret⟩

def f31 : DFn := ⟨2, [.t 4],
 .seq (.reg [oo 4 (.mv (.k (.int .i64 0)))]) <|
 .seq (.seq (.reg [om 5 1, oo 6 (.bin .lss .sc (.t 5) (.k (.int .i64 0))), om 7 6, omf 8 1 7, omf 9 0 7, of 10 7 (.nilck (.t 9)), of 11 7 (.fld 0 (.t 10)), of 12 7 (.fld 0 (.t 11)), of 13 7 (.ld 1 false (.t 12)), of 14 7 (.len (.t 13)), of 15 7 (.bin .geq .sc (.t 8) (.t 14)), oo 16 (.pick (.t 7) (.k (.bool true)) (.t 15))]) <|
 .cond (.t 16)
 (.seq (.reg [oo 4 (.mv (.k (.int .i64 5)))]) <|
 .ret)
 (.skip)) <|
 .seq (.drw [om 17 0, oo 18 (.nilck (.t 17)), oo 19 (.fld 0 (.t 18)), oo 20 (.fld 0 (.t 19)), oo 21 (.ld 1 false (.t 20)), om 22 1, om 23 0, oo 24 (.nilck (.t 23)), oo 25 (.fld 0 (.t 24)), oo 26 (.fld 0 (.t 25)), oo 27 (.ld 1 false (.t 26)), om 28 1, oo 29 (.idx 1 (.t 27) (.t 28)), oo 30 (.ld 1 false (.t 29)), oo 31 (.un .not (.t 30)), oo 32 (.idx 1 (.t 21) (.t 22)), on (.st 1 (.t 32) (.t 31))] [[], [], [], [], [], [], [], [], [], [], [], [], [10], [10, 12], [], [4, 10, 12, 13], [4, 10, 12, 13, 15]]) <|
 .seq (.reg [oo 4 (.mv (.k (.int .i64 0)))]) <|
 .ret⟩

def f32 : DFn := ⟨2, [.t 4],
 .seq (.reg [oo 4 (.mv (.k (.int .i64 0)))]) <|
 .seq (.seq (.reg [om 5 1, oo 6 (.bin .lss .sc (.t 5) (.k (.int .i64 0))), om 7 6, omf 8 1 7, omf 9 0 7, of 10 7 (.nilck (.t 9)), of 11 7 (.fld 0 (.t 10)), of 12 7 (.fld 1 (.t 11)), of 13 7 (.ld 1 false (.t 12)), of 14 7 (.len (.t 13)), of 15 7 (.bin .geq .sc (.t 8) (.t 14)), oo 16 (.pick (.t 7) (.k (.bool true)) (.t 15))]) <|
 .cond (.t 16)
 (.seq (.reg [oo 4 (.mv (.k (.int .i64 5)))]) <|
 .ret)
 (.skip)) <|
 .seq (.drw [om 17 0, oo 18 (.nilck (.t 17)), oo 19 (.fld 0 (.t 18)), oo 20 (.fld 1 (.t 19)), oo 21 (.ld 1 false (.t 20)), om 22 1, om 23 0, oo 24 (.nilck (.t 23)), oo 25 (.fld 2 (.t 24)), oo 26 (.ld 1 false (.t 25)), om 27 1, om 28 0, oo 29 (.nilck (.t 28)), oo 30 (.fld 3 (.t 29)), oo 31 (.ld 1 false (.t 30)), om 32 1, oo 33 (.idx 1 (.t 21) (.t 22)), on (.st 1 (.t 33) (.k (.int .i64 0))), oo 34 (.idx 1 (.t 26) (.t 27)), on (.st 1 (.t 34) (.k (.int .i64 0))), oo 35 (.idx 1 (.t 31) (.t 32)), on (.st 1 (.t 35) (.k (.int .i64 0)))] [[], [], [], [], [], [], [], [], [], [], [], [], [], [], [], [], [4, 9, 14], [4, 9, 14, 16], [4, 9, 14, 16, 17], [4, 9, 14, 16, 17, 18], [4, 9, 14, 16, 17, 18, 19], [4, 9, 14, 16, 17, 18, 19, 20]]) <|
 .seq (.reg [oo 4 (.mv (.k (.int .i64 0)))]) <|
 .ret⟩

def l33_0b : DC :=
 .seq (.seq (.reg [om 7 6, om 8 1, oo 9 (.bin .lss .sc (.t 7) (.t 8))]) <|
 .cond (.t 9)
 (.skip)
 (.exit 0)) <|
 .seq (.block 1 <|
 .reg [om 12 5, om 13 0, om 14 6, oo 15 (.bin .mul .sc (.k (.int .i64 2)) (.t 14)), oo 16 (.cvI .u64 (.t 15)), oo 17 (.bin .shr .sc (.t 13) (.t 16)), oo 18 (.bin .and .sc (.t 17) (.k (.int .i64 3))), oo 19 (.bin .rem .sc (.t 18) (.k (.int .i64 3))), oo 20 (.bsl false 1 [.int .i64 0] 1 [(0, (.t 19))]), oo 21 (.app 1 8 (.t 12) (.t 20)), om 5 21]) <|
 .reg [om 10 6, oo 11 (.bin .add .sc (.t 10) (.k (.int .i64 1))), om 6 11]
def l33_0 : DC := .loop [0, 1, 5, 6] [] l33_0b
def f33 : DFn := ⟨2, [.t 4],
 .seq (.reg [oo 4 (.mv (.k (.nils)))]) <|
 .seq (.reg [oo 5 (.mv (.k (.nils)))]) <|
 .seq (.seq (.reg [oo 6 (.mv (.k (.int .i64 0)))]) <|
 .block 0 <|
 l33_0) <|
 .seq (.reg [om 22 5, om 4 22]) <|
 .ret⟩

def l34_0b : DC :=
 .seq (.seq (.reg [om 6 4, om 7 0, oo 8 (.nilck (.t 7)), oo 9 (.fld 0 (.t 8)), oo 10 (.fld 1 (.t 9)), oo 11 (.ld 1 false (.t 10)), oo 12 (.len (.t 11)), oo 13 (.bin .lss .sc (.t 6) (.t 12))]) <|
 .cond (.t 13)
 (.skip)
 (.exit 0)) <|
 .seq (.block 1 <|
 .seq (.reg [om 16 1, om 17 4, oo 18 (.idx 1 (.t 16) (.t 17)), oo 19 (.ld 1 false (.t 18)), om 5 19]) <|
 .seq (.seq (.reg [om 20 5, oo 21 (.bin .eql .sc (.t 20) (.k (.int .i64 0))), om 22 21, omf 23 5 22, omf 24 0 22, of 25 22 (.nilck (.t 24)), of 26 22 (.fld 0 (.t 25)), of 27 22 (.fld 1 (.t 26)), of 28 22 (.ld 1 false (.t 27)), omf 29 4 22, of 30 22 (.idx 1 (.t 28) (.t 29)), of 31 22 (.ld 1 false (.t 30)), of 32 22 (.bin .eql .sc (.t 23) (.t 31)), oo 33 (.pick (.t 22) (.k (.bool true)) (.t 32))]) <|
 .cond (.t 33)
 (.seq (.drw [om 34 0, oo 35 (.nilck (.t 34)), oo 36 (.fld 2 (.t 35)), oo 37 (.ld 1 false (.t 36)), om 38 4, om 39 0, oo 40 (.nilck (.t 39)), oo 41 (.fld 3 (.t 40)), oo 42 (.ld 1 false (.t 41)), om 43 4, oo 44 (.idx 1 (.t 37) (.t 38)), on (.st 1 (.t 44) (.k (.int .i64 0))), oo 45 (.idx 1 (.t 42) (.t 43)), on (.st 1 (.t 45) (.k (.int .i64 0)))] [[], [], [], [], [], [], [], [], [], [], [3, 8], [3, 8, 10], [3, 8, 10, 11], [3, 8, 10, 11, 12]]) <|
 .exit 1)
 (.skip)) <|
 .seq (.seq (.reg [om 46 0, oo 47 (.nilck (.t 46)), oo 48 (.fld 2 (.t 47)), oo 49 (.ld 1 false (.t 48)), om 50 4, oo 51 (.idx 1 (.t 49) (.t 50)), oo 52 (.ld 1 false (.t 51)), om 53 5, oo 54 (.bin .neq .sc (.t 52) (.t 53))]) <|
 .cond (.t 54)
 (.drw [om 55 0, oo 56 (.nilck (.t 55)), oo 57 (.fld 2 (.t 56)), oo 58 (.ld 1 false (.t 57)), om 59 4, om 60 0, oo 61 (.nilck (.t 60)), oo 62 (.fld 3 (.t 61)), oo 63 (.ld 1 false (.t 62)), om 64 4, om 65 5, oo 66 (.idx 1 (.t 58) (.t 59)), on (.st 1 (.t 66) (.t 65)), oo 67 (.idx 1 (.t 63) (.t 64)), on (.st 1 (.t 67) (.k (.int .i64 0)))] [[], [], [], [], [], [], [], [], [], [], [], [3, 8], [3, 8, 11], [3, 8, 11, 12], [3, 8, 11, 12, 13]])
 (.skip)) <|
 .seq (.reg [om 68 0, oo 69 (.nilck (.t 68)), oo 70 (.fld 3 (.t 69)), oo 71 (.ld 1 false (.t 70)), om 72 4, oo 73 (.idx 1 (.t 71) (.t 72)), oo 74 (.ld 1 false (.t 73)), oo 75 (.bin .add .sc (.t 74) (.k (.int .i64 1))), oo 76 (.idx 1 (.t 71) (.t 72)), on (.st 1 (.t 76) (.t 75))]) <|
 .seq (.reg [om 77 0, oo 78 (.nilck (.t 77)), oo 79 (.fld 0 (.t 78)), oo 80 (.fld 1 (.t 79)), oo 81 (.ld 1 false (.t 80)), om 82 4, oo 83 (.idx 1 (.t 81) (.t 82)), on (.st 1 (.t 83) (.k (.int .i64 0)))]) <|
 .seq (.reg [om 84 0, oo 85 (.nilck (.t 84)), oo 86 (.fld 3 (.t 85)), oo 87 (.ld 1 false (.t 86)), om 88 4, oo 89 (.idx 1 (.t 87) (.t 88)), oo 90 (.ld 1 false (.t 89)), oo 91 (.bin .eql .sc (.t 90) (.k (.int .i64 3)))]) <|
 .cond (.t 91)
 (.drw [om 92 0, oo 93 (.nilck (.t 92)), oo 94 (.fld 0 (.t 93)), oo 95 (.fld 1 (.t 94)), oo 96 (.ld 1 false (.t 95)), om 97 4, om 98 0, oo 99 (.nilck (.t 98)), oo 100 (.fld 2 (.t 99)), oo 101 (.ld 1 false (.t 100)), om 102 4, om 103 0, oo 104 (.nilck (.t 103)), oo 105 (.fld 3 (.t 104)), oo 106 (.ld 1 false (.t 105)), om 107 4, om 108 5, oo 109 (.idx 1 (.t 96) (.t 97)), on (.st 1 (.t 109) (.t 108)), oo 110 (.idx 1 (.t 101) (.t 102)), on (.st 1 (.t 110) (.k (.int .i64 0))), oo 111 (.idx 1 (.t 106) (.t 107)), on (.st 1 (.t 111) (.k (.int .i64 0)))] [[], [], [], [], [], [], [], [], [], [], [], [], [], [], [], [], [], [4, 9, 14], [4, 9, 14, 17], [4, 9, 14, 17, 18], [4, 9, 14, 17, 18, 19], [4, 9, 14, 17, 18, 19, 20], [4, 9, 14, 17, 18, 19, 20, 21]])
 (.skip)) <|
 .reg [om 14 4, oo 15 (.bin .add .sc (.t 14) (.k (.int .i64 1))), om 4 15]
def l34_0 : DC := .loop [0, 1, 4] [] l34_0b
def f34 : DFn := ⟨2, [],
 .seq (.reg [oo 4 (.mv (.k (.int .i64 0)))]) <|
 .block 0 <|
 l34_0⟩

def l35_1b : DC :=
 .seq (.seq (.reg [om 41 6, oo 42 (.fld 1 (.t 2)), oo 43 (.ld 1 false (.t 42)), oo 44 (.len (.t 43)), oo 45 (.bin .lss .sc (.t 41) (.t 44))]) <|
 .cond (.t 45)
 (.skip)
 (.exit 2)) <|
 .seq (.block 3 <|
 .seq (.drw [oo 48 (.fld 1 (.t 2)), oo 49 (.ld 1 false (.t 48)), om 50 6, oo 51 (.idx 1 (.t 49) (.t 50)), oo 52 (.ld 1 false (.t 51)), oo 53 (.fld 1 (.t 3)), oo 54 (.ld 1 false (.t 53)), om 55 6, oo 56 (.idx 1 (.t 54) (.t 55)), oo 57 (.ld 1 false (.t 56)), oo 58 (.bin .neq .sc (.t 52) (.t 57))] [[], [], [], [1], [1, 3], [], [], [], [6], [6, 8], []]) <|
 .cond (.t 58)
 (.seq (.reg [oo 4 (.mv (.k (.bool false)))]) <|
 .ret)
 (.skip)) <|
 .reg [om 46 6, oo 47 (.bin .add .sc (.t 46) (.k (.int .i64 1))), om 6 47]
def l35_1 : DC := .loop [2, 3, 6] [2, 3] l35_1b
def l35_0b : DC :=
 .seq (.seq (.reg [om 23 5, oo 24 (.fld 0 (.t 2)), oo 25 (.ld 1 false (.t 24)), oo 26 (.len (.t 25)), oo 27 (.bin .lss .sc (.t 23) (.t 26))]) <|
 .cond (.t 27)
 (.skip)
 (.exit 0)) <|
 .seq (.block 1 <|
 .seq (.drw [oo 30 (.fld 0 (.t 2)), oo 31 (.ld 1 false (.t 30)), om 32 5, oo 33 (.idx 1 (.t 31) (.t 32)), oo 34 (.ld 1 false (.t 33)), oo 35 (.fld 0 (.t 3)), oo 36 (.ld 1 false (.t 35)), om 37 5, oo 38 (.idx 1 (.t 36) (.t 37)), oo 39 (.ld 1 false (.t 38)), oo 40 (.bin .neq .bl (.t 34) (.t 39))] [[], [], [], [1], [1, 3], [], [], [], [6], [6, 8], []]) <|
 .cond (.t 40)
 (.seq (.reg [oo 4 (.mv (.k (.bool false)))]) <|
 .ret)
 (.skip)) <|
 .reg [om 28 5, oo 29 (.bin .add .sc (.t 28) (.k (.int .i64 1))), om 5 29]
def l35_0 : DC := .loop [2, 3, 5] [2, 3] l35_0b
def f35 : DFn := ⟨2, [.t 4],
 .seq (.reg [oo 2 (.boxL (.t 0)), oo 3 (.boxL (.t 1)), oo 4 (.mv (.k (.bool false)))]) <|
 .seq (.seq (.reg [oo 7 (.fld 0 (.t 2)), oo 8 (.ld 1 false (.t 7)), oo 9 (.len (.t 8)), oo 10 (.fld 0 (.t 3)), oo 11 (.ld 1 false (.t 10)), oo 12 (.len (.t 11)), oo 13 (.bin .neq .sc (.t 9) (.t 12)), om 14 13, of 15 14 (.fld 1 (.t 2)), of 16 14 (.ld 1 false (.t 15)), of 17 14 (.len (.t 16)), of 18 14 (.fld 1 (.t 3)), of 19 14 (.ld 1 false (.t 18)), of 20 14 (.len (.t 19)), of 21 14 (.bin .neq .sc (.t 17) (.t 20)), oo 22 (.pick (.t 14) (.k (.bool true)) (.t 21))]) <|
 .cond (.t 22)
 (.seq (.reg [oo 4 (.mv (.k (.bool false)))]) <|
 .ret)
 (.skip)) <|
 .seq (.seq (.reg [oo 5 (.mv (.k (.int .i64 0)))]) <|
 .block 0 <|
 l35_0) <|
 .seq (.seq (.reg [oo 6 (.mv (.k (.int .i64 0)))]) <|
 .block 2 <|
 l35_1) <|
 .seq (.reg [oo 4 (.mv (.k (.bool true)))]) <|
 .ret⟩

def l36_1b : DC :=
 .seq (.reg [oo 58 (.bin .lss .sc (.t 57) (.t 56))]) <|
 .seq (.cond (.t 58)
 (.skip)
 (.exit 2)) <|
 .seq (.block 3 <|
 .seq (.reg [oo 59 (.idx 6 (.t 55) (.t 57)), oo 60 (.ld 6 true (.t 59)), oo 8 (.alL [.str [], .int .i64 0, .int .i64 0, .nils, .nils, .nils]), on (.st 6 (.t 8) (.t 60))]) <|
 .seq (.reg [om 61 4, oo 62 (.fld 0 (.t 8)), oo 63 (.ld 1 false (.t 62)), oo 64 (.bsl false 1 [.str []] 1 [(0, (.t 63))]), oo 65 (.app 1 16 (.t 61) (.t 64)), om 4 65]) <|
 .seq (.reg [oo 66 (.ld 4 true (.t 1)), oo 67 (.ld 6 true (.t 8)), oo 68 (.call .blind 51 [(.t 66), (.t 67)]), oo 69 (.un .not (.t 68))]) <|
 .cond (.t 69)
 (.seq (.reg [oo 2 (.mv (.k (.bool false)))]) <|
 .ret)
 (.skip)) <|
 .reg [oo 70 (.bin .add .sc (.t 57) (.k (.int .i64 1))), om 57 70]
def l36_1 : DC := .loop [1, 3, 4, 55, 56, 57] [1] l36_1b
def l36_0b : DC :=
 .seq (.reg [oo 37 (.bin .lss .sc (.t 36) (.t 35))]) <|
 .seq (.cond (.t 37)
 (.skip)
 (.exit 0)) <|
 .seq (.block 1 <|
 .seq (.reg [oo 38 (.idx 2 (.t 34) (.t 36)), oo 39 (.ld 2 true (.t 38)), oo 6 (.alL [.str [], .int .i64 0]), on (.st 2 (.t 6) (.t 39))]) <|
 .seq (.reg [om 40 3, oo 41 (.fld 0 (.t 6)), oo 42 (.ld 1 false (.t 41)), oo 43 (.bsl false 1 [.str []] 1 [(0, (.t 42))]), oo 44 (.app 1 16 (.t 40) (.t 43)), om 3 44]) <|
 .seq (.reg [oo 45 (.fld 1 (.t 6)), oo 46 (.ld 1 false (.t 45)), oo 47 (.fld 0 (.t 1)), oo 48 (.ld 1 false (.t 47)), oo 49 (.len (.t 48)), oo 50 (.bin .sub .sc (.t 49) (.k (.int .i64 1))), oo 51 (.call .blind 50 [(.t 46), (.k (.int .i64 0)), (.t 50)]), oo 52 (.un .not (.t 51))]) <|
 .cond (.t 52)
 (.seq (.reg [oo 2 (.mv (.k (.bool false)))]) <|
 .ret)
 (.skip)) <|
 .reg [oo 53 (.bin .add .sc (.t 36) (.k (.int .i64 1))), om 36 53]
def l36_0 : DC := .loop [1, 3, 4, 34, 35, 36] [1] l36_0b
def f36 : DFn := ⟨1, [.t 2],
 .seq (.reg [oo 1 (.boxL (.t 0)), oo 2 (.mv (.k (.bool false)))]) <|
 .seq (.reg [oo 3 (.mv (.k (.nils))), oo 4 (.mv (.k (.nils)))]) <|
 .seq (.seq (.reg [oo 9 (.fld 0 (.t 1)), oo 10 (.ld 1 false (.t 9)), oo 11 (.len (.t 10)), oo 12 (.call .blind 50 [(.t 11), (.k (.int .i64 1)), (.k (.int .i64 10))]), oo 13 (.un .not (.t 12)), om 14 13, of 15 14 (.fld 2 (.t 1)), of 16 14 (.ld 1 false (.t 15)), of 17 14 (.len (.t 16)), of 18 14 (.call .blind 50 [(.t 17), (.k (.int .i64 1)), (.k (.int .i64 6))]), of 19 14 (.un .not (.t 18)), oo 20 (.pick (.t 14) (.k (.bool true)) (.t 19)), om 21 20, of 22 21 (.fld 1 (.t 1)), of 23 21 (.ld 1 false (.t 22)), of 24 21 (.len (.t 23)), of 25 21 (.bin .gtr .sc (.t 24) (.k (.int .i64 5))), oo 26 (.pick (.t 21) (.k (.bool true)) (.t 25)), om 27 26, of 28 27 (.fld 3 (.t 1)), of 29 27 (.ld 1 false (.t 28)), of 30 27 (.len (.t 29)), of 31 27 (.bin .gtr .sc (.t 30) (.k (.int .i64 6))), oo 32 (.pick (.t 27) (.k (.bool true)) (.t 31))]) <|
 .cond (.t 32)
 (.seq (.reg [oo 2 (.mv (.k (.bool false)))]) <|
 .ret)
 (.skip)) <|
 .seq (.seq (.reg [oo 33 (.fld 1 (.t 1)), oo 34 (.ld 1 false (.t 33)), oo 35 (.len (.t 34)), oo 36 (.mv (.k (.int .i64 0)))]) <|
 .block 0 <|
 l36_0) <|
 .seq (.seq (.reg [oo 54 (.fld 3 (.t 1)), oo 55 (.ld 1 false (.t 54)), oo 56 (.len (.t 55)), oo 57 (.mv (.k (.int .i64 0)))]) <|
 .block 2 <|
 l36_1) <|
 .seq (.reg [oo 71 (.fld 0 (.t 1)), oo 72 (.ld 1 false (.t 71)), oo 73 (.call .blind 52 [(.t 72)]), om 74 73, ot 75 74 (.fld 2 (.t 1)), ot 76 74 (.ld 1 false (.t 75)), ot 77 74 (.call .blind 52 [(.t 76)]), oo 78 (.pick (.t 74) (.t 77) (.k (.bool false))), om 79 78, omt 80 3 79, ot 81 79 (.call .blind 52 [(.t 80)]), oo 82 (.pick (.t 79) (.t 81) (.k (.bool false))), om 83 82, omt 84 4 83, ot 85 83 (.call .blind 52 [(.t 84)]), oo 86 (.pick (.t 83) (.t 85) (.k (.bool false))), om 2 86]) <|
 .ret⟩

def f37 : DFn := ⟨2, [.cell 4 3 true],
 .seq (.reg [oo 2 (.boxL (.t 0)), oo 4 (.alL [.int .i64 0, .int .i64 0, .int .i64 0])]) <|
 .seq (.seq (.reg [om 5 1, oo 6 (.bin .eql .sc (.t 5) (.k (.int .i64 0))), om 7 6, omf 8 1 7, of 9 7 (.fld 0 (.t 2)), of 10 7 (.ld 1 false (.t 9)), of 11 7 (.bin .eql .sc (.t 8) (.t 10)), oo 12 (.pick (.t 7) (.k (.bool true)) (.t 11))]) <|
 .cond (.t 12)
 (.seq (.reg [oo 13 (.fld 0 (.t 2)), oo 14 (.ld 1 false (.t 13)), oo 15 (.build [.int .i64 0, .int .i64 0, .int .i64 0] [(0, 1, (.t 14))]), on (.st 3 (.t 4) (.t 15))]) <|
 .ret)
 (.skip)) <|
 .seq (.seq (.reg [om 16 1, oo 17 (.fld 1 (.t 2)), oo 18 (.ld 1 false (.t 17)), oo 19 (.bin .neq .sc (.t 16) (.t 18))]) <|
 .cond (.t 19)
 (.reg [oo 20 (.fld 2 (.t 2)), on (.st 1 (.t 20) (.k (.int .i64 0)))])
 (.skip)) <|
 .seq (.reg [om 21 1, oo 22 (.fld 2 (.t 2)), oo 23 (.ld 1 false (.t 22)), oo 24 (.bin .add .sc (.t 23) (.k (.int .i64 1))), oo 25 (.build [.int .i64 0, .int .i64 0, .int .i64 0] [(1, 1, (.t 21)), (2, 1, (.t 24))]), on (.st 3 (.t 2) (.t 25))]) <|
 .seq (.seq (.reg [oo 26 (.fld 2 (.t 2)), oo 27 (.ld 1 false (.t 26)), oo 28 (.bin .geq .sc (.t 27) (.k (.int .i64 3)))]) <|
 .cond (.t 28)
 (.seq (.reg [om 29 1, oo 30 (.build [.int .i64 0, .int .i64 0, .int .i64 0] [(0, 1, (.t 29))]), on (.st 3 (.t 4) (.t 30))]) <|
 .ret)
 (.skip)) <|
 .seq (.reg [oo 31 (.ld 3 true (.t 2)), on (.st 3 (.t 4) (.t 31))]) <|
 .ret⟩

def f38 : DFn := ⟨1, [.t 2],
 .seq (.reg [oo 2 (.mv (.k (.nils)))]) <|
 .seq (.seq (.reg [om 3 0, oo 4 (.bin .eql .ns (.t 3) (.k (.nils)))]) <|
 .cond (.t 4)
 (.seq (.reg [oo 2 (.mv (.k (.nils)))]) <|
 .ret)
 (.skip)) <|
 .seq (.reg [oo 5 (.bsl false 1 [.bool false] 0 []), om 6 0, oo 7 (.app 1 1 (.t 5) (.t 6)), om 2 7]) <|
 .ret⟩

def l39_1b : DC :=
 .seq (.seq (.reg [om 17 4, om 18 3, oo 19 (.bin .lss .sc (.t 17) (.t 18))]) <|
 .cond (.t 19)
 (.skip)
 (.exit 2)) <|
 .seq (.block 3 <|
 .seq (.drw [om 22 0, om 23 4, oo 24 (.idx 1 (.t 22) (.t 23)), oo 25 (.ld 1 false (.t 24)), om 26 0, om 27 3, oo 28 (.idx 1 (.t 26) (.t 27)), oo 29 (.ld 1 false (.t 28)), oo 30 (.bin .eql .sc (.t 25) (.t 29))] [[], [], [], [2], [], [], [], [6], []]) <|
 .cond (.t 30)
 (.seq (.reg [oo 2 (.mv (.k (.bool false)))]) <|
 .ret)
 (.skip)) <|
 .reg [om 20 4, oo 21 (.bin .add .sc (.t 20) (.k (.int .i64 1))), om 4 21]
def l39_1 : DC := .loop [0, 3, 4] [] l39_1b
def l39_0b : DC :=
 .seq (.seq (.reg [om 5 3, om 6 0, oo 7 (.len (.t 6)), oo 8 (.bin .lss .sc (.t 5) (.t 7))]) <|
 .cond (.t 8)
 (.skip)
 (.exit 0)) <|
 .seq (.block 1 <|
 .seq (.seq (.reg [om 11 0, om 12 3, oo 13 (.idx 1 (.t 11) (.t 12)), oo 14 (.ld 1 false (.t 13)), oo 15 (.call .blind 53 [(.t 14)]), oo 16 (.un .not (.t 15))]) <|
 .cond (.t 16)
 (.seq (.reg [oo 2 (.mv (.k (.bool false)))]) <|
 .ret)
 (.skip)) <|
 .seq (.reg [oo 4 (.mv (.k (.int .i64 0)))]) <|
 .block 2 <|
 l39_1) <|
 .reg [om 9 3, oo 10 (.bin .add .sc (.t 9) (.k (.int .i64 1))), om 3 10]
def l39_0 : DC := .loop [0, 3] [] l39_0b
def f39 : DFn := ⟨1, [.t 2],
 .seq (.reg [oo 2 (.mv (.k (.bool false)))]) <|
 .seq (.seq (.reg [oo 3 (.mv (.k (.int .i64 0)))]) <|
 .block 0 <|
 l39_0) <|
 .seq (.reg [oo 2 (.mv (.k (.bool true)))]) <|
 .ret⟩

def l40_1b : DC :=
 .seq (.seq (.reg [om 87 7, oo 88 (.fld 1 (.t 2)), oo 89 (.ld 1 false (.t 88)), oo 90 (.len (.t 89)), oo 91 (.bin .lss .sc (.t 87) (.t 90))]) <|
 .cond (.t 91)
 (.skip)
 (.exit 2)) <|
 .seq (.block 3 <|
 .seq (.drw [oo 94 (.fld 3 (.t 3)), oo 95 (.ld 1 false (.t 94)), oo 96 (.fld 1 (.t 2)), oo 97 (.ld 1 false (.t 96)), om 98 7, oo 99 (.idx 2 (.t 97) (.t 98)), oo 100 (.fld 1 (.t 99)), oo 101 (.ld 1 false (.t 100)), oo 102 (.call .blind 48 [(.t 95), (.t 101)])] [[], [], [], [], [], [3], [], [3, 5], [1, 3, 5, 7]]) <|
 .cond (.t 102)
 (.reg [om 103 6, oo 104 (.bin .add .sc (.t 103) (.k (.int .i64 1))), om 6 104])
 (.skip)) <|
 .reg [om 92 7, oo 93 (.bin .add .sc (.t 92) (.k (.int .i64 1))), om 7 93]
def l40_1 : DC := .loop [2, 3, 6, 7] [2, 3] l40_1b
def l40_0b : DC :=
 .seq (.seq (.reg [om 51 5, oo 52 (.fld 3 (.t 3)), oo 53 (.ld 1 false (.t 52)), oo 54 (.len (.t 53)), oo 55 (.bin .lss .sc (.t 51) (.t 54))]) <|
 .cond (.t 55)
 (.skip)
 (.exit 0)) <|
 .seq (.block 1 <|
 .seq (.drw [oo 58 (.fld 3 (.t 3)), oo 59 (.ld 1 false (.t 58)), om 60 5, oo 61 (.idx 1 (.t 59) (.t 60)), oo 62 (.ld 1 false (.t 61)), oo 63 (.bin .lss .sc (.t 62) (.k (.int .i64 0))), om 64 63, of 65 64 (.fld 3 (.t 3)), of 66 64 (.ld 1 false (.t 65)), omf 67 5 64, of 68 64 (.idx 1 (.t 66) (.t 67)), of 69 64 (.ld 1 false (.t 68)), of 70 64 (.fld 0 (.t 2)), of 71 64 (.ld 1 false (.t 70)), of 72 64 (.len (.t 71)), of 73 64 (.bin .geq .sc (.t 69) (.t 72)), oo 74 (.pick (.t 64) (.k (.bool true)) (.t 73)), om 75 74, of 76 75 (.fld 3 (.t 3)), of 77 75 (.ld 1 false (.t 76)), omf 78 5 75, of 79 75 (.slc 1 (.t 77) none (some (.t 78)) none), of 80 75 (.fld 3 (.t 3)), of 81 75 (.ld 1 false (.t 80)), omf 82 5 75, of 83 75 (.idx 1 (.t 81) (.t 82)), of 84 75 (.ld 1 false (.t 83)), of 85 75 (.call .blind 48 [(.t 79), (.t 84)]), oo 86 (.pick (.t 75) (.k (.bool true)) (.t 85))] [[], [], [], [1], [1, 3], [], [], [], [1, 3, 4], [], [1, 3, 4, 8], [1, 3, 4, 8, 10], [], [1, 3, 4], [], [], [], [], [], [1, 3, 4, 8, 10, 11, 13], [], [], [], [1, 3, 4, 8, 10, 11, 13], [], [1, 3, 4, 8, 10, 11, 13, 23], [1, 3, 4, 8, 10, 11, 13, 23, 25], [1, 3, 4, 8, 10, 11, 13, 19, 23, 25, 26], []]) <|
 .cond (.t 86)
 (.seq (.reg [oo 4 (.mv (.k (.bool false)))]) <|
 .ret)
 (.skip)) <|
 .reg [om 56 5, oo 57 (.bin .add .sc (.t 56) (.k (.int .i64 1))), om 5 57]
def l40_0 : DC := .loop [2, 3, 5] [2, 3] l40_0b
def f40 : DFn := ⟨2, [.t 4],
 .seq (.reg [oo 2 (.boxL (.t 0)), oo 3 (.boxL (.t 1)), oo 4 (.mv (.k (.bool false)))]) <|
 .seq (.seq (.reg [oo 8 (.fld 1 (.t 3)), oo 9 (.ld 1 false (.t 8)), oo 10 (.bin .lss .sc (.t 9) (.k (.int .i64 0))), om 11 10, of 12 11 (.fld 1 (.t 3)), of 13 11 (.ld 1 false (.t 12)), of 14 11 (.fld 2 (.t 2)), of 15 11 (.ld 1 false (.t 14)), of 16 11 (.len (.t 15)), of 17 11 (.bin .geq .sc (.t 13) (.t 16)), oo 18 (.pick (.t 11) (.k (.bool true)) (.t 17)), om 19 18, of 20 19 (.fld 2 (.t 3)), of 21 19 (.ld 1 false (.t 20)), of 22 19 (.bin .lss .sc (.t 21) (.k (.int .i64 0))), oo 23 (.pick (.t 19) (.k (.bool true)) (.t 22)), om 24 23, of 25 24 (.fld 2 (.t 3)), of 26 24 (.ld 1 false (.t 25)), of 27 24 (.fld 2 (.t 2)), of 28 24 (.ld 1 false (.t 27)), of 29 24 (.len (.t 28)), of 30 24 (.bin .geq .sc (.t 26) (.t 29)), oo 31 (.pick (.t 24) (.k (.bool true)) (.t 30)), om 32 31, of 33 32 (.fld 1 (.t 3)), of 34 32 (.ld 1 false (.t 33)), of 35 32 (.fld 2 (.t 3)), of 36 32 (.ld 1 false (.t 35)), of 37 32 (.bin .eql .sc (.t 34) (.t 36)), oo 38 (.pick (.t 32) (.k (.bool true)) (.t 37)), om 39 38, of 40 39 (.fld 3 (.t 3)), of 41 39 (.ld 1 false (.t 40)), of 42 39 (.len (.t 41)), of 43 39 (.bin .lss .sc (.t 42) (.k (.int .i64 1))), oo 44 (.pick (.t 39) (.k (.bool true)) (.t 43)), om 45 44, of 46 45 (.fld 3 (.t 3)), of 47 45 (.ld 1 false (.t 46)), of 48 45 (.len (.t 47)), of 49 45 (.bin .gtr .sc (.t 48) (.k (.int .i64 5))), oo 50 (.pick (.t 45) (.k (.bool true)) (.t 49))]) <|
 .cond (.t 50)
 (.seq (.reg [oo 4 (.mv (.k (.bool false)))]) <|
 .ret)
 (.skip)) <|
 .seq (.seq (.reg [oo 5 (.mv (.k (.int .i64 0)))]) <|
 .block 0 <|
 l40_0) <|
 .seq (.reg [oo 6 (.mv (.k (.int .i64 0)))]) <|
 .seq (.seq (.reg [oo 7 (.mv (.k (.int .i64 0)))]) <|
 .block 2 <|
 l40_1) <|
 .seq (.reg [oo 105 (.fld 4 (.t 3)), oo 106 (.ld 1 false (.t 105)), oo 107 (.len (.t 106)), om 108 6, oo 109 (.bin .eql .sc (.t 107) (.t 108)), om 110 109, ot 111 110 (.ld 4 true (.t 2)), ot 112 110 (.fld 4 (.t 3)), ot 113 110 (.ld 1 false (.t 112)), ot 114 110 (.fld 3 (.t 3)), ot 115 110 (.ld 1 false (.t 114)), ot 116 110 (.call .blind 54 [(.t 111), (.t 113), (.t 115), (.k (.bool true))]), oo 117 (.pick (.t 110) (.t 116) (.k (.bool false))), om 118 117, ot 119 118 (.ld 4 true (.t 2)), ot 120 118 (.fld 5 (.t 3)), ot 121 118 (.ld 1 false (.t 120)), ot 122 118 (.fld 3 (.t 3)), ot 123 118 (.ld 1 false (.t 122)), ot 124 118 (.call .blind 54 [(.t 119), (.t 121), (.t 123), (.k (.bool false))]), oo 125 (.pick (.t 118) (.t 124) (.k (.bool false))), om 4 125]) <|
 .ret⟩

def f44 : DFn := ⟨2, [.t 4],
 .seq (.reg [oo 4 (.mv (.k (.bool false)))]) <|
 .seq (.reg [om 5 0, om 6 1, oo 7 (.call .blind 57 [(.t 5), (.t 6)]), oo 8 (.bin .geq .sc (.t 7) (.k (.int .i64 0))), om 4 8]) <|
 .ret⟩

def l48_0b : DC :=
 .seq (.seq (.reg [om 6 5, om 7 0, oo 8 (.len (.t 7)), oo 9 (.bin .lss .sc (.t 6) (.t 8))]) <|
 .cond (.t 9)
 (.skip)
 (.exit 0)) <|
 .seq (.block 1 <|
 .seq (.reg [om 12 0, om 13 5, oo 14 (.idx 1 (.t 12) (.t 13)), oo 15 (.ld 1 false (.t 14)), om 16 1, oo 17 (.bin .eql .sc (.t 15) (.t 16))]) <|
 .cond (.t 17)
 (.seq (.reg [oo 4 (.mv (.k (.bool true)))]) <|
 .ret)
 (.skip)) <|
 .reg [om 10 5, oo 11 (.bin .add .sc (.t 10) (.k (.int .i64 1))), om 5 11]
def l48_0 : DC := .loop [0, 1, 5] [] l48_0b
def f48 : DFn := ⟨2, [.t 4],
 .seq (.reg [oo 4 (.mv (.k (.bool false)))]) <|
 .seq (.seq (.reg [oo 5 (.mv (.k (.int .i64 0)))]) <|
 .block 0 <|
 l48_0) <|
 .seq (.reg [oo 4 (.mv (.k (.bool false)))]) <|
 .ret⟩

def f50 : DFn := ⟨3, [.t 6],
 .seq (.reg [oo 6 (.mv (.k (.bool false)))]) <|
 .seq (.reg [om 7 0, om 8 1, oo 9 (.bin .geq .sc (.t 7) (.t 8)), om 10 9, omt 11 0 10, omt 12 2 10, ot 13 10 (.bin .leq .sc (.t 11) (.t 12)), oo 14 (.pick (.t 10) (.t 13) (.k (.bool false))), om 6 14]) <|
 .ret⟩

def l51_0b : DC :=
 .seq (.reg [oo 61 (.bin .lss .sc (.t 60) (.t 59))]) <|
 .seq (.cond (.t 61)
 (.skip)
 (.exit 0)) <|
 .seq (.block 1 <|
 .seq (.reg [oo 62 (.idx 2 (.t 58) (.t 60)), oo 63 (.ld 2 true (.t 62)), oo 8 (.alL [.str [], .int .i64 0]), on (.st 2 (.t 8) (.t 63))]) <|
 .seq (.reg [oo 64 (.fld 3 (.t 3)), oo 65 (.ld 1 false (.t 64)), oo 66 (.fld 1 (.t 8)), oo 67 (.ld 1 false (.t 66)), oo 68 (.call .blind 44 [(.t 65), (.t 67)])]) <|
 .cond (.t 68)
 (.reg [om 69 6, oo 70 (.bin .add .sc (.t 69) (.k (.int .i64 1))), om 6 70])
 (.skip)) <|
 .reg [oo 71 (.bin .add .sc (.t 60) (.k (.int .i64 1))), om 60 71]
def l51_0 : DC := .loop [3, 6, 58, 59, 60] [3] l51_0b
def f51 : DFn := ⟨2, [.t 4],
 .seq (.reg [oo 2 (.boxL (.t 0)), oo 3 (.boxL (.t 1)), oo 4 (.mv (.k (.bool false)))]) <|
 .seq (.reg [oo 9 (.fld 2 (.t 2)), oo 10 (.ld 1 false (.t 9)), oo 11 (.len (.t 10)), oo 12 (.bin .sub .sc (.t 11) (.k (.int .i64 1))), om 5 12]) <|
 .seq (.seq (.reg [oo 13 (.fld 1 (.t 3)), oo 14 (.ld 1 false (.t 13)), om 15 5, oo 16 (.call .blind 50 [(.t 14), (.k (.int .i64 0)), (.t 15)]), oo 17 (.un .not (.t 16)), om 18 17, of 19 18 (.fld 2 (.t 3)), of 20 18 (.ld 1 false (.t 19)), omf 21 5 18, of 22 18 (.call .blind 50 [(.t 20), (.k (.int .i64 0)), (.t 21)]), of 23 18 (.un .not (.t 22)), oo 24 (.pick (.t 18) (.k (.bool true)) (.t 23)), om 25 24, of 26 25 (.fld 1 (.t 3)), of 27 25 (.ld 1 false (.t 26)), of 28 25 (.fld 2 (.t 3)), of 29 25 (.ld 1 false (.t 28)), of 30 25 (.bin .eql .sc (.t 27) (.t 29)), oo 31 (.pick (.t 25) (.k (.bool true)) (.t 30)), om 32 31, of 33 32 (.ld 4 true (.t 2)), of 34 32 (.fld 3 (.t 3)), of 35 32 (.ld 1 false (.t 34)), of 36 32 (.call .blind 60 [(.t 33), (.t 35)]), of 37 32 (.un .not (.t 36)), oo 38 (.pick (.t 32) (.k (.bool true)) (.t 37)), om 39 38, of 40 39 (.ld 4 true (.t 2)), of 41 39 (.fld 4 (.t 3)), of 42 39 (.ld 1 false (.t 41)), of 43 39 (.fld 3 (.t 3)), of 44 39 (.ld 1 false (.t 43)), of 45 39 (.call .blind 61 [(.t 40), (.t 42), (.t 44), (.k (.bool true))]), of 46 39 (.un .not (.t 45)), oo 47 (.pick (.t 39) (.k (.bool true)) (.t 46)), om 48 47, of 49 48 (.ld 4 true (.t 2)), of 50 48 (.fld 5 (.t 3)), of 51 48 (.ld 1 false (.t 50)), of 52 48 (.fld 3 (.t 3)), of 53 48 (.ld 1 false (.t 52)), of 54 48 (.call .blind 61 [(.t 49), (.t 51), (.t 53), (.k (.bool false))]), of 55 48 (.un .not (.t 54)), oo 56 (.pick (.t 48) (.k (.bool true)) (.t 55))]) <|
 .cond (.t 56)
 (.seq (.reg [oo 4 (.mv (.k (.bool false)))]) <|
 .ret)
 (.skip)) <|
 .seq (.reg [oo 6 (.mv (.k (.int .i64 0)))]) <|
 .seq (.seq (.reg [oo 57 (.fld 1 (.t 2)), oo 58 (.ld 1 false (.t 57)), oo 59 (.len (.t 58)), oo 60 (.mv (.k (.int .i64 0)))]) <|
 .block 0 <|
 l51_0) <|
 .seq (.reg [om 72 6, oo 73 (.fld 4 (.t 3)), oo 74 (.ld 1 false (.t 73)), oo 75 (.len (.t 74)), oo 76 (.bin .eql .sc (.t 72) (.t 75)), om 4 76]) <|
 .ret⟩

def l52_0b : DC :=
 .seq (.reg [oo 8 (.bin .lss .sc (.t 7) (.t 6))]) <|
 .seq (.cond (.t 8)
 (.skip)
 (.exit 0)) <|
 .seq (.block 1 <|
 .seq (.reg [om 9 7, oo 10 (.idx 1 (.t 5) (.t 7)), oo 11 (.ld 1 false (.t 10)), om 3 9, om 4 11]) <|
 .seq (.reg [om 12 4, oo 13 (.call .blind 62 [(.t 12)]), oo 14 (.un .not (.t 13)), om 15 14, omf 16 4 15, of 17 15 (.bin .eql .sc (.t 16) (.k (.str [115, 101, 116]))), oo 18 (.pick (.t 15) (.k (.bool true)) (.t 17)), om 19 18, omf 20 4 19, of 21 19 (.bin .eql .sc (.t 20) (.k (.str [102, 108, 97, 110, 107]))), oo 22 (.pick (.t 19) (.k (.bool true)) (.t 21)), om 23 22, omf 24 0 23, omf 25 3 23, of 26 23 (.slc 1 (.t 24) none (some (.t 25)) none), omf 27 4 23, of 28 23 (.call .blind 63 [(.t 26), (.t 27)]), oo 29 (.pick (.t 23) (.k (.bool true)) (.t 28))]) <|
 .cond (.t 29)
 (.seq (.reg [oo 2 (.mv (.k (.bool false)))]) <|
 .ret)
 (.skip)) <|
 .reg [oo 30 (.bin .add .sc (.t 7) (.k (.int .i64 1))), om 7 30]
def l52_0 : DC := .loop [0, 5, 6, 7] [] l52_0b
def f52 : DFn := ⟨1, [.t 2],
 .seq (.reg [oo 2 (.mv (.k (.bool false)))]) <|
 .seq (.seq (.reg [om 5 0, oo 6 (.len (.t 5)), oo 7 (.mv (.k (.int .i64 0)))]) <|
 .block 0 <|
 l52_0) <|
 .seq (.reg [oo 2 (.mv (.k (.bool true)))]) <|
 .ret⟩

def f53 : DFn := ⟨1, [.t 2],
 .seq (.reg [oo 2 (.mv (.k (.bool false)))]) <|
 .seq (.reg [om 3 0, oo 4 (.call .blind 64 [(.t 3)]), om 5 4, omt 6 0 5, ot 7 5 (.bin .neq .sc (.t 6) (.k (.str [115, 101, 116]))), oo 8 (.pick (.t 5) (.t 7) (.k (.bool false))), om 9 8, omt 10 0 9, ot 11 9 (.bin .neq .sc (.t 10) (.k (.str [102, 108, 97, 110, 107]))), oo 12 (.pick (.t 9) (.t 11) (.k (.bool false))), om 2 12]) <|
 .ret⟩

def l54_0b : DC :=
 .seq (.seq (.reg [om 11 9, om 12 1, oo 13 (.len (.t 12)), oo 14 (.bin .lss .sc (.t 11) (.t 13))]) <|
 .cond (.t 14)
 (.skip)
 (.exit 0)) <|
 .seq (.block 1 <|
 .seq (.reg [om 17 1, om 18 9, oo 19 (.idx 2 (.t 17) (.t 18)), oo 20 (.fld 0 (.t 19)), oo 21 (.ld 1 false (.t 20)), om 10 21]) <|
 .seq (.reg [om 22 10, oo 23 (.bin .lss .sc (.t 22) (.k (.int .i64 0))), om 24 23, omf 25 10 24, of 26 24 (.fld 1 (.t 4)), of 27 24 (.ld 1 false (.t 26)), of 28 24 (.len (.t 27)), of 29 24 (.bin .geq .sc (.t 25) (.t 28)), oo 30 (.pick (.t 24) (.k (.bool true)) (.t 29)), om 31 30, omf 32 9 31, of 33 31 (.bin .gtr .sc (.t 32) (.k (.int .i64 0))), omf 34 33 31, omt 35 1 34, omt 36 9 34, ot 37 34 (.bin .sub .sc (.t 36) (.k (.int .i64 1))), ot 38 34 (.idx 2 (.t 35) (.t 37)), ot 39 34 (.fld 0 (.t 38)), ot 40 34 (.ld 1 false (.t 39)), omt 41 10 34, ot 42 34 (.bin .geq .sc (.t 40) (.t 41)), of 43 31 (.pick (.t 34) (.t 42) (.k (.bool false))), oo 44 (.pick (.t 31) (.k (.bool true)) (.t 43)), om 45 44, omf 46 2 45, of 47 45 (.fld 1 (.t 4)), of 48 45 (.ld 1 false (.t 47)), omf 49 10 45, of 50 45 (.idx 2 (.t 48) (.t 49)), of 51 45 (.fld 1 (.t 50)), of 52 45 (.ld 1 false (.t 51)), of 53 45 (.call .blind 48 [(.t 46), (.t 52)]), omf 54 3 45, of 55 45 (.bin .neq .bl (.t 53) (.t 54)), oo 56 (.pick (.t 45) (.k (.bool true)) (.t 55))]) <|
 .cond (.t 56)
 (.seq (.reg [oo 8 (.mv (.k (.bool false)))]) <|
 .ret)
 (.skip)) <|
 .reg [om 15 9, oo 16 (.bin .add .sc (.t 15) (.k (.int .i64 1))), om 9 16]
def l54_0 : DC := .loop [1, 2, 3, 4, 9] [4] l54_0b
def f54 : DFn := ⟨4, [.t 8],
 .seq (.reg [oo 4 (.boxL (.t 0)), oo 8 (.mv (.k (.bool false)))]) <|
 .seq (.seq (.reg [oo 9 (.mv (.k (.int .i64 0)))]) <|
 .block 0 <|
 l54_0) <|
 .seq (.reg [oo 8 (.mv (.k (.bool true)))]) <|
 .ret⟩

def l57_0b : DC :=
 .seq (.reg [oo 9 (.bin .lss .sc (.t 8) (.t 7))]) <|
 .seq (.cond (.t 9)
 (.skip)
 (.exit 0)) <|
 .seq (.block 1 <|
 .seq (.reg [om 10 8, om 5 10]) <|
 .seq (.reg [om 11 1, om 12 0, om 13 5, oo 14 (.idx 1 (.t 12) (.t 13)), oo 15 (.ld 1 false (.t 14)), oo 16 (.bin .eql .sc (.t 11) (.t 15))]) <|
 .cond (.t 16)
 (.seq (.reg [om 17 5, om 4 17]) <|
 .ret)
 (.skip)) <|
 .reg [oo 18 (.bin .add .sc (.t 8) (.k (.int .i64 1))), om 8 18]
def l57_0 : DC := .loop [0, 1, 7, 8] [] l57_0b
def f57 : DFn := ⟨2, [.t 4],
 .seq (.reg [oo 4 (.mv (.k (.int .i64 0)))]) <|
 .seq (.seq (.reg [om 6 0, oo 7 (.len (.t 6)), oo 8 (.mv (.k (.int .i64 0)))]) <|
 .block 0 <|
 l57_0) <|
 .seq (.reg [oo 4 (.mv (.k (.int .i64 (-1))))]) <|
 .ret⟩

def l60_0b : DC :=
 .seq (.reg [oo 10 (.bin .lss .sc (.t 9) (.t 8))]) <|
 .seq (.cond (.t 10)
 (.skip)
 (.exit 0)) <|
 .seq (.block 1 <|
 .seq (.reg [om 11 9, oo 12 (.idx 1 (.t 7) (.t 9)), oo 13 (.ld 1 false (.t 12)), om 5 11, om 6 13]) <|
 .seq (.reg [om 14 6, oo 15 (.fld 0 (.t 2)), oo 16 (.ld 1 false (.t 15)), oo 17 (.len (.t 16)), oo 18 (.bin .sub .sc (.t 17) (.k (.int .i64 1))), oo 19 (.call .blind 50 [(.t 14), (.k (.int .i64 0)), (.t 18)]), oo 20 (.un .not (.t 19)), om 21 20, omf 22 1 21, omf 23 5 21, of 24 21 (.slc 1 (.t 22) none (some (.t 23)) none), omf 25 6 21, of 26 21 (.call .blind 44 [(.t 24), (.t 25)]), oo 27 (.pick (.t 21) (.k (.bool true)) (.t 26))]) <|
 .cond (.t 27)
 (.seq (.reg [oo 4 (.mv (.k (.bool false)))]) <|
 .ret)
 (.skip)) <|
 .reg [oo 28 (.bin .add .sc (.t 9) (.k (.int .i64 1))), om 9 28]
def l60_0 : DC := .loop [1, 2, 7, 8, 9] [2] l60_0b
def f60 : DFn := ⟨2, [.t 4],
 .seq (.reg [oo 2 (.boxL (.t 0)), oo 4 (.mv (.k (.bool false)))]) <|
 .seq (.seq (.reg [om 7 1, oo 8 (.len (.t 7)), oo 9 (.mv (.k (.int .i64 0)))]) <|
 .block 0 <|
 l60_0) <|
 .seq (.reg [om 29 1, oo 30 (.len (.t 29)), oo 31 (.call .blind 50 [(.t 30), (.k (.int .i64 1)), (.k (.int .i64 5))]), om 4 31]) <|
 .ret⟩

def l61_0b : DC :=
 .seq (.reg [oo 14 (.bin .lss .sc (.t 13) (.t 12))]) <|
 .seq (.cond (.t 14)
 (.skip)
 (.exit 0)) <|
 .seq (.block 1 <|
 .seq (.reg [om 15 13, oo 16 (.idx 2 (.t 11) (.t 13)), oo 17 (.ld 2 true (.t 16)), oo 10 (.alL [.int .i64 0, .bool false]), om 9 15, on (.st 2 (.t 10) (.t 17))]) <|
 .seq (.drw [oo 18 (.fld 0 (.t 10)), oo 19 (.ld 1 false (.t 18)), oo 20 (.fld 1 (.t 4)), oo 21 (.ld 1 false (.t 20)), oo 22 (.len (.t 21)), oo 23 (.bin .sub .sc (.t 22) (.k (.int .i64 1))), oo 24 (.call .blind 50 [(.t 19), (.k (.int .i64 0)), (.t 23)]), oo 25 (.un .not (.t 24)), om 26 25, omf 27 9 26, of 28 26 (.bin .gtr .sc (.t 27) (.k (.int .i64 0))), omf 29 28 26, omt 30 1 29, omt 31 9 29, ot 32 29 (.bin .sub .sc (.t 31) (.k (.int .i64 1))), ot 33 29 (.idx 2 (.t 30) (.t 32)), ot 34 29 (.fld 0 (.t 33)), ot 35 29 (.ld 1 false (.t 34)), ot 36 29 (.fld 0 (.t 10)), ot 37 29 (.ld 1 false (.t 36)), ot 38 29 (.bin .geq .sc (.t 35) (.t 37)), of 39 26 (.pick (.t 29) (.t 38) (.k (.bool false))), oo 40 (.pick (.t 26) (.k (.bool true)) (.t 39)), om 41 40, omf 42 2 41, of 43 41 (.fld 1 (.t 4)), of 44 41 (.ld 1 false (.t 43)), of 45 41 (.fld 0 (.t 10)), of 46 41 (.ld 1 false (.t 45)), of 47 41 (.idx 2 (.t 44) (.t 46)), of 48 41 (.fld 1 (.t 47)), of 49 41 (.ld 1 false (.t 48)), of 50 41 (.call .blind 44 [(.t 42), (.t 49)]), omf 51 3 41, of 52 41 (.bin .neq .bl (.t 50) (.t 51)), oo 53 (.pick (.t 41) (.k (.bool true)) (.t 52))] [[], [], [], [], [], [], [1, 3], [], [], [], [], [], [], [], [], [1, 3, 6], [], [1, 3, 6, 15], [], [1, 3, 6], [], [], [], [], [], [], [1, 3, 6, 15, 17, 19], [], [1, 3, 6, 15, 17, 19], [1, 3, 6, 15, 17, 19, 26, 28], [], [1, 3, 6, 15, 17, 19, 26, 28, 29], [1, 3, 6, 15, 17, 19, 26, 28, 29, 31], [], [], []]) <|
 .cond (.t 53)
 (.seq (.reg [oo 8 (.mv (.k (.bool false)))]) <|
 .ret)
 (.skip)) <|
 .reg [oo 54 (.bin .add .sc (.t 13) (.k (.int .i64 1))), om 13 54]
def l61_0 : DC := .loop [1, 2, 3, 4, 11, 12, 13] [4] l61_0b
def f61 : DFn := ⟨4, [.t 8],
 .seq (.reg [oo 4 (.boxL (.t 0)), oo 8 (.mv (.k (.bool false)))]) <|
 .seq (.seq (.reg [om 11 1, oo 12 (.len (.t 11)), oo 13 (.mv (.k (.int .i64 0)))]) <|
 .block 0 <|
 l61_0) <|
 .seq (.reg [oo 8 (.mv (.k (.bool true)))]) <|
 .ret⟩

def l62_0b : DC :=
 .seq (.reg [oo 9 (.nxt 8), oo 10 (.ext 0 (.t 9))]) <|
 .seq (.cond (.t 10)
 (.skip)
 (.exit 0)) <|
 .block 1 <|
 .seq (.reg [oo 11 (.ext 1 (.t 9)), oo 12 (.ext 2 (.t 9)), om 4 11, om 5 12]) <|
 .seq (.reg [om 13 5, oo 14 (.bin .geq .sc (.t 13) (.k (.int .i32 48))), om 15 14, omt 16 5 15, ot 17 15 (.bin .leq .sc (.t 16) (.k (.int .i32 57))), oo 18 (.pick (.t 15) (.t 17) (.k (.bool false))), om 19 18, omt 20 4 19, ot 21 19 (.bin .gtr .sc (.t 20) (.k (.int .i64 0))), oo 22 (.pick (.t 19) (.t 21) (.k (.bool false))), om 6 22]) <|
 .seq (.seq (.reg [om 23 0, om 24 4, oo 25 (.call .blind 65 [(.t 23), (.t 24)]), om 26 25, omf 27 5 26, of 28 26 (.call .blind 66 [(.t 27)]), of 29 26 (.un .not (.t 28)), omf 30 29 26, omt 31 6 30, ot 32 30 (.un .not (.t 31)), of 33 26 (.pick (.t 30) (.t 32) (.k (.bool false))), oo 34 (.pick (.t 26) (.k (.bool true)) (.t 33))]) <|
 .cond (.t 34)
 (.seq (.reg [oo 2 (.mv (.k (.bool false)))]) <|
 .ret)
 (.skip)) <|
 .reg [om 35 3, oo 36 (.bin .add .sc (.t 35) (.k (.int .i64 1))), om 3 36]
def l62_0 : DC := .loop [0, 3, 8] [8] l62_0b
def f62 : DFn := ⟨1, [.t 2],
 .seq (.reg [oo 2 (.mv (.k (.bool false)))]) <|
 .seq (.reg [oo 3 (.mv (.k (.int .i64 0)))]) <|
 .seq (.seq (.reg [om 7 0, oo 8 (.rng (.t 7))]) <|
 .block 0 <|
 l62_0) <|
 .seq (.reg [om 37 3, oo 38 (.bin .geq .sc (.t 37) (.k (.int .i64 1))), om 39 38, omt 40 3 39, ot 41 39 (.bin .leq .sc (.t 40) (.k (.int .i64 8))), oo 42 (.pick (.t 39) (.t 41) (.k (.bool false))), om 2 42]) <|
 .ret⟩

def f63 : DFn := ⟨2, [.t 4],
 .seq (.reg [oo 4 (.mv (.k (.bool false)))]) <|
 .seq (.reg [om 5 0, om 6 1, oo 7 (.call .blind 67 [(.t 5), (.t 6)]), oo 8 (.bin .geq .sc (.t 7) (.k (.int .i64 0))), om 4 8]) <|
 .ret⟩

def l64_0b : DC :=
 .seq (.seq (.reg [om 7 4, om 8 3, oo 9 (.len (.t 8)), oo 10 (.bin .lss .sc (.t 7) (.t 9))]) <|
 .cond (.t 10)
 (.skip)
 (.exit 0)) <|
 .seq (.block 1 <|
 .seq (.reg [om 13 3, om 14 4, oo 15 (.idx 3 (.t 13) (.t 14)), oo 16 (.fld 2 (.t 15)), oo 17 (.ld 1 false (.t 16)), om 18 17, omf 19 3 18, omf 20 4 18, of 21 18 (.idx 3 (.t 19) (.t 20)), of 22 18 (.fld 0 (.t 21)), of 23 18 (.ld 1 false (.t 22)), of 24 18 (.call .blind 69 [(.t 23)]), of 25 18 (.un .not (.t 24)), omf 26 25 18, omt 27 4 26, ot 28 26 (.bin .eql .sc (.t 27) (.k (.int .i64 0))), omt 29 28 26, omf 30 3 29, omf 31 4 29, of 32 29 (.idx 3 (.t 30) (.t 31)), of 33 29 (.fld 0 (.t 32)), of 34 29 (.ld 1 false (.t 33)), of 35 29 (.bin .lss .sc (.t 34) (.k (.int .i32 48))), ot 36 26 (.pick (.t 29) (.k (.bool true)) (.t 35)), omt 37 36 26, omf 38 3 37, omf 39 4 37, of 40 37 (.idx 3 (.t 38) (.t 39)), of 41 37 (.fld 0 (.t 40)), of 42 37 (.ld 1 false (.t 41)), of 43 37 (.bin .gtr .sc (.t 42) (.k (.int .i32 57))), ot 44 26 (.pick (.t 37) (.k (.bool true)) (.t 43)), of 45 18 (.pick (.t 26) (.t 44) (.k (.bool false))), oo 46 (.pick (.t 18) (.k (.bool true)) (.t 45))]) <|
 .cond (.t 46)
 (.seq (.reg [oo 2 (.mv (.k (.bool false)))]) <|
 .ret)
 (.skip)) <|
 .reg [om 11 4, oo 12 (.bin .add .sc (.t 11) (.k (.int .i64 1))), om 4 12]
def l64_0 : DC := .loop [3, 4] [] l64_0b
def f64 : DFn := ⟨1, [.t 2],
 .seq (.reg [oo 2 (.mv (.k (.bool false)))]) <|
 .seq (.reg [om 5 0, oo 6 (.call .blind 68 [(.t 5)]), om 3 6]) <|
 .seq (.seq (.reg [oo 4 (.mv (.k (.int .i64 0)))]) <|
 .block 0 <|
 l64_0) <|
 .seq (.reg [om 47 3, oo 48 (.len (.t 47)), oo 49 (.bin .geq .sc (.t 48) (.k (.int .i64 1))), om 50 49, omt 51 3 50, ot 52 50 (.len (.t 51)), ot 53 50 (.bin .leq .sc (.t 52) (.k (.int .i64 8))), oo 54 (.pick (.t 50) (.t 53) (.k (.bool false))), om 2 54]) <|
 .ret⟩

def f65 : DFn := ⟨2, [.t 4],
 .seq (.reg [oo 4 (.mv (.k (.bool false)))]) <|
 .seq (.reg [om 8 0, om 9 1, oo 10 (.slS (.t 8) (some (.t 9)) none), oo 11 (.call .blind 70 [(.t 10)]), om 7 11, oo 12 (.ext 0 (.t 7)), oo 13 (.ext 1 (.t 7)), om 5 12, om 6 13]) <|
 .seq (.reg [om 14 5, oo 15 (.bin .eql .sc (.t 14) (.k (.int .i32 65533))), om 16 15, omt 17 6 16, ot 18 16 (.bin .eql .sc (.t 17) (.k (.int .i64 1))), oo 19 (.pick (.t 16) (.t 18) (.k (.bool false))), om 4 19]) <|
 .ret⟩

def f66 : DFn := ⟨1, [.t 2],
 .seq (.reg [oo 2 (.mv (.k (.bool false)))]) <|
 .seq (.block 0 <|
 .seq (.seq (.reg [om 4 0, oo 5 (.bin .geq .sc (.t 4) (.k (.int .i32 97))), om 6 5, omt 7 0 6, ot 8 6 (.bin .leq .sc (.t 7) (.k (.int .i32 122))), oo 9 (.pick (.t 6) (.t 8) (.k (.bool false))), om 3 9]) <|
 .cond (.t 3)
 (.skip)
 (.reg [om 10 0, oo 11 (.bin .geq .sc (.t 10) (.k (.int .i32 65))), om 12 11, omt 13 0 12, ot 14 12 (.bin .leq .sc (.t 13) (.k (.int .i32 90))), oo 15 (.pick (.t 12) (.t 14) (.k (.bool false))), om 3 15])) <|
 .cond (.t 3)
 (.seq (.reg [oo 2 (.mv (.k (.bool true)))]) <|
 .ret)
 (.skip)) <|
 .seq (.reg [om 16 0, oo 17 (.bin .geq .sc (.t 16) (.k (.int .i32 192))), om 18 17, omt 19 0 18, ot 20 18 (.bin .leq .sc (.t 19) (.k (.int .i32 591))), oo 21 (.pick (.t 18) (.t 20) (.k (.bool false))), om 22 21, omt 23 0 22, ot 24 22 (.bin .neq .sc (.t 23) (.k (.int .i32 215))), oo 25 (.pick (.t 22) (.t 24) (.k (.bool false))), om 26 25, omt 27 0 26, ot 28 26 (.bin .neq .sc (.t 27) (.k (.int .i32 247))), oo 29 (.pick (.t 26) (.t 28) (.k (.bool false))), om 2 29]) <|
 .ret⟩

def l67_0b : DC :=
 .seq (.reg [oo 9 (.bin .lss .sc (.t 8) (.t 7))]) <|
 .seq (.cond (.t 9)
 (.skip)
 (.exit 0)) <|
 .seq (.block 1 <|
 .seq (.reg [om 10 8, om 5 10]) <|
 .seq (.reg [om 11 1, om 12 0, om 13 5, oo 14 (.idx 1 (.t 12) (.t 13)), oo 15 (.ld 1 false (.t 14)), oo 16 (.bin .eql .sc (.t 11) (.t 15))]) <|
 .cond (.t 16)
 (.seq (.reg [om 17 5, om 4 17]) <|
 .ret)
 (.skip)) <|
 .reg [oo 18 (.bin .add .sc (.t 8) (.k (.int .i64 1))), om 8 18]
def l67_0 : DC := .loop [0, 1, 7, 8] [] l67_0b
def f67 : DFn := ⟨2, [.t 4],
 .seq (.reg [oo 4 (.mv (.k (.int .i64 0)))]) <|
 .seq (.seq (.reg [om 6 0, oo 7 (.len (.t 6)), oo 8 (.mv (.k (.int .i64 0)))]) <|
 .block 0 <|
 l67_0) <|
 .seq (.reg [oo 4 (.mv (.k (.int .i64 (-1))))]) <|
 .ret⟩

def l68_0b : DC :=
 .seq (.seq (.reg [om 7 4, om 8 0, oo 9 (.lenS (.t 8)), oo 10 (.bin .lss .sc (.t 7) (.t 9))]) <|
 .cond (.t 10)
 (.skip)
 (.exit 0)) <|
 .block 1 <|
 .seq (.reg [om 12 0, om 13 4, oo 14 (.slS (.t 12) (some (.t 13)) none), oo 15 (.call .blind 70 [(.t 14)]), om 11 15, oo 16 (.ext 0 (.t 11)), oo 17 (.ext 1 (.t 11)), om 5 16, om 6 17]) <|
 .seq (.reg [om 18 3, om 19 5, om 20 6, om 21 5, oo 22 (.bin .eql .sc (.t 21) (.k (.int .i32 65533))), om 23 22, omt 24 6 23, ot 25 23 (.bin .eql .sc (.t 24) (.k (.int .i64 1))), oo 26 (.pick (.t 23) (.t 25) (.k (.bool false))), oo 27 (.build [.int .i32 0, .int .i64 0, .bool false] [(0, 1, (.t 19)), (1, 1, (.t 20)), (2, 1, (.t 26))]), oo 28 (.bsl false 3 [.int .i32 0, .int .i64 0, .bool false] 1 [(0, (.t 27))]), oo 29 (.app 3 24 (.t 18) (.t 28)), om 3 29]) <|
 .reg [om 30 4, om 31 6, oo 32 (.bin .add .sc (.t 30) (.t 31)), om 4 32]
def l68_0 : DC := .loop [0, 3, 4] [] l68_0b
def f68 : DFn := ⟨1, [.t 2],
 .seq (.reg [oo 2 (.mv (.k (.nils)))]) <|
 .seq (.reg [oo 3 (.mv (.k (.nils)))]) <|
 .seq (.seq (.reg [oo 4 (.mv (.k (.int .i64 0)))]) <|
 .block 0 <|
 l68_0) <|
 .seq (.reg [om 33 3, om 2 33]) <|
 .ret⟩

def f69 : DFn := ⟨1, [.t 2],
 .seq (.reg [oo 2 (.mv (.k (.bool false)))]) <|
 .seq (.reg [om 3 0, oo 4 (.bin .geq .sc (.t 3) (.k (.int .i32 97))), om 5 4, omt 6 0 5, ot 7 5 (.bin .leq .sc (.t 6) (.k (.int .i32 122))), oo 8 (.pick (.t 5) (.t 7) (.k (.bool false))), om 9 8, omf 10 0 9, of 11 9 (.bin .geq .sc (.t 10) (.k (.int .i32 65))), omf 12 11 9, omt 13 0 12, ot 14 12 (.bin .leq .sc (.t 13) (.k (.int .i32 90))), of 15 9 (.pick (.t 12) (.t 14) (.k (.bool false))), oo 16 (.pick (.t 9) (.k (.bool true)) (.t 15)), om 17 16, omf 18 0 17, of 19 17 (.bin .geq .sc (.t 18) (.k (.int .i32 192))), omf 20 19 17, omt 21 0 20, ot 22 20 (.bin .leq .sc (.t 21) (.k (.int .i32 591))), of 23 17 (.pick (.t 20) (.t 22) (.k (.bool false))), omf 24 23 17, omt 25 0 24, ot 26 24 (.bin .neq .sc (.t 25) (.k (.int .i32 215))), of 27 17 (.pick (.t 24) (.t 26) (.k (.bool false))), omf 28 27 17, omt 29 0 28, ot 30 28 (.bin .neq .sc (.t 29) (.k (.int .i32 247))), of 31 17 (.pick (.t 28) (.t 30) (.k (.bool false))), oo 32 (.pick (.t 17) (.k (.bool true)) (.t 31)), om 2 32]) <|
 .ret⟩

def f70 : DFn := ⟨1, [.t 2, .t 3],
 .seq (.reg [oo 2 (.mv (.k (.int .i32 0))), oo 3 (.mv (.k (.int .i64 0)))]) <|
 .seq (.seq (.reg [om 4 0, oo 5 (.bin .neq .sc (.t 4) (.k (.str []))), om 6 5, omt 7 0 6, ot 8 6 (.idxS (.t 7) (.k (.int .i64 0))), ot 9 6 (.bin .lss .sc (.t 8) (.k (.int .u8 128))), oo 10 (.pick (.t 6) (.t 9) (.k (.bool false)))]) <|
 .cond (.t 10)
 (.seq (.reg [om 11 0, oo 12 (.idxS (.t 11) (.k (.int .i64 0))), oo 13 (.cvI .i32 (.t 12)), om 2 13, oo 3 (.mv (.k (.int .i64 1)))]) <|
 .ret)
 (.reg [om 15 0, oo 16 (.call .blind 71 [(.t 15)]), om 14 16, oo 17 (.ext 0 (.t 14)), oo 18 (.ext 1 (.t 14)), om 2 17, om 3 18])) <|
 .ret⟩

def f71 : DFn := ⟨1, [.t 2, .t 3],
 .seq (.reg [oo 2 (.mv (.k (.int .i32 0))), oo 3 (.mv (.k (.int .i64 0)))]) <|
 .seq (.reg [om 13 0, oo 14 (.lenS (.t 13)), om 4 14]) <|
 .seq (.seq (.reg [om 15 4, oo 16 (.bin .lss .sc (.t 15) (.k (.int .i64 1)))]) <|
 .cond (.t 16)
 (.seq (.reg [oo 2 (.mv (.k (.int .i32 65533))), oo 3 (.mv (.k (.int .i64 0)))]) <|
 .ret)
 (.skip)) <|
 .seq (.reg [om 17 0, oo 18 (.idxS (.t 17) (.k (.int .i64 0))), om 5 18]) <|
 .seq (.reg [om 19 5, oo 20 (.idxA 1 256 (.g 0) (.t 19)), oo 21 (.ld 1 false (.t 20)), om 6 21]) <|
 .seq (.seq (.reg [om 22 6, oo 23 (.bin .geq .sc (.t 22) (.k (.int .u8 240)))]) <|
 .cond (.t 23)
 (.seq (.reg [om 24 6, oo 25 (.cvI .i32 (.t 24)), oo 26 (.bin .shl .sc (.t 25) (.k (.int .u64 31))), oo 27 (.bin .shr .sc (.t 26) (.k (.int .u64 31))), om 7 27]) <|
 .seq (.reg [om 28 0, oo 29 (.idxS (.t 28) (.k (.int .i64 0))), oo 30 (.cvI .i32 (.t 29)), om 31 7, oo 32 (.bin .andNot .sc (.t 30) (.t 31)), om 33 7, oo 34 (.bin .and .sc (.k (.int .i32 65533)) (.t 33)), oo 35 (.bin .or .sc (.t 32) (.t 34)), om 2 35, oo 3 (.mv (.k (.int .i64 1)))]) <|
 .ret)
 (.skip)) <|
 .seq (.reg [om 36 6, oo 37 (.bin .and .sc (.t 36) (.k (.int .u8 7))), oo 38 (.cvI .i64 (.t 37)), om 8 38]) <|
 .seq (.reg [om 39 6, oo 40 (.bin .shr .sc (.t 39) (.k (.int .u64 4))), oo 41 (.idxA 2 16 (.g 1) (.t 40)), oo 42 (.ld 2 true (.t 41)), oo 9 (.alL [.int .u8 0, .int .u8 0]), on (.st 2 (.t 9) (.t 42))]) <|
 .seq (.seq (.reg [om 43 4, om 44 8, oo 45 (.bin .lss .sc (.t 43) (.t 44))]) <|
 .cond (.t 45)
 (.seq (.reg [oo 2 (.mv (.k (.int .i32 65533))), oo 3 (.mv (.k (.int .i64 1)))]) <|
 .ret)
 (.skip)) <|
 .seq (.reg [om 46 0, oo 47 (.idxS (.t 46) (.k (.int .i64 1))), om 10 47]) <|
 .seq (.seq (.reg [om 48 10, oo 49 (.fld 0 (.t 9)), oo 50 (.ld 1 false (.t 49)), oo 51 (.bin .lss .sc (.t 48) (.t 50)), om 52 51, of 53 52 (.fld 1 (.t 9)), of 54 52 (.ld 1 false (.t 53)), omf 55 10 52, of 56 52 (.bin .lss .sc (.t 54) (.t 55)), oo 57 (.pick (.t 52) (.k (.bool true)) (.t 56))]) <|
 .cond (.t 57)
 (.seq (.reg [oo 2 (.mv (.k (.int .i32 65533))), oo 3 (.mv (.k (.int .i64 1)))]) <|
 .ret)
 (.skip)) <|
 .seq (.seq (.reg [om 58 8, oo 59 (.bin .leq .sc (.t 58) (.k (.int .i64 2)))]) <|
 .cond (.t 59)
 (.seq (.reg [om 60 5, oo 61 (.bin .and .sc (.t 60) (.k (.int .u8 31))), oo 62 (.cvI .i32 (.t 61)), oo 63 (.bin .shl .sc (.t 62) (.k (.int .u64 6))), om 64 10, oo 65 (.bin .and .sc (.t 64) (.k (.int .u8 63))), oo 66 (.cvI .i32 (.t 65)), oo 67 (.bin .or .sc (.t 63) (.t 66)), om 2 67, oo 3 (.mv (.k (.int .i64 2)))]) <|
 .ret)
 (.skip)) <|
 .seq (.reg [om 68 0, oo 69 (.idxS (.t 68) (.k (.int .i64 2))), om 11 69]) <|
 .seq (.seq (.reg [om 70 11, oo 71 (.bin .lss .sc (.t 70) (.k (.int .u8 128))), om 72 71, omf 73 11 72, of 74 72 (.bin .lss .sc (.k (.int .u8 191)) (.t 73)), oo 75 (.pick (.t 72) (.k (.bool true)) (.t 74))]) <|
 .cond (.t 75)
 (.seq (.reg [oo 2 (.mv (.k (.int .i32 65533))), oo 3 (.mv (.k (.int .i64 1)))]) <|
 .ret)
 (.skip)) <|
 .seq (.seq (.reg [om 76 8, oo 77 (.bin .leq .sc (.t 76) (.k (.int .i64 3)))]) <|
 .cond (.t 77)
 (.seq (.reg [om 78 5, oo 79 (.bin .and .sc (.t 78) (.k (.int .u8 15))), oo 80 (.cvI .i32 (.t 79)), oo 81 (.bin .shl .sc (.t 80) (.k (.int .u64 12))), om 82 10, oo 83 (.bin .and .sc (.t 82) (.k (.int .u8 63))), oo 84 (.cvI .i32 (.t 83)), oo 85 (.bin .shl .sc (.t 84) (.k (.int .u64 6))), oo 86 (.bin .or .sc (.t 81) (.t 85)), om 87 11, oo 88 (.bin .and .sc (.t 87) (.k (.int .u8 63))), oo 89 (.cvI .i32 (.t 88)), oo 90 (.bin .or .sc (.t 86) (.t 89)), om 2 90, oo 3 (.mv (.k (.int .i64 3)))]) <|
 .ret)
 (.skip)) <|
 .seq (.reg [om 91 0, oo 92 (.idxS (.t 91) (.k (.int .i64 3))), om 12 92]) <|
 .seq (.seq (.reg [om 93 12, oo 94 (.bin .lss .sc (.t 93) (.k (.int .u8 128))), om 95 94, omf 96 12 95, of 97 95 (.bin .lss .sc (.k (.int .u8 191)) (.t 96)), oo 98 (.pick (.t 95) (.k (.bool true)) (.t 97))]) <|
 .cond (.t 98)
 (.seq (.reg [oo 2 (.mv (.k (.int .i32 65533))), oo 3 (.mv (.k (.int .i64 1)))]) <|
 .ret)
 (.skip)) <|
 .seq (.reg [om 99 5, oo 100 (.bin .and .sc (.t 99) (.k (.int .u8 7))), oo 101 (.cvI .i32 (.t 100)), oo 102 (.bin .shl .sc (.t 101) (.k (.int .u64 18))), om 103 10, oo 104 (.bin .and .sc (.t 103) (.k (.int .u8 63))), oo 105 (.cvI .i32 (.t 104)), oo 106 (.bin .shl .sc (.t 105) (.k (.int .u64 12))), oo 107 (.bin .or .sc (.t 102) (.t 106)), om 108 11, oo 109 (.bin .and .sc (.t 108) (.k (.int .u8 63))), oo 110 (.cvI .i32 (.t 109)), oo 111 (.bin .shl .sc (.t 110) (.k (.int .u64 6))), oo 112 (.bin .or .sc (.t 107) (.t 111)), om 113 12, oo 114 (.bin .and .sc (.t 113) (.k (.int .u8 63))), oo 115 (.cvI .i32 (.t 114)), oo 116 (.bin .or .sc (.t 112) (.t 115)), om 2 116, oo 3 (.mv (.k (.int .i64 4)))]) <|
 .ret⟩


def tab : PT Entry := (.nd (.nd (.nd (.nd (.nd (.nd (.nd .lf (some (.fn f63)) .lf) (some (.fn f31)) .lf) (some (.fn f15)) .lf) none (.nd (.nd (.nd .lf (some (.fn f71)) .lf) (some (.fn f39)) .lf) none .lf)) none (.nd (.nd (.nd (.nd .lf (some (.fn f67)) .lf) (some (.fn f35)) .lf) none (.nd .lf (some (.fn f51)) .lf)) (some (.fn f11)) (.nd .lf (some (.fn f27)) .lf))) none (.nd (.nd (.nd (.nd (.nd .lf (some (.fn f65)) .lf) (some (.fn f33)) .lf) (some (.fn f17)) .lf) (some (.fn f9)) (.nd .lf none (.nd .lf (some (.fn f57)) .lf))) none (.nd (.nd (.nd (.nd .lf (some (.fn f69)) .lf) (some (.fn f37)) .lf) none (.nd .lf (some (.fn f53)) .lf)) (some (.fn f13)) (.nd .lf (some (.fn f29)) (.nd .lf (some (.fn f61)) .lf))))) none (.nd (.nd (.nd (.nd (.nd (.nd .lf (some (.fn f64)) .lf) (some (.fn f32)) .lf) none (.nd .lf (some (.fn f48)) .lf)) none (.nd (.nd .lf (some (.fn f40)) .lf) none .lf)) none (.nd (.nd (.nd (.nd .lf (some (.fn f68)) .lf) (some (.fn f36)) .lf) none (.nd .lf (some (.fn f52)) .lf)) (some (.fn f12)) (.nd (.nd .lf (some (.fn f44)) .lf) (some (.fn f28)) (.nd .lf (some (.fn f60)) .lf)))) none (.nd (.nd (.nd (.nd (.nd .lf (some (.fn f66)) .lf) (some (.fn f34)) .lf) none (.nd .lf (some (.fn f50)) .lf)) none .lf) none (.nd (.nd (.nd (.nd .lf (some (.fn f70)) .lf) (some (.fn f38)) .lf) none (.nd .lf (some (.fn f54)) .lf)) (some (.fn f14)) (.nd .lf (some (.fn f30)) (.nd .lf (some (.fn f62)) .lf))))))
noncomputable abbrev K (G : Nat → Option (List IV)) (d : Nat) : Go.PM.Callee := dcall G (fun f => tab.get f) d
theorem k9 {G : Nat → Option (List IV)} {d : Nat} {args : List DV} {H : PT HB} {n lo : Nat} : K G (d + 1) 9 args H n lo = f9.run G (K G d) args H n lo := dcall_fn rfl
theorem k11 {G : Nat → Option (List IV)} {d : Nat} {args : List DV} {H : PT HB} {n lo : Nat} : K G (d + 1) 11 args H n lo = f11.run G (K G d) args H n lo := dcall_fn rfl
theorem k12 {G : Nat → Option (List IV)} {d : Nat} {args : List DV} {H : PT HB} {n lo : Nat} : K G (d + 1) 12 args H n lo = f12.run G (K G d) args H n lo := dcall_fn rfl
theorem k13 {G : Nat → Option (List IV)} {d : Nat} {args : List DV} {H : PT HB} {n lo : Nat} : K G (d + 1) 13 args H n lo = f13.run G (K G d) args H n lo := dcall_fn rfl
theorem k14 {G : Nat → Option (List IV)} {d : Nat} {args : List DV} {H : PT HB} {n lo : Nat} : K G (d + 1) 14 args H n lo = f14.run G (K G d) args H n lo := dcall_fn rfl
theorem k15 {G : Nat → Option (List IV)} {d : Nat} {args : List DV} {H : PT HB} {n lo : Nat} : K G (d + 1) 15 args H n lo = f15.run G (K G d) args H n lo := dcall_fn rfl
theorem k17 {G : Nat → Option (List IV)} {d : Nat} {args : List DV} {H : PT HB} {n lo : Nat} : K G (d + 1) 17 args H n lo = f17.run G (K G d) args H n lo := dcall_fn rfl
theorem k27 {G : Nat → Option (List IV)} {d : Nat} {args : List DV} {H : PT HB} {n lo : Nat} : K G (d + 1) 27 args H n lo = f27.run G (K G d) args H n lo := dcall_fn rfl
theorem k28 {G : Nat → Option (List IV)} {d : Nat} {args : List DV} {H : PT HB} {n lo : Nat} : K G (d + 1) 28 args H n lo = f28.run G (K G d) args H n lo := dcall_fn rfl
theorem k29 {G : Nat → Option (List IV)} {d : Nat} {args : List DV} {H : PT HB} {n lo : Nat} : K G (d + 1) 29 args H n lo = f29.run G (K G d) args H n lo := dcall_fn rfl
theorem k30 {G : Nat → Option (List IV)} {d : Nat} {args : List DV} {H : PT HB} {n lo : Nat} : K G (d + 1) 30 args H n lo = f30.run G (K G d) args H n lo := dcall_fn rfl
theorem k31 {G : Nat → Option (List IV)} {d : Nat} {args : List DV} {H : PT HB} {n lo : Nat} : K G (d + 1) 31 args H n lo = f31.run G (K G d) args H n lo := dcall_fn rfl
theorem k32 {G : Nat → Option (List IV)} {d : Nat} {args : List DV} {H : PT HB} {n lo : Nat} : K G (d + 1) 32 args H n lo = f32.run G (K G d) args H n lo := dcall_fn rfl
theorem k33 {G : Nat → Option (List IV)} {d : Nat} {args : List DV} {H : PT HB} {n lo : Nat} : K G (d + 1) 33 args H n lo = f33.run G (K G d) args H n lo := dcall_fn rfl
theorem k34 {G : Nat → Option (List IV)} {d : Nat} {args : List DV} {H : PT HB} {n lo : Nat} : K G (d + 1) 34 args H n lo = f34.run G (K G d) args H n lo := dcall_fn rfl
theorem k35 {G : Nat → Option (List IV)} {d : Nat} {args : List DV} {H : PT HB} {n lo : Nat} : K G (d + 1) 35 args H n lo = f35.run G (K G d) args H n lo := dcall_fn rfl
theorem k36 {G : Nat → Option (List IV)} {d : Nat} {args : List DV} {H : PT HB} {n lo : Nat} : K G (d + 1) 36 args H n lo = f36.run G (K G d) args H n lo := dcall_fn rfl
theorem k37 {G : Nat → Option (List IV)} {d : Nat} {args : List DV} {H : PT HB} {n lo : Nat} : K G (d + 1) 37 args H n lo = f37.run G (K G d) args H n lo := dcall_fn rfl
theorem k38 {G : Nat → Option (List IV)} {d : Nat} {args : List DV} {H : PT HB} {n lo : Nat} : K G (d + 1) 38 args H n lo = f38.run G (K G d) args H n lo := dcall_fn rfl
theorem k39 {G : Nat → Option (List IV)} {d : Nat} {args : List DV} {H : PT HB} {n lo : Nat} : K G (d + 1) 39 args H n lo = f39.run G (K G d) args H n lo := dcall_fn rfl
theorem k40 {G : Nat → Option (List IV)} {d : Nat} {args : List DV} {H : PT HB} {n lo : Nat} : K G (d + 1) 40 args H n lo = f40.run G (K G d) args H n lo := dcall_fn rfl
theorem k44 {G : Nat → Option (List IV)} {d : Nat} {args : List DV} {H : PT HB} {n lo : Nat} : K G (d + 1) 44 args H n lo = f44.run G (K G d) args H n lo := dcall_fn rfl
theorem k48 {G : Nat → Option (List IV)} {d : Nat} {args : List DV} {H : PT HB} {n lo : Nat} : K G (d + 1) 48 args H n lo = f48.run G (K G d) args H n lo := dcall_fn rfl
theorem k50 {G : Nat → Option (List IV)} {d : Nat} {args : List DV} {H : PT HB} {n lo : Nat} : K G (d + 1) 50 args H n lo = f50.run G (K G d) args H n lo := dcall_fn rfl
theorem k51 {G : Nat → Option (List IV)} {d : Nat} {args : List DV} {H : PT HB} {n lo : Nat} : K G (d + 1) 51 args H n lo = f51.run G (K G d) args H n lo := dcall_fn rfl
theorem k52 {G : Nat → Option (List IV)} {d : Nat} {args : List DV} {H : PT HB} {n lo : Nat} : K G (d + 1) 52 args H n lo = f52.run G (K G d) args H n lo := dcall_fn rfl
theorem k53 {G : Nat → Option (List IV)} {d : Nat} {args : List DV} {H : PT HB} {n lo : Nat} : K G (d + 1) 53 args H n lo = f53.run G (K G d) args H n lo := dcall_fn rfl
theorem k54 {G : Nat → Option (List IV)} {d : Nat} {args : List DV} {H : PT HB} {n lo : Nat} : K G (d + 1) 54 args H n lo = f54.run G (K G d) args H n lo := dcall_fn rfl
theorem k57 {G : Nat → Option (List IV)} {d : Nat} {args : List DV} {H : PT HB} {n lo : Nat} : K G (d + 1) 57 args H n lo = f57.run G (K G d) args H n lo := dcall_fn rfl
theorem k60 {G : Nat → Option (List IV)} {d : Nat} {args : List DV} {H : PT HB} {n lo : Nat} : K G (d + 1) 60 args H n lo = f60.run G (K G d) args H n lo := dcall_fn rfl
theorem k61 {G : Nat → Option (List IV)} {d : Nat} {args : List DV} {H : PT HB} {n lo : Nat} : K G (d + 1) 61 args H n lo = f61.run G (K G d) args H n lo := dcall_fn rfl
theorem k62 {G : Nat → Option (List IV)} {d : Nat} {args : List DV} {H : PT HB} {n lo : Nat} : K G (d + 1) 62 args H n lo = f62.run G (K G d) args H n lo := dcall_fn rfl
theorem k63 {G : Nat → Option (List IV)} {d : Nat} {args : List DV} {H : PT HB} {n lo : Nat} : K G (d + 1) 63 args H n lo = f63.run G (K G d) args H n lo := dcall_fn rfl
theorem k64 {G : Nat → Option (List IV)} {d : Nat} {args : List DV} {H : PT HB} {n lo : Nat} : K G (d + 1) 64 args H n lo = f64.run G (K G d) args H n lo := dcall_fn rfl
theorem k65 {G : Nat → Option (List IV)} {d : Nat} {args : List DV} {H : PT HB} {n lo : Nat} : K G (d + 1) 65 args H n lo = f65.run G (K G d) args H n lo := dcall_fn rfl
theorem k66 {G : Nat → Option (List IV)} {d : Nat} {args : List DV} {H : PT HB} {n lo : Nat} : K G (d + 1) 66 args H n lo = f66.run G (K G d) args H n lo := dcall_fn rfl
theorem k67 {G : Nat → Option (List IV)} {d : Nat} {args : List DV} {H : PT HB} {n lo : Nat} : K G (d + 1) 67 args H n lo = f67.run G (K G d) args H n lo := dcall_fn rfl
theorem k68 {G : Nat → Option (List IV)} {d : Nat} {args : List DV} {H : PT HB} {n lo : Nat} : K G (d + 1) 68 args H n lo = f68.run G (K G d) args H n lo := dcall_fn rfl
theorem k69 {G : Nat → Option (List IV)} {d : Nat} {args : List DV} {H : PT HB} {n lo : Nat} : K G (d + 1) 69 args H n lo = f69.run G (K G d) args H n lo := dcall_fn rfl
theorem k70 {G : Nat → Option (List IV)} {d : Nat} {args : List DV} {H : PT HB} {n lo : Nat} : K G (d + 1) 70 args H n lo = f70.run G (K G d) args H n lo := dcall_fn rfl
theorem k71 {G : Nat → Option (List IV)} {d : Nat} {args : List DV} {H : PT HB} {n lo : Nat} : K G (d + 1) 71 args H n lo = f71.run G (K G d) args H n lo := dcall_fn rfl
end Go.Proofs.YtbhmihigfncfgabDoor.D
