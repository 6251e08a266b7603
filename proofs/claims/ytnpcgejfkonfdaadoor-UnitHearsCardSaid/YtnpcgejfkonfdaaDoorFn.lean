/-
  D's functions of this seat, printed by program out of the translation.
-/
import Derived.Test.YtnpcgejfkonfdaaDoorRun
import Derived.Test.YtnpcgejfkonfdaaDoorPrim
set_option maxRecDepth 100000
namespace Go.Proofs.YtnpcgejfkonfdaaDoor.D
open Go Go.PM
abbrev om (a b : Nat) : DO := ⟨some a, .mv (.t b), none⟩
abbrev omt (a b c : Nat) : DO := ⟨some a, .mv (.t b), some (c, true)⟩
abbrev omf (a b c : Nat) : DO := ⟨some a, .mv (.t b), some (c, false)⟩
abbrev oo (a : Nat) (o : DOp) : DO := ⟨some a, o, none⟩
abbrev ot (a b : Nat) (o : DOp) : DO := ⟨some a, o, some (b, true)⟩
abbrev of (a b : Nat) (o : DOp) : DO := ⟨some a, o, some (b, false)⟩
abbrev on (o : DOp) : DO := ⟨none, o, none⟩
-- TYPES Ints=39 Rss=49 Bool=4 Rs=48 Int=3
def l4_0b : DC :=
 .seq (.seq (.reg [om 40 11, om 41 0, oo 42 (.len (.t 41)), oo 43 (.bin .lss .sc (.t 40) (.t 42))]) <|
 .cond (.t 43)
 (.skip)
 (.exit 0)) <|
 .seq (.block 1 <|
 .seq (.drw [om 46 0, om 47 11, oo 48 (.idx 1 (.t 46) (.t 47)), oo 49 (.ld 1 false (.t 48)), oo 50 (.bin .and .sc (.t 49) (.k (.int .i64 3))), om 51 0, om 52 11, oo 53 (.idx 1 (.t 51) (.t 52)), oo 54 (.ld 1 false (.t 53)), oo 55 (.bin .shr .sc (.t 54) (.k (.int .u64 2))), oo 56 (.bin .and .sc (.t 55) (.k (.int .i64 7))), om 12 50, om 13 56] [[], [], [], [2], [], [], [], [], [7], [], [], [], []]) <|
 .seq (.reg [om 57 7, om 58 12, om 59 13, oo 60 (.build [.int .i64 0, .int .i64 0, .int .i64 0, .bool false] []), oo 61 (.bsl false 4 [.int .i64 0, .int .i64 0, .int .i64 0, .bool false] 1 [(0, (.t 60))]), oo 62 (.build [.int .i64 0, .bool false, .int .i64 0, .int .i64 0, .nils, .nils, .nils, .nils, .nils] [(2, 1, (.t 58)), (3, 1, (.t 59)), (4, 1, (.t 61))]), oo 63 (.call .blind 19 [(.t 62)]), oo 64 (.call .eff 18 [(.t 57), (.t 63)])]) <|
 .seq (.reg [om 65 7, om 66 1, oo 67 (.call .eff 18 [(.t 65), (.t 66)])]) <|
 .seq (.reg [om 68 7, oo 69 (.build [.int .i64 0, .int .i64 0, .int .i64 0, .bool false] [(0, 1, (.k (.int .i64 9)))]), oo 70 (.bsl false 4 [.int .i64 0, .int .i64 0, .int .i64 0, .bool false] 1 [(0, (.t 69))]), oo 71 (.build [.int .i64 0, .bool false, .int .i64 0, .int .i64 0, .nils, .nils, .nils, .nils, .nils] [(2, 1, (.k (.int .i64 9))), (3, 1, (.k (.int .i64 9))), (4, 1, (.t 70))]), oo 72 (.call .blind 19 [(.t 71)]), oo 73 (.call .eff 18 [(.t 68), (.t 72)])]) <|
 .seq (.reg [om 74 12, om 75 9, oo 76 (.bin .gtr .sc (.t 74) (.t 75)), om 77 76, omf 78 12 77, omf 79 9 77, of 80 77 (.bin .eql .sc (.t 78) (.t 79)), omf 81 80 77, omt 82 13 81, omt 83 10 81, ot 84 81 (.bin .gtr .sc (.t 82) (.t 83)), of 85 77 (.pick (.t 81) (.t 84) (.k (.bool false))), oo 86 (.pick (.t 77) (.k (.bool true)) (.t 85))]) <|
 .cond (.t 86)
 (.reg [om 87 12, om 88 13, om 9 87, om 10 88])
 (.skip)) <|
 .reg [om 44 11, oo 45 (.bin .add .sc (.t 44) (.k (.int .i64 1))), om 11 45]
def l4_0 : DC := .loop [0, 1, 7, 9, 10, 11] [] l4_0b
def f4 : DFn := ⟨2, [.t 4],
 .seq (.reg [oo 4 (.mv (.k (.bool false)))]) <|
 .seq (.seq (.reg [om 14 0, oo 15 (.len (.t 14)), oo 16 (.bin .gtr .sc (.t 15) (.k (.int .i64 20))), om 17 16, omf 18 1 17, of 19 17 (.len (.t 18)), of 20 17 (.bin .gtr .sc (.t 19) (.k (.int .i64 300))), oo 21 (.pick (.t 17) (.k (.bool true)) (.t 20))]) <|
 .cond (.t 21)
 (.seq (.reg [oo 4 (.mv (.k (.bool true)))]) <|
 .ret)
 (.skip)) <|
 .seq (.reg [om 23 1, oo 24 (.call .eff 17 [(.t 23)]), om 22 24, oo 25 (.ext 0 (.t 22)), oo 26 (.ext 1 (.t 22)), om 5 25, om 6 26]) <|
 .seq (.seq (.reg [om 27 6, oo 28 (.bin .eql .sc (.t 27) (.k (.int .i64 0)))]) <|
 .cond (.t 28)
 (.seq (.reg [oo 4 (.mv (.k (.bool true)))]) <|
 .ret)
 (.skip)) <|
 .seq (.reg [oo 30 (.call .blind 9 []), oo 31 (.call .eff 8 [(.t 30)]), om 29 31, oo 32 (.ext 0 (.t 29)), oo 33 (.ext 1 (.t 29)), om 7 32, om 8 33]) <|
 .seq (.seq (.reg [om 34 8, oo 35 (.bin .neq .sc (.t 34) (.k (.int .i64 0))), om 36 35, omf 37 7 36, of 38 36 (.bin .eql .np (.t 37) (.k (.nilp))), oo 39 (.pick (.t 36) (.k (.bool true)) (.t 38))]) <|
 .cond (.t 39)
 (.seq (.reg [oo 4 (.mv (.k (.bool false)))]) <|
 .ret)
 (.skip)) <|
 .seq (.reg [oo 9 (.mv (.k (.int .i64 (-1)))), oo 10 (.mv (.k (.int .i64 (-1))))]) <|
 .seq (.seq (.reg [oo 11 (.mv (.k (.int .i64 0)))]) <|
 .block 0 <|
 l4_0) <|
 .seq (.seq (.reg [om 89 9, oo 90 (.bin .lss .sc (.t 89) (.k (.int .i64 0)))]) <|
 .cond (.t 90)
 (.seq (.reg [oo 91 (.call .blind 16 []), om 4 91]) <|
 .ret)
 (.skip)) <|
 .seq (.reg [om 92 7, om 93 9, oo 94 (.bin .add .sc (.t 93) (.k (.int .i64 1))), om 95 10, oo 96 (.call .eff 10 [(.t 92), (.t 94), (.t 95)])]) <|
 .seq (.reg [om 97 7, oo 98 (.call .ro 12 [(.t 97)]), oo 99 (.bin .eql .sc (.t 98) (.k (.int .i64 3))), om 100 99, omt 101 7 100, ot 102 100 (.call .ro 13 [(.t 101)]), omt 103 10 100, ot 104 100 (.bin .eql .sc (.t 102) (.t 103)), oo 105 (.pick (.t 100) (.t 104) (.k (.bool false))), om 106 105, ot 107 106 (.call .blind 16 []), oo 108 (.pick (.t 106) (.t 107) (.k (.bool false))), om 4 108]) <|
 .ret⟩

def f8 : DFn := ⟨1, [.t 2, .t 3],
 .seq (.reg [oo 1 (.boxL (.t 0)), oo 2 (.mv (.k (.nilp))), oo 3 (.mv (.k (.int .i64 0)))]) <|
 .seq (.reg [oo 8 (.ld 4 true (.t 1)), oo 9 (.call .eff 24 [(.t 8)]), om 7 9, oo 10 (.ext 0 (.t 7)), oo 11 (.ext 1 (.t 7)), om 4 10, om 5 11]) <|
 .seq (.seq (.reg [om 12 5, oo 13 (.bin .neq .sc (.t 12) (.k (.int .i64 0)))]) <|
 .cond (.t 13)
 (.seq (.reg [om 14 5, oo 2 (.mv (.k (.nilp))), om 3 14]) <|
 .ret)
 (.skip)) <|
 .seq (.reg [om 15 4, oo 16 (.call .eff 25 []), oo 17 (.build [.nilp, .nilp, .nilp, .int .i64 0, .int .i64 0, .int .i64 0, .int .i64 0] [(0, 1, (.t 15)), (1, 1, (.t 16)), (3, 1, (.k (.int .i64 2)))]), oo 18 (.boxH (.t 17)), om 6 18]) <|
 .seq (.reg [om 19 6, om 2 19, oo 3 (.mv (.k (.int .i64 0)))]) <|
 .ret⟩

def f9 : DFn := ⟨0, [.cell 0 4 true],
 .seq (.reg [oo 0 (.alL [.nils, .nils, .nils, .nils])]) <|
 .seq (.reg [oo 1 (.bsl false 1 [.str []] 1 [(0, (.k (.str [97])))]), oo 2 (.bsl false 1 [.str []] 2 [(0, (.k (.str [115]))), (1, (.k (.str [116])))]), oo 3 (.bsl false 1 [.int .i64 0] 1 [(0, (.k (.int .i64 0)))]), oo 4 (.build [.str [], .int .i64 0, .int .i64 0, .nils, .nils, .nils] [(0, 1, (.k (.str [114]))), (2, 1, (.k (.int .i64 1))), (3, 1, (.t 3))]), oo 5 (.bsl false 6 [.str [], .int .i64 0, .int .i64 0, .nils, .nils, .nils] 1 [(0, (.t 4))]), oo 6 (.build [.nils, .nils, .nils, .nils] [(0, 1, (.t 1)), (2, 1, (.t 2)), (3, 1, (.t 5))]), on (.st 4 (.t 0) (.t 6))]) <|
 .ret⟩

def f10 : DFn := ⟨3, [],
 .block 0 <|
 .seq (.reg [om 7 0, oo 8 (.bin .eql .np (.t 7) (.k (.nilp))), om 6 8]) <|
 .cond (.t 6)
 (.skip)
 (.seq (.reg [om 10 0, oo 11 (.call .ro 26 [(.t 10)]), om 12 11, omt 13 0 12, ot 14 12 (.nilck (.t 13)), ot 15 12 (.fld 1 (.t 14)), ot 16 12 (.ld 1 false (.t 15)), ot 17 12 (.call .ro 27 [(.t 16)]), omt 18 1 12, ot 19 12 (.bin .eql .sc (.t 17) (.t 18)), oo 20 (.pick (.t 12) (.t 19) (.k (.bool false))), om 9 20]) <|
 .cond (.t 9)
 (.drw [om 21 0, oo 22 (.nilck (.t 21)), oo 23 (.fld 1 (.t 22)), oo 24 (.ld 1 false (.t 23)), om 25 1, om 26 0, oo 27 (.nilck (.t 26)), oo 28 (.fld 4 (.t 27)), oo 29 (.ld 1 false (.t 28)), oo 30 (.call .eff 28 [(.t 24), (.t 25), (.t 29)])] [[], [], [], [], [], [], [], [], [], [3, 8]])
 (.seq (.reg [om 32 0, oo 33 (.call .ro 26 [(.t 32)]), om 34 33, omf 35 0 34, of 36 34 (.nilck (.t 35)), of 37 34 (.fld 3 (.t 36)), of 38 34 (.ld 1 false (.t 37)), of 39 34 (.bin .eql .sc (.t 38) (.k (.int .i64 2))), oo 40 (.pick (.t 34) (.k (.bool true)) (.t 39)), om 31 40]) <|
 .cond (.t 31)
 (.seq (.drw [om 41 0, oo 42 (.nilck (.t 41)), oo 43 (.fld 1 (.t 42)), oo 44 (.ld 1 false (.t 43)), om 45 1, om 46 0, oo 47 (.nilck (.t 46)), oo 48 (.fld 4 (.t 47)), oo 49 (.ld 1 false (.t 48)), oo 50 (.call .eff 28 [(.t 44), (.t 45), (.t 49)])] [[], [], [], [], [], [], [], [], [], [3, 8]]) <|
 .seq (.reg [om 51 0, om 52 1, om 53 2, oo 54 (.call .eff 29 [(.t 51), (.t 52), (.t 53)])]) <|
 .reg [om 55 0, oo 56 (.nilck (.t 55)), oo 57 (.fld 2 (.t 56)), on (.st 1 (.t 57) (.k (.nilp)))])
 (.skip)))⟩

def f12 : DFn := ⟨1, [.t 2],
 .seq (.reg [oo 2 (.mv (.k (.int .i64 0)))]) <|
 .seq (.seq (.reg [om 3 0, oo 4 (.bin .eql .np (.t 3) (.k (.nilp)))]) <|
 .cond (.t 4)
 (.seq (.reg [oo 2 (.mv (.k (.int .i64 0)))]) <|
 .ret)
 (.skip)) <|
 .seq (.reg [om 5 0, oo 6 (.nilck (.t 5)), oo 7 (.fld 3 (.t 6)), oo 8 (.ld 1 false (.t 7)), om 2 8]) <|
 .ret⟩

def f13 : DFn := ⟨1, [.t 2],
 .seq (.reg [oo 2 (.mv (.k (.int .i64 0)))]) <|
 .seq (.seq (.reg [om 3 0, oo 4 (.bin .eql .np (.t 3) (.k (.nilp)))]) <|
 .cond (.t 4)
 (.seq (.reg [oo 2 (.mv (.k (.int .i64 0)))]) <|
 .ret)
 (.skip)) <|
 .seq (.reg [om 5 0, oo 6 (.nilck (.t 5)), oo 7 (.fld 5 (.t 6)), oo 8 (.ld 1 false (.t 7)), om 2 8]) <|
 .ret⟩

def f16 : DFn := ⟨0, [.t 0],
 .seq (.reg [oo 0 (.mv (.k (.bool false)))]) <|
 .seq (.reg [oo 4 (.call .blind 9 []), oo 5 (.call .eff 8 [(.t 4)]), om 3 5, oo 6 (.ext 0 (.t 3)), oo 7 (.ext 1 (.t 3)), om 1 6, om 2 7]) <|
 .seq (.seq (.reg [om 8 2, oo 9 (.bin .neq .sc (.t 8) (.k (.int .i64 0))), om 10 9, omf 11 1 10, of 12 10 (.bin .eql .np (.t 11) (.k (.nilp))), oo 13 (.pick (.t 10) (.k (.bool true)) (.t 12)), om 14 13, omf 15 1 14, of 16 14 (.call .ro 12 [(.t 15)]), of 17 14 (.bin .neq .sc (.t 16) (.k (.int .i64 2))), oo 18 (.pick (.t 14) (.k (.bool true)) (.t 17))]) <|
 .cond (.t 18)
 (.seq (.reg [oo 0 (.mv (.k (.bool false)))]) <|
 .ret)
 (.skip)) <|
 .seq (.reg [om 19 1, oo 20 (.call .eff 10 [(.t 19), (.k (.int .i64 1)), (.k (.int .i64 0))])]) <|
 .seq (.reg [om 21 1, oo 22 (.call .ro 12 [(.t 21)]), oo 23 (.bin .eql .sc (.t 22) (.k (.int .i64 4))), om 24 23, omt 25 1 24, ot 26 24 (.call .ro 23 [(.t 25)]), ot 27 24 (.len (.t 26)), ot 28 24 (.bin .eql .sc (.t 27) (.k (.int .i64 0))), oo 29 (.pick (.t 24) (.t 28) (.k (.bool false))), om 0 29]) <|
 .ret⟩

def l17_0b : DC :=
 .seq (.seq (.reg [om 45 7, om 46 6, oo 47 (.bin .lss .sc (.t 45) (.t 46))]) <|
 .cond (.t 47)
 (.skip)
 (.exit 0)) <|
 .seq (.block 1 <|
 .seq (.reg [om 51 4, oo 52 (.call .blind 35 [(.t 51)]), om 50 52, oo 53 (.ext 0 (.t 50)), oo 54 (.ext 1 (.t 50)), oo 8 (.alL [.int .i64 0, .int .i64 0, .str [], .bool false]), on (.st 4 (.t 8) (.t 53)), om 9 54]) <|
 .seq (.seq (.reg [om 55 9, oo 56 (.bin .eql .sc (.t 55) (.k (.int .i64 0))), om 57 56, omf 58 5 57, of 59 57 (.ld 4 true (.t 8)), of 60 57 (.call .eff 36 [(.t 58), (.t 59)]), of 61 57 (.un .not (.t 60)), oo 62 (.pick (.t 57) (.k (.bool true)) (.t 61))]) <|
 .cond (.t 62)
 (.seq (.reg [oo 2 (.mv (.k (.nilp))), oo 3 (.mv (.k (.int .i64 2)))]) <|
 .ret)
 (.skip)) <|
 .reg [om 63 4, om 64 9, oo 65 (.slc 1 (.t 63) (some (.t 64)) none none), om 4 65]) <|
 .reg [om 48 7, oo 49 (.bin .add .sc (.t 48) (.k (.int .i64 1))), om 7 49]
def l17_0 : DC := .loop [4, 5, 6, 7] [] l17_0b
def f17 : DFn := ⟨1, [.t 2, .t 3],
 .seq (.reg [oo 2 (.mv (.k (.nilp))), oo 3 (.mv (.k (.int .i64 0)))]) <|
 .seq (.seq (.reg [om 10 0, oo 11 (.len (.t 10)), oo 12 (.bin .lss .sc (.t 11) (.k (.int .i64 7))), om 13 12, omf 14 0 13, of 15 13 (.len (.t 14)), of 16 13 (.bin .sub .sc (.t 15) (.k (.int .i64 6))), of 17 13 (.bin .gtr .sc (.t 16) (.k (.int .i64 4000))), oo 18 (.pick (.t 13) (.k (.bool true)) (.t 17))]) <|
 .cond (.t 18)
 (.seq (.reg [oo 2 (.mv (.k (.nilp))), oo 3 (.mv (.k (.int .i64 2)))]) <|
 .ret)
 (.skip)) <|
 .seq (.reg [om 19 0, oo 20 (.slc 1 (.t 19) (some (.k (.int .i64 6))) none none), om 4 20]) <|
 .seq (.seq (.reg [om 21 0, oo 22 (.slc 1 (.t 21) none (some (.k (.int .i64 4))) none), oo 23 (.call .blind 33 [(.t 22)]), om 24 4, oo 25 (.call .blind 34 [(.t 24)]), oo 26 (.cvI .u64 (.t 25)), oo 27 (.bin .neq .sc (.t 23) (.t 26)), om 28 27, omf 29 0 28, of 30 28 (.slc 1 (.t 29) (some (.k (.int .i64 4))) (some (.k (.int .i64 6))) none), of 31 28 (.call .blind 33 [(.t 30)]), omf 32 4 28, of 33 28 (.len (.t 32)), of 34 28 (.cvI .u64 (.t 33)), of 35 28 (.bin .neq .sc (.t 31) (.t 34)), oo 36 (.pick (.t 28) (.k (.bool true)) (.t 35))]) <|
 .cond (.t 36)
 (.seq (.reg [oo 2 (.mv (.k (.nilp))), oo 3 (.mv (.k (.int .i64 2)))]) <|
 .ret)
 (.skip)) <|
 .seq (.reg [oo 37 (.build [.nils] []), oo 38 (.boxH (.t 37)), om 5 38]) <|
 .seq (.reg [om 39 4, oo 40 (.idx 1 (.t 39) (.k (.int .i64 0))), oo 41 (.ld 1 false (.t 40)), oo 42 (.cvI .i64 (.t 41)), om 6 42]) <|
 .seq (.reg [om 43 4, oo 44 (.slc 1 (.t 43) (some (.k (.int .i64 1))) none none), om 4 44]) <|
 .seq (.seq (.reg [oo 7 (.mv (.k (.int .i64 0)))]) <|
 .block 0 <|
 l17_0) <|
 .seq (.seq (.reg [om 66 4, oo 67 (.len (.t 66)), oo 68 (.bin .gtr .sc (.t 67) (.k (.int .i64 0)))]) <|
 .cond (.t 68)
 (.seq (.reg [oo 2 (.mv (.k (.nilp))), oo 3 (.mv (.k (.int .i64 2)))]) <|
 .ret)
 (.skip)) <|
 .seq (.reg [om 69 5, om 2 69, oo 3 (.mv (.k (.int .i64 0)))]) <|
 .ret⟩

def f18 : DFn := ⟨2, [],
 .seq (.seq (.reg [om 12 0, oo 13 (.bin .eql .np (.t 12) (.k (.nilp))), om 14 13, omf 15 0 14, of 16 14 (.nilck (.t 15)), of 17 14 (.fld 3 (.t 16)), of 18 14 (.ld 1 false (.t 17)), of 19 14 (.bin .neq .sc (.t 18) (.k (.int .i64 2))), oo 20 (.pick (.t 14) (.k (.bool true)) (.t 19))]) <|
 .cond (.t 20)
 (.ret)
 (.skip)) <|
 .seq (.reg [om 22 1, oo 23 (.call .eff 37 [(.t 22)]), om 21 23, oo 24 (.ext 0 (.t 21)), oo 25 (.ext 1 (.t 21)), om 4 24, om 5 25]) <|
 .seq (.seq (.reg [om 26 5, oo 27 (.bin .neq .sc (.t 26) (.k (.int .i64 0)))]) <|
 .cond (.t 27)
 (.ret)
 (.skip)) <|
 .seq (.reg [om 29 4, oo 30 (.call .ro 38 [(.t 29)]), om 28 30, oo 31 (.ext 0 (.t 28)), oo 32 (.ext 1 (.t 28)), oo 33 (.ext 2 (.t 28)), oo 34 (.ext 3 (.t 28)), om 6 31, om 7 32, om 8 33, om 9 34]) <|
 .seq (.reg [om 35 6, om 36 7, om 37 8, oo 38 (.build [.int .i64 0, .int .i64 0, .nils] [(0, 1, (.t 35)), (1, 1, (.t 36)), (2, 1, (.t 37))]), oo 10 (.alH [.int .i64 0, .int .i64 0, .nils]), on (.st 3 (.t 10) (.t 38))]) <|
 .seq (.seq (.reg [om 39 9, oo 40 (.un .not (.t 39)), om 41 40, omf 42 0 41, of 43 41 (.ld 3 true (.t 10)), of 44 41 (.call .ro 39 [(.t 42), (.t 43)]), oo 45 (.pick (.t 41) (.k (.bool true)) (.t 44))]) <|
 .cond (.t 45)
 (.ret)
 (.skip)) <|
 .seq (.reg [om 46 0, oo 47 (.nilck (.t 46)), oo 48 (.fld 0 (.t 47)), oo 49 (.ld 1 false (.t 48)), oo 50 (.call .ro 40 [(.t 49)]), om 11 50]) <|
 .seq (.seq (.reg [om 51 0, oo 52 (.nilck (.t 51)), oo 53 (.fld 0 (.t 52)), oo 54 (.ld 1 false (.t 53)), om 55 8, oo 56 (.call .eff 41 [(.t 54), (.t 55)])]) <|
 .cond (.t 56)
 (.reg [om 57 0, oo 58 (.nilck (.t 57)), oo 59 (.fld 2 (.t 58)), on (.st 1 (.t 59) (.t 10))])
 (.skip)) <|
 .reg [om 60 0, oo 61 (.nilck (.t 60)), oo 62 (.fld 0 (.t 61)), oo 63 (.ld 1 false (.t 62)), om 64 11, oo 65 (.call .eff 41 [(.t 63), (.t 64)])]⟩

def f19 : DFn := ⟨1, [.t 2],
 .seq (.reg [oo 1 (.boxL (.t 0)), oo 2 (.mv (.k (.nils)))]) <|
 .seq (.reg [oo 6 (.fld 2 (.t 1)), oo 7 (.ld 1 false (.t 6)), oo 8 (.fld 3 (.t 1)), oo 9 (.ld 1 false (.t 8)), oo 10 (.fld 4 (.t 1)), oo 11 (.ld 1 false (.t 10)), oo 12 (.call .eff 42 [(.t 7), (.t 9), (.t 11)]), om 3 12]) <|
 .seq (.seq (.reg [om 13 3, oo 14 (.bin .eql .np (.t 13) (.k (.nilp)))]) <|
 .cond (.t 14)
 (.seq (.reg [oo 2 (.mv (.k (.nils)))]) <|
 .ret)
 (.skip)) <|
 .seq (.reg [om 16 3, oo 17 (.call .ro 43 [(.t 16)]), om 15 17, oo 18 (.ext 0 (.t 15)), oo 19 (.ext 1 (.t 15)), om 4 18, om 5 19]) <|
 .seq (.reg [om 20 4, om 2 20]) <|
 .ret⟩

def f23 : DFn := ⟨1, [.t 2],
 .seq (.reg [oo 2 (.mv (.k (.nils)))]) <|
 .seq (.seq (.reg [om 5 0, oo 6 (.bin .eql .np (.t 5) (.k (.nilp))), om 7 6, omf 8 0 7, of 9 7 (.nilck (.t 8)), of 10 7 (.fld 3 (.t 9)), of 11 7 (.ld 1 false (.t 10)), of 12 7 (.bin .neq .sc (.t 11) (.k (.int .i64 3))), oo 13 (.pick (.t 7) (.k (.bool true)) (.t 12))]) <|
 .cond (.t 13)
 (.seq (.reg [oo 2 (.mv (.k (.nils)))]) <|
 .ret)
 (.skip)) <|
 .seq (.drw [om 15 0, oo 16 (.nilck (.t 15)), oo 17 (.fld 1 (.t 16)), oo 18 (.ld 1 false (.t 17)), oo 19 (.call .ro 27 [(.t 18)]), om 20 0, oo 21 (.nilck (.t 20)), oo 22 (.fld 5 (.t 21)), oo 23 (.ld 1 false (.t 22)), om 24 0, oo 25 (.nilck (.t 24)), oo 26 (.fld 0 (.t 25)), oo 27 (.ld 1 false (.t 26)), oo 28 (.call .ro 40 [(.t 27)]), oo 29 (.call .eff 45 [(.t 19), (.t 23), (.t 28)]), oo 30 (.call .ro 44 [(.t 29)]), om 14 30, oo 31 (.ext 0 (.t 14)), oo 32 (.ext 1 (.t 14)), om 3 31, om 4 32] [[], [], [], [], [3], [], [], [], [], [], [], [], [], [3, 4, 12], [3, 4, 8, 12, 13], [3, 4, 8, 12, 13, 14], [], [], [], [], []]) <|
 .seq (.reg [om 33 3, om 2 33]) <|
 .ret⟩

def f24 : DFn := ⟨1, [.t 2, .t 3],
 .seq (.reg [oo 1 (.boxL (.t 0)), oo 2 (.mv (.k (.nilp))), oo 3 (.mv (.k (.int .i64 0)))]) <|
 .seq (.seq (.reg [oo 4 (.ld 4 true (.t 1)), oo 5 (.call .blind 46 [(.t 4)]), oo 6 (.un .not (.t 5))]) <|
 .cond (.t 6)
 (.seq (.reg [oo 2 (.mv (.k (.nilp))), oo 3 (.mv (.k (.int .i64 9)))]) <|
 .ret)
 (.skip)) <|
 .seq (.drw [oo 7 (.ld 4 true (.t 1)), oo 8 (.call .blind 47 [(.t 7)]), oo 9 (.fld 3 (.t 1)), oo 10 (.ld 1 false (.t 9)), oo 11 (.len (.t 10)), oo 12 (.mks true 4 32 [.int .i64 0, .int .i64 0, .int .i64 0, .bool false] (.t 11)), oo 13 (.build [.nils, .nils, .nils, .nils, .nils] [(0, 4, (.t 8)), (4, 1, (.t 12))]), oo 14 (.boxH (.t 13)), om 2 14, oo 3 (.mv (.k (.int .i64 0)))] [[], [0], [], [], [], [3], [], [0, 1, 3, 5], [], []]) <|
 .ret⟩

def f25 : DFn := ⟨0, [.t 0],
 .seq (.reg [oo 0 (.mv (.k (.nilp)))]) <|
 .seq (.reg [oo 1 (.build [.int .i64 0, .int .i64 0, .bool false] []), oo 2 (.boxH (.t 1)), om 0 2]) <|
 .ret⟩

def f26 : DFn := ⟨1, [.t 2],
 .seq (.reg [oo 2 (.mv (.k (.bool false)))]) <|
 .seq (.reg [om 3 0, oo 4 (.nilck (.t 3)), oo 5 (.fld 3 (.t 4)), oo 6 (.ld 1 false (.t 5)), oo 7 (.bin .eql .sc (.t 6) (.k (.int .i64 3))), om 8 7, omf 9 0 8, of 10 8 (.nilck (.t 9)), of 11 8 (.fld 3 (.t 10)), of 12 8 (.ld 1 false (.t 11)), of 13 8 (.bin .eql .sc (.t 12) (.k (.int .i64 4))), oo 14 (.pick (.t 8) (.k (.bool true)) (.t 13)), om 2 14]) <|
 .ret⟩

def f27 : DFn := ⟨1, [.t 2],
 .seq (.reg [oo 2 (.mv (.k (.int .i64 0)))]) <|
 .seq (.seq (.reg [om 3 0, oo 4 (.bin .eql .np (.t 3) (.k (.nilp)))]) <|
 .cond (.t 4)
 (.seq (.reg [oo 2 (.mv (.k (.int .i64 0)))]) <|
 .ret)
 (.skip)) <|
 .seq (.reg [om 5 0, oo 6 (.nilck (.t 5)), oo 7 (.fld 0 (.t 6)), oo 8 (.ld 1 false (.t 7)), om 2 8]) <|
 .ret⟩

def f28 : DFn := ⟨3, [],
 .seq (.reg [om 6 0, oo 7 (.bin .neq .np (.t 6) (.k (.nilp)))]) <|
 .cond (.t 7)
 (.reg [om 8 0, om 9 0, om 10 0, om 11 1, om 12 2, oo 13 (.bin .add .sc (.t 12) (.k (.int .i64 8))), oo 14 (.bin .sub .sc (.t 13) (.k (.int .i64 3))), oo 15 (.nilck (.t 8)), oo 16 (.fld 0 (.t 15)), on (.st 1 (.t 16) (.t 11)), oo 17 (.nilck (.t 9)), oo 18 (.fld 1 (.t 17)), on (.st 1 (.t 18) (.t 14)), oo 19 (.nilck (.t 10)), oo 20 (.fld 2 (.t 19)), on (.st 1 (.t 20) (.k (.bool true)))])
 (.skip)⟩

def f29 : DFn := ⟨3, [],
 .seq (.seq (.reg [om 7 0, oo 8 (.nilck (.t 7)), oo 9 (.fld 2 (.t 8)), oo 10 (.ld 1 false (.t 9)), om 6 10]) <|
 .seq (.drw [om 11 0, oo 12 (.nilck (.t 11)), oo 13 (.fld 3 (.t 12)), oo 14 (.ld 1 false (.t 13)), oo 15 (.bin .eql .sc (.t 14) (.k (.int .i64 2))), om 16 15, omt 17 6 16, ot 18 16 (.bin .neq .np (.t 17) (.k (.nilp))), oo 19 (.pick (.t 16) (.t 18) (.k (.bool false))), om 20 19, omt 21 6 20, ot 22 20 (.nilck (.t 21)), ot 23 20 (.fld 0 (.t 22)), ot 24 20 (.ld 1 false (.t 23)), omt 25 1 20, ot 26 20 (.bin .sub .sc (.t 25) (.k (.int .i64 1))), ot 27 20 (.bin .eql .sc (.t 24) (.t 26)), oo 28 (.pick (.t 20) (.t 27) (.k (.bool false))), om 29 28, omt 30 6 29, ot 31 29 (.nilck (.t 30)), ot 32 29 (.fld 1 (.t 31)), ot 33 29 (.ld 1 false (.t 32)), omt 34 2 29, ot 35 29 (.bin .geq .sc (.t 33) (.t 34)), oo 36 (.pick (.t 29) (.t 35) (.k (.bool false))), om 37 36, omt 38 0 37, ot 39 37 (.nilck (.t 38)), ot 40 37 (.fld 0 (.t 39)), ot 41 37 (.ld 1 false (.t 40)), omt 42 6 37, ot 43 37 (.nilck (.t 42)), ot 44 37 (.fld 2 (.t 43)), ot 45 37 (.ld 1 false (.t 44)), ot 46 37 (.call .eff 41 [(.t 41), (.t 45)]), oo 47 (.pick (.t 37) (.t 46) (.k (.bool false)))] [[], [], [], [], [], [], [], [], [], [], [], [], [], [3], [], [], [], [], [], [], [], [], [3, 13], [], [], [], [], [], [], [], [3, 13, 22], [], [], [], [3, 13, 22], [3, 13, 22, 30, 34], []]) <|
 .cond (.t 47)
 (.seq (.reg [om 48 0, om 49 0, om 50 6, oo 51 (.nilck (.t 50)), oo 52 (.fld 1 (.t 51)), oo 53 (.ld 1 false (.t 52)), oo 54 (.nilck (.t 48)), oo 55 (.fld 3 (.t 54)), on (.st 1 (.t 55) (.k (.int .i64 3))), oo 56 (.nilck (.t 49)), oo 57 (.fld 5 (.t 56)), on (.st 1 (.t 57) (.t 53))]) <|
 .ret)
 (.skip)) <|
 .seq (.reg [om 58 0, oo 59 (.call .eff 30 [(.t 58)])]) <|
 .reg [om 60 0, om 61 0, om 62 0, om 63 2, oo 64 (.nilck (.t 60)), oo 65 (.fld 3 (.t 64)), on (.st 1 (.t 65) (.k (.int .i64 4))), oo 66 (.nilck (.t 61)), oo 67 (.fld 5 (.t 66)), on (.st 1 (.t 67) (.t 63)), oo 68 (.nilck (.t 62)), oo 69 (.fld 6 (.t 68)), on (.st 1 (.t 69) (.k (.int .i64 10)))]⟩

def f30 : DFn := ⟨1, [],
 .drw [om 2 0, oo 3 (.nilck (.t 2)), oo 4 (.fld 0 (.t 3)), oo 5 (.ld 1 false (.t 4)), om 6 0, oo 7 (.nilck (.t 6)), oo 8 (.fld 0 (.t 7)), oo 9 (.ld 1 false (.t 8)), oo 10 (.call .ro 40 [(.t 9)]), oo 11 (.len (.t 10)), oo 12 (.mks false 4 32 [.int .i64 0, .int .i64 0, .int .i64 0, .bool false] (.t 11)), oo 13 (.call .eff 41 [(.t 5), (.t 12)])] [[], [], [], [], [], [], [], [], [7], [], [7, 8], [3, 7, 8, 10]]⟩

def l33_0b : DC :=
 .seq (.seq (.reg [om 5 4, om 6 0, oo 7 (.len (.t 6)), oo 8 (.bin .lss .sc (.t 5) (.t 7))]) <|
 .cond (.t 8)
 (.skip)
 (.exit 0)) <|
 .seq (.block 1 <|
 .reg [om 11 3, oo 12 (.bin .shl .sc (.t 11) (.k (.int .u64 8))), om 13 0, om 14 4, oo 15 (.idx 1 (.t 13) (.t 14)), oo 16 (.ld 1 false (.t 15)), oo 17 (.cvI .u64 (.t 16)), oo 18 (.bin .or .sc (.t 12) (.t 17)), om 3 18]) <|
 .reg [om 9 4, oo 10 (.bin .add .sc (.t 9) (.k (.int .i64 1))), om 4 10]
def l33_0 : DC := .loop [0, 3, 4] [] l33_0b
def f33 : DFn := ⟨1, [.t 2],
 .seq (.reg [oo 2 (.mv (.k (.int .u64 0)))]) <|
 .seq (.reg [oo 3 (.mv (.k (.int .u64 0)))]) <|
 .seq (.seq (.reg [oo 4 (.mv (.k (.int .i64 0)))]) <|
 .block 0 <|
 l33_0) <|
 .seq (.reg [om 19 3, om 2 19]) <|
 .ret⟩

def l34_1b : DC :=
 .seq (.seq (.reg [om 20 5, oo 21 (.bin .lss .sc (.t 20) (.k (.int .i64 8)))]) <|
 .cond (.t 21)
 (.skip)
 (.exit 2)) <|
 .seq (.block 3 <|
 .seq (.reg [om 24 3, oo 25 (.bin .and .sc (.t 24) (.k (.int .u32 1))), om 6 25]) <|
 .seq (.reg [om 26 3, oo 27 (.bin .shr .sc (.t 26) (.k (.int .u64 1))), om 3 27]) <|
 .seq (.reg [om 28 6, oo 29 (.bin .eql .sc (.t 28) (.k (.int .u32 1)))]) <|
 .cond (.t 29)
 (.reg [om 30 3, oo 31 (.bin .xor .sc (.t 30) (.k (.int .u32 2197175160))), om 3 31])
 (.skip)) <|
 .reg [om 22 5, oo 23 (.bin .add .sc (.t 22) (.k (.int .i64 1))), om 5 23]
def l34_1 : DC := .loop [0, 3, 4, 5] [] l34_1b
def l34_0b : DC :=
 .seq (.seq (.reg [om 7 4, om 8 0, oo 9 (.len (.t 8)), oo 10 (.bin .lss .sc (.t 7) (.t 9))]) <|
 .cond (.t 10)
 (.skip)
 (.exit 0)) <|
 .seq (.block 1 <|
 .seq (.reg [om 13 3, om 14 0, om 15 4, oo 16 (.idx 1 (.t 14) (.t 15)), oo 17 (.ld 1 false (.t 16)), oo 18 (.cvI .u32 (.t 17)), oo 19 (.bin .xor .sc (.t 13) (.t 18)), om 3 19]) <|
 .seq (.reg [oo 5 (.mv (.k (.int .i64 0)))]) <|
 .block 2 <|
 l34_1) <|
 .reg [om 11 4, oo 12 (.bin .add .sc (.t 11) (.k (.int .i64 1))), om 4 12]
def l34_0 : DC := .loop [0, 3, 4] [] l34_0b
def f34 : DFn := ⟨1, [.t 2],
 .seq (.reg [oo 2 (.mv (.k (.int .u32 0)))]) <|
 .seq (.reg [oo 3 (.mv (.k (.int .u32 4294967295)))]) <|
 .seq (.seq (.reg [oo 4 (.mv (.k (.int .i64 0)))]) <|
 .block 0 <|
 l34_0) <|
 .seq (.reg [om 32 3, oo 33 (.un .xor (.t 32)), om 2 33]) <|
 .ret⟩

def f35 : DFn := ⟨1, [.cell 2 4 true, .t 3],
 .seq (.reg [oo 2 (.alL [.int .i64 0, .int .i64 0, .str [], .bool false]), oo 3 (.mv (.k (.int .i64 0)))]) <|
 .seq (.block 0 <|
 .seq (.reg [om 5 0, oo 6 (.len (.t 5)), oo 7 (.bin .geq .sc (.t 6) (.k (.int .i64 9))), om 8 7, omt 9 0 8, ot 10 8 (.idx 1 (.t 9) (.k (.int .i64 0))), ot 11 8 (.ld 1 false (.t 10)), ot 12 8 (.bin .eql .sc (.t 11) (.k (.int .u8 1))), oo 13 (.pick (.t 8) (.t 12) (.k (.bool false))), om 4 13]) <|
 .cond (.t 4)
 (.seq (.reg [om 14 0, oo 15 (.slc 1 (.t 14) (some (.k (.int .i64 1))) (some (.k (.int .i64 9))) none), oo 16 (.call .blind 33 [(.t 15)]), oo 17 (.cvI .i64 (.t 16)), oo 18 (.build [.int .i64 0, .int .i64 0, .str [], .bool false] [(0, 1, (.k (.int .i64 1))), (1, 1, (.t 17))]), on (.st 4 (.t 2) (.t 18)), oo 3 (.mv (.k (.int .i64 9)))]) <|
 .ret)
 (.seq (.reg [om 20 0, oo 21 (.len (.t 20)), oo 22 (.bin .geq .sc (.t 21) (.k (.int .i64 2))), om 23 22, omt 24 0 23, ot 25 23 (.idx 1 (.t 24) (.k (.int .i64 0))), ot 26 23 (.ld 1 false (.t 25)), ot 27 23 (.bin .eql .sc (.t 26) (.k (.int .u8 2))), oo 28 (.pick (.t 23) (.t 27) (.k (.bool false))), om 29 28, omt 30 0 29, ot 31 29 (.idx 1 (.t 30) (.k (.int .i64 1))), ot 32 29 (.ld 1 false (.t 31)), ot 33 29 (.cvI .i64 (.t 32)), ot 34 29 (.bin .leq .sc (.t 33) (.k (.int .i64 200))), oo 35 (.pick (.t 29) (.t 34) (.k (.bool false))), om 36 35, omt 37 0 36, ot 38 36 (.len (.t 37)), omt 39 0 36, ot 40 36 (.idx 1 (.t 39) (.k (.int .i64 1))), ot 41 36 (.ld 1 false (.t 40)), ot 42 36 (.cvI .i64 (.t 41)), ot 43 36 (.bin .add .sc (.k (.int .i64 2)) (.t 42)), ot 44 36 (.bin .geq .sc (.t 38) (.t 43)), oo 45 (.pick (.t 36) (.t 44) (.k (.bool false))), om 19 45]) <|
 .cond (.t 19)
 (.seq (.drw [om 46 0, om 47 0, oo 48 (.idx 1 (.t 47) (.k (.int .i64 1))), oo 49 (.ld 1 false (.t 48)), oo 50 (.cvI .i64 (.t 49)), oo 51 (.bin .add .sc (.k (.int .i64 2)) (.t 50)), oo 52 (.slc 1 (.t 46) (some (.k (.int .i64 2))) (some (.t 51)) none), oo 53 (.cvBS (.t 52)), oo 54 (.build [.int .i64 0, .int .i64 0, .str [], .bool false] [(0, 1, (.k (.int .i64 2))), (2, 1, (.t 53))]), om 55 0, oo 56 (.idx 1 (.t 55) (.k (.int .i64 1))), oo 57 (.ld 1 false (.t 56)), oo 58 (.cvI .i64 (.t 57)), oo 59 (.bin .add .sc (.k (.int .i64 2)) (.t 58)), on (.st 4 (.t 2) (.t 54)), om 3 59] [[], [], [], [2], [], [], [], [2, 3], [], [], [], [10], [], [], [2, 3, 7], []]) <|
 .ret)
 (.seq (.reg [om 61 0, oo 62 (.len (.t 61)), oo 63 (.bin .geq .sc (.t 62) (.k (.int .i64 2))), om 64 63, omt 65 0 64, ot 66 64 (.idx 1 (.t 65) (.k (.int .i64 0))), ot 67 64 (.ld 1 false (.t 66)), ot 68 64 (.bin .eql .sc (.t 67) (.k (.int .u8 3))), oo 69 (.pick (.t 64) (.t 68) (.k (.bool false))), om 70 69, omt 71 0 70, ot 72 70 (.idx 1 (.t 71) (.k (.int .i64 1))), ot 73 70 (.ld 1 false (.t 72)), ot 74 70 (.bin .leq .sc (.t 73) (.k (.int .u8 1))), oo 75 (.pick (.t 70) (.t 74) (.k (.bool false))), om 60 75]) <|
 .cond (.t 60)
 (.seq (.reg [om 76 0, oo 77 (.idx 1 (.t 76) (.k (.int .i64 1))), oo 78 (.ld 1 false (.t 77)), oo 79 (.bin .eql .sc (.t 78) (.k (.int .u8 1))), oo 80 (.build [.int .i64 0, .int .i64 0, .str [], .bool false] [(0, 1, (.k (.int .i64 3))), (3, 1, (.t 79))]), on (.st 4 (.t 2) (.t 80)), oo 3 (.mv (.k (.int .i64 2)))]) <|
 .ret)
 (.skip)))) <|
 .seq (.reg [oo 81 (.build [.int .i64 0, .int .i64 0, .str [], .bool false] []), on (.st 4 (.t 2) (.t 81)), oo 3 (.mv (.k (.int .i64 0)))]) <|
 .ret⟩

def f36 : DFn := ⟨2, [.t 4],
 .seq (.reg [oo 3 (.boxL (.t 1)), oo 4 (.mv (.k (.bool false)))]) <|
 .seq (.seq (.reg [om 5 0, oo 6 (.nilck (.t 5)), oo 7 (.fld 0 (.t 6)), oo 8 (.ld 1 false (.t 7)), oo 9 (.len (.t 8)), oo 10 (.bin .geq .sc (.t 9) (.k (.int .i64 100)))]) <|
 .cond (.t 10)
 (.seq (.reg [oo 4 (.mv (.k (.bool false)))]) <|
 .ret)
 (.skip)) <|
 .seq (.drw [om 11 0, om 12 0, oo 13 (.nilck (.t 12)), oo 14 (.fld 0 (.t 13)), oo 15 (.ld 1 false (.t 14)), oo 16 (.ld 4 true (.t 3)), oo 17 (.bsl false 4 [.int .i64 0, .int .i64 0, .str [], .bool false] 1 [(0, (.t 16))]), oo 18 (.app 4 40 (.t 15) (.t 17)), oo 19 (.nilck (.t 11)), oo 20 (.fld 0 (.t 19)), on (.st 1 (.t 20) (.t 18))] [[], [], [], [], [], [], [5], [4, 5, 6], [], [], [4, 5, 6, 7]]) <|
 .seq (.reg [oo 4 (.mv (.k (.bool true)))]) <|
 .ret⟩

def l37_0b : DC :=
 .seq (.reg [oo 24 (.bin .lss .sc (.t 23) (.t 22))]) <|
 .seq (.cond (.t 24)
 (.skip)
 (.exit 0)) <|
 .seq (.block 1 <|
 .seq (.reg [oo 8 (.mv (.k (.bool false)))]) <|
 .seq (.reg [om 26 4, om 27 6, oo 28 (.call .eff 51 [(.t 26), (.t 27)]), om 25 28, oo 29 (.ext 0 (.t 25)), oo 30 (.ext 1 (.t 25)), om 6 29, om 8 30]) <|
 .seq (.reg [om 31 8, oo 32 (.un .not (.t 31))]) <|
 .cond (.t 32)
 (.seq (.reg [oo 2 (.mv (.k (.nilp))), oo 3 (.mv (.k (.int .i64 2)))]) <|
 .ret)
 (.skip)) <|
 .reg [oo 33 (.bin .add .sc (.t 23) (.k (.int .u64 1))), om 23 33]
def l37_0 : DC := .loop [0, 4, 6, 22, 23] [] l37_0b
def f37 : DFn := ⟨1, [.t 2, .t 3],
 .seq (.reg [oo 2 (.mv (.k (.nilp))), oo 3 (.mv (.k (.int .i64 0)))]) <|
 .seq (.seq (.reg [om 11 0, oo 12 (.len (.t 11)), oo 13 (.bin .leq .sc (.t 12) (.k (.int .i64 6)))]) <|
 .cond (.t 13)
 (.seq (.reg [oo 2 (.mv (.k (.nilp))), oo 3 (.mv (.k (.int .i64 2)))]) <|
 .ret)
 (.skip)) <|
 .seq (.reg [oo 14 (.call .eff 49 []), om 4 14]) <|
 .seq (.reg [om 16 0, oo 17 (.slc 1 (.t 16) (some (.k (.int .i64 6))) none none), oo 18 (.call .ro 50 [(.t 17), (.k (.int .i64 1))]), om 15 18, oo 19 (.ext 0 (.t 15)), oo 20 (.ext 1 (.t 15)), oo 21 (.ext 2 (.t 15)), om 5 19, om 6 20, om 7 21]) <|
 .seq (.seq (.reg [om 22 5, oo 23 (.mv (.k (.int .u64 0)))]) <|
 .block 0 <|
 l37_0) <|
 .seq (.seq (.reg [om 35 4, oo 36 (.call .ro 44 [(.t 35)]), om 34 36, oo 37 (.ext 0 (.t 34)), oo 38 (.ext 1 (.t 34)), om 9 37, om 10 38]) <|
 .seq (.reg [om 39 10, oo 40 (.bin .neq .sc (.t 39) (.k (.int .i64 0))), om 41 40, omf 42 9 41, omf 43 0 41, of 44 41 (.call .blind 52 [(.t 42), (.t 43)]), of 45 41 (.un .not (.t 44)), oo 46 (.pick (.t 41) (.k (.bool true)) (.t 45))]) <|
 .cond (.t 46)
 (.seq (.reg [oo 2 (.mv (.k (.nilp))), oo 3 (.mv (.k (.int .i64 2)))]) <|
 .ret)
 (.skip)) <|
 .seq (.reg [om 47 4, om 2 47, oo 3 (.mv (.k (.int .i64 0)))]) <|
 .ret⟩

def l38_0b : DC :=
 .seq (.seq (.reg [om 12 7, om 13 0, oo 14 (.call .ro 53 [(.t 13)]), oo 15 (.bin .lss .sc (.t 12) (.t 14))]) <|
 .cond (.t 15)
 (.skip)
 (.exit 0)) <|
 .seq (.block 1 <|
 .seq (.reg [om 19 0, om 20 7, oo 21 (.call .ro 54 [(.t 19), (.t 20)]), om 18 21, oo 22 (.ext 0 (.t 18)), oo 23 (.ext 1 (.t 18)), om 8 22, om 9 23]) <|
 .seq (.seq (.reg [om 24 9, oo 25 (.un .not (.t 24))]) <|
 .cond (.t 25)
 (.seq (.reg [oo 2 (.mv (.k (.int .i64 0))), oo 3 (.mv (.k (.int .i64 0))), oo 4 (.mv (.k (.nils))), oo 5 (.mv (.k (.bool false)))]) <|
 .ret)
 (.skip)) <|
 .reg [om 26 6, om 27 8, oo 28 (.bsl false 1 [.int .i64 0] 1 [(0, (.t 27))]), oo 29 (.app 1 8 (.t 26) (.t 28)), om 6 29]) <|
 .reg [om 16 7, oo 17 (.bin .add .sc (.t 16) (.k (.int .i64 1))), om 7 17]
def l38_0 : DC := .loop [0, 6, 7] [] l38_0b
def f38 : DFn := ⟨1, [.t 2, .t 3, .t 4, .t 5],
 .seq (.reg [oo 2 (.mv (.k (.int .i64 0))), oo 3 (.mv (.k (.int .i64 0))), oo 4 (.mv (.k (.nils))), oo 5 (.mv (.k (.bool false)))]) <|
 .seq (.reg [oo 6 (.mv (.k (.nils)))]) <|
 .seq (.seq (.reg [oo 7 (.mv (.k (.int .i64 1)))]) <|
 .block 0 <|
 l38_0) <|
 .seq (.reg [om 31 0, oo 32 (.call .ro 55 [(.t 31), (.k (.int .i64 0))]), om 30 32, oo 33 (.ext 0 (.t 30)), oo 34 (.ext 1 (.t 30)), om 10 33, om 11 34]) <|
 .seq (.seq (.reg [om 35 11, oo 36 (.un .not (.t 35)), om 37 36, omf 38 10 37, of 39 37 (.bin .neq .sc (.t 38) (.k (.str [115, 116, 97, 116, 101]))), oo 40 (.pick (.t 37) (.k (.bool true)) (.t 39)), om 41 40, omf 42 6 41, of 43 41 (.len (.t 42)), of 44 41 (.bin .lss .sc (.t 43) (.k (.int .i64 3))), oo 45 (.pick (.t 41) (.k (.bool true)) (.t 44))]) <|
 .cond (.t 45)
 (.seq (.reg [oo 2 (.mv (.k (.int .i64 0))), oo 3 (.mv (.k (.int .i64 0))), oo 4 (.mv (.k (.nils))), oo 5 (.mv (.k (.bool false)))]) <|
 .ret)
 (.skip)) <|
 .seq (.reg [om 47 6, oo 48 (.slc 1 (.t 47) (some (.k (.int .i64 3))) none none), oo 49 (.call .ro 56 [(.t 48)]), om 46 49, oo 50 (.ext 0 (.t 46)), oo 51 (.ext 1 (.t 46)), om 4 50, om 5 51]) <|
 .seq (.seq (.reg [om 52 5, oo 53 (.un .not (.t 52)), om 54 53, omf 55 6 54, of 56 54 (.idx 1 (.t 55) (.k (.int .i64 2))), of 57 54 (.ld 1 false (.t 56)), omf 58 4 54, of 59 54 (.len (.t 58)), of 60 54 (.bin .neq .sc (.t 57) (.t 59)), oo 61 (.pick (.t 54) (.k (.bool true)) (.t 60))]) <|
 .cond (.t 61)
 (.seq (.reg [oo 2 (.mv (.k (.int .i64 0))), oo 3 (.mv (.k (.int .i64 0))), oo 4 (.mv (.k (.nils))), oo 5 (.mv (.k (.bool false)))]) <|
 .ret)
 (.skip)) <|
 .seq (.drw [om 62 6, oo 63 (.idx 1 (.t 62) (.k (.int .i64 0))), oo 64 (.ld 1 false (.t 63)), om 65 6, oo 66 (.idx 1 (.t 65) (.k (.int .i64 1))), oo 67 (.ld 1 false (.t 66)), om 68 4, om 2 64, om 3 67, om 4 68, oo 5 (.mv (.k (.bool true)))] [[], [], [1], [], [], [4], [], [], [], [], []]) <|
 .ret⟩

def f39 : DFn := ⟨2, [.t 4],
 .seq (.reg [oo 3 (.boxL (.t 1)), oo 4 (.mv (.k (.bool false)))]) <|
 .seq (.reg [om 6 0, oo 7 (.nilck (.t 6)), oo 8 (.fld 2 (.t 7)), oo 9 (.ld 1 false (.t 8)), om 5 9]) <|
 .seq (.drw [om 10 5, oo 11 (.bin .neq .np (.t 10) (.k (.nilp))), om 12 11, ot 13 12 (.fld 0 (.t 3)), ot 14 12 (.ld 1 false (.t 13)), omt 15 5 12, ot 16 12 (.nilck (.t 15)), ot 17 12 (.fld 0 (.t 16)), ot 18 12 (.ld 1 false (.t 17)), ot 19 12 (.bin .lss .sc (.t 14) (.t 18)), omt 20 19 12, of 21 20 (.fld 0 (.t 3)), of 22 20 (.ld 1 false (.t 21)), omf 23 5 20, of 24 20 (.nilck (.t 23)), of 25 20 (.fld 0 (.t 24)), of 26 20 (.ld 1 false (.t 25)), of 27 20 (.bin .eql .sc (.t 22) (.t 26)), omf 28 27 20, ot 29 28 (.fld 1 (.t 3)), ot 30 28 (.ld 1 false (.t 29)), omt 31 5 28, ot 32 28 (.nilck (.t 31)), ot 33 28 (.fld 1 (.t 32)), ot 34 28 (.ld 1 false (.t 33)), ot 35 28 (.bin .leq .sc (.t 30) (.t 34)), of 36 20 (.pick (.t 28) (.t 35) (.k (.bool false))), ot 37 12 (.pick (.t 20) (.k (.bool true)) (.t 36)), oo 38 (.pick (.t 12) (.t 37) (.k (.bool false))), om 4 38] [[], [], [], [], [], [], [], [], [], [], [], [], [4, 8], [], [], [], [4, 8], [], [], [], [4, 8, 12, 16], [], [], [], [4, 8, 12, 16], [], [], [], [], []]) <|
 .ret⟩

def f40 : DFn := ⟨1, [.t 2],
 .seq (.reg [oo 2 (.mv (.k (.nils)))]) <|
 .seq (.seq (.reg [om 3 0, oo 4 (.bin .eql .np (.t 3) (.k (.nilp)))]) <|
 .cond (.t 4)
 (.seq (.reg [oo 2 (.mv (.k (.nils)))]) <|
 .ret)
 (.skip)) <|
 .seq (.reg [om 5 0, oo 6 (.nilck (.t 5)), oo 7 (.fld 4 (.t 6)), oo 8 (.ld 1 false (.t 7)), oo 9 (.call .eff 57 [(.t 8)]), om 2 9]) <|
 .ret⟩

def l41_1b : DC :=
 .seq (.reg [oo 38 (.bin .lss .sc (.t 37) (.t 36))]) <|
 .seq (.cond (.t 38)
 (.skip)
 (.exit 2)) <|
 .seq (.block 3 <|
 .seq (.reg [om 39 37, oo 40 (.idx 4 (.t 35) (.t 37)), oo 41 (.ld 4 true (.t 40)), oo 8 (.alL [.int .i64 0, .int .i64 0, .int .i64 0, .bool false]), om 7 39, on (.st 4 (.t 8) (.t 41))]) <|
 .seq (.reg [oo 42 (.fld 0 (.t 6)), oo 43 (.ld 1 false (.t 42)), oo 44 (.bin .neq .sc (.t 43) (.k (.int .i64 0))), om 45 44, ot 46 45 (.fld 0 (.t 8)), ot 47 45 (.ld 1 false (.t 46)), ot 48 45 (.bin .neq .sc (.t 47) (.k (.int .i64 0))), oo 49 (.pick (.t 45) (.t 48) (.k (.bool false))), om 50 49, omt 51 0 50, ot 52 50 (.nilck (.t 51)), ot 53 50 (.fld 0 (.t 52)), ot 54 50 (.ld 4 true (.t 53)), omt 55 5 50, omt 56 7 50, ot 57 50 (.call .blind 59 [(.t 54), (.t 55), (.t 56)]), oo 58 (.pick (.t 50) (.t 57) (.k (.bool false)))]) <|
 .cond (.t 58)
 (.seq (.reg [oo 4 (.mv (.k (.bool false)))]) <|
 .ret)
 (.skip)) <|
 .reg [oo 59 (.bin .add .sc (.t 37) (.k (.int .i64 1))), om 37 59]
def l41_1 : DC := .loop [0, 1, 5, 6, 21, 22, 23, 35, 36, 37] [6] l41_1b
def l41_0b : DC :=
 .seq (.reg [oo 24 (.bin .lss .sc (.t 23) (.t 22))]) <|
 .seq (.cond (.t 24)
 (.skip)
 (.exit 0)) <|
 .seq (.block 1 <|
 .seq (.reg [om 25 23, oo 26 (.idx 4 (.t 21) (.t 23)), oo 27 (.ld 4 true (.t 26)), oo 6 (.alL [.int .i64 0, .int .i64 0, .int .i64 0, .bool false]), om 5 25, on (.st 4 (.t 6) (.t 27))]) <|
 .seq (.seq (.reg [om 28 0, om 29 5, oo 30 (.ld 4 true (.t 6)), oo 31 (.call .ro 58 [(.t 28), (.t 29), (.t 30)]), oo 32 (.un .not (.t 31))]) <|
 .cond (.t 32)
 (.seq (.reg [oo 4 (.mv (.k (.bool false)))]) <|
 .ret)
 (.skip)) <|
 .seq (.reg [om 33 1, om 34 5, oo 35 (.slc 4 (.t 33) none (some (.t 34)) none), oo 36 (.len (.t 35)), oo 37 (.mv (.k (.int .i64 0)))]) <|
 .block 2 <|
 l41_1) <|
 .reg [oo 60 (.bin .add .sc (.t 23) (.k (.int .i64 1))), om 23 60]
def l41_0 : DC := .loop [0, 1, 21, 22, 23] [] l41_0b
def f41 : DFn := ⟨2, [.t 4],
 .seq (.reg [oo 4 (.mv (.k (.bool false)))]) <|
 .seq (.seq (.reg [om 9 0, oo 10 (.bin .eql .np (.t 9) (.k (.nilp))), om 11 10, omf 12 1 11, of 13 11 (.len (.t 12)), omf 14 0 11, of 15 11 (.nilck (.t 14)), of 16 11 (.fld 4 (.t 15)), of 17 11 (.ld 1 false (.t 16)), of 18 11 (.len (.t 17)), of 19 11 (.bin .neq .sc (.t 13) (.t 18)), oo 20 (.pick (.t 11) (.k (.bool true)) (.t 19))]) <|
 .cond (.t 20)
 (.seq (.reg [oo 4 (.mv (.k (.bool false)))]) <|
 .ret)
 (.skip)) <|
 .seq (.seq (.reg [om 21 1, oo 22 (.len (.t 21)), oo 23 (.mv (.k (.int .i64 0)))]) <|
 .block 0 <|
 l41_0) <|
 .seq (.reg [om 61 0, om 62 1, oo 63 (.call .eff 57 [(.t 62)]), oo 64 (.nilck (.t 61)), oo 65 (.fld 4 (.t 64)), on (.st 1 (.t 65) (.t 63))]) <|
 .seq (.reg [oo 4 (.mv (.k (.bool true)))]) <|
 .ret⟩

def l42_0b : DC :=
 .seq (.seq (.reg [om 22 9, om 23 7, oo 24 (.len (.t 23)), oo 25 (.bin .lss .sc (.t 22) (.t 24))]) <|
 .cond (.t 25)
 (.skip)
 (.exit 0)) <|
 .seq (.block 1 <|
 .seq (.reg [om 28 8, om 29 7, om 30 9, oo 31 (.idx 1 (.t 29) (.t 30)), oo 32 (.ld 1 false (.t 31)), oo 33 (.build [.int .i64 0, .int .i64 0, .str [], .bool false] [(0, 1, (.k (.int .i64 1))), (1, 1, (.t 32))]), oo 34 (.call .eff 36 [(.t 28), (.t 33)]), oo 35 (.un .not (.t 34))]) <|
 .cond (.t 35)
 (.seq (.reg [oo 6 (.mv (.k (.nilp)))]) <|
 .ret)
 (.skip)) <|
 .reg [om 26 9, oo 27 (.bin .add .sc (.t 26) (.k (.int .i64 1))), om 9 27]
def l42_0 : DC := .loop [7, 8, 9] [] l42_0b
def f42 : DFn := ⟨3, [.t 6],
 .seq (.reg [oo 6 (.mv (.k (.nilp)))]) <|
 .seq (.reg [om 10 0, om 11 1, om 12 2, oo 13 (.len (.t 12)), oo 14 (.bsl false 1 [.int .i64 0] 3 [(0, (.t 10)), (1, (.t 11)), (2, (.t 13))]), om 15 2, oo 16 (.call .blind 60 [(.t 15)]), oo 17 (.app 1 8 (.t 14) (.t 16)), om 7 17]) <|
 .seq (.reg [oo 18 (.build [.int .i64 0, .int .i64 0, .str [], .bool false] [(0, 1, (.k (.int .i64 2))), (2, 1, (.k (.str [115, 116, 97, 116, 101])))]), oo 19 (.bsl false 4 [.int .i64 0, .int .i64 0, .str [], .bool false] 1 [(0, (.t 18))]), oo 20 (.build [.nils] [(0, 1, (.t 19))]), oo 21 (.boxH (.t 20)), om 8 21]) <|
 .seq (.seq (.reg [oo 9 (.mv (.k (.int .i64 0)))]) <|
 .block 0 <|
 l42_0) <|
 .seq (.reg [om 36 8, om 6 36]) <|
 .ret⟩

def l43_0b : DC :=
 .seq (.seq (.reg [om 13 5, om 14 0, oo 15 (.nilck (.t 14)), oo 16 (.fld 0 (.t 15)), oo 17 (.ld 1 false (.t 16)), oo 18 (.len (.t 17)), oo 19 (.bin .lss .sc (.t 13) (.t 18))]) <|
 .cond (.t 19)
 (.skip)
 (.exit 0)) <|
 .seq (.block 1 <|
 .seq (.seq (.reg [om 22 0, oo 23 (.nilck (.t 22)), oo 24 (.fld 0 (.t 23)), oo 25 (.ld 1 false (.t 24)), om 26 5, oo 27 (.idx 4 (.t 25) (.t 26)), oo 28 (.fld 2 (.t 27)), oo 29 (.ld 1 false (.t 28)), oo 30 (.lenS (.t 29)), oo 31 (.bin .gtr .sc (.t 30) (.k (.int .i64 200)))]) <|
 .cond (.t 31)
 (.seq (.reg [oo 2 (.mv (.k (.nils))), oo 3 (.mv (.k (.int .i64 1)))]) <|
 .ret)
 (.skip)) <|
 .reg [om 32 4, om 33 0, oo 34 (.nilck (.t 33)), oo 35 (.fld 0 (.t 34)), oo 36 (.ld 1 false (.t 35)), om 37 5, oo 38 (.idx 4 (.t 36) (.t 37)), oo 39 (.ld 4 true (.t 38)), oo 40 (.call .blind 61 [(.t 39)]), oo 41 (.app 1 1 (.t 32) (.t 40)), om 4 41]) <|
 .reg [om 20 5, oo 21 (.bin .add .sc (.t 20) (.k (.int .i64 1))), om 5 21]
def l43_0 : DC := .loop [0, 4, 5] [] l43_0b
def f43 : DFn := ⟨1, [.t 2, .t 3],
 .seq (.reg [oo 2 (.mv (.k (.nils))), oo 3 (.mv (.k (.int .i64 0)))]) <|
 .seq (.reg [om 6 0, oo 7 (.nilck (.t 6)), oo 8 (.fld 0 (.t 7)), oo 9 (.ld 1 false (.t 8)), oo 10 (.len (.t 9)), oo 11 (.cvI .u8 (.t 10)), oo 12 (.bsl false 1 [.int .u8 0] 1 [(0, (.t 11))]), om 4 12]) <|
 .seq (.seq (.reg [oo 5 (.mv (.k (.int .i64 0)))]) <|
 .block 0 <|
 l43_0) <|
 .seq (.seq (.reg [om 42 4, oo 43 (.len (.t 42)), oo 44 (.bin .gtr .sc (.t 43) (.k (.int .i64 4000)))]) <|
 .cond (.t 44)
 (.seq (.reg [oo 2 (.mv (.k (.nils))), oo 3 (.mv (.k (.int .i64 1)))]) <|
 .ret)
 (.skip)) <|
 .seq (.reg [om 45 4, oo 46 (.call .blind 34 [(.t 45)]), oo 47 (.cvI .u64 (.t 46)), oo 48 (.call .eff 62 [(.t 47), (.k (.int .i64 4))]), om 49 4, oo 50 (.len (.t 49)), oo 51 (.cvI .u64 (.t 50)), oo 52 (.call .eff 62 [(.t 51), (.k (.int .i64 2))]), oo 53 (.app 1 1 (.t 48) (.t 52)), om 54 4, oo 55 (.app 1 1 (.t 53) (.t 54)), om 2 55, oo 3 (.mv (.k (.int .i64 0)))]) <|
 .ret⟩

def l44_0b : DC :=
 .seq (.reg [oo 18 (.bin .lss .sc (.t 17) (.t 16))]) <|
 .seq (.cond (.t 18)
 (.skip)
 (.exit 0)) <|
 .seq (.block 1 <|
 .seq (.reg [om 19 17, om 5 19]) <|
 .seq (.reg [om 21 4, om 22 0, om 23 5, oo 24 (.call .eff 63 [(.t 21), (.t 22), (.t 23)]), om 20 24, oo 25 (.ext 0 (.t 20)), oo 26 (.ext 1 (.t 20)), om 6 25, om 7 26]) <|
 .seq (.seq (.reg [om 27 7, oo 28 (.un .not (.t 27))]) <|
 .cond (.t 28)
 (.seq (.reg [oo 2 (.mv (.k (.nils))), oo 3 (.mv (.k (.int .i64 1)))]) <|
 .ret)
 (.skip)) <|
 .reg [om 29 6, om 4 29]) <|
 .reg [oo 30 (.bin .add .sc (.t 17) (.k (.int .i64 1))), om 17 30]
def l44_0 : DC := .loop [0, 4, 16, 17] [] l44_0b
def f44 : DFn := ⟨1, [.t 2, .t 3],
 .seq (.reg [oo 2 (.mv (.k (.nils))), oo 3 (.mv (.k (.int .i64 0)))]) <|
 .seq (.seq (.reg [om 9 0, oo 10 (.bin .eql .np (.t 9) (.k (.nilp)))]) <|
 .cond (.t 10)
 (.seq (.reg [oo 2 (.mv (.k (.nils))), oo 3 (.mv (.k (.int .i64 1)))]) <|
 .ret)
 (.skip)) <|
 .seq (.reg [om 11 0, oo 12 (.call .ro 53 [(.t 11)]), oo 13 (.cvI .u8 (.t 12)), oo 14 (.bsl false 1 [.int .u8 0] 1 [(0, (.t 13))]), om 4 14]) <|
 .seq (.seq (.reg [om 15 0, oo 16 (.call .ro 53 [(.t 15)]), oo 17 (.mv (.k (.int .i64 0)))]) <|
 .block 0 <|
 l44_0) <|
 .seq (.seq (.reg [om 31 4, oo 32 (.len (.t 31)), oo 33 (.bin .gtr .sc (.t 32) (.k (.int .i64 4000)))]) <|
 .cond (.t 33)
 (.seq (.reg [oo 2 (.mv (.k (.nils))), oo 3 (.mv (.k (.int .i64 1)))]) <|
 .ret)
 (.skip)) <|
 .seq (.reg [om 34 4, oo 35 (.bsl false 1 [.nils] 1 [(0, (.t 34))]), oo 36 (.call .blind 65 [(.t 35)]), oo 37 (.cvI .u64 (.t 36)), oo 38 (.call .eff 64 [(.k (.nils)), (.t 37), (.k (.int .i64 4))]), om 8 38]) <|
 .seq (.reg [om 39 8, om 40 4, oo 41 (.len (.t 40)), oo 42 (.cvI .u64 (.t 41)), oo 43 (.call .eff 64 [(.t 39), (.t 42), (.k (.int .i64 2))]), om 44 4, oo 45 (.app 1 1 (.t 43) (.t 44)), om 2 45, oo 3 (.mv (.k (.int .i64 0)))]) <|
 .ret⟩

def l45_0b : DC :=
 .seq (.reg [oo 24 (.bin .lss .sc (.t 23) (.t 22))]) <|
 .seq (.cond (.t 24)
 (.skip)
 (.exit 0)) <|
 .seq (.block 1 <|
 .seq (.reg [oo 25 (.idx 1 (.t 21) (.t 23)), oo 26 (.ld 1 false (.t 25)), om 10 26]) <|
 .reg [om 27 7, om 28 10, oo 29 (.call .eff 68 [(.t 27), (.t 28)]), om 30 29, omt 31 8 30, oo 32 (.pick (.t 30) (.t 31) (.k (.bool false))), om 8 32]) <|
 .reg [oo 33 (.bin .add .sc (.t 23) (.k (.int .i64 1))), om 23 33]
def l45_0 : DC := .loop [7, 8, 21, 22, 23] [] l45_0b
def f45 : DFn := ⟨3, [.t 6],
 .seq (.reg [oo 6 (.mv (.k (.nilp)))]) <|
 .seq (.reg [oo 11 (.call .eff 49 []), om 7 11]) <|
 .seq (.reg [om 12 7, oo 13 (.call .eff 66 [(.t 12), (.k (.str [115, 116, 97, 116, 101]))]), om 8 13]) <|
 .seq (.seq (.reg [om 14 0, om 15 1, om 16 2, oo 17 (.len (.t 16)), oo 18 (.bsl false 1 [.int .i64 0] 3 [(0, (.t 14)), (1, (.t 15)), (2, (.t 17))]), om 19 2, oo 20 (.call .blind 67 [(.t 19)]), oo 21 (.app 1 8 (.t 18) (.t 20)), oo 22 (.len (.t 21)), oo 23 (.mv (.k (.int .i64 0)))]) <|
 .block 0 <|
 l45_0) <|
 .seq (.seq (.reg [om 34 8, oo 35 (.un .not (.t 34))]) <|
 .cond (.t 35)
 (.seq (.reg [oo 6 (.mv (.k (.nilp)))]) <|
 .ret)
 (.skip)) <|
 .seq (.reg [om 36 7, om 6 36]) <|
 .ret⟩

def l46_1b : DC :=
 .seq (.reg [oo 58 (.bin .lss .sc (.t 57) (.t 56))]) <|
 .seq (.cond (.t 58)
 (.skip)
 (.exit 2)) <|
 .seq (.block 3 <|
 .seq (.reg [oo 59 (.idx 6 (.t 55) (.t 57)), oo 60 (.ld 6 true (.t 59)), oo 8 (.alL [.str [], .int .i64 0, .int .i64 0, .nils, .nils, .nils]), on (.st 6 (.t 8) (.t 60))]) <|
 .seq (.reg [om 61 4, oo 62 (.fld 0 (.t 8)), oo 63 (.ld 1 false (.t 62)), oo 64 (.bsl false 1 [.str []] 1 [(0, (.t 63))]), oo 65 (.app 1 16 (.t 61) (.t 64)), om 4 65]) <|
 .seq (.reg [oo 66 (.ld 4 true (.t 1)), oo 67 (.ld 6 true (.t 8)), oo 68 (.call .blind 70 [(.t 66), (.t 67)]), oo 69 (.un .not (.t 68))]) <|
 .cond (.t 69)
 (.seq (.reg [oo 2 (.mv (.k (.bool false)))]) <|
 .ret)
 (.skip)) <|
 .reg [oo 70 (.bin .add .sc (.t 57) (.k (.int .i64 1))), om 57 70]
def l46_1 : DC := .loop [1, 3, 4, 55, 56, 57] [1] l46_1b
def l46_0b : DC :=
 .seq (.reg [oo 37 (.bin .lss .sc (.t 36) (.t 35))]) <|
 .seq (.cond (.t 37)
 (.skip)
 (.exit 0)) <|
 .seq (.block 1 <|
 .seq (.reg [oo 38 (.idx 2 (.t 34) (.t 36)), oo 39 (.ld 2 true (.t 38)), oo 6 (.alL [.str [], .int .i64 0]), on (.st 2 (.t 6) (.t 39))]) <|
 .seq (.reg [om 40 3, oo 41 (.fld 0 (.t 6)), oo 42 (.ld 1 false (.t 41)), oo 43 (.bsl false 1 [.str []] 1 [(0, (.t 42))]), oo 44 (.app 1 16 (.t 40) (.t 43)), om 3 44]) <|
 .seq (.reg [oo 45 (.fld 1 (.t 6)), oo 46 (.ld 1 false (.t 45)), oo 47 (.fld 0 (.t 1)), oo 48 (.ld 1 false (.t 47)), oo 49 (.len (.t 48)), oo 50 (.bin .sub .sc (.t 49) (.k (.int .i64 1))), oo 51 (.call .blind 69 [(.t 46), (.k (.int .i64 0)), (.t 50)]), oo 52 (.un .not (.t 51))]) <|
 .cond (.t 52)
 (.seq (.reg [oo 2 (.mv (.k (.bool false)))]) <|
 .ret)
 (.skip)) <|
 .reg [oo 53 (.bin .add .sc (.t 36) (.k (.int .i64 1))), om 36 53]
def l46_0 : DC := .loop [1, 3, 4, 34, 35, 36] [1] l46_0b
def f46 : DFn := ⟨1, [.t 2],
 .seq (.reg [oo 1 (.boxL (.t 0)), oo 2 (.mv (.k (.bool false)))]) <|
 .seq (.reg [oo 3 (.mv (.k (.nils))), oo 4 (.mv (.k (.nils)))]) <|
 .seq (.seq (.reg [oo 9 (.fld 0 (.t 1)), oo 10 (.ld 1 false (.t 9)), oo 11 (.len (.t 10)), oo 12 (.call .blind 69 [(.t 11), (.k (.int .i64 1)), (.k (.int .i64 10))]), oo 13 (.un .not (.t 12)), om 14 13, of 15 14 (.fld 2 (.t 1)), of 16 14 (.ld 1 false (.t 15)), of 17 14 (.len (.t 16)), of 18 14 (.call .blind 69 [(.t 17), (.k (.int .i64 1)), (.k (.int .i64 6))]), of 19 14 (.un .not (.t 18)), oo 20 (.pick (.t 14) (.k (.bool true)) (.t 19)), om 21 20, of 22 21 (.fld 1 (.t 1)), of 23 21 (.ld 1 false (.t 22)), of 24 21 (.len (.t 23)), of 25 21 (.bin .gtr .sc (.t 24) (.k (.int .i64 5))), oo 26 (.pick (.t 21) (.k (.bool true)) (.t 25)), om 27 26, of 28 27 (.fld 3 (.t 1)), of 29 27 (.ld 1 false (.t 28)), of 30 27 (.len (.t 29)), of 31 27 (.bin .gtr .sc (.t 30) (.k (.int .i64 6))), oo 32 (.pick (.t 27) (.k (.bool true)) (.t 31))]) <|
 .cond (.t 32)
 (.seq (.reg [oo 2 (.mv (.k (.bool false)))]) <|
 .ret)
 (.skip)) <|
 .seq (.seq (.reg [oo 33 (.fld 1 (.t 1)), oo 34 (.ld 1 false (.t 33)), oo 35 (.len (.t 34)), oo 36 (.mv (.k (.int .i64 0)))]) <|
 .block 0 <|
 l46_0) <|
 .seq (.seq (.reg [oo 54 (.fld 3 (.t 1)), oo 55 (.ld 1 false (.t 54)), oo 56 (.len (.t 55)), oo 57 (.mv (.k (.int .i64 0)))]) <|
 .block 2 <|
 l46_1) <|
 .seq (.reg [oo 71 (.fld 0 (.t 1)), oo 72 (.ld 1 false (.t 71)), oo 73 (.call .blind 71 [(.t 72)]), om 74 73, ot 75 74 (.fld 2 (.t 1)), ot 76 74 (.ld 1 false (.t 75)), ot 77 74 (.call .blind 71 [(.t 76)]), oo 78 (.pick (.t 74) (.t 77) (.k (.bool false))), om 79 78, omt 80 3 79, ot 81 79 (.call .blind 71 [(.t 80)]), oo 82 (.pick (.t 79) (.t 81) (.k (.bool false))), om 83 82, omt 84 4 83, ot 85 83 (.call .blind 71 [(.t 84)]), oo 86 (.pick (.t 83) (.t 85) (.k (.bool false))), om 2 86]) <|
 .ret⟩

def l47_0b : DC :=
 .seq (.reg [oo 25 (.bin .lss .sc (.t 24) (.t 23))]) <|
 .seq (.cond (.t 25)
 (.skip)
 (.exit 0)) <|
 .seq (.block 1 <|
 .seq (.reg [om 26 24, oo 27 (.idx 6 (.t 22) (.t 24)), oo 28 (.ld 6 true (.t 27)), oo 4 (.alL [.str [], .int .i64 0, .int .i64 0, .nils, .nils, .nils]), om 3 26, on (.st 6 (.t 4) (.t 28))]) <|
 .seq (.drw [oo 29 (.fld 3 (.t 4)), oo 30 (.ld 1 false (.t 29)), oo 31 (.call .blind 75 [(.t 30)]), oo 32 (.fld 4 (.t 4)), oo 33 (.ld 1 false (.t 32)), oo 34 (.call .blind 76 [(.t 33)]), oo 35 (.fld 5 (.t 4)), oo 36 (.ld 1 false (.t 35)), oo 37 (.call .blind 76 [(.t 36)]), oo 38 (.fld 3 (.t 4)), on (.st 1 (.t 38) (.t 31)), oo 39 (.fld 4 (.t 4)), on (.st 1 (.t 39) (.t 34)), oo 40 (.fld 5 (.t 4)), on (.st 1 (.t 40) (.t 37))] [[], [], [1], [], [], [1, 2, 4], [], [], [1, 2, 4, 5, 7], [], [1, 2, 4, 5, 7, 8], [], [1, 2, 4, 5, 7, 8, 10], [], [1, 2, 4, 5, 7, 8, 10, 12]]) <|
 .reg [oo 41 (.fld 3 (.t 1)), oo 42 (.ld 1 false (.t 41)), om 43 3, oo 44 (.ld 6 true (.t 4)), oo 45 (.idx 6 (.t 42) (.t 43)), on (.st 6 (.t 45) (.t 44))]) <|
 .reg [oo 46 (.bin .add .sc (.t 24) (.k (.int .i64 1))), om 24 46]
def l47_0 : DC := .loop [1, 2, 22, 23, 24] [1, 2] l47_0b
def f47 : DFn := ⟨1, [.cell 2 4 true],
 .seq (.reg [oo 1 (.boxL (.t 0)), oo 2 (.alL [.nils, .nils, .nils, .nils])]) <|
 .seq (.drw [oo 5 (.fld 0 (.t 1)), oo 6 (.ld 1 false (.t 5)), oo 7 (.call .blind 72 [(.t 6)]), oo 8 (.fld 1 (.t 1)), oo 9 (.ld 1 false (.t 8)), oo 10 (.call .blind 73 [(.t 9)]), oo 11 (.fld 2 (.t 1)), oo 12 (.ld 1 false (.t 11)), oo 13 (.call .blind 72 [(.t 12)]), oo 14 (.fld 3 (.t 1)), oo 15 (.ld 1 false (.t 14)), oo 16 (.call .eff 74 [(.t 15)]), oo 17 (.fld 0 (.t 1)), on (.st 1 (.t 17) (.t 7)), oo 18 (.fld 1 (.t 1)), on (.st 1 (.t 18) (.t 10)), oo 19 (.fld 2 (.t 1)), on (.st 1 (.t 19) (.t 13)), oo 20 (.fld 3 (.t 1)), on (.st 1 (.t 20) (.t 16))] [[], [], [1], [], [], [1, 2, 4], [], [], [1, 2, 4, 5, 7], [], [], [1, 2, 4, 5, 7, 8, 10], [], [1, 2, 4, 5, 7, 8, 10, 11], [], [1, 2, 4, 5, 7, 8, 10, 11, 13], [], [1, 2, 4, 5, 7, 8, 10, 11, 13, 15], [], [1, 2, 4, 5, 7, 8, 10, 11, 13, 15, 17]]) <|
 .seq (.seq (.reg [oo 21 (.fld 3 (.t 1)), oo 22 (.ld 1 false (.t 21)), oo 23 (.len (.t 22)), oo 24 (.mv (.k (.int .i64 0)))]) <|
 .block 0 <|
 l47_0) <|
 .seq (.reg [oo 47 (.ld 4 true (.t 1)), on (.st 4 (.t 2) (.t 47))]) <|
 .ret⟩

def f49 : DFn := ⟨0, [.t 0],
 .seq (.reg [oo 0 (.mv (.k (.nilp)))]) <|
 .seq (.reg [oo 1 (.build [.nils] []), oo 2 (.boxH (.t 1)), om 0 2]) <|
 .ret⟩

def l50_0b : DC :=
 .seq (.reg [oo 19 (.bin .lss .sc (.t 18) (.t 17))]) <|
 .seq (.cond (.t 19)
 (.skip)
 (.exit 0)) <|
 .seq (.block 1 <|
 .seq (.reg [oo 20 (.idx 1 (.t 16) (.t 18)), oo 21 (.ld 1 false (.t 20)), om 9 21]) <|
 .reg [om 22 7, oo 23 (.bin .shl .sc (.t 22) (.k (.int .u64 8))), om 24 9, oo 25 (.cvI .u64 (.t 24)), oo 26 (.bin .or .sc (.t 23) (.t 25)), om 7 26]) <|
 .reg [oo 27 (.bin .add .sc (.t 18) (.k (.int .i64 1))), om 18 27]
def l50_0 : DC := .loop [0, 1, 7, 16, 17, 18] [] l50_0b
def f50 : DFn := ⟨2, [.t 4, .t 5, .t 6],
 .seq (.reg [oo 4 (.mv (.k (.int .u64 0))), oo 5 (.mv (.k (.nils))), oo 6 (.mv (.k (.bool false)))]) <|
 .seq (.seq (.reg [om 10 0, oo 11 (.len (.t 10)), om 12 1, oo 13 (.bin .lss .sc (.t 11) (.t 12))]) <|
 .cond (.t 13)
 (.seq (.reg [oo 4 (.mv (.k (.int .u64 0))), oo 5 (.mv (.k (.nils))), oo 6 (.mv (.k (.bool false)))]) <|
 .ret)
 (.skip)) <|
 .seq (.reg [oo 7 (.mv (.k (.int .u64 0)))]) <|
 .seq (.seq (.reg [om 14 0, om 15 1, oo 16 (.slc 1 (.t 14) none (some (.t 15)) none), oo 17 (.len (.t 16)), oo 18 (.mv (.k (.int .i64 0)))]) <|
 .block 0 <|
 l50_0) <|
 .seq (.drw [om 28 7, om 29 0, om 30 1, oo 31 (.slc 1 (.t 29) (some (.t 30)) none none), om 4 28, om 5 31, oo 6 (.mv (.k (.bool true)))] [[], [], [], [], [], [], []]) <|
 .ret⟩

def f51 : DFn := ⟨2, [.t 4, .t 5],
 .seq (.reg [oo 4 (.mv (.k (.nils))), oo 5 (.mv (.k (.bool false)))]) <|
 .seq (.reg [om 18 1, oo 19 (.call .ro 50 [(.t 18), (.k (.int .i64 1))]), om 17 19, oo 20 (.ext 0 (.t 17)), oo 21 (.ext 1 (.t 17)), oo 22 (.ext 2 (.t 17)), om 6 20, om 1 21, om 7 22]) <|
 .seq (.block 0 <|
 .seq (.reg [om 24 7, oo 25 (.un .not (.t 24)), om 23 25]) <|
 .cond (.t 23)
 (.seq (.reg [oo 4 (.mv (.k (.nils))), oo 5 (.mv (.k (.bool false)))]) <|
 .ret)
 (.seq (.reg [om 27 6, oo 28 (.bin .eql .sc (.t 27) (.k (.int .u64 1))), om 26 28]) <|
 .cond (.t 26)
 (.seq (.reg [om 30 1, oo 31 (.call .ro 50 [(.t 30), (.k (.int .i64 8))]), om 29 31, oo 32 (.ext 0 (.t 29)), oo 33 (.ext 1 (.t 29)), oo 34 (.ext 2 (.t 29)), om 8 32, om 9 33, om 10 34]) <|
 .seq (.reg [om 35 9, om 36 10, om 37 36, omt 38 0 37, omt 39 8 37, ot 40 37 (.cvI .i64 (.t 39)), ot 41 37 (.call .eff 68 [(.t 38), (.t 40)]), oo 42 (.pick (.t 37) (.t 41) (.k (.bool false))), om 4 35, om 5 42]) <|
 .ret)
 (.seq (.reg [om 44 6, oo 45 (.bin .eql .sc (.t 44) (.k (.int .u64 2))), om 43 45]) <|
 .cond (.t 43)
 (.seq (.reg [om 47 1, oo 48 (.call .ro 50 [(.t 47), (.k (.int .i64 1))]), om 46 48, oo 49 (.ext 0 (.t 46)), oo 50 (.ext 1 (.t 46)), oo 51 (.ext 2 (.t 46)), om 11 49, om 12 50, om 13 51]) <|
 .seq (.seq (.reg [om 52 13, oo 53 (.un .not (.t 52)), om 54 53, omf 55 11 54, of 56 54 (.cvI .i64 (.t 55)), omf 57 12 54, of 58 54 (.len (.t 57)), of 59 54 (.bin .gtr .sc (.t 56) (.t 58)), oo 60 (.pick (.t 54) (.k (.bool true)) (.t 59))]) <|
 .cond (.t 60)
 (.seq (.reg [oo 4 (.mv (.k (.nils))), oo 5 (.mv (.k (.bool false)))]) <|
 .ret)
 (.skip)) <|
 .seq (.drw [om 61 12, om 62 11, oo 63 (.slc 1 (.t 61) (some (.t 62)) none none), om 64 0, om 65 12, om 66 11, oo 67 (.slc 1 (.t 65) none (some (.t 66)) none), oo 68 (.cvBS (.t 67)), oo 69 (.call .eff 66 [(.t 64), (.t 68)]), om 4 63, om 5 69] [[], [], [], [], [], [], [], [], [7], [], []]) <|
 .ret)
 (.seq (.reg [om 71 6, oo 72 (.bin .eql .sc (.t 71) (.k (.int .u64 3))), om 70 72]) <|
 .cond (.t 70)
 (.seq (.reg [om 74 1, oo 75 (.call .ro 50 [(.t 74), (.k (.int .i64 1))]), om 73 75, oo 76 (.ext 0 (.t 73)), oo 77 (.ext 1 (.t 73)), oo 78 (.ext 2 (.t 73)), om 14 76, om 15 77, om 16 78]) <|
 .seq (.reg [om 79 15, om 80 16, om 81 80, omt 82 0 81, omt 83 14 81, ot 84 81 (.bin .eql .sc (.t 83) (.k (.int .u64 1))), ot 85 81 (.call .eff 77 [(.t 82), (.t 84)]), oo 86 (.pick (.t 81) (.t 85) (.k (.bool false))), om 4 79, om 5 86]) <|
 .ret)
 (.skip))))) <|
 .seq (.reg [oo 4 (.mv (.k (.nils))), oo 5 (.mv (.k (.bool false)))]) <|
 .ret⟩

def f52 : DFn := ⟨2, [.t 4],
 .seq (.reg [oo 4 (.mv (.k (.bool false)))]) <|
 .seq (.reg [om 5 0, oo 6 (.cvBS (.t 5)), om 7 1, oo 8 (.cvBS (.t 7)), oo 9 (.bin .eql .sc (.t 6) (.t 8)), om 4 9]) <|
 .ret⟩

def f53 : DFn := ⟨1, [.t 2],
 .seq (.reg [oo 2 (.mv (.k (.int .i64 0)))]) <|
 .seq (.reg [om 3 0, oo 4 (.call .ro 78 [(.t 3)]), oo 5 (.len (.t 4)), om 2 5]) <|
 .ret⟩

def f54 : DFn := ⟨2, [.t 4, .t 5],
 .seq (.reg [oo 4 (.mv (.k (.int .i64 0))), oo 5 (.mv (.k (.bool false)))]) <|
 .seq (.reg [om 9 0, om 10 1, oo 11 (.call .ro 79 [(.t 9), (.t 10)]), oo 12 (.asrt 3 (.int .i64 0) true (.t 11)), om 8 12, oo 13 (.ext 0 (.t 8)), oo 14 (.ext 1 (.t 8)), om 6 13, om 7 14]) <|
 .seq (.reg [om 15 6, om 16 7, om 4 15, om 5 16]) <|
 .ret⟩

def f55 : DFn := ⟨2, [.t 4, .t 5],
 .seq (.reg [oo 4 (.mv (.k (.str []))), oo 5 (.mv (.k (.bool false)))]) <|
 .seq (.reg [om 9 0, om 10 1, oo 11 (.call .ro 79 [(.t 9), (.t 10)]), oo 12 (.asrt 9 (.str []) true (.t 11)), om 8 12, oo 13 (.ext 0 (.t 8)), oo 14 (.ext 1 (.t 8)), om 6 13, om 7 14]) <|
 .seq (.reg [om 15 6, om 16 7, om 4 15, om 5 16]) <|
 .ret⟩

def f57 : DFn := ⟨1, [.t 2],
 .seq (.reg [oo 2 (.mv (.k (.nils)))]) <|
 .seq (.seq (.reg [om 3 0, oo 4 (.bin .eql .ns (.t 3) (.k (.nils)))]) <|
 .cond (.t 4)
 (.seq (.reg [oo 2 (.mv (.k (.nils)))]) <|
 .ret)
 (.skip)) <|
 .seq (.reg [oo 5 (.bsl false 4 [.int .i64 0, .int .i64 0, .int .i64 0, .bool false] 0 []), om 6 0, oo 7 (.app 4 32 (.t 5) (.t 6)), om 2 7]) <|
 .ret⟩

def f58 : DFn := ⟨3, [.t 6],
 .seq (.reg [oo 5 (.boxL (.t 2)), oo 6 (.mv (.k (.bool false)))]) <|
 .seq (.reg [oo 8 (.fld 0 (.t 5)), oo 9 (.ld 1 false (.t 8)), oo 10 (.build [.int .i64 0, .int .i64 0, .int .i64 0, .bool false] [(0, 1, (.t 9))]), oo 7 (.alL [.int .i64 0, .int .i64 0, .int .i64 0, .bool false]), on (.st 4 (.t 7) (.t 10))]) <|
 .seq (.seq (.reg [oo 11 (.fld 0 (.t 5)), oo 12 (.ld 1 false (.t 11))]) <|
 .block 0 <|
 .seq (.seq (.reg [oo 14 (.bin .eql .sc (.t 12) (.k (.int .i64 0))), om 13 14]) <|
 .cond (.t 13)
 (.skip)
 (.reg [oo 15 (.bin .eql .sc (.t 12) (.k (.int .i64 2))), om 13 15])) <|
 .cond (.t 13)
 (.skip)
 (.seq (.reg [oo 17 (.bin .eql .sc (.t 12) (.k (.int .i64 1))), om 16 17]) <|
 .cond (.t 16)
 (.reg [oo 18 (.fld 1 (.t 5)), oo 19 (.ld 1 false (.t 18)), oo 20 (.mx (.t 19) (.k (.int .i64 0))), oo 21 (.mn (.t 20) (.k (.int .i64 8))), oo 22 (.fld 1 (.t 7)), on (.st 1 (.t 22) (.t 21))])
 (.seq (.reg [oo 24 (.bin .eql .sc (.t 12) (.k (.int .i64 4))), om 23 24]) <|
 .cond (.t 23)
 (.reg [oo 25 (.fld 1 (.t 5)), oo 26 (.ld 1 false (.t 25)), oo 27 (.mx (.t 26) (.k (.int .i64 0))), oo 28 (.mn (.t 27) (.k (.int .i64 5))), oo 29 (.fld 1 (.t 7)), on (.st 1 (.t 29) (.t 28))])
 (.seq (.reg [oo 31 (.bin .eql .sc (.t 12) (.k (.int .i64 3))), om 30 31]) <|
 .cond (.t 30)
 (.drw [oo 32 (.fld 2 (.t 5)), oo 33 (.ld 1 false (.t 32)), oo 34 (.mx (.t 33) (.k (.int .i64 0))), om 35 0, oo 36 (.nilck (.t 35)), oo 37 (.fld 0 (.t 36)), oo 38 (.fld 3 (.t 37)), oo 39 (.ld 1 false (.t 38)), om 40 1, oo 41 (.idx 6 (.t 39) (.t 40)), oo 42 (.fld 3 (.t 41)), oo 43 (.ld 1 false (.t 42)), oo 44 (.len (.t 43)), oo 45 (.bin .sub .sc (.t 44) (.k (.int .i64 1))), oo 46 (.mn (.t 34) (.t 45)), oo 47 (.fld 3 (.t 5)), oo 48 (.ld 1 false (.t 47)), oo 49 (.fld 2 (.t 7)), on (.st 1 (.t 49) (.t 46)), oo 50 (.fld 3 (.t 7)), on (.st 1 (.t 50) (.t 48))] [[], [], [], [], [], [], [], [], [], [7], [], [7, 9], [], [], [], [], [], [], [1, 7, 9, 11], [], [1, 7, 9, 11, 16, 18]])
 (.seq (.reg [oo 6 (.mv (.k (.bool false)))]) <|
 .ret))))) <|
 .seq (.reg [oo 51 (.ld 4 true (.t 5)), oo 52 (.ld 4 true (.t 7)), oo 53 (.bin .eql (.st [.i, .i, .i, .b]) (.t 51) (.t 52)), om 6 53]) <|
 .ret⟩

def f59 : DFn := ⟨3, [.t 6],
 .seq (.reg [oo 3 (.boxH (.t 0)), oo 5 (.boxH (.t 2)), oo 6 (.mv (.k (.bool false)))]) <|
 .seq (.drw [oo 11 (.fld 3 (.t 3)), oo 12 (.ld 1 false (.t 11)), om 13 1, oo 14 (.idx 6 (.t 12) (.t 13)), oo 15 (.ld 6 true (.t 14)), oo 16 (.fld 3 (.t 3)), oo 17 (.ld 1 false (.t 16)), oo 18 (.ld 1 false (.t 5)), oo 19 (.idx 6 (.t 17) (.t 18)), oo 20 (.ld 6 true (.t 19)), oo 7 (.alL [.str [], .int .i64 0, .int .i64 0, .nils, .nils, .nils]), oo 8 (.alH [.str [], .int .i64 0, .int .i64 0, .nils, .nils, .nils]), on (.st 6 (.t 7) (.t 15)), on (.st 6 (.t 8) (.t 20))] [[], [], [], [1], [1, 3], [], [], [], [6, 7], [6, 7, 8], [], [], [1, 3, 4, 10, 11], [1, 3, 4, 6, 7, 8, 9, 10, 11, 12]]) <|
 .seq (.reg [oo 21 (.fld 3 (.t 7)), oo 22 (.ld 1 false (.t 21)), oo 23 (.mkF 82 [(.t 8)]), oo 24 (.call .ro 81 [(.t 22), (.t 23)]), om 9 24]) <|
 .seq (.reg [oo 25 (.ld 4 true (.t 3)), om 26 1, oo 27 (.call .blind 85 [(.t 25), (.t 26)]), oo 28 (.mkF 86 [(.t 3), (.t 5)]), oo 29 (.call .ro 84 [(.t 27), (.t 28)]), om 10 29]) <|
 .seq (.reg [om 30 1, oo 31 (.ld 1 false (.t 5)), oo 32 (.bin .eql .sc (.t 30) (.t 31)), om 33 32, of 34 33 (.fld 1 (.t 7)), of 35 33 (.ld 1 false (.t 34)), of 36 33 (.fld 1 (.t 8)), of 37 33 (.ld 1 false (.t 36)), of 38 33 (.bin .eql .sc (.t 35) (.t 37)), oo 39 (.pick (.t 33) (.k (.bool true)) (.t 38)), om 40 39, omf 41 9 40, oo 42 (.pick (.t 40) (.k (.bool true)) (.t 41)), om 43 42, omf 44 10 43, oo 45 (.pick (.t 43) (.k (.bool true)) (.t 44)), om 6 45]) <|
 .ret⟩

def l60_0b : DC :=
 .seq (.seq (.reg [om 5 4, om 6 0, oo 7 (.len (.t 6)), oo 8 (.bin .lss .sc (.t 5) (.t 7))]) <|
 .cond (.t 8)
 (.skip)
 (.exit 0)) <|
 .seq (.block 1 <|
 .drw [om 11 3, om 12 0, om 13 4, oo 14 (.idx 4 (.t 12) (.t 13)), oo 15 (.fld 0 (.t 14)), oo 16 (.ld 1 false (.t 15)), om 17 0, om 18 4, oo 19 (.idx 4 (.t 17) (.t 18)), oo 20 (.fld 1 (.t 19)), oo 21 (.ld 1 false (.t 20)), om 22 0, om 23 4, oo 24 (.idx 4 (.t 22) (.t 23)), oo 25 (.fld 2 (.t 24)), oo 26 (.ld 1 false (.t 25)), om 27 0, om 28 4, oo 29 (.idx 4 (.t 27) (.t 28)), oo 30 (.fld 3 (.t 29)), oo 31 (.ld 1 false (.t 30)), oo 32 (.call .blind 88 [(.t 31)]), oo 33 (.bsl false 1 [.int .i64 0] 4 [(0, (.t 16)), (1, (.t 21)), (2, (.t 26)), (3, (.t 32))]), oo 34 (.app 1 8 (.t 11) (.t 33)), om 3 34] [[], [], [], [], [], [3], [], [], [], [], [8], [], [], [], [], [13], [], [], [], [], [18], [18, 20], [3, 5, 8, 10, 13, 15, 18, 20, 21], [3, 5, 8, 10, 13, 15, 18, 20, 21, 22], []]) <|
 .reg [om 9 4, oo 10 (.bin .add .sc (.t 9) (.k (.int .i64 1))), om 4 10]
def l60_0 : DC := .loop [0, 3, 4] [] l60_0b
def f60 : DFn := ⟨1, [.t 2],
 .seq (.reg [oo 2 (.mv (.k (.nils)))]) <|
 .seq (.reg [oo 3 (.mv (.k (.nils)))]) <|
 .seq (.seq (.reg [oo 4 (.mv (.k (.int .i64 0)))]) <|
 .block 0 <|
 l60_0) <|
 .seq (.reg [om 35 3, om 2 35]) <|
 .ret⟩

def f61 : DFn := ⟨1, [.t 2],
 .seq (.reg [oo 1 (.boxL (.t 0)), oo 2 (.mv (.k (.nils)))]) <|
 .seq (.seq (.reg [oo 3 (.fld 0 (.t 1)), oo 4 (.ld 1 false (.t 3))]) <|
 .block 0 <|
 .seq (.reg [oo 6 (.bin .eql .sc (.t 4) (.k (.int .i64 1))), om 5 6]) <|
 .cond (.t 5)
 (.seq (.reg [oo 7 (.bsl false 1 [.int .u8 0] 1 [(0, (.k (.int .u8 1)))]), oo 8 (.fld 1 (.t 1)), oo 9 (.ld 1 false (.t 8)), oo 10 (.cvI .u64 (.t 9)), oo 11 (.call .eff 62 [(.t 10), (.k (.int .i64 8))]), oo 12 (.app 1 1 (.t 7) (.t 11)), om 2 12]) <|
 .ret)
 (.seq (.reg [oo 14 (.bin .eql .sc (.t 4) (.k (.int .i64 2))), om 13 14]) <|
 .cond (.t 13)
 (.seq (.reg [oo 15 (.fld 2 (.t 1)), oo 16 (.ld 1 false (.t 15)), oo 17 (.lenS (.t 16)), oo 18 (.cvI .u8 (.t 17)), oo 19 (.bsl false 1 [.int .u8 0] 2 [(0, (.k (.int .u8 2))), (1, (.t 18))]), oo 20 (.fld 2 (.t 1)), oo 21 (.ld 1 false (.t 20)), oo 22 (.cvSB (.t 21)), oo 23 (.app 1 1 (.t 19) (.t 22)), om 2 23]) <|
 .ret)
 (.skip))) <|
 .seq (.seq (.reg [oo 24 (.fld 3 (.t 1)), oo 25 (.ld 1 false (.t 24))]) <|
 .cond (.t 25)
 (.seq (.reg [oo 26 (.bsl false 1 [.int .u8 0] 2 [(0, (.k (.int .u8 3))), (1, (.k (.int .u8 1)))]), om 2 26]) <|
 .ret)
 (.skip)) <|
 .seq (.reg [oo 27 (.bsl false 1 [.int .u8 0] 2 [(0, (.k (.int .u8 3))), (1, (.k (.int .u8 0)))]), om 2 27]) <|
 .ret⟩

def l62_0b : DC :=
 .seq (.seq (.reg [om 9 6, oo 10 (.bin .geq .sc (.t 9) (.k (.int .i64 0)))]) <|
 .cond (.t 10)
 (.skip)
 (.exit 0)) <|
 .seq (.block 1 <|
 .reg [om 13 5, om 14 0, om 15 6, oo 16 (.bin .mul .sc (.k (.int .i64 8)) (.t 15)), oo 17 (.cvI .u64 (.t 16)), oo 18 (.bin .shr .sc (.t 14) (.t 17)), oo 19 (.cvI .u8 (.t 18)), oo 20 (.bsl false 1 [.int .u8 0] 1 [(0, (.t 19))]), oo 21 (.app 1 1 (.t 13) (.t 20)), om 5 21]) <|
 .reg [om 11 6, oo 12 (.bin .sub .sc (.t 11) (.k (.int .i64 1))), om 6 12]
def l62_0 : DC := .loop [0, 5, 6] [] l62_0b
def f62 : DFn := ⟨2, [.t 4],
 .seq (.reg [oo 4 (.mv (.k (.nils)))]) <|
 .seq (.reg [oo 5 (.mv (.k (.nils)))]) <|
 .seq (.seq (.reg [om 7 1, oo 8 (.bin .sub .sc (.t 7) (.k (.int .i64 1))), om 6 8]) <|
 .block 0 <|
 l62_0) <|
 .seq (.reg [om 22 5, om 4 22]) <|
 .ret⟩

def f63 : DFn := ⟨3, [.t 6, .t 7],
 .seq (.reg [oo 6 (.mv (.k (.nils))), oo 7 (.mv (.k (.bool false)))]) <|
 .seq (.seq (.reg [om 15 1, om 16 2, oo 17 (.call .ro 54 [(.t 15), (.t 16)]), om 14 17, oo 18 (.ext 0 (.t 14)), oo 19 (.ext 1 (.t 14)), om 8 18, om 9 19]) <|
 .seq (.reg [om 20 9]) <|
 .cond (.t 20)
 (.seq (.reg [om 21 0, oo 22 (.bsl false 1 [.int .u8 0] 1 [(0, (.k (.int .u8 1)))]), oo 23 (.app 1 1 (.t 21) (.t 22)), om 24 8, oo 25 (.cvI .u64 (.t 24)), oo 26 (.call .eff 64 [(.t 23), (.t 25), (.k (.int .i64 8))]), om 6 26, oo 7 (.mv (.k (.bool true)))]) <|
 .ret)
 (.skip)) <|
 .seq (.seq (.reg [om 28 1, om 29 2, oo 30 (.call .ro 55 [(.t 28), (.t 29)]), om 27 30, oo 31 (.ext 0 (.t 27)), oo 32 (.ext 1 (.t 27)), om 10 31, om 11 32]) <|
 .seq (.reg [om 33 11]) <|
 .cond (.t 33)
 (.seq (.reg [om 34 0, om 35 10, oo 36 (.lenS (.t 35)), oo 37 (.cvI .u8 (.t 36)), oo 38 (.bsl false 1 [.int .u8 0] 2 [(0, (.k (.int .u8 2))), (1, (.t 37))]), oo 39 (.app 1 1 (.t 34) (.t 38)), om 40 10, oo 41 (.app 1 1 (.t 39) (.t 40)), om 42 10, oo 43 (.lenS (.t 42)), oo 44 (.bin .leq .sc (.t 43) (.k (.int .i64 200))), om 6 41, om 7 44]) <|
 .ret)
 (.skip)) <|
 .seq (.reg [om 46 1, om 47 2, oo 48 (.call .ro 89 [(.t 46), (.t 47)]), om 45 48, oo 49 (.ext 0 (.t 45)), oo 50 (.ext 1 (.t 45)), om 12 49, om 13 50]) <|
 .seq (.reg [om 51 0, om 52 12, oo 53 (.call .blind 90 [(.t 52)]), oo 54 (.bsl false 1 [.int .u8 0] 2 [(0, (.k (.int .u8 3))), (1, (.t 53))]), oo 55 (.app 1 1 (.t 51) (.t 54)), om 6 55, oo 7 (.mv (.k (.bool true)))]) <|
 .ret⟩

def l64_0b : DC :=
 .seq (.reg [oo 10 (.bin .lss .sc (.t 9) (.t 8))]) <|
 .seq (.cond (.t 10)
 (.skip)
 (.exit 0)) <|
 .seq (.block 1 <|
 .seq (.reg [om 11 9, om 7 11]) <|
 .reg [om 12 0, om 13 1, om 14 2, oo 15 (.bin .sub .sc (.t 14) (.k (.int .i64 1))), om 16 7, oo 17 (.bin .sub .sc (.t 15) (.t 16)), oo 18 (.bin .mul .sc (.k (.int .i64 8)) (.t 17)), oo 19 (.bin .shr .sc (.t 13) (.t 18)), oo 20 (.cvI .u8 (.t 19)), oo 21 (.bsl false 1 [.int .u8 0] 1 [(0, (.t 20))]), oo 22 (.app 1 1 (.t 12) (.t 21)), om 0 22]) <|
 .reg [oo 23 (.bin .add .sc (.t 9) (.k (.int .i64 1))), om 9 23]
def l64_0 : DC := .loop [0, 1, 2, 8, 9] [] l64_0b
def f64 : DFn := ⟨3, [.t 6],
 .seq (.reg [oo 6 (.mv (.k (.nils)))]) <|
 .seq (.seq (.reg [om 8 2, oo 9 (.mv (.k (.int .i64 0)))]) <|
 .block 0 <|
 l64_0) <|
 .seq (.reg [om 24 0, om 6 24]) <|
 .ret⟩

def l65_1b : DC :=
 .seq (.reg [oo 17 (.bin .lss .sc (.t 16) (.t 15))]) <|
 .seq (.cond (.t 17)
 (.skip)
 (.exit 2)) <|
 .seq (.block 3 <|
 .seq (.reg [oo 18 (.idx 1 (.t 14) (.t 16)), oo 19 (.ld 1 false (.t 18)), om 7 19]) <|
 .reg [om 20 3, om 21 7, oo 22 (.call .blind 91 [(.t 20), (.t 21)]), om 3 22]) <|
 .reg [oo 23 (.bin .add .sc (.t 16) (.k (.int .i64 1))), om 16 23]
def l65_1 : DC := .loop [3, 8, 9, 10, 14, 15, 16] [] l65_1b
def l65_0b : DC :=
 .seq (.reg [oo 11 (.bin .lss .sc (.t 10) (.t 9))]) <|
 .seq (.cond (.t 11)
 (.skip)
 (.exit 0)) <|
 .seq (.block 1 <|
 .seq (.reg [oo 12 (.idx 1 (.t 8) (.t 10)), oo 13 (.ld 1 false (.t 12)), om 5 13]) <|
 .seq (.reg [om 14 5, oo 15 (.len (.t 14)), oo 16 (.mv (.k (.int .i64 0)))]) <|
 .block 2 <|
 l65_1) <|
 .reg [oo 24 (.bin .add .sc (.t 10) (.k (.int .i64 1))), om 10 24]
def l65_0 : DC := .loop [3, 8, 9, 10] [] l65_0b
def f65 : DFn := ⟨1, [.t 2],
 .seq (.reg [oo 2 (.mv (.k (.int .u32 0)))]) <|
 .seq (.reg [oo 3 (.mv (.k (.int .u32 4294967295)))]) <|
 .seq (.seq (.reg [om 8 0, oo 9 (.len (.t 8)), oo 10 (.mv (.k (.int .i64 0)))]) <|
 .block 0 <|
 l65_0) <|
 .seq (.reg [om 25 3, oo 26 (.un .xor (.t 25)), om 2 26]) <|
 .ret⟩

def f66 : DFn := ⟨2, [.t 4],
 .seq (.reg [oo 4 (.mv (.k (.bool false)))]) <|
 .seq (.reg [om 5 0, om 6 1, oo 7 (.mkI 9 (.t 6)), oo 8 (.call .eff 92 [(.t 5), (.t 7)]), om 4 8]) <|
 .ret⟩

def l67_0b : DC :=
 .seq (.reg [oo 9 (.bin .lss .sc (.t 8) (.t 7))]) <|
 .seq (.cond (.t 9)
 (.skip)
 (.exit 0)) <|
 .seq (.block 1 <|
 .seq (.reg [oo 10 (.idx 4 (.t 6) (.t 8)), oo 11 (.ld 4 true (.t 10)), oo 5 (.alL [.int .i64 0, .int .i64 0, .int .i64 0, .bool false]), on (.st 4 (.t 5) (.t 11))]) <|
 .drw [om 12 3, oo 13 (.fld 0 (.t 5)), oo 14 (.ld 1 false (.t 13)), oo 15 (.fld 1 (.t 5)), oo 16 (.ld 1 false (.t 15)), oo 17 (.fld 2 (.t 5)), oo 18 (.ld 1 false (.t 17)), oo 19 (.fld 3 (.t 5)), oo 20 (.ld 1 false (.t 19)), oo 21 (.call .blind 93 [(.t 20)]), oo 22 (.bsl false 1 [.int .i64 0] 4 [(0, (.t 14)), (1, (.t 16)), (2, (.t 18)), (3, (.t 21))]), oo 23 (.app 1 8 (.t 12) (.t 22)), om 3 23] [[], [], [], [], [], [], [], [], [], [8], [2, 4, 6, 8, 9], [2, 4, 6, 8, 9, 10], []]) <|
 .reg [oo 24 (.bin .add .sc (.t 8) (.k (.int .i64 1))), om 8 24]
def l67_0 : DC := .loop [3, 6, 7, 8] [] l67_0b
def f67 : DFn := ⟨1, [.t 2],
 .seq (.reg [oo 2 (.mv (.k (.nils)))]) <|
 .seq (.reg [oo 3 (.mv (.k (.nils)))]) <|
 .seq (.seq (.reg [om 6 0, oo 7 (.len (.t 6)), oo 8 (.mv (.k (.int .i64 0)))]) <|
 .block 0 <|
 l67_0) <|
 .seq (.reg [om 25 3, om 2 25]) <|
 .ret⟩

def f68 : DFn := ⟨2, [.t 4],
 .seq (.reg [oo 4 (.mv (.k (.bool false)))]) <|
 .seq (.reg [om 5 0, om 6 1, oo 7 (.mkI 3 (.t 6)), oo 8 (.call .eff 92 [(.t 5), (.t 7)]), om 4 8]) <|
 .ret⟩

def f69 : DFn := ⟨3, [.t 6],
 .seq (.reg [oo 6 (.mv (.k (.bool false)))]) <|
 .seq (.reg [om 7 0, om 8 1, oo 9 (.bin .geq .sc (.t 7) (.t 8)), om 10 9, omt 11 0 10, omt 12 2 10, ot 13 10 (.bin .leq .sc (.t 11) (.t 12)), oo 14 (.pick (.t 10) (.t 13) (.k (.bool false))), om 6 14]) <|
 .ret⟩

def l70_0b : DC :=
 .seq (.reg [oo 61 (.bin .lss .sc (.t 60) (.t 59))]) <|
 .seq (.cond (.t 61)
 (.skip)
 (.exit 0)) <|
 .seq (.block 1 <|
 .seq (.reg [oo 62 (.idx 2 (.t 58) (.t 60)), oo 63 (.ld 2 true (.t 62)), oo 8 (.alL [.str [], .int .i64 0]), on (.st 2 (.t 8) (.t 63))]) <|
 .seq (.reg [oo 64 (.fld 3 (.t 3)), oo 65 (.ld 1 false (.t 64)), oo 66 (.fld 1 (.t 8)), oo 67 (.ld 1 false (.t 66)), oo 68 (.call .blind 83 [(.t 65), (.t 67)])]) <|
 .cond (.t 68)
 (.reg [om 69 6, oo 70 (.bin .add .sc (.t 69) (.k (.int .i64 1))), om 6 70])
 (.skip)) <|
 .reg [oo 71 (.bin .add .sc (.t 60) (.k (.int .i64 1))), om 60 71]
def l70_0 : DC := .loop [3, 6, 58, 59, 60] [3] l70_0b
def f70 : DFn := ⟨2, [.t 4],
 .seq (.reg [oo 2 (.boxL (.t 0)), oo 3 (.boxL (.t 1)), oo 4 (.mv (.k (.bool false)))]) <|
 .seq (.reg [oo 9 (.fld 2 (.t 2)), oo 10 (.ld 1 false (.t 9)), oo 11 (.len (.t 10)), oo 12 (.bin .sub .sc (.t 11) (.k (.int .i64 1))), om 5 12]) <|
 .seq (.seq (.reg [oo 13 (.fld 1 (.t 3)), oo 14 (.ld 1 false (.t 13)), om 15 5, oo 16 (.call .blind 69 [(.t 14), (.k (.int .i64 0)), (.t 15)]), oo 17 (.un .not (.t 16)), om 18 17, of 19 18 (.fld 2 (.t 3)), of 20 18 (.ld 1 false (.t 19)), omf 21 5 18, of 22 18 (.call .blind 69 [(.t 20), (.k (.int .i64 0)), (.t 21)]), of 23 18 (.un .not (.t 22)), oo 24 (.pick (.t 18) (.k (.bool true)) (.t 23)), om 25 24, of 26 25 (.fld 1 (.t 3)), of 27 25 (.ld 1 false (.t 26)), of 28 25 (.fld 2 (.t 3)), of 29 25 (.ld 1 false (.t 28)), of 30 25 (.bin .eql .sc (.t 27) (.t 29)), oo 31 (.pick (.t 25) (.k (.bool true)) (.t 30)), om 32 31, of 33 32 (.ld 4 true (.t 2)), of 34 32 (.fld 3 (.t 3)), of 35 32 (.ld 1 false (.t 34)), of 36 32 (.call .blind 94 [(.t 33), (.t 35)]), of 37 32 (.un .not (.t 36)), oo 38 (.pick (.t 32) (.k (.bool true)) (.t 37)), om 39 38, of 40 39 (.ld 4 true (.t 2)), of 41 39 (.fld 4 (.t 3)), of 42 39 (.ld 1 false (.t 41)), of 43 39 (.fld 3 (.t 3)), of 44 39 (.ld 1 false (.t 43)), of 45 39 (.call .blind 95 [(.t 40), (.t 42), (.t 44), (.k (.bool true))]), of 46 39 (.un .not (.t 45)), oo 47 (.pick (.t 39) (.k (.bool true)) (.t 46)), om 48 47, of 49 48 (.ld 4 true (.t 2)), of 50 48 (.fld 5 (.t 3)), of 51 48 (.ld 1 false (.t 50)), of 52 48 (.fld 3 (.t 3)), of 53 48 (.ld 1 false (.t 52)), of 54 48 (.call .blind 95 [(.t 49), (.t 51), (.t 53), (.k (.bool false))]), of 55 48 (.un .not (.t 54)), oo 56 (.pick (.t 48) (.k (.bool true)) (.t 55))]) <|
 .cond (.t 56)
 (.seq (.reg [oo 4 (.mv (.k (.bool false)))]) <|
 .ret)
 (.skip)) <|
 .seq (.reg [oo 6 (.mv (.k (.int .i64 0)))]) <|
 .seq (.seq (.reg [oo 57 (.fld 1 (.t 2)), oo 58 (.ld 1 false (.t 57)), oo 59 (.len (.t 58)), oo 60 (.mv (.k (.int .i64 0)))]) <|
 .block 0 <|
 l70_0) <|
 .seq (.reg [om 72 6, oo 73 (.fld 4 (.t 3)), oo 74 (.ld 1 false (.t 73)), oo 75 (.len (.t 74)), oo 76 (.bin .eql .sc (.t 72) (.t 75)), om 4 76]) <|
 .ret⟩

def l71_0b : DC :=
 .seq (.reg [oo 8 (.bin .lss .sc (.t 7) (.t 6))]) <|
 .seq (.cond (.t 8)
 (.skip)
 (.exit 0)) <|
 .seq (.block 1 <|
 .seq (.reg [om 9 7, oo 10 (.idx 1 (.t 5) (.t 7)), oo 11 (.ld 1 false (.t 10)), om 3 9, om 4 11]) <|
 .seq (.reg [om 12 4, oo 13 (.call .blind 96 [(.t 12)]), oo 14 (.un .not (.t 13)), om 15 14, omf 16 4 15, of 17 15 (.bin .eql .sc (.t 16) (.k (.str [115, 101, 116]))), oo 18 (.pick (.t 15) (.k (.bool true)) (.t 17)), om 19 18, omf 20 4 19, of 21 19 (.bin .eql .sc (.t 20) (.k (.str [102, 108, 97, 110, 107]))), oo 22 (.pick (.t 19) (.k (.bool true)) (.t 21)), om 23 22, omf 24 0 23, omf 25 3 23, of 26 23 (.slc 1 (.t 24) none (some (.t 25)) none), omf 27 4 23, of 28 23 (.call .blind 97 [(.t 26), (.t 27)]), oo 29 (.pick (.t 23) (.k (.bool true)) (.t 28))]) <|
 .cond (.t 29)
 (.seq (.reg [oo 2 (.mv (.k (.bool false)))]) <|
 .ret)
 (.skip)) <|
 .reg [oo 30 (.bin .add .sc (.t 7) (.k (.int .i64 1))), om 7 30]
def l71_0 : DC := .loop [0, 5, 6, 7] [] l71_0b
def f71 : DFn := ⟨1, [.t 2],
 .seq (.reg [oo 2 (.mv (.k (.bool false)))]) <|
 .seq (.seq (.reg [om 5 0, oo 6 (.len (.t 5)), oo 7 (.mv (.k (.int .i64 0)))]) <|
 .block 0 <|
 l71_0) <|
 .seq (.reg [oo 2 (.mv (.k (.bool true)))]) <|
 .ret⟩

def f72 : DFn := ⟨1, [.t 2],
 .seq (.reg [oo 2 (.mv (.k (.nils)))]) <|
 .seq (.seq (.reg [om 3 0, oo 4 (.bin .eql .ns (.t 3) (.k (.nils)))]) <|
 .cond (.t 4)
 (.seq (.reg [oo 2 (.mv (.k (.nils)))]) <|
 .ret)
 (.skip)) <|
 .seq (.reg [oo 5 (.bsl false 1 [.str []] 0 []), om 6 0, oo 7 (.app 1 16 (.t 5) (.t 6)), om 2 7]) <|
 .ret⟩

def f73 : DFn := ⟨1, [.t 2],
 .seq (.reg [oo 2 (.mv (.k (.nils)))]) <|
 .seq (.seq (.reg [om 3 0, oo 4 (.bin .eql .ns (.t 3) (.k (.nils)))]) <|
 .cond (.t 4)
 (.seq (.reg [oo 2 (.mv (.k (.nils)))]) <|
 .ret)
 (.skip)) <|
 .seq (.reg [oo 5 (.bsl false 2 [.str [], .int .i64 0] 0 []), om 6 0, oo 7 (.app 2 24 (.t 5) (.t 6)), om 2 7]) <|
 .ret⟩

def f74 : DFn := ⟨1, [.t 2],
 .seq (.reg [oo 2 (.mv (.k (.nils)))]) <|
 .seq (.seq (.reg [om 3 0, oo 4 (.bin .eql .ns (.t 3) (.k (.nils)))]) <|
 .cond (.t 4)
 (.seq (.reg [oo 2 (.mv (.k (.nils)))]) <|
 .ret)
 (.skip)) <|
 .seq (.reg [oo 5 (.bsl false 6 [.str [], .int .i64 0, .int .i64 0, .nils, .nils, .nils] 0 []), om 6 0, oo 7 (.app 6 104 (.t 5) (.t 6)), om 2 7]) <|
 .ret⟩

def f75 : DFn := ⟨1, [.t 2],
 .seq (.reg [oo 2 (.mv (.k (.nils)))]) <|
 .seq (.seq (.reg [om 3 0, oo 4 (.bin .eql .ns (.t 3) (.k (.nils)))]) <|
 .cond (.t 4)
 (.seq (.reg [oo 2 (.mv (.k (.nils)))]) <|
 .ret)
 (.skip)) <|
 .seq (.reg [oo 5 (.bsl false 1 [.int .i64 0] 0 []), om 6 0, oo 7 (.app 1 8 (.t 5) (.t 6)), om 2 7]) <|
 .ret⟩

def f76 : DFn := ⟨1, [.t 2],
 .seq (.reg [oo 2 (.mv (.k (.nils)))]) <|
 .seq (.seq (.reg [om 3 0, oo 4 (.bin .eql .ns (.t 3) (.k (.nils)))]) <|
 .cond (.t 4)
 (.seq (.reg [oo 2 (.mv (.k (.nils)))]) <|
 .ret)
 (.skip)) <|
 .seq (.reg [oo 5 (.bsl false 2 [.int .i64 0, .bool false] 0 []), om 6 0, oo 7 (.app 2 16 (.t 5) (.t 6)), om 2 7]) <|
 .ret⟩

def f77 : DFn := ⟨2, [.t 4],
 .seq (.reg [oo 4 (.mv (.k (.bool false)))]) <|
 .seq (.reg [om 5 0, om 6 1, oo 7 (.mkI 4 (.t 6)), oo 8 (.call .eff 92 [(.t 5), (.t 7)]), om 4 8]) <|
 .ret⟩

def f78 : DFn := ⟨1, [.t 2],
 .seq (.reg [oo 2 (.mv (.k (.nils)))]) <|
 .seq (.seq (.reg [om 3 0, oo 4 (.bin .eql .np (.t 3) (.k (.nilp)))]) <|
 .cond (.t 4)
 (.seq (.reg [oo 2 (.mv (.k (.nils)))]) <|
 .ret)
 (.skip)) <|
 .seq (.reg [om 5 0, oo 6 (.nilck (.t 5)), oo 7 (.fld 0 (.t 6)), oo 8 (.ld 1 false (.t 7)), om 2 8]) <|
 .ret⟩

def f79 : DFn := ⟨2, [.t 4],
 .seq (.reg [oo 4 (.mv (.k (.nili)))]) <|
 .seq (.seq (.reg [om 6 0, oo 7 (.call .ro 78 [(.t 6)]), om 5 7]) <|
 .seq (.reg [om 8 1, oo 9 (.bin .geq .sc (.t 8) (.k (.int .i64 0))), om 10 9, omt 11 1 10, omt 12 5 10, ot 13 10 (.len (.t 12)), ot 14 10 (.bin .lss .sc (.t 11) (.t 13)), oo 15 (.pick (.t 10) (.t 14) (.k (.bool false)))]) <|
 .cond (.t 15)
 (.seq (.reg [om 16 5, om 17 1, oo 18 (.idx 1 (.t 16) (.t 17)), oo 19 (.ld 1 false (.t 18)), om 4 19]) <|
 .ret)
 (.skip)) <|
 .seq (.reg [oo 4 (.mv (.k (.nili)))]) <|
 .ret⟩

def f80 : DFn := ⟨2, [.t 4],
 .seq (.reg [oo 2 (.boxH (.t 0)), oo 3 (.boxH (.t 1)), oo 4 (.mv (.k (.nilf)))]) <|
 .seq (.seq (.reg [oo 5 (.ld 1 false (.t 3)), oo 6 (.bin .lss .sc (.t 5) (.k (.int .i64 1)))]) <|
 .cond (.t 6)
 (.reg [oo 7 (.mkI 9 (.k (.str [99, 97, 110, 110, 111, 116, 32, 98, 101, 32, 108, 101, 115, 115, 32, 116, 104, 97, 110, 32, 49]))), on (.nilck (.k .nilp))])
 (.skip)) <|
 .seq (.reg [oo 8 (.mkF 98 [(.t 2), (.t 3)]), om 4 8]) <|
 .ret⟩

def f81 : DFn := ⟨2, [.t 4],
 .seq (.reg [oo 4 (.mv (.k (.bool false)))]) <|
 .seq (.reg [om 5 0, om 6 1, oo 7 (.call .ro 99 [(.t 5), (.t 6)]), oo 8 (.bin .geq .sc (.t 7) (.k (.int .i64 0))), om 4 8]) <|
 .ret⟩

def f82 : DFn := ⟨2, [.t 3],
 .seq (.reg [oo 3 (.mv (.k (.bool false)))]) <|
 .seq (.reg [oo 4 (.fld 3 (.t 1)), oo 5 (.ld 1 false (.t 4)), om 6 0, oo 7 (.call .blind 83 [(.t 5), (.t 6)]), om 3 7]) <|
 .ret⟩

def f83 : DFn := ⟨2, [.t 4],
 .seq (.reg [oo 4 (.mv (.k (.bool false)))]) <|
 .seq (.reg [om 5 0, om 6 1, oo 7 (.call .blind 100 [(.t 5), (.t 6)]), oo 8 (.bin .geq .sc (.t 7) (.k (.int .i64 0))), om 4 8]) <|
 .ret⟩

def f84 : DFn := ⟨2, [.t 4],
 .seq (.reg [oo 4 (.mv (.k (.bool false)))]) <|
 .seq (.reg [om 5 0, om 6 1, oo 7 (.call .ro 101 [(.t 5), (.t 6)]), oo 8 (.bin .geq .sc (.t 7) (.k (.int .i64 0))), om 4 8]) <|
 .ret⟩

def f85 : DFn := ⟨2, [.t 4],
 .seq (.reg [oo 2 (.boxL (.t 0)), oo 4 (.mv (.k (.nils)))]) <|
 .seq (.drw [oo 5 (.fld 3 (.t 2)), oo 6 (.ld 1 false (.t 5)), om 7 1, oo 8 (.idx 6 (.t 6) (.t 7)), oo 9 (.fld 4 (.t 8)), oo 10 (.ld 1 false (.t 9)), oo 11 (.fld 3 (.t 2)), oo 12 (.ld 1 false (.t 11)), om 13 1, oo 14 (.idx 6 (.t 12) (.t 13)), oo 15 (.fld 5 (.t 14)), oo 16 (.ld 1 false (.t 15)), oo 17 (.bsl false 1 [.nils] 2 [(0, (.t 10)), (1, (.t 16))]), oo 18 (.call .blind 102 [(.t 17)]), om 4 18] [[], [], [], [1], [], [1, 3], [], [], [], [7], [], [7, 9], [1, 3, 5, 7, 9, 11], [1, 3, 5, 7, 9, 11, 12], []]) <|
 .ret⟩

def f86 : DFn := ⟨3, [.t 4],
 .seq (.reg [oo 3 (.boxL (.t 0)), oo 4 (.mv (.k (.bool false)))]) <|
 .seq (.drw [oo 5 (.ld 4 true (.t 1)), oo 6 (.ld 1 false (.t 2)), oo 7 (.call .blind 85 [(.t 5), (.t 6)]), oo 8 (.fld 0 (.t 3)), oo 9 (.ld 1 false (.t 8)), oo 10 (.fld 1 (.t 3)), oo 11 (.ld 1 false (.t 10)), oo 12 (.un .not (.t 11)), oo 13 (.build [.int .i64 0, .bool false] [(0, 1, (.t 9)), (1, 1, (.t 12))]), oo 14 (.call .blind 87 [(.t 7), (.t 13)]), om 4 14] [[], [], [0, 1], [], [], [], [], [], [], [0, 1, 2, 4, 6], []]) <|
 .ret⟩

def f87 : DFn := ⟨2, [.t 4],
 .seq (.reg [oo 3 (.boxL (.t 1)), oo 4 (.mv (.k (.bool false)))]) <|
 .seq (.reg [om 5 0, oo 6 (.ld 2 true (.t 3)), oo 7 (.call .blind 103 [(.t 5), (.t 6)]), oo 8 (.bin .geq .sc (.t 7) (.k (.int .i64 0))), om 4 8]) <|
 .ret⟩

def f88 : DFn := ⟨1, [.t 2],
 .seq (.reg [oo 2 (.mv (.k (.int .i64 0)))]) <|
 .seq (.seq (.reg [om 3 0]) <|
 .cond (.t 3)
 (.seq (.reg [oo 2 (.mv (.k (.int .i64 1)))]) <|
 .ret)
 (.skip)) <|
 .seq (.reg [oo 2 (.mv (.k (.int .i64 0)))]) <|
 .ret⟩

def f89 : DFn := ⟨2, [.t 4, .t 5],
 .seq (.reg [oo 4 (.mv (.k (.bool false))), oo 5 (.mv (.k (.bool false)))]) <|
 .seq (.reg [om 7 0, om 8 1, oo 9 (.call .ro 79 [(.t 7), (.t 8)]), oo 10 (.asrt 4 (.bool false) true (.t 9)), om 6 10, oo 11 (.ext 0 (.t 6)), oo 12 (.ext 1 (.t 6)), om 4 11, om 5 12]) <|
 .seq (.reg [om 13 4, om 14 5, om 4 13, om 5 14]) <|
 .ret⟩

def f90 : DFn := ⟨1, [.t 2],
 .seq (.reg [oo 2 (.mv (.k (.int .u8 0)))]) <|
 .seq (.seq (.reg [om 3 0]) <|
 .cond (.t 3)
 (.seq (.reg [oo 2 (.mv (.k (.int .u8 1)))]) <|
 .ret)
 (.skip)) <|
 .seq (.reg [oo 2 (.mv (.k (.int .u8 0)))]) <|
 .ret⟩

def l91_0b : DC :=
 .seq (.reg [oo 11 (.bin .lss .sc (.t 10) (.k (.int .i64 8)))]) <|
 .seq (.cond (.t 11)
 (.skip)
 (.exit 0)) <|
 .seq (.block 1 <|
 .seq (.reg [om 12 0, oo 13 (.bin .and .sc (.t 12) (.k (.int .u32 1))), oo 14 (.bin .eql .sc (.t 13) (.k (.int .u32 1))), om 5 14]) <|
 .seq (.reg [om 15 0, oo 16 (.bin .shr .sc (.t 15) (.k (.int .u64 1))), om 0 16]) <|
 .seq (.reg [om 17 5]) <|
 .cond (.t 17)
 (.reg [om 18 0, oo 19 (.bin .xor .sc (.t 18) (.k (.int .u32 2197175160))), om 0 19])
 (.skip)) <|
 .reg [oo 20 (.bin .add .sc (.t 10) (.k (.int .i64 1))), om 10 20]
def l91_0 : DC := .loop [0, 10] [] l91_0b
def f91 : DFn := ⟨2, [.t 4],
 .seq (.reg [oo 4 (.mv (.k (.int .u32 0)))]) <|
 .seq (.reg [om 6 0, om 7 1, oo 8 (.cvI .u32 (.t 7)), oo 9 (.bin .xor .sc (.t 6) (.t 8)), om 0 9]) <|
 .seq (.seq (.reg [oo 10 (.mv (.k (.int .i64 0)))]) <|
 .block 0 <|
 l91_0) <|
 .seq (.reg [om 21 0, om 4 21]) <|
 .ret⟩

def f92 : DFn := ⟨2, [.t 4],
 .seq (.reg [oo 4 (.mv (.k (.bool false)))]) <|
 .seq (.seq (.reg [om 5 0, oo 6 (.bin .eql .np (.t 5) (.k (.nilp))), om 7 6, omf 8 0 7, of 9 7 (.nilck (.t 8)), of 10 7 (.fld 0 (.t 9)), of 11 7 (.ld 1 false (.t 10)), of 12 7 (.len (.t 11)), of 13 7 (.bin .geq .sc (.t 12) (.k (.int .i64 100))), oo 14 (.pick (.t 7) (.k (.bool true)) (.t 13))]) <|
 .cond (.t 14)
 (.seq (.reg [oo 4 (.mv (.k (.bool false)))]) <|
 .ret)
 (.skip)) <|
 .seq (.reg [om 15 0, om 16 0, oo 17 (.nilck (.t 16)), oo 18 (.fld 0 (.t 17)), oo 19 (.ld 1 false (.t 18)), om 20 1, oo 21 (.bsl false 1 [.nili] 1 [(0, (.t 20))]), oo 22 (.app 1 16 (.t 19) (.t 21)), oo 23 (.nilck (.t 15)), oo 24 (.fld 0 (.t 23)), on (.st 1 (.t 24) (.t 22))]) <|
 .seq (.reg [oo 4 (.mv (.k (.bool true)))]) <|
 .ret⟩

def f93 : DFn := ⟨1, [.t 2],
 .seq (.reg [oo 2 (.mv (.k (.int .i64 0)))]) <|
 .seq (.seq (.reg [om 3 0]) <|
 .cond (.t 3)
 (.seq (.reg [oo 2 (.mv (.k (.int .i64 1)))]) <|
 .ret)
 (.skip)) <|
 .seq (.reg [oo 2 (.mv (.k (.int .i64 0)))]) <|
 .ret⟩

def l94_0b : DC :=
 .seq (.reg [oo 10 (.bin .lss .sc (.t 9) (.t 8))]) <|
 .seq (.cond (.t 10)
 (.skip)
 (.exit 0)) <|
 .seq (.block 1 <|
 .seq (.reg [om 11 9, oo 12 (.idx 1 (.t 7) (.t 9)), oo 13 (.ld 1 false (.t 12)), om 5 11, om 6 13]) <|
 .seq (.reg [om 14 6, oo 15 (.fld 0 (.t 2)), oo 16 (.ld 1 false (.t 15)), oo 17 (.len (.t 16)), oo 18 (.bin .sub .sc (.t 17) (.k (.int .i64 1))), oo 19 (.call .blind 69 [(.t 14), (.k (.int .i64 0)), (.t 18)]), oo 20 (.un .not (.t 19)), om 21 20, omf 22 1 21, omf 23 5 21, of 24 21 (.slc 1 (.t 22) none (some (.t 23)) none), omf 25 6 21, of 26 21 (.call .blind 83 [(.t 24), (.t 25)]), oo 27 (.pick (.t 21) (.k (.bool true)) (.t 26))]) <|
 .cond (.t 27)
 (.seq (.reg [oo 4 (.mv (.k (.bool false)))]) <|
 .ret)
 (.skip)) <|
 .reg [oo 28 (.bin .add .sc (.t 9) (.k (.int .i64 1))), om 9 28]
def l94_0 : DC := .loop [1, 2, 7, 8, 9] [2] l94_0b
def f94 : DFn := ⟨2, [.t 4],
 .seq (.reg [oo 2 (.boxL (.t 0)), oo 4 (.mv (.k (.bool false)))]) <|
 .seq (.seq (.reg [om 7 1, oo 8 (.len (.t 7)), oo 9 (.mv (.k (.int .i64 0)))]) <|
 .block 0 <|
 l94_0) <|
 .seq (.reg [om 29 1, oo 30 (.len (.t 29)), oo 31 (.call .blind 69 [(.t 30), (.k (.int .i64 1)), (.k (.int .i64 5))]), om 4 31]) <|
 .ret⟩

def l95_0b : DC :=
 .seq (.reg [oo 14 (.bin .lss .sc (.t 13) (.t 12))]) <|
 .seq (.cond (.t 14)
 (.skip)
 (.exit 0)) <|
 .seq (.block 1 <|
 .seq (.reg [om 15 13, oo 16 (.idx 2 (.t 11) (.t 13)), oo 17 (.ld 2 true (.t 16)), oo 10 (.alL [.int .i64 0, .bool false]), om 9 15, on (.st 2 (.t 10) (.t 17))]) <|
 .seq (.drw [oo 18 (.fld 0 (.t 10)), oo 19 (.ld 1 false (.t 18)), oo 20 (.fld 1 (.t 4)), oo 21 (.ld 1 false (.t 20)), oo 22 (.len (.t 21)), oo 23 (.bin .sub .sc (.t 22) (.k (.int .i64 1))), oo 24 (.call .blind 69 [(.t 19), (.k (.int .i64 0)), (.t 23)]), oo 25 (.un .not (.t 24)), om 26 25, omf 27 9 26, of 28 26 (.bin .gtr .sc (.t 27) (.k (.int .i64 0))), omf 29 28 26, omt 30 1 29, omt 31 9 29, ot 32 29 (.bin .sub .sc (.t 31) (.k (.int .i64 1))), ot 33 29 (.idx 2 (.t 30) (.t 32)), ot 34 29 (.fld 0 (.t 33)), ot 35 29 (.ld 1 false (.t 34)), ot 36 29 (.fld 0 (.t 10)), ot 37 29 (.ld 1 false (.t 36)), ot 38 29 (.bin .geq .sc (.t 35) (.t 37)), of 39 26 (.pick (.t 29) (.t 38) (.k (.bool false))), oo 40 (.pick (.t 26) (.k (.bool true)) (.t 39)), om 41 40, omf 42 2 41, of 43 41 (.fld 1 (.t 4)), of 44 41 (.ld 1 false (.t 43)), of 45 41 (.fld 0 (.t 10)), of 46 41 (.ld 1 false (.t 45)), of 47 41 (.idx 2 (.t 44) (.t 46)), of 48 41 (.fld 1 (.t 47)), of 49 41 (.ld 1 false (.t 48)), of 50 41 (.call .blind 83 [(.t 42), (.t 49)]), omf 51 3 41, of 52 41 (.bin .neq .bl (.t 50) (.t 51)), oo 53 (.pick (.t 41) (.k (.bool true)) (.t 52))] [[], [], [], [], [], [], [1, 3], [], [], [], [], [], [], [], [], [1, 3, 6], [], [1, 3, 6, 15], [], [1, 3, 6], [], [], [], [], [], [], [1, 3, 6, 15, 17, 19], [], [1, 3, 6, 15, 17, 19], [1, 3, 6, 15, 17, 19, 26, 28], [], [1, 3, 6, 15, 17, 19, 26, 28, 29], [1, 3, 6, 15, 17, 19, 26, 28, 29, 31], [], [], []]) <|
 .cond (.t 53)
 (.seq (.reg [oo 8 (.mv (.k (.bool false)))]) <|
 .ret)
 (.skip)) <|
 .reg [oo 54 (.bin .add .sc (.t 13) (.k (.int .i64 1))), om 13 54]
def l95_0 : DC := .loop [1, 2, 3, 4, 11, 12, 13] [4] l95_0b
def f95 : DFn := ⟨4, [.t 8],
 .seq (.reg [oo 4 (.boxL (.t 0)), oo 8 (.mv (.k (.bool false)))]) <|
 .seq (.seq (.reg [om 11 1, oo 12 (.len (.t 11)), oo 13 (.mv (.k (.int .i64 0)))]) <|
 .block 0 <|
 l95_0) <|
 .seq (.reg [oo 8 (.mv (.k (.bool true)))]) <|
 .ret⟩

def l96_0b : DC :=
 .seq (.reg [oo 9 (.nxt 8), oo 10 (.ext 0 (.t 9))]) <|
 .seq (.cond (.t 10)
 (.skip)
 (.exit 0)) <|
 .block 1 <|
 .seq (.reg [oo 11 (.ext 1 (.t 9)), oo 12 (.ext 2 (.t 9)), om 4 11, om 5 12]) <|
 .seq (.reg [om 13 5, oo 14 (.bin .geq .sc (.t 13) (.k (.int .i32 48))), om 15 14, omt 16 5 15, ot 17 15 (.bin .leq .sc (.t 16) (.k (.int .i32 57))), oo 18 (.pick (.t 15) (.t 17) (.k (.bool false))), om 19 18, omt 20 4 19, ot 21 19 (.bin .gtr .sc (.t 20) (.k (.int .i64 0))), oo 22 (.pick (.t 19) (.t 21) (.k (.bool false))), om 6 22]) <|
 .seq (.seq (.reg [om 23 0, om 24 4, oo 25 (.call .blind 104 [(.t 23), (.t 24)]), om 26 25, omf 27 5 26, of 28 26 (.call .blind 105 [(.t 27)]), of 29 26 (.un .not (.t 28)), omf 30 29 26, omt 31 6 30, ot 32 30 (.un .not (.t 31)), of 33 26 (.pick (.t 30) (.t 32) (.k (.bool false))), oo 34 (.pick (.t 26) (.k (.bool true)) (.t 33))]) <|
 .cond (.t 34)
 (.seq (.reg [oo 2 (.mv (.k (.bool false)))]) <|
 .ret)
 (.skip)) <|
 .reg [om 35 3, oo 36 (.bin .add .sc (.t 35) (.k (.int .i64 1))), om 3 36]
def l96_0 : DC := .loop [0, 3, 8] [8] l96_0b
def f96 : DFn := ⟨1, [.t 2],
 .seq (.reg [oo 2 (.mv (.k (.bool false)))]) <|
 .seq (.reg [oo 3 (.mv (.k (.int .i64 0)))]) <|
 .seq (.seq (.reg [om 7 0, oo 8 (.rng (.t 7))]) <|
 .block 0 <|
 l96_0) <|
 .seq (.reg [om 37 3, oo 38 (.bin .geq .sc (.t 37) (.k (.int .i64 1))), om 39 38, omt 40 3 39, ot 41 39 (.bin .leq .sc (.t 40) (.k (.int .i64 8))), oo 42 (.pick (.t 39) (.t 41) (.k (.bool false))), om 2 42]) <|
 .ret⟩

def f97 : DFn := ⟨2, [.t 4],
 .seq (.reg [oo 4 (.mv (.k (.bool false)))]) <|
 .seq (.reg [om 5 0, om 6 1, oo 7 (.call .blind 106 [(.t 5), (.t 6)]), oo 8 (.bin .geq .sc (.t 7) (.k (.int .i64 0))), om 4 8]) <|
 .ret⟩

def l98_0b : DC :=
 .seq (.seq (.reg [om 6 4, oo 7 (.ld 1 false (.t 1)), oo 8 (.len (.t 7)), oo 9 (.bin .lss .sc (.t 6) (.t 8))]) <|
 .cond (.t 9)
 (.skip)
 (.exit 0)) <|
 .seq (.block 1 <|
 .seq (.drw [oo 13 (.ld 1 false (.t 2)), oo 14 (.ld 1 false (.t 1)), om 15 4, oo 16 (.slc 1 (.t 14) (some (.t 15)) none none), oo 17 (.len (.t 16)), oo 18 (.mn (.t 13) (.t 17)), om 5 18] [[], [], [], [], [], [], []]) <|
 .seq (.reg [om 19 0, oo 20 (.ld 1 false (.t 1)), om 21 4, om 22 4, om 23 5, oo 24 (.bin .add .sc (.t 22) (.t 23)), om 25 4, om 26 5, oo 27 (.bin .add .sc (.t 25) (.t 26)), oo 28 (.slc 1 (.t 20) (some (.t 21)) (some (.t 24)) (some (.t 27))), oo 29 (.calld .ro (.t 19) [(.t 28)]), oo 30 (.un .not (.t 29))]) <|
 .cond (.t 30)
 (.ret)
 (.skip)) <|
 .reg [om 10 4, oo 11 (.ld 1 false (.t 2)), oo 12 (.bin .add .sc (.t 10) (.t 11)), om 4 12]
def l98_0 : DC := .loop [0, 1, 2, 4] [] l98_0b
def f98 : DFn := ⟨3, [],
 .seq (.reg [oo 4 (.mv (.k (.int .i64 0)))]) <|
 .block 0 <|
 l98_0⟩

def l99_0b : DC :=
 .seq (.reg [oo 9 (.bin .lss .sc (.t 8) (.t 7))]) <|
 .seq (.cond (.t 9)
 (.skip)
 (.exit 0)) <|
 .seq (.block 1 <|
 .seq (.reg [om 10 8, om 5 10]) <|
 .seq (.reg [om 11 1, om 12 0, om 13 5, oo 14 (.idx 1 (.t 12) (.t 13)), oo 15 (.ld 1 false (.t 14)), oo 16 (.calld .ro (.t 11) [(.t 15)])]) <|
 .cond (.t 16)
 (.seq (.reg [om 17 5, om 4 17]) <|
 .ret)
 (.skip)) <|
 .reg [oo 18 (.bin .add .sc (.t 8) (.k (.int .i64 1))), om 8 18]
def l99_0 : DC := .loop [0, 1, 7, 8] [] l99_0b
def f99 : DFn := ⟨2, [.t 4],
 .seq (.reg [oo 4 (.mv (.k (.int .i64 0)))]) <|
 .seq (.seq (.reg [om 6 0, oo 7 (.len (.t 6)), oo 8 (.mv (.k (.int .i64 0)))]) <|
 .block 0 <|
 l99_0) <|
 .seq (.reg [oo 4 (.mv (.k (.int .i64 (-1))))]) <|
 .ret⟩

def l100_0b : DC :=
 .seq (.reg [oo 9 (.bin .lss .sc (.t 8) (.t 7))]) <|
 .seq (.cond (.t 9)
 (.skip)
 (.exit 0)) <|
 .seq (.block 1 <|
 .seq (.reg [om 10 8, om 5 10]) <|
 .seq (.reg [om 11 1, om 12 0, om 13 5, oo 14 (.idx 1 (.t 12) (.t 13)), oo 15 (.ld 1 false (.t 14)), oo 16 (.bin .eql .sc (.t 11) (.t 15))]) <|
 .cond (.t 16)
 (.seq (.reg [om 17 5, om 4 17]) <|
 .ret)
 (.skip)) <|
 .reg [oo 18 (.bin .add .sc (.t 8) (.k (.int .i64 1))), om 8 18]
def l100_0 : DC := .loop [0, 1, 7, 8] [] l100_0b
def f100 : DFn := ⟨2, [.t 4],
 .seq (.reg [oo 4 (.mv (.k (.int .i64 0)))]) <|
 .seq (.seq (.reg [om 6 0, oo 7 (.len (.t 6)), oo 8 (.mv (.k (.int .i64 0)))]) <|
 .block 0 <|
 l100_0) <|
 .seq (.reg [oo 4 (.mv (.k (.int .i64 (-1))))]) <|
 .ret⟩

def l101_0b : DC :=
 .seq (.reg [oo 9 (.bin .lss .sc (.t 8) (.t 7))]) <|
 .seq (.cond (.t 9)
 (.skip)
 (.exit 0)) <|
 .seq (.block 1 <|
 .seq (.reg [om 10 8, om 5 10]) <|
 .seq (.reg [om 11 1, om 12 0, om 13 5, oo 14 (.idx 2 (.t 12) (.t 13)), oo 15 (.ld 2 true (.t 14)), oo 16 (.calld .ro (.t 11) [(.t 15)])]) <|
 .cond (.t 16)
 (.seq (.reg [om 17 5, om 4 17]) <|
 .ret)
 (.skip)) <|
 .reg [oo 18 (.bin .add .sc (.t 8) (.k (.int .i64 1))), om 8 18]
def l101_0 : DC := .loop [0, 1, 7, 8] [] l101_0b
def f101 : DFn := ⟨2, [.t 4],
 .seq (.reg [oo 4 (.mv (.k (.int .i64 0)))]) <|
 .seq (.seq (.reg [om 6 0, oo 7 (.len (.t 6)), oo 8 (.mv (.k (.int .i64 0)))]) <|
 .block 0 <|
 l101_0) <|
 .seq (.reg [oo 4 (.mv (.k (.int .i64 (-1))))]) <|
 .ret⟩

def l102_1b : DC :=
 .seq (.reg [oo 28 (.bin .lss .sc (.t 27) (.t 26))]) <|
 .seq (.cond (.t 28)
 (.skip)
 (.exit 2)) <|
 .seq (.block 3 <|
 .seq (.reg [oo 29 (.idx 1 (.t 25) (.t 27)), oo 30 (.ld 1 false (.t 29)), om 8 30]) <|
 .reg [om 31 6, om 32 8, oo 33 (.app 2 16 (.t 31) (.t 32)), om 6 33]) <|
 .reg [oo 34 (.bin .add .sc (.t 27) (.k (.int .i64 1))), om 27 34]
def l102_1 : DC := .loop [6, 25, 26, 27] [] l102_1b
def l102_0b : DC :=
 .seq (.reg [oo 12 (.bin .lss .sc (.t 11) (.t 10))]) <|
 .seq (.cond (.t 12)
 (.skip)
 (.exit 0)) <|
 .seq (.block 1 <|
 .seq (.reg [oo 13 (.idx 1 (.t 9) (.t 11)), oo 14 (.ld 1 false (.t 13)), om 5 14]) <|
 .seq (.reg [om 15 3, om 16 5, oo 17 (.len (.t 16)), oo 18 (.bin .add .sc (.t 15) (.t 17)), om 3 18]) <|
 .seq (.reg [om 19 3, oo 20 (.bin .lss .sc (.t 19) (.k (.int .i64 0)))]) <|
 .cond (.t 20)
 (.reg [oo 21 (.mkI 9 (.k (.str [108, 101, 110, 32, 111, 117, 116, 32, 111, 102, 32, 114, 97, 110, 103, 101]))), on (.nilck (.k .nilp))])
 (.skip)) <|
 .reg [oo 22 (.bin .add .sc (.t 11) (.k (.int .i64 1))), om 11 22]
def l102_0 : DC := .loop [0, 3, 9, 10, 11] [] l102_0b
def f102 : DFn := ⟨1, [.t 2],
 .seq (.reg [oo 2 (.mv (.k (.nils)))]) <|
 .seq (.reg [oo 3 (.mv (.k (.int .i64 0)))]) <|
 .seq (.seq (.reg [om 9 0, oo 10 (.len (.t 9)), oo 11 (.mv (.k (.int .i64 0)))]) <|
 .block 0 <|
 l102_0) <|
 .seq (.reg [om 23 3, oo 24 (.call .eff 107 [(.k (.nils)), (.t 23)]), om 6 24]) <|
 .seq (.seq (.reg [om 25 0, oo 26 (.len (.t 25)), oo 27 (.mv (.k (.int .i64 0)))]) <|
 .block 2 <|
 l102_1) <|
 .seq (.reg [om 35 6, om 2 35]) <|
 .ret⟩

def l103_0b : DC :=
 .seq (.reg [oo 9 (.bin .lss .sc (.t 8) (.t 7))]) <|
 .seq (.cond (.t 9)
 (.skip)
 (.exit 0)) <|
 .seq (.block 1 <|
 .seq (.reg [om 10 8, om 5 10]) <|
 .seq (.drw [oo 11 (.ld 2 true (.t 3)), om 12 0, om 13 5, oo 14 (.idx 2 (.t 12) (.t 13)), oo 15 (.ld 2 true (.t 14)), oo 16 (.bin .eql (.st [.i, .b]) (.t 11) (.t 15))] [[], [], [], [], [3], []]) <|
 .cond (.t 16)
 (.seq (.reg [om 17 5, om 4 17]) <|
 .ret)
 (.skip)) <|
 .reg [oo 18 (.bin .add .sc (.t 8) (.k (.int .i64 1))), om 8 18]
def l103_0 : DC := .loop [0, 3, 7, 8] [3] l103_0b
def f103 : DFn := ⟨2, [.t 4],
 .seq (.reg [oo 3 (.boxL (.t 1)), oo 4 (.mv (.k (.int .i64 0)))]) <|
 .seq (.seq (.reg [om 6 0, oo 7 (.len (.t 6)), oo 8 (.mv (.k (.int .i64 0)))]) <|
 .block 0 <|
 l103_0) <|
 .seq (.reg [oo 4 (.mv (.k (.int .i64 (-1))))]) <|
 .ret⟩

def f104 : DFn := ⟨2, [.t 4],
 .seq (.reg [oo 4 (.mv (.k (.bool false)))]) <|
 .seq (.reg [om 8 0, om 9 1, oo 10 (.slS (.t 8) (some (.t 9)) none), oo 11 (.call .blind 108 [(.t 10)]), om 7 11, oo 12 (.ext 0 (.t 7)), oo 13 (.ext 1 (.t 7)), om 5 12, om 6 13]) <|
 .seq (.reg [om 14 5, oo 15 (.bin .eql .sc (.t 14) (.k (.int .i32 65533))), om 16 15, omt 17 6 16, ot 18 16 (.bin .eql .sc (.t 17) (.k (.int .i64 1))), oo 19 (.pick (.t 16) (.t 18) (.k (.bool false))), om 4 19]) <|
 .ret⟩

def f105 : DFn := ⟨1, [.t 2],
 .seq (.reg [oo 2 (.mv (.k (.bool false)))]) <|
 .seq (.block 0 <|
 .seq (.seq (.reg [om 4 0, oo 5 (.bin .geq .sc (.t 4) (.k (.int .i32 97))), om 6 5, omt 7 0 6, ot 8 6 (.bin .leq .sc (.t 7) (.k (.int .i32 122))), oo 9 (.pick (.t 6) (.t 8) (.k (.bool false))), om 3 9]) <|
 .cond (.t 3)
 (.skip)
 (.reg [om 10 0, oo 11 (.bin .geq .sc (.t 10) (.k (.int .i32 65))), om 12 11, omt 13 0 12, ot 14 12 (.bin .leq .sc (.t 13) (.k (.int .i32 90))), oo 15 (.pick (.t 12) (.t 14) (.k (.bool false))), om 3 15])) <|
 .cond (.t 3)
 (.seq (.reg [oo 2 (.mv (.k (.bool true)))]) <|
 .ret)
 (.skip)) <|
 .seq (.reg [om 16 0, oo 17 (.bin .geq .sc (.t 16) (.k (.int .i32 192))), om 18 17, omt 19 0 18, ot 20 18 (.bin .leq .sc (.t 19) (.k (.int .i32 591))), oo 21 (.pick (.t 18) (.t 20) (.k (.bool false))), om 22 21, omt 23 0 22, ot 24 22 (.bin .neq .sc (.t 23) (.k (.int .i32 215))), oo 25 (.pick (.t 22) (.t 24) (.k (.bool false))), om 26 25, omt 27 0 26, ot 28 26 (.bin .neq .sc (.t 27) (.k (.int .i32 247))), oo 29 (.pick (.t 26) (.t 28) (.k (.bool false))), om 2 29]) <|
 .ret⟩

def l106_0b : DC :=
 .seq (.reg [oo 9 (.bin .lss .sc (.t 8) (.t 7))]) <|
 .seq (.cond (.t 9)
 (.skip)
 (.exit 0)) <|
 .seq (.block 1 <|
 .seq (.reg [om 10 8, om 5 10]) <|
 .seq (.reg [om 11 1, om 12 0, om 13 5, oo 14 (.idx 1 (.t 12) (.t 13)), oo 15 (.ld 1 false (.t 14)), oo 16 (.bin .eql .sc (.t 11) (.t 15))]) <|
 .cond (.t 16)
 (.seq (.reg [om 17 5, om 4 17]) <|
 .ret)
 (.skip)) <|
 .reg [oo 18 (.bin .add .sc (.t 8) (.k (.int .i64 1))), om 8 18]
def l106_0 : DC := .loop [0, 1, 7, 8] [] l106_0b
def f106 : DFn := ⟨2, [.t 4],
 .seq (.reg [oo 4 (.mv (.k (.int .i64 0)))]) <|
 .seq (.seq (.reg [om 6 0, oo 7 (.len (.t 6)), oo 8 (.mv (.k (.int .i64 0)))]) <|
 .block 0 <|
 l106_0) <|
 .seq (.reg [oo 4 (.mv (.k (.int .i64 (-1))))]) <|
 .ret⟩

def f107 : DFn := ⟨2, [.t 4],
 .seq (.reg [oo 4 (.mv (.k (.nils)))]) <|
 .seq (.seq (.reg [om 5 1, oo 6 (.bin .lss .sc (.t 5) (.k (.int .i64 0)))]) <|
 .cond (.t 6)
 (.reg [oo 7 (.mkI 9 (.k (.str [99, 97, 110, 110, 111, 116, 32, 98, 101, 32, 110, 101, 103, 97, 116, 105, 118, 101]))), on (.nilck (.k .nilp))])
 (.skip)) <|
 .seq (.seq (.reg [om 8 1, om 9 0, oo 10 (.cap (.t 9)), om 11 0, oo 12 (.len (.t 11)), oo 13 (.bin .sub .sc (.t 10) (.t 12)), oo 14 (.bin .sub .sc (.t 8) (.t 13)), om 1 14]) <|
 .seq (.reg [om 15 1, oo 16 (.bin .gtr .sc (.t 15) (.k (.int .i64 0)))]) <|
 .cond (.t 16)
 (.reg [om 17 0, om 18 0, oo 19 (.cap (.t 18)), oo 20 (.slc 2 (.t 17) none (some (.t 19)) none), om 21 1, oo 22 (.appZ 2 16 [.int .i64 0, .bool false] (.t 20) (.t 21)), om 23 0, oo 24 (.len (.t 23)), oo 25 (.slc 2 (.t 22) none (some (.t 24)) none), om 0 25])
 (.skip)) <|
 .seq (.reg [om 26 0, om 4 26]) <|
 .ret⟩

def f108 : DFn := ⟨1, [.t 2, .t 3],
 .seq (.reg [oo 2 (.mv (.k (.int .i32 0))), oo 3 (.mv (.k (.int .i64 0)))]) <|
 .seq (.seq (.reg [om 4 0, oo 5 (.bin .neq .sc (.t 4) (.k (.str []))), om 6 5, omt 7 0 6, ot 8 6 (.idxS (.t 7) (.k (.int .i64 0))), ot 9 6 (.bin .lss .sc (.t 8) (.k (.int .u8 128))), oo 10 (.pick (.t 6) (.t 9) (.k (.bool false)))]) <|
 .cond (.t 10)
 (.seq (.reg [om 11 0, oo 12 (.idxS (.t 11) (.k (.int .i64 0))), oo 13 (.cvI .i32 (.t 12)), om 2 13, oo 3 (.mv (.k (.int .i64 1)))]) <|
 .ret)
 (.reg [om 15 0, oo 16 (.call .blind 109 [(.t 15)]), om 14 16, oo 17 (.ext 0 (.t 14)), oo 18 (.ext 1 (.t 14)), om 2 17, om 3 18])) <|
 .ret⟩

def f109 : DFn := ⟨1, [.t 2, .t 3],
 .seq (.reg [oo 2 (.mv (.k (.int .i32 0))), oo 3 (.mv (.k (.int .i64 0)))]) <|
 .seq (.reg [om 13 0, oo 14 (.lenS (.t 13)), om 4 14]) <|
 .seq (.seq (.reg [om 15 4, oo 16 (.bin .lss .sc (.t 15) (.k (.int .i64 1)))]) <|
 .cond (.t 16)
 (.seq (.reg [oo 2 (.mv (.k (.int .i32 65533))), oo 3 (.mv (.k (.int .i64 0)))]) <|
 .ret)
 (.skip)) <|
 .seq (.reg [om 17 0, oo 18 (.idxS (.t 17) (.k (.int .i64 0))), om 5 18]) <|
 .seq (.reg [om 19 5, oo 20 (.idxA 1 256 (.g 0) (.t 19)), oo 21 (.ld 1 false (.t 20)), om 6 21]) <|
 .seq (.seq (.reg [om 22 6, oo 23 (.bin .geq .sc (.t 22) (.k (.int .u8 240)))]) <|
 .cond (.t 23)
 (.seq (.reg [om 24 6, oo 25 (.cvI .i32 (.t 24)), oo 26 (.bin .shl .sc (.t 25) (.k (.int .u64 31))), oo 27 (.bin .shr .sc (.t 26) (.k (.int .u64 31))), om 7 27]) <|
 .seq (.reg [om 28 0, oo 29 (.idxS (.t 28) (.k (.int .i64 0))), oo 30 (.cvI .i32 (.t 29)), om 31 7, oo 32 (.bin .andNot .sc (.t 30) (.t 31)), om 33 7, oo 34 (.bin .and .sc (.k (.int .i32 65533)) (.t 33)), oo 35 (.bin .or .sc (.t 32) (.t 34)), om 2 35, oo 3 (.mv (.k (.int .i64 1)))]) <|
 .ret)
 (.skip)) <|
 .seq (.reg [om 36 6, oo 37 (.bin .and .sc (.t 36) (.k (.int .u8 7))), oo 38 (.cvI .i64 (.t 37)), om 8 38]) <|
 .seq (.reg [om 39 6, oo 40 (.bin .shr .sc (.t 39) (.k (.int .u64 4))), oo 41 (.idxA 2 16 (.g 1) (.t 40)), oo 42 (.ld 2 true (.t 41)), oo 9 (.alL [.int .u8 0, .int .u8 0]), on (.st 2 (.t 9) (.t 42))]) <|
 .seq (.seq (.reg [om 43 4, om 44 8, oo 45 (.bin .lss .sc (.t 43) (.t 44))]) <|
 .cond (.t 45)
 (.seq (.reg [oo 2 (.mv (.k (.int .i32 65533))), oo 3 (.mv (.k (.int .i64 1)))]) <|
 .ret)
 (.skip)) <|
 .seq (.reg [om 46 0, oo 47 (.idxS (.t 46) (.k (.int .i64 1))), om 10 47]) <|
 .seq (.seq (.reg [om 48 10, oo 49 (.fld 0 (.t 9)), oo 50 (.ld 1 false (.t 49)), oo 51 (.bin .lss .sc (.t 48) (.t 50)), om 52 51, of 53 52 (.fld 1 (.t 9)), of 54 52 (.ld 1 false (.t 53)), omf 55 10 52, of 56 52 (.bin .lss .sc (.t 54) (.t 55)), oo 57 (.pick (.t 52) (.k (.bool true)) (.t 56))]) <|
 .cond (.t 57)
 (.seq (.reg [oo 2 (.mv (.k (.int .i32 65533))), oo 3 (.mv (.k (.int .i64 1)))]) <|
 .ret)
 (.skip)) <|
 .seq (.seq (.reg [om 58 8, oo 59 (.bin .leq .sc (.t 58) (.k (.int .i64 2)))]) <|
 .cond (.t 59)
 (.seq (.reg [om 60 5, oo 61 (.bin .and .sc (.t 60) (.k (.int .u8 31))), oo 62 (.cvI .i32 (.t 61)), oo 63 (.bin .shl .sc (.t 62) (.k (.int .u64 6))), om 64 10, oo 65 (.bin .and .sc (.t 64) (.k (.int .u8 63))), oo 66 (.cvI .i32 (.t 65)), oo 67 (.bin .or .sc (.t 63) (.t 66)), om 2 67, oo 3 (.mv (.k (.int .i64 2)))]) <|
 .ret)
 (.skip)) <|
 .seq (.reg [om 68 0, oo 69 (.idxS (.t 68) (.k (.int .i64 2))), om 11 69]) <|
 .seq (.seq (.reg [om 70 11, oo 71 (.bin .lss .sc (.t 70) (.k (.int .u8 128))), om 72 71, omf 73 11 72, of 74 72 (.bin .lss .sc (.k (.int .u8 191)) (.t 73)), oo 75 (.pick (.t 72) (.k (.bool true)) (.t 74))]) <|
 .cond (.t 75)
 (.seq (.reg [oo 2 (.mv (.k (.int .i32 65533))), oo 3 (.mv (.k (.int .i64 1)))]) <|
 .ret)
 (.skip)) <|
 .seq (.seq (.reg [om 76 8, oo 77 (.bin .leq .sc (.t 76) (.k (.int .i64 3)))]) <|
 .cond (.t 77)
 (.seq (.reg [om 78 5, oo 79 (.bin .and .sc (.t 78) (.k (.int .u8 15))), oo 80 (.cvI .i32 (.t 79)), oo 81 (.bin .shl .sc (.t 80) (.k (.int .u64 12))), om 82 10, oo 83 (.bin .and .sc (.t 82) (.k (.int .u8 63))), oo 84 (.cvI .i32 (.t 83)), oo 85 (.bin .shl .sc (.t 84) (.k (.int .u64 6))), oo 86 (.bin .or .sc (.t 81) (.t 85)), om 87 11, oo 88 (.bin .and .sc (.t 87) (.k (.int .u8 63))), oo 89 (.cvI .i32 (.t 88)), oo 90 (.bin .or .sc (.t 86) (.t 89)), om 2 90, oo 3 (.mv (.k (.int .i64 3)))]) <|
 .ret)
 (.skip)) <|
 .seq (.reg [om 91 0, oo 92 (.idxS (.t 91) (.k (.int .i64 3))), om 12 92]) <|
 .seq (.seq (.reg [om 93 12, oo 94 (.bin .lss .sc (.t 93) (.k (.int .u8 128))), om 95 94, omf 96 12 95, of 97 95 (.bin .lss .sc (.k (.int .u8 191)) (.t 96)), oo 98 (.pick (.t 95) (.k (.bool true)) (.t 97))]) <|
 .cond (.t 98)
 (.seq (.reg [oo 2 (.mv (.k (.int .i32 65533))), oo 3 (.mv (.k (.int .i64 1)))]) <|
 .ret)
 (.skip)) <|
 .seq (.reg [om 99 5, oo 100 (.bin .and .sc (.t 99) (.k (.int .u8 7))), oo 101 (.cvI .i32 (.t 100)), oo 102 (.bin .shl .sc (.t 101) (.k (.int .u64 18))), om 103 10, oo 104 (.bin .and .sc (.t 103) (.k (.int .u8 63))), oo 105 (.cvI .i32 (.t 104)), oo 106 (.bin .shl .sc (.t 105) (.k (.int .u64 12))), oo 107 (.bin .or .sc (.t 102) (.t 106)), om 108 11, oo 109 (.bin .and .sc (.t 108) (.k (.int .u8 63))), oo 110 (.cvI .i32 (.t 109)), oo 111 (.bin .shl .sc (.t 110) (.k (.int .u64 6))), oo 112 (.bin .or .sc (.t 107) (.t 111)), om 113 12, oo 114 (.bin .and .sc (.t 113) (.k (.int .u8 63))), oo 115 (.cvI .i32 (.t 114)), oo 116 (.bin .or .sc (.t 112) (.t 115)), om 2 116, oo 3 (.mv (.k (.int .i64 4)))]) <|
 .ret⟩


noncomputable def tab : PT Entry := (.nd (.nd (.nd (.nd (.nd (.nd (.nd .lf (some (.fn f63)) .lf) none (.nd .lf (some (.fn f95)) .lf)) none (.nd (.nd .lf (some (.fn f79)) .lf) (some (.fn f47)) .lf)) none (.nd (.nd (.nd .lf (some (.fn f71)) .lf) (some (.fn f39)) (.nd .lf (some (.fn f103)) .lf)) (some (.fn f23)) (.nd (.nd .lf (some (.fn f87)) .lf) (some (.fn f55)) .lf))) none (.nd (.nd (.nd (.nd .lf (some (.fn f67)) .lf) (some (.fn f35)) (.nd .lf (some (.fn f99)) .lf)) (some (.fn f19)) (.nd (.nd .lf (some (.fn f83)) .lf) (some (.fn f51)) .lf)) none (.nd (.nd (.nd .lf (some (.fn f75)) .lf) (some (.fn f43)) (.nd .lf (some (.fn f107)) .lf)) (some (.fn f27)) (.nd (.nd .lf (some (.prim primCrc)) .lf) (some (.fn f59)) .lf)))) none (.nd (.nd (.nd (.nd (.nd .lf (some (.prim primSum)) .lf) (some (.fn f33)) (.nd .lf (some (.fn f97)) .lf)) (some (.fn f17)) (.nd (.nd .lf (some (.fn f81)) .lf) (some (.fn f49)) .lf)) (some (.fn f9)) (.nd (.nd (.nd .lf (some (.fn f73)) .lf) (some (.fn f41)) (.nd .lf (some (.fn f105)) .lf)) (some (.fn f25)) (.nd (.nd .lf (some (.fn f89)) .lf) (some (.fn f57)) .lf))) none (.nd (.nd (.nd (.nd .lf (some (.fn f69)) .lf) (some (.fn f37)) (.nd .lf (some (.fn f101)) .lf)) none (.nd (.nd .lf (some (.fn f85)) .lf) (some (.fn f53)) .lf)) (some (.fn f13)) (.nd (.nd (.nd .lf (some (.fn f77)) .lf) (some (.fn f45)) (.nd .lf (some (.fn f109)) .lf)) (some (.fn f29)) (.nd (.nd .lf (some (.fn f93)) .lf) (some (.fn f61)) .lf))))) none (.nd (.nd (.nd (.nd (.nd (.nd .lf (some (.prim primNumber)) .lf) none (.nd .lf (some (.fn f96)) .lf)) (some (.fn f16)) (.nd (.nd .lf (some (.fn f80)) .lf) none .lf)) (some (.fn f8)) (.nd (.nd (.nd .lf (some (.fn f72)) .lf) (some (.fn f40)) (.nd .lf (some (.fn f104)) .lf)) (some (.fn f24)) (.nd (.nd .lf (some (.fn f88)) .lf) (some (.prim primTake)) .lf))) (some (.fn f4)) (.nd (.nd (.nd (.nd .lf (some (.fn f68)) .lf) (some (.fn f36)) (.nd .lf (some (.fn f100)) .lf)) none (.nd (.nd .lf (some (.fn f84)) .lf) (some (.fn f52)) .lf)) (some (.fn f12)) (.nd (.nd (.nd .lf (some (.fn f76)) .lf) (some (.fn f44)) (.nd .lf (some (.fn f108)) .lf)) (some (.fn f28)) (.nd (.nd .lf (some (.fn f92)) .lf) (some (.fn f60)) .lf)))) none (.nd (.nd (.nd (.nd (.nd .lf (some (.fn f66)) .lf) (some (.prim primRef)) (.nd .lf (some (.fn f98)) .lf)) (some (.fn f18)) (.nd (.nd .lf (some (.fn f82)) .lf) (some (.prim primTaken)) .lf)) (some (.fn f10)) (.nd (.nd (.nd .lf (some (.fn f74)) .lf) (some (.fn f42)) (.nd .lf (some (.fn f106)) .lf)) (some (.fn f26)) (.nd (.nd .lf (some (.fn f90)) .lf) (some (.fn f58)) .lf))) none (.nd (.nd (.nd (.nd .lf (some (.fn f70)) .lf) (some (.fn f38)) (.nd .lf (some (.fn f102)) .lf)) none (.nd (.nd .lf (some (.fn f86)) .lf) (some (.fn f54)) .lf)) none (.nd (.nd (.nd .lf (some (.fn f78)) .lf) (some (.fn f46)) .lf) (some (.fn f30)) (.nd (.nd .lf (some (.fn f94)) .lf) (some (.fn f62)) .lf))))))
noncomputable abbrev K (G : Nat → Option (List IV)) (d : Nat) : Go.PM.Callee := dcall G (fun f => tab.get f) d
theorem k4 {G : Nat → Option (List IV)} {d : Nat} {args : List DV} {H : PT HB} {n lo : Nat} : K G (d + 1) 4 args H n lo = f4.run G (K G d) args H n lo := dcall_fn rfl
theorem k8 {G : Nat → Option (List IV)} {d : Nat} {args : List DV} {H : PT HB} {n lo : Nat} : K G (d + 1) 8 args H n lo = f8.run G (K G d) args H n lo := dcall_fn rfl
theorem k9 {G : Nat → Option (List IV)} {d : Nat} {args : List DV} {H : PT HB} {n lo : Nat} : K G (d + 1) 9 args H n lo = f9.run G (K G d) args H n lo := dcall_fn rfl
theorem k10 {G : Nat → Option (List IV)} {d : Nat} {args : List DV} {H : PT HB} {n lo : Nat} : K G (d + 1) 10 args H n lo = f10.run G (K G d) args H n lo := dcall_fn rfl
theorem k12 {G : Nat → Option (List IV)} {d : Nat} {args : List DV} {H : PT HB} {n lo : Nat} : K G (d + 1) 12 args H n lo = f12.run G (K G d) args H n lo := dcall_fn rfl
theorem k13 {G : Nat → Option (List IV)} {d : Nat} {args : List DV} {H : PT HB} {n lo : Nat} : K G (d + 1) 13 args H n lo = f13.run G (K G d) args H n lo := dcall_fn rfl
theorem k16 {G : Nat → Option (List IV)} {d : Nat} {args : List DV} {H : PT HB} {n lo : Nat} : K G (d + 1) 16 args H n lo = f16.run G (K G d) args H n lo := dcall_fn rfl
theorem k17 {G : Nat → Option (List IV)} {d : Nat} {args : List DV} {H : PT HB} {n lo : Nat} : K G (d + 1) 17 args H n lo = f17.run G (K G d) args H n lo := dcall_fn rfl
theorem k18 {G : Nat → Option (List IV)} {d : Nat} {args : List DV} {H : PT HB} {n lo : Nat} : K G (d + 1) 18 args H n lo = f18.run G (K G d) args H n lo := dcall_fn rfl
theorem k19 {G : Nat → Option (List IV)} {d : Nat} {args : List DV} {H : PT HB} {n lo : Nat} : K G (d + 1) 19 args H n lo = f19.run G (K G d) args H n lo := dcall_fn rfl
theorem k23 {G : Nat → Option (List IV)} {d : Nat} {args : List DV} {H : PT HB} {n lo : Nat} : K G (d + 1) 23 args H n lo = f23.run G (K G d) args H n lo := dcall_fn rfl
theorem k24 {G : Nat → Option (List IV)} {d : Nat} {args : List DV} {H : PT HB} {n lo : Nat} : K G (d + 1) 24 args H n lo = f24.run G (K G d) args H n lo := dcall_fn rfl
theorem k25 {G : Nat → Option (List IV)} {d : Nat} {args : List DV} {H : PT HB} {n lo : Nat} : K G (d + 1) 25 args H n lo = f25.run G (K G d) args H n lo := dcall_fn rfl
theorem k26 {G : Nat → Option (List IV)} {d : Nat} {args : List DV} {H : PT HB} {n lo : Nat} : K G (d + 1) 26 args H n lo = f26.run G (K G d) args H n lo := dcall_fn rfl
theorem k27 {G : Nat → Option (List IV)} {d : Nat} {args : List DV} {H : PT HB} {n lo : Nat} : K G (d + 1) 27 args H n lo = f27.run G (K G d) args H n lo := dcall_fn rfl
theorem k28 {G : Nat → Option (List IV)} {d : Nat} {args : List DV} {H : PT HB} {n lo : Nat} : K G (d + 1) 28 args H n lo = f28.run G (K G d) args H n lo := dcall_fn rfl
theorem k29 {G : Nat → Option (List IV)} {d : Nat} {args : List DV} {H : PT HB} {n lo : Nat} : K G (d + 1) 29 args H n lo = f29.run G (K G d) args H n lo := dcall_fn rfl
theorem k30 {G : Nat → Option (List IV)} {d : Nat} {args : List DV} {H : PT HB} {n lo : Nat} : K G (d + 1) 30 args H n lo = f30.run G (K G d) args H n lo := dcall_fn rfl
theorem k33 {G : Nat → Option (List IV)} {d : Nat} {args : List DV} {H : PT HB} {n lo : Nat} : K G (d + 1) 33 args H n lo = f33.run G (K G d) args H n lo := dcall_fn rfl
theorem k34 {G : Nat → Option (List IV)} {d : Nat} {args : List DV} {H : PT HB} {n lo : Nat} : K G (d + 1) 34 args H n lo = primRef args H n lo := rfl
theorem k35 {G : Nat → Option (List IV)} {d : Nat} {args : List DV} {H : PT HB} {n lo : Nat} : K G (d + 1) 35 args H n lo = f35.run G (K G d) args H n lo := dcall_fn rfl
theorem k36 {G : Nat → Option (List IV)} {d : Nat} {args : List DV} {H : PT HB} {n lo : Nat} : K G (d + 1) 36 args H n lo = f36.run G (K G d) args H n lo := dcall_fn rfl
theorem k37 {G : Nat → Option (List IV)} {d : Nat} {args : List DV} {H : PT HB} {n lo : Nat} : K G (d + 1) 37 args H n lo = f37.run G (K G d) args H n lo := dcall_fn rfl
theorem k38 {G : Nat → Option (List IV)} {d : Nat} {args : List DV} {H : PT HB} {n lo : Nat} : K G (d + 1) 38 args H n lo = f38.run G (K G d) args H n lo := dcall_fn rfl
theorem k39 {G : Nat → Option (List IV)} {d : Nat} {args : List DV} {H : PT HB} {n lo : Nat} : K G (d + 1) 39 args H n lo = f39.run G (K G d) args H n lo := dcall_fn rfl
theorem k40 {G : Nat → Option (List IV)} {d : Nat} {args : List DV} {H : PT HB} {n lo : Nat} : K G (d + 1) 40 args H n lo = f40.run G (K G d) args H n lo := dcall_fn rfl
theorem k41 {G : Nat → Option (List IV)} {d : Nat} {args : List DV} {H : PT HB} {n lo : Nat} : K G (d + 1) 41 args H n lo = f41.run G (K G d) args H n lo := dcall_fn rfl
theorem k42 {G : Nat → Option (List IV)} {d : Nat} {args : List DV} {H : PT HB} {n lo : Nat} : K G (d + 1) 42 args H n lo = f42.run G (K G d) args H n lo := dcall_fn rfl
theorem k43 {G : Nat → Option (List IV)} {d : Nat} {args : List DV} {H : PT HB} {n lo : Nat} : K G (d + 1) 43 args H n lo = f43.run G (K G d) args H n lo := dcall_fn rfl
theorem k44 {G : Nat → Option (List IV)} {d : Nat} {args : List DV} {H : PT HB} {n lo : Nat} : K G (d + 1) 44 args H n lo = f44.run G (K G d) args H n lo := dcall_fn rfl
theorem k45 {G : Nat → Option (List IV)} {d : Nat} {args : List DV} {H : PT HB} {n lo : Nat} : K G (d + 1) 45 args H n lo = f45.run G (K G d) args H n lo := dcall_fn rfl
theorem k46 {G : Nat → Option (List IV)} {d : Nat} {args : List DV} {H : PT HB} {n lo : Nat} : K G (d + 1) 46 args H n lo = f46.run G (K G d) args H n lo := dcall_fn rfl
theorem k47 {G : Nat → Option (List IV)} {d : Nat} {args : List DV} {H : PT HB} {n lo : Nat} : K G (d + 1) 47 args H n lo = f47.run G (K G d) args H n lo := dcall_fn rfl
theorem k49 {G : Nat → Option (List IV)} {d : Nat} {args : List DV} {H : PT HB} {n lo : Nat} : K G (d + 1) 49 args H n lo = f49.run G (K G d) args H n lo := dcall_fn rfl
theorem k50 {G : Nat → Option (List IV)} {d : Nat} {args : List DV} {H : PT HB} {n lo : Nat} : K G (d + 1) 50 args H n lo = primTaken args H n lo := rfl
theorem k51 {G : Nat → Option (List IV)} {d : Nat} {args : List DV} {H : PT HB} {n lo : Nat} : K G (d + 1) 51 args H n lo = f51.run G (K G d) args H n lo := dcall_fn rfl
theorem k52 {G : Nat → Option (List IV)} {d : Nat} {args : List DV} {H : PT HB} {n lo : Nat} : K G (d + 1) 52 args H n lo = f52.run G (K G d) args H n lo := dcall_fn rfl
theorem k53 {G : Nat → Option (List IV)} {d : Nat} {args : List DV} {H : PT HB} {n lo : Nat} : K G (d + 1) 53 args H n lo = f53.run G (K G d) args H n lo := dcall_fn rfl
theorem k54 {G : Nat → Option (List IV)} {d : Nat} {args : List DV} {H : PT HB} {n lo : Nat} : K G (d + 1) 54 args H n lo = f54.run G (K G d) args H n lo := dcall_fn rfl
theorem k55 {G : Nat → Option (List IV)} {d : Nat} {args : List DV} {H : PT HB} {n lo : Nat} : K G (d + 1) 55 args H n lo = f55.run G (K G d) args H n lo := dcall_fn rfl
theorem k56 {G : Nat → Option (List IV)} {d : Nat} {args : List DV} {H : PT HB} {n lo : Nat} : K G (d + 1) 56 args H n lo = primTake args H n lo := rfl
theorem k57 {G : Nat → Option (List IV)} {d : Nat} {args : List DV} {H : PT HB} {n lo : Nat} : K G (d + 1) 57 args H n lo = f57.run G (K G d) args H n lo := dcall_fn rfl
theorem k58 {G : Nat → Option (List IV)} {d : Nat} {args : List DV} {H : PT HB} {n lo : Nat} : K G (d + 1) 58 args H n lo = f58.run G (K G d) args H n lo := dcall_fn rfl
theorem k59 {G : Nat → Option (List IV)} {d : Nat} {args : List DV} {H : PT HB} {n lo : Nat} : K G (d + 1) 59 args H n lo = f59.run G (K G d) args H n lo := dcall_fn rfl
theorem k60 {G : Nat → Option (List IV)} {d : Nat} {args : List DV} {H : PT HB} {n lo : Nat} : K G (d + 1) 60 args H n lo = f60.run G (K G d) args H n lo := dcall_fn rfl
theorem k61 {G : Nat → Option (List IV)} {d : Nat} {args : List DV} {H : PT HB} {n lo : Nat} : K G (d + 1) 61 args H n lo = f61.run G (K G d) args H n lo := dcall_fn rfl
theorem k62 {G : Nat → Option (List IV)} {d : Nat} {args : List DV} {H : PT HB} {n lo : Nat} : K G (d + 1) 62 args H n lo = f62.run G (K G d) args H n lo := dcall_fn rfl
theorem k63 {G : Nat → Option (List IV)} {d : Nat} {args : List DV} {H : PT HB} {n lo : Nat} : K G (d + 1) 63 args H n lo = f63.run G (K G d) args H n lo := dcall_fn rfl
theorem k64 {G : Nat → Option (List IV)} {d : Nat} {args : List DV} {H : PT HB} {n lo : Nat} : K G (d + 1) 64 args H n lo = primNumber args H n lo := rfl
theorem k65 {G : Nat → Option (List IV)} {d : Nat} {args : List DV} {H : PT HB} {n lo : Nat} : K G (d + 1) 65 args H n lo = primSum args H n lo := rfl
theorem k66 {G : Nat → Option (List IV)} {d : Nat} {args : List DV} {H : PT HB} {n lo : Nat} : K G (d + 1) 66 args H n lo = f66.run G (K G d) args H n lo := dcall_fn rfl
theorem k67 {G : Nat → Option (List IV)} {d : Nat} {args : List DV} {H : PT HB} {n lo : Nat} : K G (d + 1) 67 args H n lo = f67.run G (K G d) args H n lo := dcall_fn rfl
theorem k68 {G : Nat → Option (List IV)} {d : Nat} {args : List DV} {H : PT HB} {n lo : Nat} : K G (d + 1) 68 args H n lo = f68.run G (K G d) args H n lo := dcall_fn rfl
theorem k69 {G : Nat → Option (List IV)} {d : Nat} {args : List DV} {H : PT HB} {n lo : Nat} : K G (d + 1) 69 args H n lo = f69.run G (K G d) args H n lo := dcall_fn rfl
theorem k70 {G : Nat → Option (List IV)} {d : Nat} {args : List DV} {H : PT HB} {n lo : Nat} : K G (d + 1) 70 args H n lo = f70.run G (K G d) args H n lo := dcall_fn rfl
theorem k71 {G : Nat → Option (List IV)} {d : Nat} {args : List DV} {H : PT HB} {n lo : Nat} : K G (d + 1) 71 args H n lo = f71.run G (K G d) args H n lo := dcall_fn rfl
theorem k72 {G : Nat → Option (List IV)} {d : Nat} {args : List DV} {H : PT HB} {n lo : Nat} : K G (d + 1) 72 args H n lo = f72.run G (K G d) args H n lo := dcall_fn rfl
theorem k73 {G : Nat → Option (List IV)} {d : Nat} {args : List DV} {H : PT HB} {n lo : Nat} : K G (d + 1) 73 args H n lo = f73.run G (K G d) args H n lo := dcall_fn rfl
theorem k74 {G : Nat → Option (List IV)} {d : Nat} {args : List DV} {H : PT HB} {n lo : Nat} : K G (d + 1) 74 args H n lo = f74.run G (K G d) args H n lo := dcall_fn rfl
theorem k75 {G : Nat → Option (List IV)} {d : Nat} {args : List DV} {H : PT HB} {n lo : Nat} : K G (d + 1) 75 args H n lo = f75.run G (K G d) args H n lo := dcall_fn rfl
theorem k76 {G : Nat → Option (List IV)} {d : Nat} {args : List DV} {H : PT HB} {n lo : Nat} : K G (d + 1) 76 args H n lo = f76.run G (K G d) args H n lo := dcall_fn rfl
theorem k77 {G : Nat → Option (List IV)} {d : Nat} {args : List DV} {H : PT HB} {n lo : Nat} : K G (d + 1) 77 args H n lo = f77.run G (K G d) args H n lo := dcall_fn rfl
theorem k78 {G : Nat → Option (List IV)} {d : Nat} {args : List DV} {H : PT HB} {n lo : Nat} : K G (d + 1) 78 args H n lo = f78.run G (K G d) args H n lo := dcall_fn rfl
theorem k79 {G : Nat → Option (List IV)} {d : Nat} {args : List DV} {H : PT HB} {n lo : Nat} : K G (d + 1) 79 args H n lo = f79.run G (K G d) args H n lo := dcall_fn rfl
theorem k80 {G : Nat → Option (List IV)} {d : Nat} {args : List DV} {H : PT HB} {n lo : Nat} : K G (d + 1) 80 args H n lo = f80.run G (K G d) args H n lo := dcall_fn rfl
theorem k81 {G : Nat → Option (List IV)} {d : Nat} {args : List DV} {H : PT HB} {n lo : Nat} : K G (d + 1) 81 args H n lo = f81.run G (K G d) args H n lo := dcall_fn rfl
theorem k82 {G : Nat → Option (List IV)} {d : Nat} {args : List DV} {H : PT HB} {n lo : Nat} : K G (d + 1) 82 args H n lo = f82.run G (K G d) args H n lo := dcall_fn rfl
theorem k83 {G : Nat → Option (List IV)} {d : Nat} {args : List DV} {H : PT HB} {n lo : Nat} : K G (d + 1) 83 args H n lo = f83.run G (K G d) args H n lo := dcall_fn rfl
theorem k84 {G : Nat → Option (List IV)} {d : Nat} {args : List DV} {H : PT HB} {n lo : Nat} : K G (d + 1) 84 args H n lo = f84.run G (K G d) args H n lo := dcall_fn rfl
theorem k85 {G : Nat → Option (List IV)} {d : Nat} {args : List DV} {H : PT HB} {n lo : Nat} : K G (d + 1) 85 args H n lo = f85.run G (K G d) args H n lo := dcall_fn rfl
theorem k86 {G : Nat → Option (List IV)} {d : Nat} {args : List DV} {H : PT HB} {n lo : Nat} : K G (d + 1) 86 args H n lo = f86.run G (K G d) args H n lo := dcall_fn rfl
theorem k87 {G : Nat → Option (List IV)} {d : Nat} {args : List DV} {H : PT HB} {n lo : Nat} : K G (d + 1) 87 args H n lo = f87.run G (K G d) args H n lo := dcall_fn rfl
theorem k88 {G : Nat → Option (List IV)} {d : Nat} {args : List DV} {H : PT HB} {n lo : Nat} : K G (d + 1) 88 args H n lo = f88.run G (K G d) args H n lo := dcall_fn rfl
theorem k89 {G : Nat → Option (List IV)} {d : Nat} {args : List DV} {H : PT HB} {n lo : Nat} : K G (d + 1) 89 args H n lo = f89.run G (K G d) args H n lo := dcall_fn rfl
theorem k90 {G : Nat → Option (List IV)} {d : Nat} {args : List DV} {H : PT HB} {n lo : Nat} : K G (d + 1) 90 args H n lo = f90.run G (K G d) args H n lo := dcall_fn rfl
theorem k91 {G : Nat → Option (List IV)} {d : Nat} {args : List DV} {H : PT HB} {n lo : Nat} : K G (d + 1) 91 args H n lo = primCrc args H n lo := rfl
theorem k92 {G : Nat → Option (List IV)} {d : Nat} {args : List DV} {H : PT HB} {n lo : Nat} : K G (d + 1) 92 args H n lo = f92.run G (K G d) args H n lo := dcall_fn rfl
theorem k93 {G : Nat → Option (List IV)} {d : Nat} {args : List DV} {H : PT HB} {n lo : Nat} : K G (d + 1) 93 args H n lo = f93.run G (K G d) args H n lo := dcall_fn rfl
theorem k94 {G : Nat → Option (List IV)} {d : Nat} {args : List DV} {H : PT HB} {n lo : Nat} : K G (d + 1) 94 args H n lo = f94.run G (K G d) args H n lo := dcall_fn rfl
theorem k95 {G : Nat → Option (List IV)} {d : Nat} {args : List DV} {H : PT HB} {n lo : Nat} : K G (d + 1) 95 args H n lo = f95.run G (K G d) args H n lo := dcall_fn rfl
theorem k96 {G : Nat → Option (List IV)} {d : Nat} {args : List DV} {H : PT HB} {n lo : Nat} : K G (d + 1) 96 args H n lo = f96.run G (K G d) args H n lo := dcall_fn rfl
theorem k97 {G : Nat → Option (List IV)} {d : Nat} {args : List DV} {H : PT HB} {n lo : Nat} : K G (d + 1) 97 args H n lo = f97.run G (K G d) args H n lo := dcall_fn rfl
theorem k98 {G : Nat → Option (List IV)} {d : Nat} {args : List DV} {H : PT HB} {n lo : Nat} : K G (d + 1) 98 args H n lo = f98.run G (K G d) args H n lo := dcall_fn rfl
theorem k99 {G : Nat → Option (List IV)} {d : Nat} {args : List DV} {H : PT HB} {n lo : Nat} : K G (d + 1) 99 args H n lo = f99.run G (K G d) args H n lo := dcall_fn rfl
theorem k100 {G : Nat → Option (List IV)} {d : Nat} {args : List DV} {H : PT HB} {n lo : Nat} : K G (d + 1) 100 args H n lo = f100.run G (K G d) args H n lo := dcall_fn rfl
theorem k101 {G : Nat → Option (List IV)} {d : Nat} {args : List DV} {H : PT HB} {n lo : Nat} : K G (d + 1) 101 args H n lo = f101.run G (K G d) args H n lo := dcall_fn rfl
theorem k102 {G : Nat → Option (List IV)} {d : Nat} {args : List DV} {H : PT HB} {n lo : Nat} : K G (d + 1) 102 args H n lo = f102.run G (K G d) args H n lo := dcall_fn rfl
theorem k103 {G : Nat → Option (List IV)} {d : Nat} {args : List DV} {H : PT HB} {n lo : Nat} : K G (d + 1) 103 args H n lo = f103.run G (K G d) args H n lo := dcall_fn rfl
theorem k104 {G : Nat → Option (List IV)} {d : Nat} {args : List DV} {H : PT HB} {n lo : Nat} : K G (d + 1) 104 args H n lo = f104.run G (K G d) args H n lo := dcall_fn rfl
theorem k105 {G : Nat → Option (List IV)} {d : Nat} {args : List DV} {H : PT HB} {n lo : Nat} : K G (d + 1) 105 args H n lo = f105.run G (K G d) args H n lo := dcall_fn rfl
theorem k106 {G : Nat → Option (List IV)} {d : Nat} {args : List DV} {H : PT HB} {n lo : Nat} : K G (d + 1) 106 args H n lo = f106.run G (K G d) args H n lo := dcall_fn rfl
theorem k107 {G : Nat → Option (List IV)} {d : Nat} {args : List DV} {H : PT HB} {n lo : Nat} : K G (d + 1) 107 args H n lo = f107.run G (K G d) args H n lo := dcall_fn rfl
theorem k108 {G : Nat → Option (List IV)} {d : Nat} {args : List DV} {H : PT HB} {n lo : Nat} : K G (d + 1) 108 args H n lo = f108.run G (K G d) args H n lo := dcall_fn rfl
theorem k109 {G : Nat → Option (List IV)} {d : Nat} {args : List DV} {H : PT HB} {n lo : Nat} : K G (d + 1) 109 args H n lo = f109.run G (K G d) args H n lo := dcall_fn rfl
end Go.Proofs.YtnpcgejfkonfdaaDoor.D
