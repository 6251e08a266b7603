/-
  D's functions of this seat, printed by program out of the translation.
-/
import Derived.Test.YtnpcgejfkonfdaaGreatDoorRun
import Derived.Test.YtnpcgejfkonfdaaGreatDoorPrim
set_option maxRecDepth 100000
namespace Go.Proofs.YtnpcgejfkonfdaaGreatDoor.D
open Go Go.PM

-- TYPES Ints=30 Rss=28 Bool=4 Rs=27 Int=3
def l3_0b : DC :=
 .seq (.seq (.reg [
 ⟨some 36, .mv (.t 5), none⟩,
 ⟨some 37, .bin .lss .sc (.t 36) (.k (.int .i64 3)), none⟩]) <|
 .cond (.t 37)
 (.skip)
 (.exit 0)) <|
 .seq (.block 1 <|
 .reg [
 ⟨some 40, .mv (.t 3), none⟩,
 ⟨some 41, .call .eff 11 [(.t 40), (.k (.bool false))], none⟩]) <|
 .reg [
 ⟨some 38, .mv (.t 5), none⟩,
 ⟨some 39, .bin .add .sc (.t 38) (.k (.int .i64 1)), none⟩,
 ⟨some 5, .mv (.t 39), none⟩]
def l3_0 : DC := .loop [3, 5] [] l3_0b
def f3 : DFn := ⟨1, [.t 2],
 .seq (.reg [
 ⟨some 2, .mv (.k (.bool false)), none⟩]) <|
 .seq (.seq (.reg [
 ⟨some 6, .mv (.t 0), none⟩,
 ⟨some 7, .bin .lss .sc (.t 6) (.k (.int .i64 0)), none⟩,
 ⟨some 8, .mv (.t 7), none⟩,
 ⟨some 9, .mv (.t 0), some (8, false)⟩,
 ⟨some 10, .bin .gtr .sc (.t 9) (.k (.int .i64 2)), some (8, false)⟩,
 ⟨some 11, .pick (.t 8) (.k (.bool true)) (.t 10), none⟩]) <|
 .cond (.t 11)
 (.seq (.reg [
 ⟨some 2, .mv (.k (.bool true)), none⟩]) <|
 .ret)
 (.skip)) <|
 .seq (.reg [
 ⟨some 12, .call .eff 5 [], none⟩,
 ⟨some 3, .mv (.t 12), none⟩]) <|
 .seq (.seq (.reg [
 ⟨some 13, .mv (.t 3), none⟩,
 ⟨some 14, .bin .eql .np (.t 13) (.k (.nilp)), none⟩]) <|
 .cond (.t 14)
 (.seq (.reg [
 ⟨some 2, .mv (.k (.bool false)), none⟩]) <|
 .ret)
 (.skip)) <|
 .seq (.reg [
 ⟨some 15, .build [.int .i64 0, .int .i64 0, .int .i64 0, .bool false] [(0, 1, (.k (.int .i64 2)))], none⟩,
 ⟨some 16, .bsl false 4 [.int .i64 0, .int .i64 0, .int .i64 0, .bool false] 1 [(0, (.t 15))], none⟩,
 ⟨some 17, .build [.int .i64 0, .bool false, .int .i64 0, .int .i64 0, .nils, .nils, .nils, .nils, .nils] [(2, 1, (.k (.int .i64 5))), (3, 1, (.k (.int .i64 50))), (4, 1, (.t 16))], none⟩,
 ⟨some 18, .call .blind 6 [(.t 17)], none⟩,
 ⟨some 4, .mv (.t 18), none⟩]) <|
 .seq (.seq (.reg [
 ⟨some 19, .mv (.t 0), none⟩,
 ⟨some 20, .bin .gtr .sc (.t 19) (.k (.int .i64 0)), none⟩]) <|
 .cond (.t 20)
 (.reg [
 ⟨some 21, .mv (.t 3), none⟩,
 ⟨some 22, .call .eff 7 [(.t 21)], none⟩])
 (.skip)) <|
 .seq (.seq (.reg [
 ⟨some 23, .mv (.t 0), none⟩,
 ⟨some 24, .bin .gtr .sc (.t 23) (.k (.int .i64 1)), none⟩]) <|
 .cond (.t 24)
 (.reg [
 ⟨some 25, .mv (.t 3), none⟩,
 ⟨some 26, .call .eff 8 [(.t 25)], none⟩])
 (.skip)) <|
 .seq (.reg [
 ⟨some 27, .mv (.t 3), none⟩,
 ⟨some 28, .mv (.t 4), none⟩,
 ⟨some 29, .call .eff 9 [(.t 27), (.t 28)], none⟩]) <|
 .seq (.seq (.reg [
 ⟨some 30, .mv (.t 0), none⟩,
 ⟨some 31, .bin .eql .sc (.t 30) (.k (.int .i64 0)), none⟩]) <|
 .cond (.t 31)
 (.reg [
 ⟨some 32, .mv (.t 3), none⟩,
 ⟨some 33, .call .eff 10 [(.t 32)], none⟩])
 (.seq (.reg [
 ⟨some 34, .mv (.t 3), none⟩,
 ⟨some 35, .call .eff 8 [(.t 34)], none⟩]) <|
 .seq (.reg [
 ⟨some 5, .mv (.k (.int .i64 0)), none⟩]) <|
 .block 0 <|
 l3_0)) <|
 .seq (.seq (.reg [
 ⟨some 42, .mv (.t 3), none⟩,
 ⟨some 43, .call .ro 12 [(.t 42)], none⟩,
 ⟨some 44, .bin .neq .sc (.t 43) (.k (.int .i64 2)), none⟩]) <|
 .cond (.t 44)
 (.seq (.reg [
 ⟨some 2, .mv (.k (.bool false)), none⟩]) <|
 .ret)
 (.skip)) <|
 .seq (.reg [
 ⟨some 45, .mv (.t 3), none⟩,
 ⟨some 46, .call .eff 13 [(.t 45), (.k (.int .i64 6)), (.k (.int .i64 0))], none⟩]) <|
 .seq (.reg [
 ⟨some 47, .mv (.t 3), none⟩,
 ⟨some 48, .call .ro 12 [(.t 47)], none⟩,
 ⟨some 49, .bin .eql .sc (.t 48) (.k (.int .i64 4)), none⟩,
 ⟨some 50, .mv (.t 49), none⟩,
 ⟨some 51, .mv (.t 3), some (50, true)⟩,
 ⟨some 52, .call .ro 15 [(.t 51)], some (50, true)⟩,
 ⟨some 53, .build [.int .i64 0, .int .i64 0, .int .i64 0, .bool false] [], some (50, true)⟩,
 ⟨some 54, .bsl false 4 [.int .i64 0, .int .i64 0, .int .i64 0, .bool false] 1 [(0, (.t 53))], some (50, true)⟩,
 ⟨some 55, .call .blind 14 [(.t 52), (.t 54)], some (50, true)⟩,
 ⟨some 56, .pick (.t 50) (.t 55) (.k (.bool false)), none⟩,
 ⟨some 57, .mv (.t 56), none⟩,
 ⟨some 58, .call .blind 16 [], some (57, true)⟩,
 ⟨some 59, .pick (.t 57) (.t 58) (.k (.bool false)), none⟩,
 ⟨some 2, .mv (.t 59), none⟩]) <|
 .ret⟩

def f5 : DFn := ⟨0, [.t 0],
 .seq (.reg [
 ⟨some 0, .mv (.k (.nilp)), none⟩]) <|
 .seq (.reg [
 ⟨some 4, .call .blind 18 [], none⟩,
 ⟨some 5, .call .eff 17 [(.t 4)], none⟩,
 ⟨some 3, .mv (.t 5), none⟩,
 ⟨some 6, .ext 0 (.t 3), none⟩,
 ⟨some 7, .ext 1 (.t 3), none⟩,
 ⟨some 1, .mv (.t 6), none⟩,
 ⟨some 2, .mv (.t 7), none⟩]) <|
 .seq (.seq (.reg [
 ⟨some 8, .mv (.t 2), none⟩,
 ⟨some 9, .bin .neq .sc (.t 8) (.k (.int .i64 0)), none⟩,
 ⟨some 10, .mv (.t 9), none⟩,
 ⟨some 11, .mv (.t 1), some (10, false)⟩,
 ⟨some 12, .bin .eql .np (.t 11) (.k (.nilp)), some (10, false)⟩,
 ⟨some 13, .pick (.t 10) (.k (.bool true)) (.t 12), none⟩]) <|
 .cond (.t 13)
 (.seq (.reg [
 ⟨some 0, .mv (.k (.nilp)), none⟩]) <|
 .ret)
 (.skip)) <|
 .seq (.reg [
 ⟨some 14, .mv (.t 1), none⟩,
 ⟨some 15, .build [.int .i64 0, .int .i64 0, .int .i64 0, .bool false] [], none⟩,
 ⟨some 16, .bsl false 4 [.int .i64 0, .int .i64 0, .int .i64 0, .bool false] 1 [(0, (.t 15))], none⟩,
 ⟨some 17, .build [.int .i64 0, .bool false, .int .i64 0, .int .i64 0, .nils, .nils, .nils, .nils, .nils] [(2, 1, (.k (.int .i64 0))), (3, 1, (.k (.int .i64 0))), (4, 1, (.t 16))], none⟩,
 ⟨some 18, .call .blind 6 [(.t 17)], none⟩,
 ⟨some 19, .call .eff 9 [(.t 14), (.t 18)], none⟩]) <|
 .seq (.reg [
 ⟨some 20, .mv (.t 1), none⟩,
 ⟨some 21, .call .eff 13 [(.t 20), (.k (.int .i64 1)), (.k (.int .i64 0))], none⟩]) <|
 .seq (.seq (.reg [
 ⟨some 22, .mv (.t 1), none⟩,
 ⟨some 23, .call .ro 12 [(.t 22)], none⟩,
 ⟨some 24, .bin .neq .sc (.t 23) (.k (.int .i64 3)), none⟩]) <|
 .cond (.t 24)
 (.seq (.reg [
 ⟨some 0, .mv (.k (.nilp)), none⟩]) <|
 .ret)
 (.skip)) <|
 .seq (.reg [
 ⟨some 25, .mv (.t 1), none⟩,
 ⟨some 0, .mv (.t 25), none⟩]) <|
 .ret⟩

def f6 : DFn := ⟨1, [.t 2],
 .seq (.reg [
 ⟨some 1, .boxL (.t 0), none⟩,
 ⟨some 2, .mv (.k (.nils)), none⟩]) <|
 .seq (.reg [
 ⟨some 6, .fld 2 (.t 1), none⟩,
 ⟨some 7, .ld 1 false (.t 6), none⟩,
 ⟨some 8, .fld 3 (.t 1), none⟩,
 ⟨some 9, .ld 1 false (.t 8), none⟩,
 ⟨some 10, .fld 4 (.t 1), none⟩,
 ⟨some 11, .ld 1 false (.t 10), none⟩,
 ⟨some 12, .call .eff 22 [(.t 7), (.t 9), (.t 11)], none⟩,
 ⟨some 3, .mv (.t 12), none⟩]) <|
 .seq (.seq (.reg [
 ⟨some 13, .mv (.t 3), none⟩,
 ⟨some 14, .bin .eql .np (.t 13) (.k (.nilp)), none⟩]) <|
 .cond (.t 14)
 (.seq (.reg [
 ⟨some 2, .mv (.k (.nils)), none⟩]) <|
 .ret)
 (.skip)) <|
 .seq (.reg [
 ⟨some 16, .mv (.t 3), none⟩,
 ⟨some 17, .call .ro 23 [(.t 16)], none⟩,
 ⟨some 15, .mv (.t 17), none⟩,
 ⟨some 18, .ext 0 (.t 15), none⟩,
 ⟨some 19, .ext 1 (.t 15), none⟩,
 ⟨some 4, .mv (.t 18), none⟩,
 ⟨some 5, .mv (.t 19), none⟩]) <|
 .seq (.reg [
 ⟨some 20, .mv (.t 4), none⟩,
 ⟨some 2, .mv (.t 20), none⟩]) <|
 .ret⟩

def f7 : DFn := ⟨1, [],
 .seq (.seq (.reg [
 ⟨some 2, .mv (.t 0), none⟩,
 ⟨some 3, .bin .eql .np (.t 2) (.k (.nilp)), none⟩]) <|
 .cond (.t 3)
 (.ret)
 (.skip)) <|
 .seq (.reg [
 ⟨some 4, .mv (.t 0), none⟩,
 ⟨some 5, .call .eff 24 [(.t 4)], none⟩]) <|
 .reg [
 ⟨some 6, .mv (.t 0), none⟩,
 ⟨some 7, .mv (.t 0), none⟩,
 ⟨some 8, .mv (.t 0), none⟩,
 ⟨some 9, .mv (.t 0), none⟩,
 ⟨some 10, .call .eff 25 [], none⟩,
 ⟨some 11, .nilck (.t 6), none⟩,
 ⟨some 12, .fld 3 (.t 11), none⟩,
 ⟨none, .st 1 (.t 12) (.k (.int .i64 0)), none⟩,
 ⟨some 13, .nilck (.t 7), none⟩,
 ⟨some 14, .fld 1 (.t 13), none⟩,
 ⟨none, .st 1 (.t 14) (.t 10), none⟩,
 ⟨some 15, .nilck (.t 8), none⟩,
 ⟨some 16, .fld 2 (.t 15), none⟩,
 ⟨none, .st 1 (.t 16) (.k (.nilp)), none⟩,
 ⟨some 17, .nilck (.t 9), none⟩,
 ⟨some 18, .fld 5 (.t 17), none⟩,
 ⟨none, .st 1 (.t 18) (.k (.int .i64 0)), none⟩]⟩

def f8 : DFn := ⟨1, [.t 2],
 .seq (.reg [
 ⟨some 2, .mv (.k (.int .i64 0)), none⟩]) <|
 .seq (.seq (.reg [
 ⟨some 3, .mv (.t 0), none⟩,
 ⟨some 4, .bin .eql .np (.t 3) (.k (.nilp)), none⟩,
 ⟨some 5, .mv (.t 4), none⟩,
 ⟨some 6, .mv (.t 0), some (5, false)⟩,
 ⟨some 7, .nilck (.t 6), some (5, false)⟩,
 ⟨some 8, .fld 3 (.t 7), some (5, false)⟩,
 ⟨some 9, .ld 1 false (.t 8), some (5, false)⟩,
 ⟨some 10, .bin .neq .sc (.t 9) (.k (.int .i64 0)), some (5, false)⟩,
 ⟨some 11, .pick (.t 5) (.k (.bool true)) (.t 10), none⟩]) <|
 .cond (.t 11)
 (.seq (.reg [
 ⟨some 2, .mv (.k (.int .i64 7)), none⟩]) <|
 .ret)
 (.skip)) <|
 .seq (.reg [
 ⟨some 12, .mv (.t 0), none⟩,
 ⟨some 13, .mv (.t 0), none⟩,
 ⟨some 14, .nilck (.t 12), none⟩,
 ⟨some 15, .fld 3 (.t 14), none⟩,
 ⟨none, .st 1 (.t 15) (.k (.int .i64 1)), none⟩,
 ⟨some 16, .nilck (.t 13), none⟩,
 ⟨some 17, .fld 4 (.t 16), none⟩,
 ⟨none, .st 1 (.t 17) (.k (.int .i64 0)), none⟩]) <|
 .seq (.reg [
 ⟨some 2, .mv (.k (.int .i64 0)), none⟩]) <|
 .ret⟩

def f9 : DFn := ⟨2, [],
 .seq (.seq (.reg [
 ⟨some 12, .mv (.t 0), none⟩,
 ⟨some 13, .bin .eql .np (.t 12) (.k (.nilp)), none⟩,
 ⟨some 14, .mv (.t 13), none⟩,
 ⟨some 15, .mv (.t 0), some (14, false)⟩,
 ⟨some 16, .nilck (.t 15), some (14, false)⟩,
 ⟨some 17, .fld 3 (.t 16), some (14, false)⟩,
 ⟨some 18, .ld 1 false (.t 17), some (14, false)⟩,
 ⟨some 19, .bin .neq .sc (.t 18) (.k (.int .i64 2)), some (14, false)⟩,
 ⟨some 20, .pick (.t 14) (.k (.bool true)) (.t 19), none⟩]) <|
 .cond (.t 20)
 (.ret)
 (.skip)) <|
 .seq (.reg [
 ⟨some 22, .mv (.t 1), none⟩,
 ⟨some 23, .call .eff 26 [(.t 22)], none⟩,
 ⟨some 21, .mv (.t 23), none⟩,
 ⟨some 24, .ext 0 (.t 21), none⟩,
 ⟨some 25, .ext 1 (.t 21), none⟩,
 ⟨some 4, .mv (.t 24), none⟩,
 ⟨some 5, .mv (.t 25), none⟩]) <|
 .seq (.seq (.reg [
 ⟨some 26, .mv (.t 5), none⟩,
 ⟨some 27, .bin .neq .sc (.t 26) (.k (.int .i64 0)), none⟩]) <|
 .cond (.t 27)
 (.ret)
 (.skip)) <|
 .seq (.reg [
 ⟨some 29, .mv (.t 4), none⟩,
 ⟨some 30, .call .ro 27 [(.t 29)], none⟩,
 ⟨some 28, .mv (.t 30), none⟩,
 ⟨some 31, .ext 0 (.t 28), none⟩,
 ⟨some 32, .ext 1 (.t 28), none⟩,
 ⟨some 33, .ext 2 (.t 28), none⟩,
 ⟨some 34, .ext 3 (.t 28), none⟩,
 ⟨some 6, .mv (.t 31), none⟩,
 ⟨some 7, .mv (.t 32), none⟩,
 ⟨some 8, .mv (.t 33), none⟩,
 ⟨some 9, .mv (.t 34), none⟩]) <|
 .seq (.reg [
 ⟨some 35, .mv (.t 6), none⟩,
 ⟨some 36, .mv (.t 7), none⟩,
 ⟨some 37, .mv (.t 8), none⟩,
 ⟨some 38, .build [.int .i64 0, .int .i64 0, .nils] [(0, 1, (.t 35)), (1, 1, (.t 36)), (2, 1, (.t 37))], none⟩,
 ⟨some 10, .alH [.int .i64 0, .int .i64 0, .nils], none⟩,
 ⟨none, .st 3 (.t 10) (.t 38), none⟩]) <|
 .seq (.seq (.reg [
 ⟨some 39, .mv (.t 9), none⟩,
 ⟨some 40, .un .not (.t 39), none⟩,
 ⟨some 41, .mv (.t 40), none⟩,
 ⟨some 42, .mv (.t 0), some (41, false)⟩,
 ⟨some 43, .ld 3 true (.t 10), some (41, false)⟩,
 ⟨some 44, .call .ro 28 [(.t 42), (.t 43)], some (41, false)⟩,
 ⟨some 45, .pick (.t 41) (.k (.bool true)) (.t 44), none⟩]) <|
 .cond (.t 45)
 (.ret)
 (.skip)) <|
 .seq (.reg [
 ⟨some 46, .mv (.t 0), none⟩,
 ⟨some 47, .nilck (.t 46), none⟩,
 ⟨some 48, .fld 0 (.t 47), none⟩,
 ⟨some 49, .ld 1 false (.t 48), none⟩,
 ⟨some 50, .call .ro 29 [(.t 49)], none⟩,
 ⟨some 11, .mv (.t 50), none⟩]) <|
 .seq (.seq (.reg [
 ⟨some 51, .mv (.t 0), none⟩,
 ⟨some 52, .nilck (.t 51), none⟩,
 ⟨some 53, .fld 0 (.t 52), none⟩,
 ⟨some 54, .ld 1 false (.t 53), none⟩,
 ⟨some 55, .mv (.t 8), none⟩,
 ⟨some 56, .call .eff 30 [(.t 54), (.t 55)], none⟩]) <|
 .cond (.t 56)
 (.reg [
 ⟨some 57, .mv (.t 0), none⟩,
 ⟨some 58, .nilck (.t 57), none⟩,
 ⟨some 59, .fld 2 (.t 58), none⟩,
 ⟨none, .st 1 (.t 59) (.t 10), none⟩])
 (.skip)) <|
 .reg [
 ⟨some 60, .mv (.t 0), none⟩,
 ⟨some 61, .nilck (.t 60), none⟩,
 ⟨some 62, .fld 0 (.t 61), none⟩,
 ⟨some 63, .ld 1 false (.t 62), none⟩,
 ⟨some 64, .mv (.t 11), none⟩,
 ⟨some 65, .call .eff 30 [(.t 63), (.t 64)], none⟩]⟩

def f10 : DFn := ⟨1, [.t 2],
 .seq (.reg [
 ⟨some 2, .mv (.k (.bool false)), none⟩]) <|
 .seq (.seq (.reg [
 ⟨some 3, .mv (.t 0), none⟩,
 ⟨some 4, .bin .eql .np (.t 3) (.k (.nilp)), none⟩,
 ⟨some 5, .mv (.t 4), none⟩,
 ⟨some 6, .mv (.t 0), some (5, false)⟩,
 ⟨some 7, .nilck (.t 6), some (5, false)⟩,
 ⟨some 8, .fld 3 (.t 7), some (5, false)⟩,
 ⟨some 9, .ld 1 false (.t 8), some (5, false)⟩,
 ⟨some 10, .bin .neq .sc (.t 9) (.k (.int .i64 3)), some (5, false)⟩,
 ⟨some 11, .pick (.t 5) (.k (.bool true)) (.t 10), none⟩]) <|
 .cond (.t 11)
 (.seq (.reg [
 ⟨some 2, .mv (.k (.bool false)), none⟩]) <|
 .ret)
 (.skip)) <|
 .seq (.reg [
 ⟨some 12, .mv (.t 0), none⟩,
 ⟨some 13, .call .eff 31 [(.t 12)], none⟩]) <|
 .seq (.reg [
 ⟨some 2, .mv (.k (.bool true)), none⟩]) <|
 .ret⟩

def f11 : DFn := ⟨2, [],
 .seq (.seq (.reg [
 ⟨some 4, .mv (.t 0), none⟩,
 ⟨some 5, .bin .eql .np (.t 4) (.k (.nilp)), none⟩,
 ⟨some 6, .mv (.t 5), none⟩,
 ⟨some 7, .mv (.t 0), some (6, false)⟩,
 ⟨some 8, .nilck (.t 7), some (6, false)⟩,
 ⟨some 9, .fld 3 (.t 8), some (6, false)⟩,
 ⟨some 10, .ld 1 false (.t 9), some (6, false)⟩,
 ⟨some 11, .bin .eql .sc (.t 10) (.k (.int .i64 0)), some (6, false)⟩,
 ⟨some 12, .pick (.t 6) (.k (.bool true)) (.t 11), none⟩]) <|
 .cond (.t 12)
 (.ret)
 (.skip)) <|
 .seq (.seq (.reg [
 ⟨some 13, .mv (.t 1), none⟩,
 ⟨some 14, .un .not (.t 13), none⟩]) <|
 .cond (.t 14)
 (.reg [
 ⟨some 15, .mv (.t 0), none⟩,
 ⟨some 16, .nilck (.t 15), none⟩,
 ⟨some 17, .fld 4 (.t 16), none⟩,
 ⟨some 18, .ld 1 false (.t 17), none⟩,
 ⟨some 19, .bin .add .sc (.t 18) (.k (.int .i64 1)), none⟩,
 ⟨some 20, .nilck (.t 15), none⟩,
 ⟨some 21, .fld 4 (.t 20), none⟩,
 ⟨none, .st 1 (.t 21) (.t 19), none⟩])
 (.skip)) <|
 .block 0 <|
 .seq (.reg [
 ⟨some 23, .mv (.t 0), none⟩,
 ⟨some 24, .nilck (.t 23), none⟩,
 ⟨some 25, .fld 3 (.t 24), none⟩,
 ⟨some 26, .ld 1 false (.t 25), none⟩,
 ⟨some 27, .bin .eql .sc (.t 26) (.k (.int .i64 1)), none⟩,
 ⟨some 28, .mv (.t 27), none⟩,
 ⟨some 29, .mv (.t 0), some (28, true)⟩,
 ⟨some 30, .nilck (.t 29), some (28, true)⟩,
 ⟨some 31, .fld 4 (.t 30), some (28, true)⟩,
 ⟨some 32, .ld 1 false (.t 31), some (28, true)⟩,
 ⟨some 33, .bin .geq .sc (.t 32) (.k (.int .i64 3)), some (28, true)⟩,
 ⟨some 34, .pick (.t 28) (.t 33) (.k (.bool false)), none⟩,
 ⟨some 22, .mv (.t 34), none⟩]) <|
 .cond (.t 22)
 (.reg [
 ⟨some 35, .mv (.t 0), none⟩,
 ⟨some 36, .nilck (.t 35), none⟩,
 ⟨some 37, .fld 3 (.t 36), none⟩,
 ⟨none, .st 1 (.t 37) (.k (.int .i64 2)), none⟩])
 (.seq (.drw [
 ⟨some 39, .mv (.t 0), none⟩,
 ⟨some 40, .call .ro 32 [(.t 39)], none⟩,
 ⟨some 41, .mv (.t 40), none⟩,
 ⟨some 42, .mv (.t 0), some (41, true)⟩,
 ⟨some 43, .nilck (.t 42), some (41, true)⟩,
 ⟨some 44, .fld 1 (.t 43), some (41, true)⟩,
 ⟨some 45, .ld 1 false (.t 44), some (41, true)⟩,
 ⟨some 46, .mv (.t 0), some (41, true)⟩,
 ⟨some 47, .nilck (.t 46), some (41, true)⟩,
 ⟨some 48, .fld 4 (.t 47), some (41, true)⟩,
 ⟨some 49, .ld 1 false (.t 48), some (41, true)⟩,
 ⟨some 50, .call .ro 33 [(.t 45), (.t 49)], some (41, true)⟩,
 ⟨some 51, .un .not (.t 50), some (41, true)⟩,
 ⟨some 52, .pick (.t 41) (.t 51) (.k (.bool false)), none⟩,
 ⟨some 38, .mv (.t 52), none⟩] [[], [], [], [], [], [], [1], [], [], [], [1], [1, 6, 10], [], [], []]) <|
 .cond (.t 38)
 (.reg [
 ⟨some 53, .mv (.t 0), none⟩,
 ⟨some 54, .call .eff 31 [(.t 53)], none⟩])
 (.skip))⟩

def f12 : DFn := ⟨1, [.t 2],
 .seq (.reg [
 ⟨some 2, .mv (.k (.int .i64 0)), none⟩]) <|
 .seq (.seq (.reg [
 ⟨some 3, .mv (.t 0), none⟩,
 ⟨some 4, .bin .eql .np (.t 3) (.k (.nilp)), none⟩]) <|
 .cond (.t 4)
 (.seq (.reg [
 ⟨some 2, .mv (.k (.int .i64 0)), none⟩]) <|
 .ret)
 (.skip)) <|
 .seq (.reg [
 ⟨some 5, .mv (.t 0), none⟩,
 ⟨some 6, .nilck (.t 5), none⟩,
 ⟨some 7, .fld 3 (.t 6), none⟩,
 ⟨some 8, .ld 1 false (.t 7), none⟩,
 ⟨some 2, .mv (.t 8), none⟩]) <|
 .ret⟩

def f13 : DFn := ⟨3, [],
 .block 0 <|
 .seq (.reg [
 ⟨some 7, .mv (.t 0), none⟩,
 ⟨some 8, .bin .eql .np (.t 7) (.k (.nilp)), none⟩,
 ⟨some 6, .mv (.t 8), none⟩]) <|
 .cond (.t 6)
 (.skip)
 (.seq (.reg [
 ⟨some 10, .mv (.t 0), none⟩,
 ⟨some 11, .call .ro 32 [(.t 10)], none⟩,
 ⟨some 12, .mv (.t 11), none⟩,
 ⟨some 13, .mv (.t 0), some (12, true)⟩,
 ⟨some 14, .nilck (.t 13), some (12, true)⟩,
 ⟨some 15, .fld 1 (.t 14), some (12, true)⟩,
 ⟨some 16, .ld 1 false (.t 15), some (12, true)⟩,
 ⟨some 17, .call .ro 34 [(.t 16)], some (12, true)⟩,
 ⟨some 18, .mv (.t 1), some (12, true)⟩,
 ⟨some 19, .bin .eql .sc (.t 17) (.t 18), some (12, true)⟩,
 ⟨some 20, .pick (.t 12) (.t 19) (.k (.bool false)), none⟩,
 ⟨some 9, .mv (.t 20), none⟩]) <|
 .cond (.t 9)
 (.drw [
 ⟨some 21, .mv (.t 0), none⟩,
 ⟨some 22, .nilck (.t 21), none⟩,
 ⟨some 23, .fld 1 (.t 22), none⟩,
 ⟨some 24, .ld 1 false (.t 23), none⟩,
 ⟨some 25, .mv (.t 1), none⟩,
 ⟨some 26, .mv (.t 0), none⟩,
 ⟨some 27, .nilck (.t 26), none⟩,
 ⟨some 28, .fld 4 (.t 27), none⟩,
 ⟨some 29, .ld 1 false (.t 28), none⟩,
 ⟨some 30, .call .eff 35 [(.t 24), (.t 25), (.t 29)], none⟩] [[], [], [], [], [], [], [], [], [], [3, 8]])
 (.seq (.reg [
 ⟨some 32, .mv (.t 0), none⟩,
 ⟨some 33, .call .ro 32 [(.t 32)], none⟩,
 ⟨some 34, .mv (.t 33), none⟩,
 ⟨some 35, .mv (.t 0), some (34, false)⟩,
 ⟨some 36, .nilck (.t 35), some (34, false)⟩,
 ⟨some 37, .fld 3 (.t 36), some (34, false)⟩,
 ⟨some 38, .ld 1 false (.t 37), some (34, false)⟩,
 ⟨some 39, .bin .eql .sc (.t 38) (.k (.int .i64 2)), some (34, false)⟩,
 ⟨some 40, .pick (.t 34) (.k (.bool true)) (.t 39), none⟩,
 ⟨some 31, .mv (.t 40), none⟩]) <|
 .cond (.t 31)
 (.seq (.drw [
 ⟨some 41, .mv (.t 0), none⟩,
 ⟨some 42, .nilck (.t 41), none⟩,
 ⟨some 43, .fld 1 (.t 42), none⟩,
 ⟨some 44, .ld 1 false (.t 43), none⟩,
 ⟨some 45, .mv (.t 1), none⟩,
 ⟨some 46, .mv (.t 0), none⟩,
 ⟨some 47, .nilck (.t 46), none⟩,
 ⟨some 48, .fld 4 (.t 47), none⟩,
 ⟨some 49, .ld 1 false (.t 48), none⟩,
 ⟨some 50, .call .eff 35 [(.t 44), (.t 45), (.t 49)], none⟩] [[], [], [], [], [], [], [], [], [], [3, 8]]) <|
 .seq (.reg [
 ⟨some 51, .mv (.t 0), none⟩,
 ⟨some 52, .mv (.t 1), none⟩,
 ⟨some 53, .mv (.t 2), none⟩,
 ⟨some 54, .call .eff 36 [(.t 51), (.t 52), (.t 53)], none⟩]) <|
 .reg [
 ⟨some 55, .mv (.t 0), none⟩,
 ⟨some 56, .nilck (.t 55), none⟩,
 ⟨some 57, .fld 2 (.t 56), none⟩,
 ⟨none, .st 1 (.t 57) (.k (.nilp)), none⟩])
 (.skip)))⟩

def l14_0b : DC :=
 .seq (.seq (.reg [
 ⟨some 11, .mv (.t 5), none⟩,
 ⟨some 12, .mv (.t 0), none⟩,
 ⟨some 13, .len (.t 12), none⟩,
 ⟨some 14, .bin .lss .sc (.t 11) (.t 13), none⟩]) <|
 .cond (.t 14)
 (.skip)
 (.exit 0)) <|
 .seq (.block 1 <|
 .seq (.drw [
 ⟨some 17, .mv (.t 0), none⟩,
 ⟨some 18, .mv (.t 5), none⟩,
 ⟨some 19, .idx 4 (.t 17) (.t 18), none⟩,
 ⟨some 20, .ld 4 true (.t 19), none⟩,
 ⟨some 21, .mv (.t 1), none⟩,
 ⟨some 22, .mv (.t 5), none⟩,
 ⟨some 23, .idx 4 (.t 21) (.t 22), none⟩,
 ⟨some 24, .ld 4 true (.t 23), none⟩,
 ⟨some 25, .bin .neq (.st [.i, .i, .i, .b]) (.t 20) (.t 24), none⟩] [[], [], [], [2], [], [], [], [6], []]) <|
 .cond (.t 25)
 (.seq (.reg [
 ⟨some 4, .mv (.k (.bool false)), none⟩]) <|
 .ret)
 (.skip)) <|
 .reg [
 ⟨some 15, .mv (.t 5), none⟩,
 ⟨some 16, .bin .add .sc (.t 15) (.k (.int .i64 1)), none⟩,
 ⟨some 5, .mv (.t 16), none⟩]
def l14_0 : DC := .loop [0, 1, 5] [] l14_0b
def f14 : DFn := ⟨2, [.t 4],
 .seq (.reg [
 ⟨some 4, .mv (.k (.bool false)), none⟩]) <|
 .seq (.seq (.reg [
 ⟨some 6, .mv (.t 0), none⟩,
 ⟨some 7, .len (.t 6), none⟩,
 ⟨some 8, .mv (.t 1), none⟩,
 ⟨some 9, .len (.t 8), none⟩,
 ⟨some 10, .bin .neq .sc (.t 7) (.t 9), none⟩]) <|
 .cond (.t 10)
 (.seq (.reg [
 ⟨some 4, .mv (.k (.bool false)), none⟩]) <|
 .ret)
 (.skip)) <|
 .seq (.seq (.reg [
 ⟨some 5, .mv (.k (.int .i64 0)), none⟩]) <|
 .block 0 <|
 l14_0) <|
 .seq (.reg [
 ⟨some 4, .mv (.k (.bool true)), none⟩]) <|
 .ret⟩

def f15 : DFn := ⟨1, [.t 2],
 .seq (.reg [
 ⟨some 2, .mv (.k (.nils)), none⟩]) <|
 .seq (.seq (.reg [
 ⟨some 3, .mv (.t 0), none⟩,
 ⟨some 4, .bin .eql .np (.t 3) (.k (.nilp)), none⟩]) <|
 .cond (.t 4)
 (.seq (.reg [
 ⟨some 2, .mv (.k (.nils)), none⟩]) <|
 .ret)
 (.skip)) <|
 .seq (.reg [
 ⟨some 5, .mv (.t 0), none⟩,
 ⟨some 6, .nilck (.t 5), none⟩,
 ⟨some 7, .fld 0 (.t 6), none⟩,
 ⟨some 8, .ld 1 false (.t 7), none⟩,
 ⟨some 9, .call .ro 29 [(.t 8)], none⟩,
 ⟨some 2, .mv (.t 9), none⟩]) <|
 .ret⟩

def f16 : DFn := ⟨0, [.t 0],
 .seq (.reg [
 ⟨some 0, .mv (.k (.bool false)), none⟩]) <|
 .seq (.reg [
 ⟨some 4, .call .blind 18 [], none⟩,
 ⟨some 5, .call .eff 17 [(.t 4)], none⟩,
 ⟨some 3, .mv (.t 5), none⟩,
 ⟨some 6, .ext 0 (.t 3), none⟩,
 ⟨some 7, .ext 1 (.t 3), none⟩,
 ⟨some 1, .mv (.t 6), none⟩,
 ⟨some 2, .mv (.t 7), none⟩]) <|
 .seq (.seq (.reg [
 ⟨some 8, .mv (.t 2), none⟩,
 ⟨some 9, .bin .neq .sc (.t 8) (.k (.int .i64 0)), none⟩,
 ⟨some 10, .mv (.t 9), none⟩,
 ⟨some 11, .mv (.t 1), some (10, false)⟩,
 ⟨some 12, .bin .eql .np (.t 11) (.k (.nilp)), some (10, false)⟩,
 ⟨some 13, .pick (.t 10) (.k (.bool true)) (.t 12), none⟩,
 ⟨some 14, .mv (.t 13), none⟩,
 ⟨some 15, .mv (.t 1), some (14, false)⟩,
 ⟨some 16, .call .ro 12 [(.t 15)], some (14, false)⟩,
 ⟨some 17, .bin .neq .sc (.t 16) (.k (.int .i64 2)), some (14, false)⟩,
 ⟨some 18, .pick (.t 14) (.k (.bool true)) (.t 17), none⟩]) <|
 .cond (.t 18)
 (.seq (.reg [
 ⟨some 0, .mv (.k (.bool false)), none⟩]) <|
 .ret)
 (.skip)) <|
 .seq (.reg [
 ⟨some 19, .mv (.t 1), none⟩,
 ⟨some 20, .call .eff 13 [(.t 19), (.k (.int .i64 1)), (.k (.int .i64 0))], none⟩]) <|
 .seq (.reg [
 ⟨some 21, .mv (.t 1), none⟩,
 ⟨some 22, .call .ro 12 [(.t 21)], none⟩,
 ⟨some 23, .bin .eql .sc (.t 22) (.k (.int .i64 4)), none⟩,
 ⟨some 24, .mv (.t 23), none⟩,
 ⟨some 25, .mv (.t 1), some (24, true)⟩,
 ⟨some 26, .call .ro 20 [(.t 25)], some (24, true)⟩,
 ⟨some 27, .len (.t 26), some (24, true)⟩,
 ⟨some 28, .bin .eql .sc (.t 27) (.k (.int .i64 0)), some (24, true)⟩,
 ⟨some 29, .pick (.t 24) (.t 28) (.k (.bool false)), none⟩,
 ⟨some 0, .mv (.t 29), none⟩]) <|
 .ret⟩

def f17 : DFn := ⟨1, [.t 2, .t 3],
 .seq (.reg [
 ⟨some 1, .boxL (.t 0), none⟩,
 ⟨some 2, .mv (.k (.nilp)), none⟩,
 ⟨some 3, .mv (.k (.int .i64 0)), none⟩]) <|
 .seq (.reg [
 ⟨some 8, .ld 4 true (.t 1), none⟩,
 ⟨some 9, .call .eff 37 [(.t 8)], none⟩,
 ⟨some 7, .mv (.t 9), none⟩,
 ⟨some 10, .ext 0 (.t 7), none⟩,
 ⟨some 11, .ext 1 (.t 7), none⟩,
 ⟨some 4, .mv (.t 10), none⟩,
 ⟨some 5, .mv (.t 11), none⟩]) <|
 .seq (.seq (.reg [
 ⟨some 12, .mv (.t 5), none⟩,
 ⟨some 13, .bin .neq .sc (.t 12) (.k (.int .i64 0)), none⟩]) <|
 .cond (.t 13)
 (.seq (.reg [
 ⟨some 14, .mv (.t 5), none⟩,
 ⟨some 2, .mv (.k (.nilp)), none⟩,
 ⟨some 3, .mv (.t 14), none⟩]) <|
 .ret)
 (.skip)) <|
 .seq (.reg [
 ⟨some 15, .mv (.t 4), none⟩,
 ⟨some 16, .call .eff 25 [], none⟩,
 ⟨some 17, .build [.nilp, .nilp, .nilp, .int .i64 0, .int .i64 0, .int .i64 0, .int .i64 0] [(0, 1, (.t 15)), (1, 1, (.t 16)), (3, 1, (.k (.int .i64 2)))], none⟩,
 ⟨some 18, .boxH (.t 17), none⟩,
 ⟨some 6, .mv (.t 18), none⟩]) <|
 .seq (.reg [
 ⟨some 19, .mv (.t 6), none⟩,
 ⟨some 2, .mv (.t 19), none⟩,
 ⟨some 3, .mv (.k (.int .i64 0)), none⟩]) <|
 .ret⟩

def f18 : DFn := ⟨0, [.cell 0 4 true],
 .seq (.reg [
 ⟨some 0, .alL [.nils, .nils, .nils, .nils], none⟩]) <|
 .seq (.reg [
 ⟨some 1, .bsl false 1 [.str []] 1 [(0, (.k (.str [97])))], none⟩,
 ⟨some 2, .bsl false 1 [.str []] 2 [(0, (.k (.str [115]))), (1, (.k (.str [116])))], none⟩,
 ⟨some 3, .bsl false 1 [.int .i64 0] 1 [(0, (.k (.int .i64 0)))], none⟩,
 ⟨some 4, .build [.str [], .int .i64 0, .int .i64 0, .nils, .nils, .nils] [(0, 1, (.k (.str [114]))), (2, 1, (.k (.int .i64 1))), (3, 1, (.t 3))], none⟩,
 ⟨some 5, .bsl false 6 [.str [], .int .i64 0, .int .i64 0, .nils, .nils, .nils] 1 [(0, (.t 4))], none⟩,
 ⟨some 6, .build [.nils, .nils, .nils, .nils] [(0, 1, (.t 1)), (2, 1, (.t 2)), (3, 1, (.t 5))], none⟩,
 ⟨none, .st 4 (.t 0) (.t 6), none⟩]) <|
 .ret⟩

def f20 : DFn := ⟨1, [.t 2],
 .seq (.reg [
 ⟨some 2, .mv (.k (.nils)), none⟩]) <|
 .seq (.seq (.reg [
 ⟨some 5, .mv (.t 0), none⟩,
 ⟨some 6, .bin .eql .np (.t 5) (.k (.nilp)), none⟩,
 ⟨some 7, .mv (.t 6), none⟩,
 ⟨some 8, .mv (.t 0), some (7, false)⟩,
 ⟨some 9, .nilck (.t 8), some (7, false)⟩,
 ⟨some 10, .fld 3 (.t 9), some (7, false)⟩,
 ⟨some 11, .ld 1 false (.t 10), some (7, false)⟩,
 ⟨some 12, .bin .neq .sc (.t 11) (.k (.int .i64 3)), some (7, false)⟩,
 ⟨some 13, .pick (.t 7) (.k (.bool true)) (.t 12), none⟩]) <|
 .cond (.t 13)
 (.seq (.reg [
 ⟨some 2, .mv (.k (.nils)), none⟩]) <|
 .ret)
 (.skip)) <|
 .seq (.drw [
 ⟨some 15, .mv (.t 0), none⟩,
 ⟨some 16, .nilck (.t 15), none⟩,
 ⟨some 17, .fld 1 (.t 16), none⟩,
 ⟨some 18, .ld 1 false (.t 17), none⟩,
 ⟨some 19, .call .ro 34 [(.t 18)], none⟩,
 ⟨some 20, .mv (.t 0), none⟩,
 ⟨some 21, .nilck (.t 20), none⟩,
 ⟨some 22, .fld 5 (.t 21), none⟩,
 ⟨some 23, .ld 1 false (.t 22), none⟩,
 ⟨some 24, .mv (.t 0), none⟩,
 ⟨some 25, .nilck (.t 24), none⟩,
 ⟨some 26, .fld 0 (.t 25), none⟩,
 ⟨some 27, .ld 1 false (.t 26), none⟩,
 ⟨some 28, .call .ro 29 [(.t 27)], none⟩,
 ⟨some 29, .call .eff 39 [(.t 19), (.t 23), (.t 28)], none⟩,
 ⟨some 30, .call .ro 38 [(.t 29)], none⟩,
 ⟨some 14, .mv (.t 30), none⟩,
 ⟨some 31, .ext 0 (.t 14), none⟩,
 ⟨some 32, .ext 1 (.t 14), none⟩,
 ⟨some 3, .mv (.t 31), none⟩,
 ⟨some 4, .mv (.t 32), none⟩] [[], [], [], [], [3], [], [], [], [], [], [], [], [], [3, 4, 12], [3, 4, 8, 12, 13], [3, 4, 8, 12, 13, 14], [], [], [], [], []]) <|
 .seq (.reg [
 ⟨some 33, .mv (.t 3), none⟩,
 ⟨some 2, .mv (.t 33), none⟩]) <|
 .ret⟩

def l22_0b : DC :=
 .seq (.seq (.reg [
 ⟨some 22, .mv (.t 9), none⟩,
 ⟨some 23, .mv (.t 7), none⟩,
 ⟨some 24, .len (.t 23), none⟩,
 ⟨some 25, .bin .lss .sc (.t 22) (.t 24), none⟩]) <|
 .cond (.t 25)
 (.skip)
 (.exit 0)) <|
 .seq (.block 1 <|
 .seq (.reg [
 ⟨some 28, .mv (.t 8), none⟩,
 ⟨some 29, .mv (.t 7), none⟩,
 ⟨some 30, .mv (.t 9), none⟩,
 ⟨some 31, .idx 1 (.t 29) (.t 30), none⟩,
 ⟨some 32, .ld 1 false (.t 31), none⟩,
 ⟨some 33, .build [.int .i64 0, .int .i64 0, .str [], .bool false] [(0, 1, (.k (.int .i64 1))), (1, 1, (.t 32))], none⟩,
 ⟨some 34, .call .eff 43 [(.t 28), (.t 33)], none⟩,
 ⟨some 35, .un .not (.t 34), none⟩]) <|
 .cond (.t 35)
 (.seq (.reg [
 ⟨some 6, .mv (.k (.nilp)), none⟩]) <|
 .ret)
 (.skip)) <|
 .reg [
 ⟨some 26, .mv (.t 9), none⟩,
 ⟨some 27, .bin .add .sc (.t 26) (.k (.int .i64 1)), none⟩,
 ⟨some 9, .mv (.t 27), none⟩]
def l22_0 : DC := .loop [7, 8, 9] [] l22_0b
def f22 : DFn := ⟨3, [.t 6],
 .seq (.reg [
 ⟨some 6, .mv (.k (.nilp)), none⟩]) <|
 .seq (.reg [
 ⟨some 10, .mv (.t 0), none⟩,
 ⟨some 11, .mv (.t 1), none⟩,
 ⟨some 12, .mv (.t 2), none⟩,
 ⟨some 13, .len (.t 12), none⟩,
 ⟨some 14, .bsl false 1 [.int .i64 0] 3 [(0, (.t 10)), (1, (.t 11)), (2, (.t 13))], none⟩,
 ⟨some 15, .mv (.t 2), none⟩,
 ⟨some 16, .call .blind 42 [(.t 15)], none⟩,
 ⟨some 17, .app 1 8 (.t 14) (.t 16), none⟩,
 ⟨some 7, .mv (.t 17), none⟩]) <|
 .seq (.reg [
 ⟨some 18, .build [.int .i64 0, .int .i64 0, .str [], .bool false] [(0, 1, (.k (.int .i64 2))), (2, 1, (.k (.str [115, 116, 97, 116, 101])))], none⟩,
 ⟨some 19, .bsl false 4 [.int .i64 0, .int .i64 0, .str [], .bool false] 1 [(0, (.t 18))], none⟩,
 ⟨some 20, .build [.nils] [(0, 1, (.t 19))], none⟩,
 ⟨some 21, .boxH (.t 20), none⟩,
 ⟨some 8, .mv (.t 21), none⟩]) <|
 .seq (.seq (.reg [
 ⟨some 9, .mv (.k (.int .i64 0)), none⟩]) <|
 .block 0 <|
 l22_0) <|
 .seq (.reg [
 ⟨some 36, .mv (.t 8), none⟩,
 ⟨some 6, .mv (.t 36), none⟩]) <|
 .ret⟩

def l23_0b : DC :=
 .seq (.seq (.reg [
 ⟨some 13, .mv (.t 5), none⟩,
 ⟨some 14, .mv (.t 0), none⟩,
 ⟨some 15, .nilck (.t 14), none⟩,
 ⟨some 16, .fld 0 (.t 15), none⟩,
 ⟨some 17, .ld 1 false (.t 16), none⟩,
 ⟨some 18, .len (.t 17), none⟩,
 ⟨some 19, .bin .lss .sc (.t 13) (.t 18), none⟩]) <|
 .cond (.t 19)
 (.skip)
 (.exit 0)) <|
 .seq (.block 1 <|
 .seq (.seq (.reg [
 ⟨some 22, .mv (.t 0), none⟩,
 ⟨some 23, .nilck (.t 22), none⟩,
 ⟨some 24, .fld 0 (.t 23), none⟩,
 ⟨some 25, .ld 1 false (.t 24), none⟩,
 ⟨some 26, .mv (.t 5), none⟩,
 ⟨some 27, .idx 4 (.t 25) (.t 26), none⟩,
 ⟨some 28, .fld 2 (.t 27), none⟩,
 ⟨some 29, .ld 1 false (.t 28), none⟩,
 ⟨some 30, .lenS (.t 29), none⟩,
 ⟨some 31, .bin .gtr .sc (.t 30) (.k (.int .i64 200)), none⟩]) <|
 .cond (.t 31)
 (.seq (.reg [
 ⟨some 2, .mv (.k (.nils)), none⟩,
 ⟨some 3, .mv (.k (.int .i64 1)), none⟩]) <|
 .ret)
 (.skip)) <|
 .reg [
 ⟨some 32, .mv (.t 4), none⟩,
 ⟨some 33, .mv (.t 0), none⟩,
 ⟨some 34, .nilck (.t 33), none⟩,
 ⟨some 35, .fld 0 (.t 34), none⟩,
 ⟨some 36, .ld 1 false (.t 35), none⟩,
 ⟨some 37, .mv (.t 5), none⟩,
 ⟨some 38, .idx 4 (.t 36) (.t 37), none⟩,
 ⟨some 39, .ld 4 true (.t 38), none⟩,
 ⟨some 40, .call .blind 44 [(.t 39)], none⟩,
 ⟨some 41, .app 1 1 (.t 32) (.t 40), none⟩,
 ⟨some 4, .mv (.t 41), none⟩]) <|
 .reg [
 ⟨some 20, .mv (.t 5), none⟩,
 ⟨some 21, .bin .add .sc (.t 20) (.k (.int .i64 1)), none⟩,
 ⟨some 5, .mv (.t 21), none⟩]
def l23_0 : DC := .loop [0, 4, 5] [] l23_0b
def f23 : DFn := ⟨1, [.t 2, .t 3],
 .seq (.reg [
 ⟨some 2, .mv (.k (.nils)), none⟩,
 ⟨some 3, .mv (.k (.int .i64 0)), none⟩]) <|
 .seq (.reg [
 ⟨some 6, .mv (.t 0), none⟩,
 ⟨some 7, .nilck (.t 6), none⟩,
 ⟨some 8, .fld 0 (.t 7), none⟩,
 ⟨some 9, .ld 1 false (.t 8), none⟩,
 ⟨some 10, .len (.t 9), none⟩,
 ⟨some 11, .cvI .u8 (.t 10), none⟩,
 ⟨some 12, .bsl false 1 [.int .u8 0] 1 [(0, (.t 11))], none⟩,
 ⟨some 4, .mv (.t 12), none⟩]) <|
 .seq (.seq (.reg [
 ⟨some 5, .mv (.k (.int .i64 0)), none⟩]) <|
 .block 0 <|
 l23_0) <|
 .seq (.seq (.reg [
 ⟨some 42, .mv (.t 4), none⟩,
 ⟨some 43, .len (.t 42), none⟩,
 ⟨some 44, .bin .gtr .sc (.t 43) (.k (.int .i64 4000)), none⟩]) <|
 .cond (.t 44)
 (.seq (.reg [
 ⟨some 2, .mv (.k (.nils)), none⟩,
 ⟨some 3, .mv (.k (.int .i64 1)), none⟩]) <|
 .ret)
 (.skip)) <|
 .seq (.reg [
 ⟨some 45, .mv (.t 4), none⟩,
 ⟨some 46, .call .blind 46 [(.t 45)], none⟩,
 ⟨some 47, .cvI .u64 (.t 46), none⟩,
 ⟨some 48, .call .eff 45 [(.t 47), (.k (.int .i64 4))], none⟩,
 ⟨some 49, .mv (.t 4), none⟩,
 ⟨some 50, .len (.t 49), none⟩,
 ⟨some 51, .cvI .u64 (.t 50), none⟩,
 ⟨some 52, .call .eff 45 [(.t 51), (.k (.int .i64 2))], none⟩,
 ⟨some 53, .app 1 1 (.t 48) (.t 52), none⟩,
 ⟨some 54, .mv (.t 4), none⟩,
 ⟨some 55, .app 1 1 (.t 53) (.t 54), none⟩,
 ⟨some 2, .mv (.t 55), none⟩,
 ⟨some 3, .mv (.k (.int .i64 0)), none⟩]) <|
 .ret⟩

def f24 : DFn := ⟨1, [],
 .drw [
 ⟨some 2, .mv (.t 0), none⟩,
 ⟨some 3, .nilck (.t 2), none⟩,
 ⟨some 4, .fld 0 (.t 3), none⟩,
 ⟨some 5, .ld 1 false (.t 4), none⟩,
 ⟨some 6, .mv (.t 0), none⟩,
 ⟨some 7, .nilck (.t 6), none⟩,
 ⟨some 8, .fld 0 (.t 7), none⟩,
 ⟨some 9, .ld 1 false (.t 8), none⟩,
 ⟨some 10, .call .ro 29 [(.t 9)], none⟩,
 ⟨some 11, .len (.t 10), none⟩,
 ⟨some 12, .mks false 4 32 [.int .i64 0, .int .i64 0, .int .i64 0, .bool false] (.t 11), none⟩,
 ⟨some 13, .call .eff 30 [(.t 5), (.t 12)], none⟩] [[], [], [], [], [], [], [], [], [7], [], [7, 8], [3, 7, 8, 10]]⟩

def f25 : DFn := ⟨0, [.t 0],
 .seq (.reg [
 ⟨some 0, .mv (.k (.nilp)), none⟩]) <|
 .seq (.reg [
 ⟨some 1, .build [.int .i64 0, .int .i64 0, .bool false] [], none⟩,
 ⟨some 2, .boxH (.t 1), none⟩,
 ⟨some 0, .mv (.t 2), none⟩]) <|
 .ret⟩

def l26_0b : DC :=
 .seq (.reg [
 ⟨some 24, .bin .lss .sc (.t 23) (.t 22), none⟩]) <|
 .seq (.cond (.t 24)
 (.skip)
 (.exit 0)) <|
 .seq (.block 1 <|
 .seq (.reg [
 ⟨some 8, .mv (.k (.bool false)), none⟩]) <|
 .seq (.reg [
 ⟨some 26, .mv (.t 4), none⟩,
 ⟨some 27, .mv (.t 6), none⟩,
 ⟨some 28, .call .eff 49 [(.t 26), (.t 27)], none⟩,
 ⟨some 25, .mv (.t 28), none⟩,
 ⟨some 29, .ext 0 (.t 25), none⟩,
 ⟨some 30, .ext 1 (.t 25), none⟩,
 ⟨some 6, .mv (.t 29), none⟩,
 ⟨some 8, .mv (.t 30), none⟩]) <|
 .seq (.reg [
 ⟨some 31, .mv (.t 8), none⟩,
 ⟨some 32, .un .not (.t 31), none⟩]) <|
 .cond (.t 32)
 (.seq (.reg [
 ⟨some 2, .mv (.k (.nilp)), none⟩,
 ⟨some 3, .mv (.k (.int .i64 2)), none⟩]) <|
 .ret)
 (.skip)) <|
 .reg [
 ⟨some 33, .bin .add .sc (.t 23) (.k (.int .u64 1)), none⟩,
 ⟨some 23, .mv (.t 33), none⟩]
def l26_0 : DC := .loop [0, 4, 6, 22, 23] [] l26_0b
def f26 : DFn := ⟨1, [.t 2, .t 3],
 .seq (.reg [
 ⟨some 2, .mv (.k (.nilp)), none⟩,
 ⟨some 3, .mv (.k (.int .i64 0)), none⟩]) <|
 .seq (.seq (.reg [
 ⟨some 11, .mv (.t 0), none⟩,
 ⟨some 12, .len (.t 11), none⟩,
 ⟨some 13, .bin .leq .sc (.t 12) (.k (.int .i64 6)), none⟩]) <|
 .cond (.t 13)
 (.seq (.reg [
 ⟨some 2, .mv (.k (.nilp)), none⟩,
 ⟨some 3, .mv (.k (.int .i64 2)), none⟩]) <|
 .ret)
 (.skip)) <|
 .seq (.reg [
 ⟨some 14, .call .eff 47 [], none⟩,
 ⟨some 4, .mv (.t 14), none⟩]) <|
 .seq (.reg [
 ⟨some 16, .mv (.t 0), none⟩,
 ⟨some 17, .slc 1 (.t 16) (some (.k (.int .i64 6))) none none, none⟩,
 ⟨some 18, .call .ro 48 [(.t 17), (.k (.int .i64 1))], none⟩,
 ⟨some 15, .mv (.t 18), none⟩,
 ⟨some 19, .ext 0 (.t 15), none⟩,
 ⟨some 20, .ext 1 (.t 15), none⟩,
 ⟨some 21, .ext 2 (.t 15), none⟩,
 ⟨some 5, .mv (.t 19), none⟩,
 ⟨some 6, .mv (.t 20), none⟩,
 ⟨some 7, .mv (.t 21), none⟩]) <|
 .seq (.seq (.reg [
 ⟨some 22, .mv (.t 5), none⟩,
 ⟨some 23, .mv (.k (.int .u64 0)), none⟩]) <|
 .block 0 <|
 l26_0) <|
 .seq (.seq (.reg [
 ⟨some 35, .mv (.t 4), none⟩,
 ⟨some 36, .call .ro 38 [(.t 35)], none⟩,
 ⟨some 34, .mv (.t 36), none⟩,
 ⟨some 37, .ext 0 (.t 34), none⟩,
 ⟨some 38, .ext 1 (.t 34), none⟩,
 ⟨some 9, .mv (.t 37), none⟩,
 ⟨some 10, .mv (.t 38), none⟩]) <|
 .seq (.reg [
 ⟨some 39, .mv (.t 10), none⟩,
 ⟨some 40, .bin .neq .sc (.t 39) (.k (.int .i64 0)), none⟩,
 ⟨some 41, .mv (.t 40), none⟩,
 ⟨some 42, .mv (.t 9), some (41, false)⟩,
 ⟨some 43, .mv (.t 0), some (41, false)⟩,
 ⟨some 44, .call .blind 50 [(.t 42), (.t 43)], some (41, false)⟩,
 ⟨some 45, .un .not (.t 44), some (41, false)⟩,
 ⟨some 46, .pick (.t 41) (.k (.bool true)) (.t 45), none⟩]) <|
 .cond (.t 46)
 (.seq (.reg [
 ⟨some 2, .mv (.k (.nilp)), none⟩,
 ⟨some 3, .mv (.k (.int .i64 2)), none⟩]) <|
 .ret)
 (.skip)) <|
 .seq (.reg [
 ⟨some 47, .mv (.t 4), none⟩,
 ⟨some 2, .mv (.t 47), none⟩,
 ⟨some 3, .mv (.k (.int .i64 0)), none⟩]) <|
 .ret⟩

def l27_0b : DC :=
 .seq (.seq (.reg [
 ⟨some 12, .mv (.t 7), none⟩,
 ⟨some 13, .mv (.t 0), none⟩,
 ⟨some 14, .call .ro 51 [(.t 13)], none⟩,
 ⟨some 15, .bin .lss .sc (.t 12) (.t 14), none⟩]) <|
 .cond (.t 15)
 (.skip)
 (.exit 0)) <|
 .seq (.block 1 <|
 .seq (.reg [
 ⟨some 19, .mv (.t 0), none⟩,
 ⟨some 20, .mv (.t 7), none⟩,
 ⟨some 21, .call .ro 52 [(.t 19), (.t 20)], none⟩,
 ⟨some 18, .mv (.t 21), none⟩,
 ⟨some 22, .ext 0 (.t 18), none⟩,
 ⟨some 23, .ext 1 (.t 18), none⟩,
 ⟨some 8, .mv (.t 22), none⟩,
 ⟨some 9, .mv (.t 23), none⟩]) <|
 .seq (.seq (.reg [
 ⟨some 24, .mv (.t 9), none⟩,
 ⟨some 25, .un .not (.t 24), none⟩]) <|
 .cond (.t 25)
 (.seq (.reg [
 ⟨some 2, .mv (.k (.int .i64 0)), none⟩,
 ⟨some 3, .mv (.k (.int .i64 0)), none⟩,
 ⟨some 4, .mv (.k (.nils)), none⟩,
 ⟨some 5, .mv (.k (.bool false)), none⟩]) <|
 .ret)
 (.skip)) <|
 .reg [
 ⟨some 26, .mv (.t 6), none⟩,
 ⟨some 27, .mv (.t 8), none⟩,
 ⟨some 28, .bsl false 1 [.int .i64 0] 1 [(0, (.t 27))], none⟩,
 ⟨some 29, .app 1 8 (.t 26) (.t 28), none⟩,
 ⟨some 6, .mv (.t 29), none⟩]) <|
 .reg [
 ⟨some 16, .mv (.t 7), none⟩,
 ⟨some 17, .bin .add .sc (.t 16) (.k (.int .i64 1)), none⟩,
 ⟨some 7, .mv (.t 17), none⟩]
def l27_0 : DC := .loop [0, 6, 7] [] l27_0b
def f27 : DFn := ⟨1, [.t 2, .t 3, .t 4, .t 5],
 .seq (.reg [
 ⟨some 2, .mv (.k (.int .i64 0)), none⟩,
 ⟨some 3, .mv (.k (.int .i64 0)), none⟩,
 ⟨some 4, .mv (.k (.nils)), none⟩,
 ⟨some 5, .mv (.k (.bool false)), none⟩]) <|
 .seq (.reg [
 ⟨some 6, .mv (.k (.nils)), none⟩]) <|
 .seq (.seq (.reg [
 ⟨some 7, .mv (.k (.int .i64 1)), none⟩]) <|
 .block 0 <|
 l27_0) <|
 .seq (.reg [
 ⟨some 31, .mv (.t 0), none⟩,
 ⟨some 32, .call .ro 53 [(.t 31), (.k (.int .i64 0))], none⟩,
 ⟨some 30, .mv (.t 32), none⟩,
 ⟨some 33, .ext 0 (.t 30), none⟩,
 ⟨some 34, .ext 1 (.t 30), none⟩,
 ⟨some 10, .mv (.t 33), none⟩,
 ⟨some 11, .mv (.t 34), none⟩]) <|
 .seq (.seq (.reg [
 ⟨some 35, .mv (.t 11), none⟩,
 ⟨some 36, .un .not (.t 35), none⟩,
 ⟨some 37, .mv (.t 36), none⟩,
 ⟨some 38, .mv (.t 10), some (37, false)⟩,
 ⟨some 39, .bin .neq .sc (.t 38) (.k (.str [115, 116, 97, 116, 101])), some (37, false)⟩,
 ⟨some 40, .pick (.t 37) (.k (.bool true)) (.t 39), none⟩,
 ⟨some 41, .mv (.t 40), none⟩,
 ⟨some 42, .mv (.t 6), some (41, false)⟩,
 ⟨some 43, .len (.t 42), some (41, false)⟩,
 ⟨some 44, .bin .lss .sc (.t 43) (.k (.int .i64 3)), some (41, false)⟩,
 ⟨some 45, .pick (.t 41) (.k (.bool true)) (.t 44), none⟩]) <|
 .cond (.t 45)
 (.seq (.reg [
 ⟨some 2, .mv (.k (.int .i64 0)), none⟩,
 ⟨some 3, .mv (.k (.int .i64 0)), none⟩,
 ⟨some 4, .mv (.k (.nils)), none⟩,
 ⟨some 5, .mv (.k (.bool false)), none⟩]) <|
 .ret)
 (.skip)) <|
 .seq (.reg [
 ⟨some 47, .mv (.t 6), none⟩,
 ⟨some 48, .slc 1 (.t 47) (some (.k (.int .i64 3))) none none, none⟩,
 ⟨some 49, .call .ro 54 [(.t 48)], none⟩,
 ⟨some 46, .mv (.t 49), none⟩,
 ⟨some 50, .ext 0 (.t 46), none⟩,
 ⟨some 51, .ext 1 (.t 46), none⟩,
 ⟨some 4, .mv (.t 50), none⟩,
 ⟨some 5, .mv (.t 51), none⟩]) <|
 .seq (.seq (.reg [
 ⟨some 52, .mv (.t 5), none⟩,
 ⟨some 53, .un .not (.t 52), none⟩,
 ⟨some 54, .mv (.t 53), none⟩,
 ⟨some 55, .mv (.t 6), some (54, false)⟩,
 ⟨some 56, .idx 1 (.t 55) (.k (.int .i64 2)), some (54, false)⟩,
 ⟨some 57, .ld 1 false (.t 56), some (54, false)⟩,
 ⟨some 58, .mv (.t 4), some (54, false)⟩,
 ⟨some 59, .len (.t 58), some (54, false)⟩,
 ⟨some 60, .bin .neq .sc (.t 57) (.t 59), some (54, false)⟩,
 ⟨some 61, .pick (.t 54) (.k (.bool true)) (.t 60), none⟩]) <|
 .cond (.t 61)
 (.seq (.reg [
 ⟨some 2, .mv (.k (.int .i64 0)), none⟩,
 ⟨some 3, .mv (.k (.int .i64 0)), none⟩,
 ⟨some 4, .mv (.k (.nils)), none⟩,
 ⟨some 5, .mv (.k (.bool false)), none⟩]) <|
 .ret)
 (.skip)) <|
 .seq (.drw [
 ⟨some 62, .mv (.t 6), none⟩,
 ⟨some 63, .idx 1 (.t 62) (.k (.int .i64 0)), none⟩,
 ⟨some 64, .ld 1 false (.t 63), none⟩,
 ⟨some 65, .mv (.t 6), none⟩,
 ⟨some 66, .idx 1 (.t 65) (.k (.int .i64 1)), none⟩,
 ⟨some 67, .ld 1 false (.t 66), none⟩,
 ⟨some 68, .mv (.t 4), none⟩,
 ⟨some 2, .mv (.t 64), none⟩,
 ⟨some 3, .mv (.t 67), none⟩,
 ⟨some 4, .mv (.t 68), none⟩,
 ⟨some 5, .mv (.k (.bool true)), none⟩] [[], [], [1], [], [], [4], [], [], [], [], []]) <|
 .ret⟩

def f28 : DFn := ⟨2, [.t 4],
 .seq (.reg [
 ⟨some 3, .boxL (.t 1), none⟩,
 ⟨some 4, .mv (.k (.bool false)), none⟩]) <|
 .seq (.reg [
 ⟨some 6, .mv (.t 0), none⟩,
 ⟨some 7, .nilck (.t 6), none⟩,
 ⟨some 8, .fld 2 (.t 7), none⟩,
 ⟨some 9, .ld 1 false (.t 8), none⟩,
 ⟨some 5, .mv (.t 9), none⟩]) <|
 .seq (.drw [
 ⟨some 10, .mv (.t 5), none⟩,
 ⟨some 11, .bin .neq .np (.t 10) (.k (.nilp)), none⟩,
 ⟨some 12, .mv (.t 11), none⟩,
 ⟨some 13, .fld 0 (.t 3), some (12, true)⟩,
 ⟨some 14, .ld 1 false (.t 13), some (12, true)⟩,
 ⟨some 15, .mv (.t 5), some (12, true)⟩,
 ⟨some 16, .nilck (.t 15), some (12, true)⟩,
 ⟨some 17, .fld 0 (.t 16), some (12, true)⟩,
 ⟨some 18, .ld 1 false (.t 17), some (12, true)⟩,
 ⟨some 19, .bin .lss .sc (.t 14) (.t 18), some (12, true)⟩,
 ⟨some 20, .mv (.t 19), some (12, true)⟩,
 ⟨some 21, .fld 0 (.t 3), some (20, false)⟩,
 ⟨some 22, .ld 1 false (.t 21), some (20, false)⟩,
 ⟨some 23, .mv (.t 5), some (20, false)⟩,
 ⟨some 24, .nilck (.t 23), some (20, false)⟩,
 ⟨some 25, .fld 0 (.t 24), some (20, false)⟩,
 ⟨some 26, .ld 1 false (.t 25), some (20, false)⟩,
 ⟨some 27, .bin .eql .sc (.t 22) (.t 26), some (20, false)⟩,
 ⟨some 28, .mv (.t 27), some (20, false)⟩,
 ⟨some 29, .fld 1 (.t 3), some (28, true)⟩,
 ⟨some 30, .ld 1 false (.t 29), some (28, true)⟩,
 ⟨some 31, .mv (.t 5), some (28, true)⟩,
 ⟨some 32, .nilck (.t 31), some (28, true)⟩,
 ⟨some 33, .fld 1 (.t 32), some (28, true)⟩,
 ⟨some 34, .ld 1 false (.t 33), some (28, true)⟩,
 ⟨some 35, .bin .leq .sc (.t 30) (.t 34), some (28, true)⟩,
 ⟨some 36, .pick (.t 28) (.t 35) (.k (.bool false)), some (20, false)⟩,
 ⟨some 37, .pick (.t 20) (.k (.bool true)) (.t 36), some (12, true)⟩,
 ⟨some 38, .pick (.t 12) (.t 37) (.k (.bool false)), none⟩,
 ⟨some 4, .mv (.t 38), none⟩] [[], [], [], [], [], [], [], [], [], [], [], [], [4, 8], [], [], [], [4, 8], [], [], [], [4, 8, 12, 16], [], [], [], [4, 8, 12, 16], [], [], [], [], []]) <|
 .ret⟩

def f29 : DFn := ⟨1, [.t 2],
 .seq (.reg [
 ⟨some 2, .mv (.k (.nils)), none⟩]) <|
 .seq (.seq (.reg [
 ⟨some 3, .mv (.t 0), none⟩,
 ⟨some 4, .bin .eql .np (.t 3) (.k (.nilp)), none⟩]) <|
 .cond (.t 4)
 (.seq (.reg [
 ⟨some 2, .mv (.k (.nils)), none⟩]) <|
 .ret)
 (.skip)) <|
 .seq (.reg [
 ⟨some 5, .mv (.t 0), none⟩,
 ⟨some 6, .nilck (.t 5), none⟩,
 ⟨some 7, .fld 4 (.t 6), none⟩,
 ⟨some 8, .ld 1 false (.t 7), none⟩,
 ⟨some 9, .call .eff 55 [(.t 8)], none⟩,
 ⟨some 2, .mv (.t 9), none⟩]) <|
 .ret⟩

def l30_1b : DC :=
 .seq (.reg [
 ⟨some 38, .bin .lss .sc (.t 37) (.t 36), none⟩]) <|
 .seq (.cond (.t 38)
 (.skip)
 (.exit 2)) <|
 .seq (.block 3 <|
 .seq (.reg [
 ⟨some 39, .mv (.t 37), none⟩,
 ⟨some 40, .idx 4 (.t 35) (.t 37), none⟩,
 ⟨some 41, .ld 4 true (.t 40), none⟩,
 ⟨some 8, .alL [.int .i64 0, .int .i64 0, .int .i64 0, .bool false], none⟩,
 ⟨some 7, .mv (.t 39), none⟩,
 ⟨none, .st 4 (.t 8) (.t 41), none⟩]) <|
 .seq (.reg [
 ⟨some 42, .fld 0 (.t 6), none⟩,
 ⟨some 43, .ld 1 false (.t 42), none⟩,
 ⟨some 44, .bin .neq .sc (.t 43) (.k (.int .i64 0)), none⟩,
 ⟨some 45, .mv (.t 44), none⟩,
 ⟨some 46, .fld 0 (.t 8), some (45, true)⟩,
 ⟨some 47, .ld 1 false (.t 46), some (45, true)⟩,
 ⟨some 48, .bin .neq .sc (.t 47) (.k (.int .i64 0)), some (45, true)⟩,
 ⟨some 49, .pick (.t 45) (.t 48) (.k (.bool false)), none⟩,
 ⟨some 50, .mv (.t 49), none⟩,
 ⟨some 51, .mv (.t 0), some (50, true)⟩,
 ⟨some 52, .nilck (.t 51), some (50, true)⟩,
 ⟨some 53, .fld 0 (.t 52), some (50, true)⟩,
 ⟨some 54, .ld 4 true (.t 53), some (50, true)⟩,
 ⟨some 55, .mv (.t 5), some (50, true)⟩,
 ⟨some 56, .mv (.t 7), some (50, true)⟩,
 ⟨some 57, .call .blind 57 [(.t 54), (.t 55), (.t 56)], some (50, true)⟩,
 ⟨some 58, .pick (.t 50) (.t 57) (.k (.bool false)), none⟩]) <|
 .cond (.t 58)
 (.seq (.reg [
 ⟨some 4, .mv (.k (.bool false)), none⟩]) <|
 .ret)
 (.skip)) <|
 .reg [
 ⟨some 59, .bin .add .sc (.t 37) (.k (.int .i64 1)), none⟩,
 ⟨some 37, .mv (.t 59), none⟩]
def l30_1 : DC := .loop [0, 1, 5, 6, 21, 22, 23, 35, 36, 37] [6] l30_1b
def l30_0b : DC :=
 .seq (.reg [
 ⟨some 24, .bin .lss .sc (.t 23) (.t 22), none⟩]) <|
 .seq (.cond (.t 24)
 (.skip)
 (.exit 0)) <|
 .seq (.block 1 <|
 .seq (.reg [
 ⟨some 25, .mv (.t 23), none⟩,
 ⟨some 26, .idx 4 (.t 21) (.t 23), none⟩,
 ⟨some 27, .ld 4 true (.t 26), none⟩,
 ⟨some 6, .alL [.int .i64 0, .int .i64 0, .int .i64 0, .bool false], none⟩,
 ⟨some 5, .mv (.t 25), none⟩,
 ⟨none, .st 4 (.t 6) (.t 27), none⟩]) <|
 .seq (.seq (.reg [
 ⟨some 28, .mv (.t 0), none⟩,
 ⟨some 29, .mv (.t 5), none⟩,
 ⟨some 30, .ld 4 true (.t 6), none⟩,
 ⟨some 31, .call .ro 56 [(.t 28), (.t 29), (.t 30)], none⟩,
 ⟨some 32, .un .not (.t 31), none⟩]) <|
 .cond (.t 32)
 (.seq (.reg [
 ⟨some 4, .mv (.k (.bool false)), none⟩]) <|
 .ret)
 (.skip)) <|
 .seq (.reg [
 ⟨some 33, .mv (.t 1), none⟩,
 ⟨some 34, .mv (.t 5), none⟩,
 ⟨some 35, .slc 4 (.t 33) none (some (.t 34)) none, none⟩,
 ⟨some 36, .len (.t 35), none⟩,
 ⟨some 37, .mv (.k (.int .i64 0)), none⟩]) <|
 .block 2 <|
 l30_1) <|
 .reg [
 ⟨some 60, .bin .add .sc (.t 23) (.k (.int .i64 1)), none⟩,
 ⟨some 23, .mv (.t 60), none⟩]
def l30_0 : DC := .loop [0, 1, 21, 22, 23] [] l30_0b
def f30 : DFn := ⟨2, [.t 4],
 .seq (.reg [
 ⟨some 4, .mv (.k (.bool false)), none⟩]) <|
 .seq (.seq (.reg [
 ⟨some 9, .mv (.t 0), none⟩,
 ⟨some 10, .bin .eql .np (.t 9) (.k (.nilp)), none⟩,
 ⟨some 11, .mv (.t 10), none⟩,
 ⟨some 12, .mv (.t 1), some (11, false)⟩,
 ⟨some 13, .len (.t 12), some (11, false)⟩,
 ⟨some 14, .mv (.t 0), some (11, false)⟩,
 ⟨some 15, .nilck (.t 14), some (11, false)⟩,
 ⟨some 16, .fld 4 (.t 15), some (11, false)⟩,
 ⟨some 17, .ld 1 false (.t 16), some (11, false)⟩,
 ⟨some 18, .len (.t 17), some (11, false)⟩,
 ⟨some 19, .bin .neq .sc (.t 13) (.t 18), some (11, false)⟩,
 ⟨some 20, .pick (.t 11) (.k (.bool true)) (.t 19), none⟩]) <|
 .cond (.t 20)
 (.seq (.reg [
 ⟨some 4, .mv (.k (.bool false)), none⟩]) <|
 .ret)
 (.skip)) <|
 .seq (.seq (.reg [
 ⟨some 21, .mv (.t 1), none⟩,
 ⟨some 22, .len (.t 21), none⟩,
 ⟨some 23, .mv (.k (.int .i64 0)), none⟩]) <|
 .block 0 <|
 l30_0) <|
 .seq (.reg [
 ⟨some 61, .mv (.t 0), none⟩,
 ⟨some 62, .mv (.t 1), none⟩,
 ⟨some 63, .call .eff 55 [(.t 62)], none⟩,
 ⟨some 64, .nilck (.t 61), none⟩,
 ⟨some 65, .fld 4 (.t 64), none⟩,
 ⟨none, .st 1 (.t 65) (.t 63), none⟩]) <|
 .seq (.reg [
 ⟨some 4, .mv (.k (.bool true)), none⟩]) <|
 .ret⟩

def f31 : DFn := ⟨1, [],
 .seq (.reg [
 ⟨some 2, .mv (.t 0), none⟩,
 ⟨some 3, .call .eff 24 [(.t 2)], none⟩]) <|
 .seq (.reg [
 ⟨some 4, .mv (.t 0), none⟩,
 ⟨some 5, .mv (.t 0), none⟩,
 ⟨some 6, .nilck (.t 4), none⟩,
 ⟨some 7, .fld 3 (.t 6), none⟩,
 ⟨none, .st 1 (.t 7) (.k (.int .i64 2)), none⟩,
 ⟨some 8, .nilck (.t 5), none⟩,
 ⟨some 9, .fld 2 (.t 8), none⟩,
 ⟨none, .st 1 (.t 9) (.k (.nilp)), none⟩]) <|
 .reg [
 ⟨some 10, .mv (.t 0), none⟩,
 ⟨some 11, .nilck (.t 10), none⟩,
 ⟨some 12, .fld 1 (.t 11), none⟩,
 ⟨some 13, .ld 1 false (.t 12), none⟩,
 ⟨some 14, .call .eff 58 [(.t 13)], none⟩]⟩

def f32 : DFn := ⟨1, [.t 2],
 .seq (.reg [
 ⟨some 2, .mv (.k (.bool false)), none⟩]) <|
 .seq (.reg [
 ⟨some 3, .mv (.t 0), none⟩,
 ⟨some 4, .nilck (.t 3), none⟩,
 ⟨some 5, .fld 3 (.t 4), none⟩,
 ⟨some 6, .ld 1 false (.t 5), none⟩,
 ⟨some 7, .bin .eql .sc (.t 6) (.k (.int .i64 3)), none⟩,
 ⟨some 8, .mv (.t 7), none⟩,
 ⟨some 9, .mv (.t 0), some (8, false)⟩,
 ⟨some 10, .nilck (.t 9), some (8, false)⟩,
 ⟨some 11, .fld 3 (.t 10), some (8, false)⟩,
 ⟨some 12, .ld 1 false (.t 11), some (8, false)⟩,
 ⟨some 13, .bin .eql .sc (.t 12) (.k (.int .i64 4)), some (8, false)⟩,
 ⟨some 14, .pick (.t 8) (.k (.bool true)) (.t 13), none⟩,
 ⟨some 2, .mv (.t 14), none⟩]) <|
 .ret⟩

def f33 : DFn := ⟨2, [.t 4],
 .seq (.reg [
 ⟨some 4, .mv (.k (.bool false)), none⟩]) <|
 .seq (.reg [
 ⟨some 5, .mv (.t 0), none⟩,
 ⟨some 6, .bin .neq .np (.t 5) (.k (.nilp)), none⟩,
 ⟨some 7, .mv (.t 6), none⟩,
 ⟨some 8, .mv (.t 0), some (7, true)⟩,
 ⟨some 9, .nilck (.t 8), some (7, true)⟩,
 ⟨some 10, .fld 2 (.t 9), some (7, true)⟩,
 ⟨some 11, .ld 1 false (.t 10), some (7, true)⟩,
 ⟨some 12, .pick (.t 7) (.t 11) (.k (.bool false)), none⟩,
 ⟨some 13, .mv (.t 12), none⟩,
 ⟨some 14, .mv (.t 1), some (13, true)⟩,
 ⟨some 15, .mv (.t 0), some (13, true)⟩,
 ⟨some 16, .nilck (.t 15), some (13, true)⟩,
 ⟨some 17, .fld 1 (.t 16), some (13, true)⟩,
 ⟨some 18, .ld 1 false (.t 17), some (13, true)⟩,
 ⟨some 19, .bin .lss .sc (.t 14) (.t 18), some (13, true)⟩,
 ⟨some 20, .pick (.t 13) (.t 19) (.k (.bool false)), none⟩,
 ⟨some 4, .mv (.t 20), none⟩]) <|
 .ret⟩

def f34 : DFn := ⟨1, [.t 2],
 .seq (.reg [
 ⟨some 2, .mv (.k (.int .i64 0)), none⟩]) <|
 .seq (.seq (.reg [
 ⟨some 3, .mv (.t 0), none⟩,
 ⟨some 4, .bin .eql .np (.t 3) (.k (.nilp)), none⟩]) <|
 .cond (.t 4)
 (.seq (.reg [
 ⟨some 2, .mv (.k (.int .i64 0)), none⟩]) <|
 .ret)
 (.skip)) <|
 .seq (.reg [
 ⟨some 5, .mv (.t 0), none⟩,
 ⟨some 6, .nilck (.t 5), none⟩,
 ⟨some 7, .fld 0 (.t 6), none⟩,
 ⟨some 8, .ld 1 false (.t 7), none⟩,
 ⟨some 2, .mv (.t 8), none⟩]) <|
 .ret⟩

def f35 : DFn := ⟨3, [],
 .seq (.reg [
 ⟨some 6, .mv (.t 0), none⟩,
 ⟨some 7, .bin .neq .np (.t 6) (.k (.nilp)), none⟩]) <|
 .cond (.t 7)
 (.reg [
 ⟨some 8, .mv (.t 0), none⟩,
 ⟨some 9, .mv (.t 0), none⟩,
 ⟨some 10, .mv (.t 0), none⟩,
 ⟨some 11, .mv (.t 1), none⟩,
 ⟨some 12, .mv (.t 2), none⟩,
 ⟨some 13, .bin .add .sc (.t 12) (.k (.int .i64 8)), none⟩,
 ⟨some 14, .bin .sub .sc (.t 13) (.k (.int .i64 3)), none⟩,
 ⟨some 15, .nilck (.t 8), none⟩,
 ⟨some 16, .fld 0 (.t 15), none⟩,
 ⟨none, .st 1 (.t 16) (.t 11), none⟩,
 ⟨some 17, .nilck (.t 9), none⟩,
 ⟨some 18, .fld 1 (.t 17), none⟩,
 ⟨none, .st 1 (.t 18) (.t 14), none⟩,
 ⟨some 19, .nilck (.t 10), none⟩,
 ⟨some 20, .fld 2 (.t 19), none⟩,
 ⟨none, .st 1 (.t 20) (.k (.bool true)), none⟩])
 (.skip)⟩

def f36 : DFn := ⟨3, [],
 .seq (.seq (.reg [
 ⟨some 7, .mv (.t 0), none⟩,
 ⟨some 8, .nilck (.t 7), none⟩,
 ⟨some 9, .fld 2 (.t 8), none⟩,
 ⟨some 10, .ld 1 false (.t 9), none⟩,
 ⟨some 6, .mv (.t 10), none⟩]) <|
 .seq (.drw [
 ⟨some 11, .mv (.t 0), none⟩,
 ⟨some 12, .nilck (.t 11), none⟩,
 ⟨some 13, .fld 3 (.t 12), none⟩,
 ⟨some 14, .ld 1 false (.t 13), none⟩,
 ⟨some 15, .bin .eql .sc (.t 14) (.k (.int .i64 2)), none⟩,
 ⟨some 16, .mv (.t 15), none⟩,
 ⟨some 17, .mv (.t 6), some (16, true)⟩,
 ⟨some 18, .bin .neq .np (.t 17) (.k (.nilp)), some (16, true)⟩,
 ⟨some 19, .pick (.t 16) (.t 18) (.k (.bool false)), none⟩,
 ⟨some 20, .mv (.t 19), none⟩,
 ⟨some 21, .mv (.t 6), some (20, true)⟩,
 ⟨some 22, .nilck (.t 21), some (20, true)⟩,
 ⟨some 23, .fld 0 (.t 22), some (20, true)⟩,
 ⟨some 24, .ld 1 false (.t 23), some (20, true)⟩,
 ⟨some 25, .mv (.t 1), some (20, true)⟩,
 ⟨some 26, .bin .sub .sc (.t 25) (.k (.int .i64 1)), some (20, true)⟩,
 ⟨some 27, .bin .eql .sc (.t 24) (.t 26), some (20, true)⟩,
 ⟨some 28, .pick (.t 20) (.t 27) (.k (.bool false)), none⟩,
 ⟨some 29, .mv (.t 28), none⟩,
 ⟨some 30, .mv (.t 6), some (29, true)⟩,
 ⟨some 31, .nilck (.t 30), some (29, true)⟩,
 ⟨some 32, .fld 1 (.t 31), some (29, true)⟩,
 ⟨some 33, .ld 1 false (.t 32), some (29, true)⟩,
 ⟨some 34, .mv (.t 2), some (29, true)⟩,
 ⟨some 35, .bin .geq .sc (.t 33) (.t 34), some (29, true)⟩,
 ⟨some 36, .pick (.t 29) (.t 35) (.k (.bool false)), none⟩,
 ⟨some 37, .mv (.t 36), none⟩,
 ⟨some 38, .mv (.t 0), some (37, true)⟩,
 ⟨some 39, .nilck (.t 38), some (37, true)⟩,
 ⟨some 40, .fld 0 (.t 39), some (37, true)⟩,
 ⟨some 41, .ld 1 false (.t 40), some (37, true)⟩,
 ⟨some 42, .mv (.t 6), some (37, true)⟩,
 ⟨some 43, .nilck (.t 42), some (37, true)⟩,
 ⟨some 44, .fld 2 (.t 43), some (37, true)⟩,
 ⟨some 45, .ld 1 false (.t 44), some (37, true)⟩,
 ⟨some 46, .call .eff 30 [(.t 41), (.t 45)], some (37, true)⟩,
 ⟨some 47, .pick (.t 37) (.t 46) (.k (.bool false)), none⟩] [[], [], [], [], [], [], [], [], [], [], [], [], [], [3], [], [], [], [], [], [], [], [], [3, 13], [], [], [], [], [], [], [], [3, 13, 22], [], [], [], [3, 13, 22], [3, 13, 22, 30, 34], []]) <|
 .cond (.t 47)
 (.seq (.reg [
 ⟨some 48, .mv (.t 0), none⟩,
 ⟨some 49, .mv (.t 0), none⟩,
 ⟨some 50, .mv (.t 6), none⟩,
 ⟨some 51, .nilck (.t 50), none⟩,
 ⟨some 52, .fld 1 (.t 51), none⟩,
 ⟨some 53, .ld 1 false (.t 52), none⟩,
 ⟨some 54, .nilck (.t 48), none⟩,
 ⟨some 55, .fld 3 (.t 54), none⟩,
 ⟨none, .st 1 (.t 55) (.k (.int .i64 3)), none⟩,
 ⟨some 56, .nilck (.t 49), none⟩,
 ⟨some 57, .fld 5 (.t 56), none⟩,
 ⟨none, .st 1 (.t 57) (.t 53), none⟩]) <|
 .ret)
 (.skip)) <|
 .seq (.reg [
 ⟨some 58, .mv (.t 0), none⟩,
 ⟨some 59, .call .eff 24 [(.t 58)], none⟩]) <|
 .reg [
 ⟨some 60, .mv (.t 0), none⟩,
 ⟨some 61, .mv (.t 0), none⟩,
 ⟨some 62, .mv (.t 0), none⟩,
 ⟨some 63, .mv (.t 2), none⟩,
 ⟨some 64, .nilck (.t 60), none⟩,
 ⟨some 65, .fld 3 (.t 64), none⟩,
 ⟨none, .st 1 (.t 65) (.k (.int .i64 4)), none⟩,
 ⟨some 66, .nilck (.t 61), none⟩,
 ⟨some 67, .fld 5 (.t 66), none⟩,
 ⟨none, .st 1 (.t 67) (.t 63), none⟩,
 ⟨some 68, .nilck (.t 62), none⟩,
 ⟨some 69, .fld 6 (.t 68), none⟩,
 ⟨none, .st 1 (.t 69) (.k (.int .i64 10)), none⟩]⟩

def f37 : DFn := ⟨1, [.t 2, .t 3],
 .seq (.reg [
 ⟨some 1, .boxL (.t 0), none⟩,
 ⟨some 2, .mv (.k (.nilp)), none⟩,
 ⟨some 3, .mv (.k (.int .i64 0)), none⟩]) <|
 .seq (.seq (.reg [
 ⟨some 4, .ld 4 true (.t 1), none⟩,
 ⟨some 5, .call .blind 59 [(.t 4)], none⟩,
 ⟨some 6, .un .not (.t 5), none⟩]) <|
 .cond (.t 6)
 (.seq (.reg [
 ⟨some 2, .mv (.k (.nilp)), none⟩,
 ⟨some 3, .mv (.k (.int .i64 9)), none⟩]) <|
 .ret)
 (.skip)) <|
 .seq (.drw [
 ⟨some 7, .ld 4 true (.t 1), none⟩,
 ⟨some 8, .call .blind 60 [(.t 7)], none⟩,
 ⟨some 9, .fld 3 (.t 1), none⟩,
 ⟨some 10, .ld 1 false (.t 9), none⟩,
 ⟨some 11, .len (.t 10), none⟩,
 ⟨some 12, .mks true 4 32 [.int .i64 0, .int .i64 0, .int .i64 0, .bool false] (.t 11), none⟩,
 ⟨some 13, .build [.nils, .nils, .nils, .nils, .nils] [(0, 4, (.t 8)), (4, 1, (.t 12))], none⟩,
 ⟨some 14, .boxH (.t 13), none⟩,
 ⟨some 2, .mv (.t 14), none⟩,
 ⟨some 3, .mv (.k (.int .i64 0)), none⟩] [[], [0], [], [], [], [3], [], [0, 1, 3, 5], [], []]) <|
 .ret⟩

def l38_0b : DC :=
 .seq (.reg [
 ⟨some 18, .bin .lss .sc (.t 17) (.t 16), none⟩]) <|
 .seq (.cond (.t 18)
 (.skip)
 (.exit 0)) <|
 .seq (.block 1 <|
 .seq (.reg [
 ⟨some 19, .mv (.t 17), none⟩,
 ⟨some 5, .mv (.t 19), none⟩]) <|
 .seq (.reg [
 ⟨some 21, .mv (.t 4), none⟩,
 ⟨some 22, .mv (.t 0), none⟩,
 ⟨some 23, .mv (.t 5), none⟩,
 ⟨some 24, .call .eff 61 [(.t 21), (.t 22), (.t 23)], none⟩,
 ⟨some 20, .mv (.t 24), none⟩,
 ⟨some 25, .ext 0 (.t 20), none⟩,
 ⟨some 26, .ext 1 (.t 20), none⟩,
 ⟨some 6, .mv (.t 25), none⟩,
 ⟨some 7, .mv (.t 26), none⟩]) <|
 .seq (.seq (.reg [
 ⟨some 27, .mv (.t 7), none⟩,
 ⟨some 28, .un .not (.t 27), none⟩]) <|
 .cond (.t 28)
 (.seq (.reg [
 ⟨some 2, .mv (.k (.nils)), none⟩,
 ⟨some 3, .mv (.k (.int .i64 1)), none⟩]) <|
 .ret)
 (.skip)) <|
 .reg [
 ⟨some 29, .mv (.t 6), none⟩,
 ⟨some 4, .mv (.t 29), none⟩]) <|
 .reg [
 ⟨some 30, .bin .add .sc (.t 17) (.k (.int .i64 1)), none⟩,
 ⟨some 17, .mv (.t 30), none⟩]
def l38_0 : DC := .loop [0, 4, 16, 17] [] l38_0b
def f38 : DFn := ⟨1, [.t 2, .t 3],
 .seq (.reg [
 ⟨some 2, .mv (.k (.nils)), none⟩,
 ⟨some 3, .mv (.k (.int .i64 0)), none⟩]) <|
 .seq (.seq (.reg [
 ⟨some 9, .mv (.t 0), none⟩,
 ⟨some 10, .bin .eql .np (.t 9) (.k (.nilp)), none⟩]) <|
 .cond (.t 10)
 (.seq (.reg [
 ⟨some 2, .mv (.k (.nils)), none⟩,
 ⟨some 3, .mv (.k (.int .i64 1)), none⟩]) <|
 .ret)
 (.skip)) <|
 .seq (.reg [
 ⟨some 11, .mv (.t 0), none⟩,
 ⟨some 12, .call .ro 51 [(.t 11)], none⟩,
 ⟨some 13, .cvI .u8 (.t 12), none⟩,
 ⟨some 14, .bsl false 1 [.int .u8 0] 1 [(0, (.t 13))], none⟩,
 ⟨some 4, .mv (.t 14), none⟩]) <|
 .seq (.seq (.reg [
 ⟨some 15, .mv (.t 0), none⟩,
 ⟨some 16, .call .ro 51 [(.t 15)], none⟩,
 ⟨some 17, .mv (.k (.int .i64 0)), none⟩]) <|
 .block 0 <|
 l38_0) <|
 .seq (.seq (.reg [
 ⟨some 31, .mv (.t 4), none⟩,
 ⟨some 32, .len (.t 31), none⟩,
 ⟨some 33, .bin .gtr .sc (.t 32) (.k (.int .i64 4000)), none⟩]) <|
 .cond (.t 33)
 (.seq (.reg [
 ⟨some 2, .mv (.k (.nils)), none⟩,
 ⟨some 3, .mv (.k (.int .i64 1)), none⟩]) <|
 .ret)
 (.skip)) <|
 .seq (.reg [
 ⟨some 34, .mv (.t 4), none⟩,
 ⟨some 35, .bsl false 1 [.nils] 1 [(0, (.t 34))], none⟩,
 ⟨some 36, .call .blind 63 [(.t 35)], none⟩,
 ⟨some 37, .cvI .u64 (.t 36), none⟩,
 ⟨some 38, .call .eff 62 [(.k (.nils)), (.t 37), (.k (.int .i64 4))], none⟩,
 ⟨some 8, .mv (.t 38), none⟩]) <|
 .seq (.reg [
 ⟨some 39, .mv (.t 8), none⟩,
 ⟨some 40, .mv (.t 4), none⟩,
 ⟨some 41, .len (.t 40), none⟩,
 ⟨some 42, .cvI .u64 (.t 41), none⟩,
 ⟨some 43, .call .eff 62 [(.t 39), (.t 42), (.k (.int .i64 2))], none⟩,
 ⟨some 44, .mv (.t 4), none⟩,
 ⟨some 45, .app 1 1 (.t 43) (.t 44), none⟩,
 ⟨some 2, .mv (.t 45), none⟩,
 ⟨some 3, .mv (.k (.int .i64 0)), none⟩]) <|
 .ret⟩

def l39_0b : DC :=
 .seq (.reg [
 ⟨some 24, .bin .lss .sc (.t 23) (.t 22), none⟩]) <|
 .seq (.cond (.t 24)
 (.skip)
 (.exit 0)) <|
 .seq (.block 1 <|
 .seq (.reg [
 ⟨some 25, .idx 1 (.t 21) (.t 23), none⟩,
 ⟨some 26, .ld 1 false (.t 25), none⟩,
 ⟨some 10, .mv (.t 26), none⟩]) <|
 .reg [
 ⟨some 27, .mv (.t 7), none⟩,
 ⟨some 28, .mv (.t 10), none⟩,
 ⟨some 29, .call .eff 66 [(.t 27), (.t 28)], none⟩,
 ⟨some 30, .mv (.t 29), none⟩,
 ⟨some 31, .mv (.t 8), some (30, true)⟩,
 ⟨some 32, .pick (.t 30) (.t 31) (.k (.bool false)), none⟩,
 ⟨some 8, .mv (.t 32), none⟩]) <|
 .reg [
 ⟨some 33, .bin .add .sc (.t 23) (.k (.int .i64 1)), none⟩,
 ⟨some 23, .mv (.t 33), none⟩]
def l39_0 : DC := .loop [7, 8, 21, 22, 23] [] l39_0b
def f39 : DFn := ⟨3, [.t 6],
 .seq (.reg [
 ⟨some 6, .mv (.k (.nilp)), none⟩]) <|
 .seq (.reg [
 ⟨some 11, .call .eff 47 [], none⟩,
 ⟨some 7, .mv (.t 11), none⟩]) <|
 .seq (.reg [
 ⟨some 12, .mv (.t 7), none⟩,
 ⟨some 13, .call .eff 64 [(.t 12), (.k (.str [115, 116, 97, 116, 101]))], none⟩,
 ⟨some 8, .mv (.t 13), none⟩]) <|
 .seq (.seq (.reg [
 ⟨some 14, .mv (.t 0), none⟩,
 ⟨some 15, .mv (.t 1), none⟩,
 ⟨some 16, .mv (.t 2), none⟩,
 ⟨some 17, .len (.t 16), none⟩,
 ⟨some 18, .bsl false 1 [.int .i64 0] 3 [(0, (.t 14)), (1, (.t 15)), (2, (.t 17))], none⟩,
 ⟨some 19, .mv (.t 2), none⟩,
 ⟨some 20, .call .blind 65 [(.t 19)], none⟩,
 ⟨some 21, .app 1 8 (.t 18) (.t 20), none⟩,
 ⟨some 22, .len (.t 21), none⟩,
 ⟨some 23, .mv (.k (.int .i64 0)), none⟩]) <|
 .block 0 <|
 l39_0) <|
 .seq (.seq (.reg [
 ⟨some 34, .mv (.t 8), none⟩,
 ⟨some 35, .un .not (.t 34), none⟩]) <|
 .cond (.t 35)
 (.seq (.reg [
 ⟨some 6, .mv (.k (.nilp)), none⟩]) <|
 .ret)
 (.skip)) <|
 .seq (.reg [
 ⟨some 36, .mv (.t 7), none⟩,
 ⟨some 6, .mv (.t 36), none⟩]) <|
 .ret⟩

def l42_0b : DC :=
 .seq (.seq (.reg [
 ⟨some 5, .mv (.t 4), none⟩,
 ⟨some 6, .mv (.t 0), none⟩,
 ⟨some 7, .len (.t 6), none⟩,
 ⟨some 8, .bin .lss .sc (.t 5) (.t 7), none⟩]) <|
 .cond (.t 8)
 (.skip)
 (.exit 0)) <|
 .seq (.block 1 <|
 .drw [
 ⟨some 11, .mv (.t 3), none⟩,
 ⟨some 12, .mv (.t 0), none⟩,
 ⟨some 13, .mv (.t 4), none⟩,
 ⟨some 14, .idx 4 (.t 12) (.t 13), none⟩,
 ⟨some 15, .fld 0 (.t 14), none⟩,
 ⟨some 16, .ld 1 false (.t 15), none⟩,
 ⟨some 17, .mv (.t 0), none⟩,
 ⟨some 18, .mv (.t 4), none⟩,
 ⟨some 19, .idx 4 (.t 17) (.t 18), none⟩,
 ⟨some 20, .fld 1 (.t 19), none⟩,
 ⟨some 21, .ld 1 false (.t 20), none⟩,
 ⟨some 22, .mv (.t 0), none⟩,
 ⟨some 23, .mv (.t 4), none⟩,
 ⟨some 24, .idx 4 (.t 22) (.t 23), none⟩,
 ⟨some 25, .fld 2 (.t 24), none⟩,
 ⟨some 26, .ld 1 false (.t 25), none⟩,
 ⟨some 27, .mv (.t 0), none⟩,
 ⟨some 28, .mv (.t 4), none⟩,
 ⟨some 29, .idx 4 (.t 27) (.t 28), none⟩,
 ⟨some 30, .fld 3 (.t 29), none⟩,
 ⟨some 31, .ld 1 false (.t 30), none⟩,
 ⟨some 32, .call .blind 69 [(.t 31)], none⟩,
 ⟨some 33, .bsl false 1 [.int .i64 0] 4 [(0, (.t 16)), (1, (.t 21)), (2, (.t 26)), (3, (.t 32))], none⟩,
 ⟨some 34, .app 1 8 (.t 11) (.t 33), none⟩,
 ⟨some 3, .mv (.t 34), none⟩] [[], [], [], [], [], [3], [], [], [], [], [8], [], [], [], [], [13], [], [], [], [], [18], [18, 20], [3, 5, 8, 10, 13, 15, 18, 20, 21], [3, 5, 8, 10, 13, 15, 18, 20, 21, 22], []]) <|
 .reg [
 ⟨some 9, .mv (.t 4), none⟩,
 ⟨some 10, .bin .add .sc (.t 9) (.k (.int .i64 1)), none⟩,
 ⟨some 4, .mv (.t 10), none⟩]
def l42_0 : DC := .loop [0, 3, 4] [] l42_0b
def f42 : DFn := ⟨1, [.t 2],
 .seq (.reg [
 ⟨some 2, .mv (.k (.nils)), none⟩]) <|
 .seq (.reg [
 ⟨some 3, .mv (.k (.nils)), none⟩]) <|
 .seq (.seq (.reg [
 ⟨some 4, .mv (.k (.int .i64 0)), none⟩]) <|
 .block 0 <|
 l42_0) <|
 .seq (.reg [
 ⟨some 35, .mv (.t 3), none⟩,
 ⟨some 2, .mv (.t 35), none⟩]) <|
 .ret⟩

def f43 : DFn := ⟨2, [.t 4],
 .seq (.reg [
 ⟨some 3, .boxL (.t 1), none⟩,
 ⟨some 4, .mv (.k (.bool false)), none⟩]) <|
 .seq (.seq (.reg [
 ⟨some 5, .mv (.t 0), none⟩,
 ⟨some 6, .nilck (.t 5), none⟩,
 ⟨some 7, .fld 0 (.t 6), none⟩,
 ⟨some 8, .ld 1 false (.t 7), none⟩,
 ⟨some 9, .len (.t 8), none⟩,
 ⟨some 10, .bin .geq .sc (.t 9) (.k (.int .i64 100)), none⟩]) <|
 .cond (.t 10)
 (.seq (.reg [
 ⟨some 4, .mv (.k (.bool false)), none⟩]) <|
 .ret)
 (.skip)) <|
 .seq (.drw [
 ⟨some 11, .mv (.t 0), none⟩,
 ⟨some 12, .mv (.t 0), none⟩,
 ⟨some 13, .nilck (.t 12), none⟩,
 ⟨some 14, .fld 0 (.t 13), none⟩,
 ⟨some 15, .ld 1 false (.t 14), none⟩,
 ⟨some 16, .ld 4 true (.t 3), none⟩,
 ⟨some 17, .bsl false 4 [.int .i64 0, .int .i64 0, .str [], .bool false] 1 [(0, (.t 16))], none⟩,
 ⟨some 18, .app 4 40 (.t 15) (.t 17), none⟩,
 ⟨some 19, .nilck (.t 11), none⟩,
 ⟨some 20, .fld 0 (.t 19), none⟩,
 ⟨none, .st 1 (.t 20) (.t 18), none⟩] [[], [], [], [], [], [], [5], [4, 5, 6], [], [], [4, 5, 6, 7]]) <|
 .seq (.reg [
 ⟨some 4, .mv (.k (.bool true)), none⟩]) <|
 .ret⟩

def f44 : DFn := ⟨1, [.t 2],
 .seq (.reg [
 ⟨some 1, .boxL (.t 0), none⟩,
 ⟨some 2, .mv (.k (.nils)), none⟩]) <|
 .seq (.seq (.reg [
 ⟨some 3, .fld 0 (.t 1), none⟩,
 ⟨some 4, .ld 1 false (.t 3), none⟩]) <|
 .block 0 <|
 .seq (.reg [
 ⟨some 6, .bin .eql .sc (.t 4) (.k (.int .i64 1)), none⟩,
 ⟨some 5, .mv (.t 6), none⟩]) <|
 .cond (.t 5)
 (.seq (.reg [
 ⟨some 7, .bsl false 1 [.int .u8 0] 1 [(0, (.k (.int .u8 1)))], none⟩,
 ⟨some 8, .fld 1 (.t 1), none⟩,
 ⟨some 9, .ld 1 false (.t 8), none⟩,
 ⟨some 10, .cvI .u64 (.t 9), none⟩,
 ⟨some 11, .call .eff 45 [(.t 10), (.k (.int .i64 8))], none⟩,
 ⟨some 12, .app 1 1 (.t 7) (.t 11), none⟩,
 ⟨some 2, .mv (.t 12), none⟩]) <|
 .ret)
 (.seq (.reg [
 ⟨some 14, .bin .eql .sc (.t 4) (.k (.int .i64 2)), none⟩,
 ⟨some 13, .mv (.t 14), none⟩]) <|
 .cond (.t 13)
 (.seq (.reg [
 ⟨some 15, .fld 2 (.t 1), none⟩,
 ⟨some 16, .ld 1 false (.t 15), none⟩,
 ⟨some 17, .lenS (.t 16), none⟩,
 ⟨some 18, .cvI .u8 (.t 17), none⟩,
 ⟨some 19, .bsl false 1 [.int .u8 0] 2 [(0, (.k (.int .u8 2))), (1, (.t 18))], none⟩,
 ⟨some 20, .fld 2 (.t 1), none⟩,
 ⟨some 21, .ld 1 false (.t 20), none⟩,
 ⟨some 22, .cvSB (.t 21), none⟩,
 ⟨some 23, .app 1 1 (.t 19) (.t 22), none⟩,
 ⟨some 2, .mv (.t 23), none⟩]) <|
 .ret)
 (.skip))) <|
 .seq (.seq (.reg [
 ⟨some 24, .fld 3 (.t 1), none⟩,
 ⟨some 25, .ld 1 false (.t 24), none⟩]) <|
 .cond (.t 25)
 (.seq (.reg [
 ⟨some 26, .bsl false 1 [.int .u8 0] 2 [(0, (.k (.int .u8 3))), (1, (.k (.int .u8 1)))], none⟩,
 ⟨some 2, .mv (.t 26), none⟩]) <|
 .ret)
 (.skip)) <|
 .seq (.reg [
 ⟨some 27, .bsl false 1 [.int .u8 0] 2 [(0, (.k (.int .u8 3))), (1, (.k (.int .u8 0)))], none⟩,
 ⟨some 2, .mv (.t 27), none⟩]) <|
 .ret⟩

def l45_0b : DC :=
 .seq (.seq (.reg [
 ⟨some 9, .mv (.t 6), none⟩,
 ⟨some 10, .bin .geq .sc (.t 9) (.k (.int .i64 0)), none⟩]) <|
 .cond (.t 10)
 (.skip)
 (.exit 0)) <|
 .seq (.block 1 <|
 .reg [
 ⟨some 13, .mv (.t 5), none⟩,
 ⟨some 14, .mv (.t 0), none⟩,
 ⟨some 15, .mv (.t 6), none⟩,
 ⟨some 16, .bin .mul .sc (.k (.int .i64 8)) (.t 15), none⟩,
 ⟨some 17, .cvI .u64 (.t 16), none⟩,
 ⟨some 18, .bin .shr .sc (.t 14) (.t 17), none⟩,
 ⟨some 19, .cvI .u8 (.t 18), none⟩,
 ⟨some 20, .bsl false 1 [.int .u8 0] 1 [(0, (.t 19))], none⟩,
 ⟨some 21, .app 1 1 (.t 13) (.t 20), none⟩,
 ⟨some 5, .mv (.t 21), none⟩]) <|
 .reg [
 ⟨some 11, .mv (.t 6), none⟩,
 ⟨some 12, .bin .sub .sc (.t 11) (.k (.int .i64 1)), none⟩,
 ⟨some 6, .mv (.t 12), none⟩]
def l45_0 : DC := .loop [0, 5, 6] [] l45_0b
def f45 : DFn := ⟨2, [.t 4],
 .seq (.reg [
 ⟨some 4, .mv (.k (.nils)), none⟩]) <|
 .seq (.reg [
 ⟨some 5, .mv (.k (.nils)), none⟩]) <|
 .seq (.seq (.reg [
 ⟨some 7, .mv (.t 1), none⟩,
 ⟨some 8, .bin .sub .sc (.t 7) (.k (.int .i64 1)), none⟩,
 ⟨some 6, .mv (.t 8), none⟩]) <|
 .block 0 <|
 l45_0) <|
 .seq (.reg [
 ⟨some 22, .mv (.t 5), none⟩,
 ⟨some 4, .mv (.t 22), none⟩]) <|
 .ret⟩

def l46_1b : DC :=
 .seq (.seq (.reg [
 ⟨some 20, .mv (.t 5), none⟩,
 ⟨some 21, .bin .lss .sc (.t 20) (.k (.int .i64 8)), none⟩]) <|
 .cond (.t 21)
 (.skip)
 (.exit 2)) <|
 .seq (.block 3 <|
 .seq (.reg [
 ⟨some 24, .mv (.t 3), none⟩,
 ⟨some 25, .bin .and .sc (.t 24) (.k (.int .u32 1)), none⟩,
 ⟨some 6, .mv (.t 25), none⟩]) <|
 .seq (.reg [
 ⟨some 26, .mv (.t 3), none⟩,
 ⟨some 27, .bin .shr .sc (.t 26) (.k (.int .u64 1)), none⟩,
 ⟨some 3, .mv (.t 27), none⟩]) <|
 .seq (.reg [
 ⟨some 28, .mv (.t 6), none⟩,
 ⟨some 29, .bin .eql .sc (.t 28) (.k (.int .u32 1)), none⟩]) <|
 .cond (.t 29)
 (.reg [
 ⟨some 30, .mv (.t 3), none⟩,
 ⟨some 31, .bin .xor .sc (.t 30) (.k (.int .u32 2197175160)), none⟩,
 ⟨some 3, .mv (.t 31), none⟩])
 (.skip)) <|
 .reg [
 ⟨some 22, .mv (.t 5), none⟩,
 ⟨some 23, .bin .add .sc (.t 22) (.k (.int .i64 1)), none⟩,
 ⟨some 5, .mv (.t 23), none⟩]
def l46_1 : DC := .loop [0, 3, 4, 5] [] l46_1b
def l46_0b : DC :=
 .seq (.seq (.reg [
 ⟨some 7, .mv (.t 4), none⟩,
 ⟨some 8, .mv (.t 0), none⟩,
 ⟨some 9, .len (.t 8), none⟩,
 ⟨some 10, .bin .lss .sc (.t 7) (.t 9), none⟩]) <|
 .cond (.t 10)
 (.skip)
 (.exit 0)) <|
 .seq (.block 1 <|
 .seq (.reg [
 ⟨some 13, .mv (.t 3), none⟩,
 ⟨some 14, .mv (.t 0), none⟩,
 ⟨some 15, .mv (.t 4), none⟩,
 ⟨some 16, .idx 1 (.t 14) (.t 15), none⟩,
 ⟨some 17, .ld 1 false (.t 16), none⟩,
 ⟨some 18, .cvI .u32 (.t 17), none⟩,
 ⟨some 19, .bin .xor .sc (.t 13) (.t 18), none⟩,
 ⟨some 3, .mv (.t 19), none⟩]) <|
 .seq (.reg [
 ⟨some 5, .mv (.k (.int .i64 0)), none⟩]) <|
 .block 2 <|
 l46_1) <|
 .reg [
 ⟨some 11, .mv (.t 4), none⟩,
 ⟨some 12, .bin .add .sc (.t 11) (.k (.int .i64 1)), none⟩,
 ⟨some 4, .mv (.t 12), none⟩]
def l46_0 : DC := .loop [0, 3, 4] [] l46_0b
def f46 : DFn := ⟨1, [.t 2],
 .seq (.reg [
 ⟨some 2, .mv (.k (.int .u32 0)), none⟩]) <|
 .seq (.reg [
 ⟨some 3, .mv (.k (.int .u32 4294967295)), none⟩]) <|
 .seq (.seq (.reg [
 ⟨some 4, .mv (.k (.int .i64 0)), none⟩]) <|
 .block 0 <|
 l46_0) <|
 .seq (.reg [
 ⟨some 32, .mv (.t 3), none⟩,
 ⟨some 33, .un .xor (.t 32), none⟩,
 ⟨some 2, .mv (.t 33), none⟩]) <|
 .ret⟩

def f47 : DFn := ⟨0, [.t 0],
 .seq (.reg [
 ⟨some 0, .mv (.k (.nilp)), none⟩]) <|
 .seq (.reg [
 ⟨some 1, .build [.nils] [], none⟩,
 ⟨some 2, .boxH (.t 1), none⟩,
 ⟨some 0, .mv (.t 2), none⟩]) <|
 .ret⟩

def l48_0b : DC :=
 .seq (.reg [
 ⟨some 19, .bin .lss .sc (.t 18) (.t 17), none⟩]) <|
 .seq (.cond (.t 19)
 (.skip)
 (.exit 0)) <|
 .seq (.block 1 <|
 .seq (.reg [
 ⟨some 20, .idx 1 (.t 16) (.t 18), none⟩,
 ⟨some 21, .ld 1 false (.t 20), none⟩,
 ⟨some 9, .mv (.t 21), none⟩]) <|
 .reg [
 ⟨some 22, .mv (.t 7), none⟩,
 ⟨some 23, .bin .shl .sc (.t 22) (.k (.int .u64 8)), none⟩,
 ⟨some 24, .mv (.t 9), none⟩,
 ⟨some 25, .cvI .u64 (.t 24), none⟩,
 ⟨some 26, .bin .or .sc (.t 23) (.t 25), none⟩,
 ⟨some 7, .mv (.t 26), none⟩]) <|
 .reg [
 ⟨some 27, .bin .add .sc (.t 18) (.k (.int .i64 1)), none⟩,
 ⟨some 18, .mv (.t 27), none⟩]
def l48_0 : DC := .loop [0, 1, 7, 16, 17, 18] [] l48_0b
def f48 : DFn := ⟨2, [.t 4, .t 5, .t 6],
 .seq (.reg [
 ⟨some 4, .mv (.k (.int .u64 0)), none⟩,
 ⟨some 5, .mv (.k (.nils)), none⟩,
 ⟨some 6, .mv (.k (.bool false)), none⟩]) <|
 .seq (.seq (.reg [
 ⟨some 10, .mv (.t 0), none⟩,
 ⟨some 11, .len (.t 10), none⟩,
 ⟨some 12, .mv (.t 1), none⟩,
 ⟨some 13, .bin .lss .sc (.t 11) (.t 12), none⟩]) <|
 .cond (.t 13)
 (.seq (.reg [
 ⟨some 4, .mv (.k (.int .u64 0)), none⟩,
 ⟨some 5, .mv (.k (.nils)), none⟩,
 ⟨some 6, .mv (.k (.bool false)), none⟩]) <|
 .ret)
 (.skip)) <|
 .seq (.reg [
 ⟨some 7, .mv (.k (.int .u64 0)), none⟩]) <|
 .seq (.seq (.reg [
 ⟨some 14, .mv (.t 0), none⟩,
 ⟨some 15, .mv (.t 1), none⟩,
 ⟨some 16, .slc 1 (.t 14) none (some (.t 15)) none, none⟩,
 ⟨some 17, .len (.t 16), none⟩,
 ⟨some 18, .mv (.k (.int .i64 0)), none⟩]) <|
 .block 0 <|
 l48_0) <|
 .seq (.drw [
 ⟨some 28, .mv (.t 7), none⟩,
 ⟨some 29, .mv (.t 0), none⟩,
 ⟨some 30, .mv (.t 1), none⟩,
 ⟨some 31, .slc 1 (.t 29) (some (.t 30)) none none, none⟩,
 ⟨some 4, .mv (.t 28), none⟩,
 ⟨some 5, .mv (.t 31), none⟩,
 ⟨some 6, .mv (.k (.bool true)), none⟩] [[], [], [], [], [], [], []]) <|
 .ret⟩

def f49 : DFn := ⟨2, [.t 4, .t 5],
 .seq (.reg [
 ⟨some 4, .mv (.k (.nils)), none⟩,
 ⟨some 5, .mv (.k (.bool false)), none⟩]) <|
 .seq (.reg [
 ⟨some 18, .mv (.t 1), none⟩,
 ⟨some 19, .call .ro 48 [(.t 18), (.k (.int .i64 1))], none⟩,
 ⟨some 17, .mv (.t 19), none⟩,
 ⟨some 20, .ext 0 (.t 17), none⟩,
 ⟨some 21, .ext 1 (.t 17), none⟩,
 ⟨some 22, .ext 2 (.t 17), none⟩,
 ⟨some 6, .mv (.t 20), none⟩,
 ⟨some 1, .mv (.t 21), none⟩,
 ⟨some 7, .mv (.t 22), none⟩]) <|
 .seq (.block 0 <|
 .seq (.reg [
 ⟨some 24, .mv (.t 7), none⟩,
 ⟨some 25, .un .not (.t 24), none⟩,
 ⟨some 23, .mv (.t 25), none⟩]) <|
 .cond (.t 23)
 (.seq (.reg [
 ⟨some 4, .mv (.k (.nils)), none⟩,
 ⟨some 5, .mv (.k (.bool false)), none⟩]) <|
 .ret)
 (.seq (.reg [
 ⟨some 27, .mv (.t 6), none⟩,
 ⟨some 28, .bin .eql .sc (.t 27) (.k (.int .u64 1)), none⟩,
 ⟨some 26, .mv (.t 28), none⟩]) <|
 .cond (.t 26)
 (.seq (.reg [
 ⟨some 30, .mv (.t 1), none⟩,
 ⟨some 31, .call .ro 48 [(.t 30), (.k (.int .i64 8))], none⟩,
 ⟨some 29, .mv (.t 31), none⟩,
 ⟨some 32, .ext 0 (.t 29), none⟩,
 ⟨some 33, .ext 1 (.t 29), none⟩,
 ⟨some 34, .ext 2 (.t 29), none⟩,
 ⟨some 8, .mv (.t 32), none⟩,
 ⟨some 9, .mv (.t 33), none⟩,
 ⟨some 10, .mv (.t 34), none⟩]) <|
 .seq (.reg [
 ⟨some 35, .mv (.t 9), none⟩,
 ⟨some 36, .mv (.t 10), none⟩,
 ⟨some 37, .mv (.t 36), none⟩,
 ⟨some 38, .mv (.t 0), some (37, true)⟩,
 ⟨some 39, .mv (.t 8), some (37, true)⟩,
 ⟨some 40, .cvI .i64 (.t 39), some (37, true)⟩,
 ⟨some 41, .call .eff 66 [(.t 38), (.t 40)], some (37, true)⟩,
 ⟨some 42, .pick (.t 37) (.t 41) (.k (.bool false)), none⟩,
 ⟨some 4, .mv (.t 35), none⟩,
 ⟨some 5, .mv (.t 42), none⟩]) <|
 .ret)
 (.seq (.reg [
 ⟨some 44, .mv (.t 6), none⟩,
 ⟨some 45, .bin .eql .sc (.t 44) (.k (.int .u64 2)), none⟩,
 ⟨some 43, .mv (.t 45), none⟩]) <|
 .cond (.t 43)
 (.seq (.reg [
 ⟨some 47, .mv (.t 1), none⟩,
 ⟨some 48, .call .ro 48 [(.t 47), (.k (.int .i64 1))], none⟩,
 ⟨some 46, .mv (.t 48), none⟩,
 ⟨some 49, .ext 0 (.t 46), none⟩,
 ⟨some 50, .ext 1 (.t 46), none⟩,
 ⟨some 51, .ext 2 (.t 46), none⟩,
 ⟨some 11, .mv (.t 49), none⟩,
 ⟨some 12, .mv (.t 50), none⟩,
 ⟨some 13, .mv (.t 51), none⟩]) <|
 .seq (.seq (.reg [
 ⟨some 52, .mv (.t 13), none⟩,
 ⟨some 53, .un .not (.t 52), none⟩,
 ⟨some 54, .mv (.t 53), none⟩,
 ⟨some 55, .mv (.t 11), some (54, false)⟩,
 ⟨some 56, .cvI .i64 (.t 55), some (54, false)⟩,
 ⟨some 57, .mv (.t 12), some (54, false)⟩,
 ⟨some 58, .len (.t 57), some (54, false)⟩,
 ⟨some 59, .bin .gtr .sc (.t 56) (.t 58), some (54, false)⟩,
 ⟨some 60, .pick (.t 54) (.k (.bool true)) (.t 59), none⟩]) <|
 .cond (.t 60)
 (.seq (.reg [
 ⟨some 4, .mv (.k (.nils)), none⟩,
 ⟨some 5, .mv (.k (.bool false)), none⟩]) <|
 .ret)
 (.skip)) <|
 .seq (.drw [
 ⟨some 61, .mv (.t 12), none⟩,
 ⟨some 62, .mv (.t 11), none⟩,
 ⟨some 63, .slc 1 (.t 61) (some (.t 62)) none none, none⟩,
 ⟨some 64, .mv (.t 0), none⟩,
 ⟨some 65, .mv (.t 12), none⟩,
 ⟨some 66, .mv (.t 11), none⟩,
 ⟨some 67, .slc 1 (.t 65) none (some (.t 66)) none, none⟩,
 ⟨some 68, .cvBS (.t 67), none⟩,
 ⟨some 69, .call .eff 64 [(.t 64), (.t 68)], none⟩,
 ⟨some 4, .mv (.t 63), none⟩,
 ⟨some 5, .mv (.t 69), none⟩] [[], [], [], [], [], [], [], [], [7], [], []]) <|
 .ret)
 (.seq (.reg [
 ⟨some 71, .mv (.t 6), none⟩,
 ⟨some 72, .bin .eql .sc (.t 71) (.k (.int .u64 3)), none⟩,
 ⟨some 70, .mv (.t 72), none⟩]) <|
 .cond (.t 70)
 (.seq (.reg [
 ⟨some 74, .mv (.t 1), none⟩,
 ⟨some 75, .call .ro 48 [(.t 74), (.k (.int .i64 1))], none⟩,
 ⟨some 73, .mv (.t 75), none⟩,
 ⟨some 76, .ext 0 (.t 73), none⟩,
 ⟨some 77, .ext 1 (.t 73), none⟩,
 ⟨some 78, .ext 2 (.t 73), none⟩,
 ⟨some 14, .mv (.t 76), none⟩,
 ⟨some 15, .mv (.t 77), none⟩,
 ⟨some 16, .mv (.t 78), none⟩]) <|
 .seq (.reg [
 ⟨some 79, .mv (.t 15), none⟩,
 ⟨some 80, .mv (.t 16), none⟩,
 ⟨some 81, .mv (.t 80), none⟩,
 ⟨some 82, .mv (.t 0), some (81, true)⟩,
 ⟨some 83, .mv (.t 14), some (81, true)⟩,
 ⟨some 84, .bin .eql .sc (.t 83) (.k (.int .u64 1)), some (81, true)⟩,
 ⟨some 85, .call .eff 70 [(.t 82), (.t 84)], some (81, true)⟩,
 ⟨some 86, .pick (.t 81) (.t 85) (.k (.bool false)), none⟩,
 ⟨some 4, .mv (.t 79), none⟩,
 ⟨some 5, .mv (.t 86), none⟩]) <|
 .ret)
 (.skip))))) <|
 .seq (.reg [
 ⟨some 4, .mv (.k (.nils)), none⟩,
 ⟨some 5, .mv (.k (.bool false)), none⟩]) <|
 .ret⟩

def f50 : DFn := ⟨2, [.t 4],
 .seq (.reg [
 ⟨some 4, .mv (.k (.bool false)), none⟩]) <|
 .seq (.reg [
 ⟨some 5, .mv (.t 0), none⟩,
 ⟨some 6, .cvBS (.t 5), none⟩,
 ⟨some 7, .mv (.t 1), none⟩,
 ⟨some 8, .cvBS (.t 7), none⟩,
 ⟨some 9, .bin .eql .sc (.t 6) (.t 8), none⟩,
 ⟨some 4, .mv (.t 9), none⟩]) <|
 .ret⟩

def f51 : DFn := ⟨1, [.t 2],
 .seq (.reg [
 ⟨some 2, .mv (.k (.int .i64 0)), none⟩]) <|
 .seq (.reg [
 ⟨some 3, .mv (.t 0), none⟩,
 ⟨some 4, .call .ro 71 [(.t 3)], none⟩,
 ⟨some 5, .len (.t 4), none⟩,
 ⟨some 2, .mv (.t 5), none⟩]) <|
 .ret⟩

def f52 : DFn := ⟨2, [.t 4, .t 5],
 .seq (.reg [
 ⟨some 4, .mv (.k (.int .i64 0)), none⟩,
 ⟨some 5, .mv (.k (.bool false)), none⟩]) <|
 .seq (.reg [
 ⟨some 9, .mv (.t 0), none⟩,
 ⟨some 10, .mv (.t 1), none⟩,
 ⟨some 11, .call .ro 72 [(.t 9), (.t 10)], none⟩,
 ⟨some 12, .asrt 3 (.int .i64 0) true (.t 11), none⟩,
 ⟨some 8, .mv (.t 12), none⟩,
 ⟨some 13, .ext 0 (.t 8), none⟩,
 ⟨some 14, .ext 1 (.t 8), none⟩,
 ⟨some 6, .mv (.t 13), none⟩,
 ⟨some 7, .mv (.t 14), none⟩]) <|
 .seq (.reg [
 ⟨some 15, .mv (.t 6), none⟩,
 ⟨some 16, .mv (.t 7), none⟩,
 ⟨some 4, .mv (.t 15), none⟩,
 ⟨some 5, .mv (.t 16), none⟩]) <|
 .ret⟩

def f53 : DFn := ⟨2, [.t 4, .t 5],
 .seq (.reg [
 ⟨some 4, .mv (.k (.str [])), none⟩,
 ⟨some 5, .mv (.k (.bool false)), none⟩]) <|
 .seq (.reg [
 ⟨some 9, .mv (.t 0), none⟩,
 ⟨some 10, .mv (.t 1), none⟩,
 ⟨some 11, .call .ro 72 [(.t 9), (.t 10)], none⟩,
 ⟨some 12, .asrt 9 (.str []) true (.t 11), none⟩,
 ⟨some 8, .mv (.t 12), none⟩,
 ⟨some 13, .ext 0 (.t 8), none⟩,
 ⟨some 14, .ext 1 (.t 8), none⟩,
 ⟨some 6, .mv (.t 13), none⟩,
 ⟨some 7, .mv (.t 14), none⟩]) <|
 .seq (.reg [
 ⟨some 15, .mv (.t 6), none⟩,
 ⟨some 16, .mv (.t 7), none⟩,
 ⟨some 4, .mv (.t 15), none⟩,
 ⟨some 5, .mv (.t 16), none⟩]) <|
 .ret⟩

def f55 : DFn := ⟨1, [.t 2],
 .seq (.reg [
 ⟨some 2, .mv (.k (.nils)), none⟩]) <|
 .seq (.seq (.reg [
 ⟨some 3, .mv (.t 0), none⟩,
 ⟨some 4, .bin .eql .ns (.t 3) (.k (.nils)), none⟩]) <|
 .cond (.t 4)
 (.seq (.reg [
 ⟨some 2, .mv (.k (.nils)), none⟩]) <|
 .ret)
 (.skip)) <|
 .seq (.reg [
 ⟨some 5, .bsl false 4 [.int .i64 0, .int .i64 0, .int .i64 0, .bool false] 0 [], none⟩,
 ⟨some 6, .mv (.t 0), none⟩,
 ⟨some 7, .app 4 32 (.t 5) (.t 6), none⟩,
 ⟨some 2, .mv (.t 7), none⟩]) <|
 .ret⟩

def f56 : DFn := ⟨3, [.t 6],
 .seq (.reg [
 ⟨some 5, .boxL (.t 2), none⟩,
 ⟨some 6, .mv (.k (.bool false)), none⟩]) <|
 .seq (.reg [
 ⟨some 8, .fld 0 (.t 5), none⟩,
 ⟨some 9, .ld 1 false (.t 8), none⟩,
 ⟨some 10, .build [.int .i64 0, .int .i64 0, .int .i64 0, .bool false] [(0, 1, (.t 9))], none⟩,
 ⟨some 7, .alL [.int .i64 0, .int .i64 0, .int .i64 0, .bool false], none⟩,
 ⟨none, .st 4 (.t 7) (.t 10), none⟩]) <|
 .seq (.seq (.reg [
 ⟨some 11, .fld 0 (.t 5), none⟩,
 ⟨some 12, .ld 1 false (.t 11), none⟩]) <|
 .block 0 <|
 .seq (.seq (.reg [
 ⟨some 14, .bin .eql .sc (.t 12) (.k (.int .i64 0)), none⟩,
 ⟨some 13, .mv (.t 14), none⟩]) <|
 .cond (.t 13)
 (.skip)
 (.reg [
 ⟨some 15, .bin .eql .sc (.t 12) (.k (.int .i64 2)), none⟩,
 ⟨some 13, .mv (.t 15), none⟩])) <|
 .cond (.t 13)
 (.skip)
 (.seq (.reg [
 ⟨some 17, .bin .eql .sc (.t 12) (.k (.int .i64 1)), none⟩,
 ⟨some 16, .mv (.t 17), none⟩]) <|
 .cond (.t 16)
 (.reg [
 ⟨some 18, .fld 1 (.t 5), none⟩,
 ⟨some 19, .ld 1 false (.t 18), none⟩,
 ⟨some 20, .mx (.t 19) (.k (.int .i64 0)), none⟩,
 ⟨some 21, .mn (.t 20) (.k (.int .i64 8)), none⟩,
 ⟨some 22, .fld 1 (.t 7), none⟩,
 ⟨none, .st 1 (.t 22) (.t 21), none⟩])
 (.seq (.reg [
 ⟨some 24, .bin .eql .sc (.t 12) (.k (.int .i64 4)), none⟩,
 ⟨some 23, .mv (.t 24), none⟩]) <|
 .cond (.t 23)
 (.reg [
 ⟨some 25, .fld 1 (.t 5), none⟩,
 ⟨some 26, .ld 1 false (.t 25), none⟩,
 ⟨some 27, .mx (.t 26) (.k (.int .i64 0)), none⟩,
 ⟨some 28, .mn (.t 27) (.k (.int .i64 5)), none⟩,
 ⟨some 29, .fld 1 (.t 7), none⟩,
 ⟨none, .st 1 (.t 29) (.t 28), none⟩])
 (.seq (.reg [
 ⟨some 31, .bin .eql .sc (.t 12) (.k (.int .i64 3)), none⟩,
 ⟨some 30, .mv (.t 31), none⟩]) <|
 .cond (.t 30)
 (.drw [
 ⟨some 32, .fld 2 (.t 5), none⟩,
 ⟨some 33, .ld 1 false (.t 32), none⟩,
 ⟨some 34, .mx (.t 33) (.k (.int .i64 0)), none⟩,
 ⟨some 35, .mv (.t 0), none⟩,
 ⟨some 36, .nilck (.t 35), none⟩,
 ⟨some 37, .fld 0 (.t 36), none⟩,
 ⟨some 38, .fld 3 (.t 37), none⟩,
 ⟨some 39, .ld 1 false (.t 38), none⟩,
 ⟨some 40, .mv (.t 1), none⟩,
 ⟨some 41, .idx 6 (.t 39) (.t 40), none⟩,
 ⟨some 42, .fld 3 (.t 41), none⟩,
 ⟨some 43, .ld 1 false (.t 42), none⟩,
 ⟨some 44, .len (.t 43), none⟩,
 ⟨some 45, .bin .sub .sc (.t 44) (.k (.int .i64 1)), none⟩,
 ⟨some 46, .mn (.t 34) (.t 45), none⟩,
 ⟨some 47, .fld 3 (.t 5), none⟩,
 ⟨some 48, .ld 1 false (.t 47), none⟩,
 ⟨some 49, .fld 2 (.t 7), none⟩,
 ⟨none, .st 1 (.t 49) (.t 46), none⟩,
 ⟨some 50, .fld 3 (.t 7), none⟩,
 ⟨none, .st 1 (.t 50) (.t 48), none⟩] [[], [], [], [], [], [], [], [], [], [7], [], [7, 9], [], [], [], [], [], [], [1, 7, 9, 11], [], [1, 7, 9, 11, 16, 18]])
 (.seq (.reg [
 ⟨some 6, .mv (.k (.bool false)), none⟩]) <|
 .ret))))) <|
 .seq (.reg [
 ⟨some 51, .ld 4 true (.t 5), none⟩,
 ⟨some 52, .ld 4 true (.t 7), none⟩,
 ⟨some 53, .bin .eql (.st [.i, .i, .i, .b]) (.t 51) (.t 52), none⟩,
 ⟨some 6, .mv (.t 53), none⟩]) <|
 .ret⟩

def f57 : DFn := ⟨3, [.t 6],
 .seq (.reg [
 ⟨some 3, .boxH (.t 0), none⟩,
 ⟨some 5, .boxH (.t 2), none⟩,
 ⟨some 6, .mv (.k (.bool false)), none⟩]) <|
 .seq (.drw [
 ⟨some 11, .fld 3 (.t 3), none⟩,
 ⟨some 12, .ld 1 false (.t 11), none⟩,
 ⟨some 13, .mv (.t 1), none⟩,
 ⟨some 14, .idx 6 (.t 12) (.t 13), none⟩,
 ⟨some 15, .ld 6 true (.t 14), none⟩,
 ⟨some 16, .fld 3 (.t 3), none⟩,
 ⟨some 17, .ld 1 false (.t 16), none⟩,
 ⟨some 18, .ld 1 false (.t 5), none⟩,
 ⟨some 19, .idx 6 (.t 17) (.t 18), none⟩,
 ⟨some 20, .ld 6 true (.t 19), none⟩,
 ⟨some 7, .alL [.str [], .int .i64 0, .int .i64 0, .nils, .nils, .nils], none⟩,
 ⟨some 8, .alH [.str [], .int .i64 0, .int .i64 0, .nils, .nils, .nils], none⟩,
 ⟨none, .st 6 (.t 7) (.t 15), none⟩,
 ⟨none, .st 6 (.t 8) (.t 20), none⟩] [[], [], [], [1], [1, 3], [], [], [], [6, 7], [6, 7, 8], [], [], [1, 3, 4, 10, 11], [1, 3, 4, 6, 7, 8, 9, 10, 11, 12]]) <|
 .seq (.reg [
 ⟨some 21, .fld 3 (.t 7), none⟩,
 ⟨some 22, .ld 1 false (.t 21), none⟩,
 ⟨some 23, .mkF 75 [(.t 8)], none⟩,
 ⟨some 24, .call .ro 74 [(.t 22), (.t 23)], none⟩,
 ⟨some 9, .mv (.t 24), none⟩]) <|
 .seq (.reg [
 ⟨some 25, .ld 4 true (.t 3), none⟩,
 ⟨some 26, .mv (.t 1), none⟩,
 ⟨some 27, .call .blind 78 [(.t 25), (.t 26)], none⟩,
 ⟨some 28, .mkF 79 [(.t 3), (.t 5)], none⟩,
 ⟨some 29, .call .ro 77 [(.t 27), (.t 28)], none⟩,
 ⟨some 10, .mv (.t 29), none⟩]) <|
 .seq (.reg [
 ⟨some 30, .mv (.t 1), none⟩,
 ⟨some 31, .ld 1 false (.t 5), none⟩,
 ⟨some 32, .bin .eql .sc (.t 30) (.t 31), none⟩,
 ⟨some 33, .mv (.t 32), none⟩,
 ⟨some 34, .fld 1 (.t 7), some (33, false)⟩,
 ⟨some 35, .ld 1 false (.t 34), some (33, false)⟩,
 ⟨some 36, .fld 1 (.t 8), some (33, false)⟩,
 ⟨some 37, .ld 1 false (.t 36), some (33, false)⟩,
 ⟨some 38, .bin .eql .sc (.t 35) (.t 37), some (33, false)⟩,
 ⟨some 39, .pick (.t 33) (.k (.bool true)) (.t 38), none⟩,
 ⟨some 40, .mv (.t 39), none⟩,
 ⟨some 41, .mv (.t 9), some (40, false)⟩,
 ⟨some 42, .pick (.t 40) (.k (.bool true)) (.t 41), none⟩,
 ⟨some 43, .mv (.t 42), none⟩,
 ⟨some 44, .mv (.t 10), some (43, false)⟩,
 ⟨some 45, .pick (.t 43) (.k (.bool true)) (.t 44), none⟩,
 ⟨some 6, .mv (.t 45), none⟩]) <|
 .ret⟩

def f58 : DFn := ⟨1, [],
 .seq (.reg [
 ⟨some 2, .mv (.t 0), none⟩,
 ⟨some 3, .bin .neq .np (.t 2) (.k (.nilp)), none⟩]) <|
 .cond (.t 3)
 (.reg [
 ⟨some 4, .mv (.t 0), none⟩,
 ⟨some 5, .nilck (.t 4), none⟩,
 ⟨some 6, .fld 2 (.t 5), none⟩,
 ⟨none, .st 1 (.t 6) (.k (.bool false)), none⟩])
 (.skip)⟩

def l59_1b : DC :=
 .seq (.reg [
 ⟨some 58, .bin .lss .sc (.t 57) (.t 56), none⟩]) <|
 .seq (.cond (.t 58)
 (.skip)
 (.exit 2)) <|
 .seq (.block 3 <|
 .seq (.reg [
 ⟨some 59, .idx 6 (.t 55) (.t 57), none⟩,
 ⟨some 60, .ld 6 true (.t 59), none⟩,
 ⟨some 8, .alL [.str [], .int .i64 0, .int .i64 0, .nils, .nils, .nils], none⟩,
 ⟨none, .st 6 (.t 8) (.t 60), none⟩]) <|
 .seq (.reg [
 ⟨some 61, .mv (.t 4), none⟩,
 ⟨some 62, .fld 0 (.t 8), none⟩,
 ⟨some 63, .ld 1 false (.t 62), none⟩,
 ⟨some 64, .bsl false 1 [.str []] 1 [(0, (.t 63))], none⟩,
 ⟨some 65, .app 1 16 (.t 61) (.t 64), none⟩,
 ⟨some 4, .mv (.t 65), none⟩]) <|
 .seq (.reg [
 ⟨some 66, .ld 4 true (.t 1), none⟩,
 ⟨some 67, .ld 6 true (.t 8), none⟩,
 ⟨some 68, .call .blind 82 [(.t 66), (.t 67)], none⟩,
 ⟨some 69, .un .not (.t 68), none⟩]) <|
 .cond (.t 69)
 (.seq (.reg [
 ⟨some 2, .mv (.k (.bool false)), none⟩]) <|
 .ret)
 (.skip)) <|
 .reg [
 ⟨some 70, .bin .add .sc (.t 57) (.k (.int .i64 1)), none⟩,
 ⟨some 57, .mv (.t 70), none⟩]
def l59_1 : DC := .loop [1, 3, 4, 55, 56, 57] [1] l59_1b
def l59_0b : DC :=
 .seq (.reg [
 ⟨some 37, .bin .lss .sc (.t 36) (.t 35), none⟩]) <|
 .seq (.cond (.t 37)
 (.skip)
 (.exit 0)) <|
 .seq (.block 1 <|
 .seq (.reg [
 ⟨some 38, .idx 2 (.t 34) (.t 36), none⟩,
 ⟨some 39, .ld 2 true (.t 38), none⟩,
 ⟨some 6, .alL [.str [], .int .i64 0], none⟩,
 ⟨none, .st 2 (.t 6) (.t 39), none⟩]) <|
 .seq (.reg [
 ⟨some 40, .mv (.t 3), none⟩,
 ⟨some 41, .fld 0 (.t 6), none⟩,
 ⟨some 42, .ld 1 false (.t 41), none⟩,
 ⟨some 43, .bsl false 1 [.str []] 1 [(0, (.t 42))], none⟩,
 ⟨some 44, .app 1 16 (.t 40) (.t 43), none⟩,
 ⟨some 3, .mv (.t 44), none⟩]) <|
 .seq (.reg [
 ⟨some 45, .fld 1 (.t 6), none⟩,
 ⟨some 46, .ld 1 false (.t 45), none⟩,
 ⟨some 47, .fld 0 (.t 1), none⟩,
 ⟨some 48, .ld 1 false (.t 47), none⟩,
 ⟨some 49, .len (.t 48), none⟩,
 ⟨some 50, .bin .sub .sc (.t 49) (.k (.int .i64 1)), none⟩,
 ⟨some 51, .call .blind 81 [(.t 46), (.k (.int .i64 0)), (.t 50)], none⟩,
 ⟨some 52, .un .not (.t 51), none⟩]) <|
 .cond (.t 52)
 (.seq (.reg [
 ⟨some 2, .mv (.k (.bool false)), none⟩]) <|
 .ret)
 (.skip)) <|
 .reg [
 ⟨some 53, .bin .add .sc (.t 36) (.k (.int .i64 1)), none⟩,
 ⟨some 36, .mv (.t 53), none⟩]
def l59_0 : DC := .loop [1, 3, 4, 34, 35, 36] [1] l59_0b
def f59 : DFn := ⟨1, [.t 2],
 .seq (.reg [
 ⟨some 1, .boxL (.t 0), none⟩,
 ⟨some 2, .mv (.k (.bool false)), none⟩]) <|
 .seq (.reg [
 ⟨some 3, .mv (.k (.nils)), none⟩,
 ⟨some 4, .mv (.k (.nils)), none⟩]) <|
 .seq (.seq (.reg [
 ⟨some 9, .fld 0 (.t 1), none⟩,
 ⟨some 10, .ld 1 false (.t 9), none⟩,
 ⟨some 11, .len (.t 10), none⟩,
 ⟨some 12, .call .blind 81 [(.t 11), (.k (.int .i64 1)), (.k (.int .i64 10))], none⟩,
 ⟨some 13, .un .not (.t 12), none⟩,
 ⟨some 14, .mv (.t 13), none⟩,
 ⟨some 15, .fld 2 (.t 1), some (14, false)⟩,
 ⟨some 16, .ld 1 false (.t 15), some (14, false)⟩,
 ⟨some 17, .len (.t 16), some (14, false)⟩,
 ⟨some 18, .call .blind 81 [(.t 17), (.k (.int .i64 1)), (.k (.int .i64 6))], some (14, false)⟩,
 ⟨some 19, .un .not (.t 18), some (14, false)⟩,
 ⟨some 20, .pick (.t 14) (.k (.bool true)) (.t 19), none⟩,
 ⟨some 21, .mv (.t 20), none⟩,
 ⟨some 22, .fld 1 (.t 1), some (21, false)⟩,
 ⟨some 23, .ld 1 false (.t 22), some (21, false)⟩,
 ⟨some 24, .len (.t 23), some (21, false)⟩,
 ⟨some 25, .bin .gtr .sc (.t 24) (.k (.int .i64 5)), some (21, false)⟩,
 ⟨some 26, .pick (.t 21) (.k (.bool true)) (.t 25), none⟩,
 ⟨some 27, .mv (.t 26), none⟩,
 ⟨some 28, .fld 3 (.t 1), some (27, false)⟩,
 ⟨some 29, .ld 1 false (.t 28), some (27, false)⟩,
 ⟨some 30, .len (.t 29), some (27, false)⟩,
 ⟨some 31, .bin .gtr .sc (.t 30) (.k (.int .i64 6)), some (27, false)⟩,
 ⟨some 32, .pick (.t 27) (.k (.bool true)) (.t 31), none⟩]) <|
 .cond (.t 32)
 (.seq (.reg [
 ⟨some 2, .mv (.k (.bool false)), none⟩]) <|
 .ret)
 (.skip)) <|
 .seq (.seq (.reg [
 ⟨some 33, .fld 1 (.t 1), none⟩,
 ⟨some 34, .ld 1 false (.t 33), none⟩,
 ⟨some 35, .len (.t 34), none⟩,
 ⟨some 36, .mv (.k (.int .i64 0)), none⟩]) <|
 .block 0 <|
 l59_0) <|
 .seq (.seq (.reg [
 ⟨some 54, .fld 3 (.t 1), none⟩,
 ⟨some 55, .ld 1 false (.t 54), none⟩,
 ⟨some 56, .len (.t 55), none⟩,
 ⟨some 57, .mv (.k (.int .i64 0)), none⟩]) <|
 .block 2 <|
 l59_1) <|
 .seq (.reg [
 ⟨some 71, .fld 0 (.t 1), none⟩,
 ⟨some 72, .ld 1 false (.t 71), none⟩,
 ⟨some 73, .call .blind 83 [(.t 72)], none⟩,
 ⟨some 74, .mv (.t 73), none⟩,
 ⟨some 75, .fld 2 (.t 1), some (74, true)⟩,
 ⟨some 76, .ld 1 false (.t 75), some (74, true)⟩,
 ⟨some 77, .call .blind 83 [(.t 76)], some (74, true)⟩,
 ⟨some 78, .pick (.t 74) (.t 77) (.k (.bool false)), none⟩,
 ⟨some 79, .mv (.t 78), none⟩,
 ⟨some 80, .mv (.t 3), some (79, true)⟩,
 ⟨some 81, .call .blind 83 [(.t 80)], some (79, true)⟩,
 ⟨some 82, .pick (.t 79) (.t 81) (.k (.bool false)), none⟩,
 ⟨some 83, .mv (.t 82), none⟩,
 ⟨some 84, .mv (.t 4), some (83, true)⟩,
 ⟨some 85, .call .blind 83 [(.t 84)], some (83, true)⟩,
 ⟨some 86, .pick (.t 83) (.t 85) (.k (.bool false)), none⟩,
 ⟨some 2, .mv (.t 86), none⟩]) <|
 .ret⟩

def l60_0b : DC :=
 .seq (.reg [
 ⟨some 25, .bin .lss .sc (.t 24) (.t 23), none⟩]) <|
 .seq (.cond (.t 25)
 (.skip)
 (.exit 0)) <|
 .seq (.block 1 <|
 .seq (.reg [
 ⟨some 26, .mv (.t 24), none⟩,
 ⟨some 27, .idx 6 (.t 22) (.t 24), none⟩,
 ⟨some 28, .ld 6 true (.t 27), none⟩,
 ⟨some 4, .alL [.str [], .int .i64 0, .int .i64 0, .nils, .nils, .nils], none⟩,
 ⟨some 3, .mv (.t 26), none⟩,
 ⟨none, .st 6 (.t 4) (.t 28), none⟩]) <|
 .seq (.drw [
 ⟨some 29, .fld 3 (.t 4), none⟩,
 ⟨some 30, .ld 1 false (.t 29), none⟩,
 ⟨some 31, .call .blind 87 [(.t 30)], none⟩,
 ⟨some 32, .fld 4 (.t 4), none⟩,
 ⟨some 33, .ld 1 false (.t 32), none⟩,
 ⟨some 34, .call .blind 88 [(.t 33)], none⟩,
 ⟨some 35, .fld 5 (.t 4), none⟩,
 ⟨some 36, .ld 1 false (.t 35), none⟩,
 ⟨some 37, .call .blind 88 [(.t 36)], none⟩,
 ⟨some 38, .fld 3 (.t 4), none⟩,
 ⟨none, .st 1 (.t 38) (.t 31), none⟩,
 ⟨some 39, .fld 4 (.t 4), none⟩,
 ⟨none, .st 1 (.t 39) (.t 34), none⟩,
 ⟨some 40, .fld 5 (.t 4), none⟩,
 ⟨none, .st 1 (.t 40) (.t 37), none⟩] [[], [], [1], [], [], [1, 2, 4], [], [], [1, 2, 4, 5, 7], [], [1, 2, 4, 5, 7, 8], [], [1, 2, 4, 5, 7, 8, 10], [], [1, 2, 4, 5, 7, 8, 10, 12]]) <|
 .reg [
 ⟨some 41, .fld 3 (.t 1), none⟩,
 ⟨some 42, .ld 1 false (.t 41), none⟩,
 ⟨some 43, .mv (.t 3), none⟩,
 ⟨some 44, .ld 6 true (.t 4), none⟩,
 ⟨some 45, .idx 6 (.t 42) (.t 43), none⟩,
 ⟨none, .st 6 (.t 45) (.t 44), none⟩]) <|
 .reg [
 ⟨some 46, .bin .add .sc (.t 24) (.k (.int .i64 1)), none⟩,
 ⟨some 24, .mv (.t 46), none⟩]
def l60_0 : DC := .loop [1, 2, 22, 23, 24] [1, 2] l60_0b
def f60 : DFn := ⟨1, [.cell 2 4 true],
 .seq (.reg [
 ⟨some 1, .boxL (.t 0), none⟩,
 ⟨some 2, .alL [.nils, .nils, .nils, .nils], none⟩]) <|
 .seq (.drw [
 ⟨some 5, .fld 0 (.t 1), none⟩,
 ⟨some 6, .ld 1 false (.t 5), none⟩,
 ⟨some 7, .call .blind 84 [(.t 6)], none⟩,
 ⟨some 8, .fld 1 (.t 1), none⟩,
 ⟨some 9, .ld 1 false (.t 8), none⟩,
 ⟨some 10, .call .blind 85 [(.t 9)], none⟩,
 ⟨some 11, .fld 2 (.t 1), none⟩,
 ⟨some 12, .ld 1 false (.t 11), none⟩,
 ⟨some 13, .call .blind 84 [(.t 12)], none⟩,
 ⟨some 14, .fld 3 (.t 1), none⟩,
 ⟨some 15, .ld 1 false (.t 14), none⟩,
 ⟨some 16, .call .eff 86 [(.t 15)], none⟩,
 ⟨some 17, .fld 0 (.t 1), none⟩,
 ⟨none, .st 1 (.t 17) (.t 7), none⟩,
 ⟨some 18, .fld 1 (.t 1), none⟩,
 ⟨none, .st 1 (.t 18) (.t 10), none⟩,
 ⟨some 19, .fld 2 (.t 1), none⟩,
 ⟨none, .st 1 (.t 19) (.t 13), none⟩,
 ⟨some 20, .fld 3 (.t 1), none⟩,
 ⟨none, .st 1 (.t 20) (.t 16), none⟩] [[], [], [1], [], [], [1, 2, 4], [], [], [1, 2, 4, 5, 7], [], [], [1, 2, 4, 5, 7, 8, 10], [], [1, 2, 4, 5, 7, 8, 10, 11], [], [1, 2, 4, 5, 7, 8, 10, 11, 13], [], [1, 2, 4, 5, 7, 8, 10, 11, 13, 15], [], [1, 2, 4, 5, 7, 8, 10, 11, 13, 15, 17]]) <|
 .seq (.seq (.reg [
 ⟨some 21, .fld 3 (.t 1), none⟩,
 ⟨some 22, .ld 1 false (.t 21), none⟩,
 ⟨some 23, .len (.t 22), none⟩,
 ⟨some 24, .mv (.k (.int .i64 0)), none⟩]) <|
 .block 0 <|
 l60_0) <|
 .seq (.reg [
 ⟨some 47, .ld 4 true (.t 1), none⟩,
 ⟨none, .st 4 (.t 2) (.t 47), none⟩]) <|
 .ret⟩

def f61 : DFn := ⟨3, [.t 6, .t 7],
 .seq (.reg [
 ⟨some 6, .mv (.k (.nils)), none⟩,
 ⟨some 7, .mv (.k (.bool false)), none⟩]) <|
 .seq (.seq (.reg [
 ⟨some 15, .mv (.t 1), none⟩,
 ⟨some 16, .mv (.t 2), none⟩,
 ⟨some 17, .call .ro 52 [(.t 15), (.t 16)], none⟩,
 ⟨some 14, .mv (.t 17), none⟩,
 ⟨some 18, .ext 0 (.t 14), none⟩,
 ⟨some 19, .ext 1 (.t 14), none⟩,
 ⟨some 8, .mv (.t 18), none⟩,
 ⟨some 9, .mv (.t 19), none⟩]) <|
 .seq (.reg [
 ⟨some 20, .mv (.t 9), none⟩]) <|
 .cond (.t 20)
 (.seq (.reg [
 ⟨some 21, .mv (.t 0), none⟩,
 ⟨some 22, .bsl false 1 [.int .u8 0] 1 [(0, (.k (.int .u8 1)))], none⟩,
 ⟨some 23, .app 1 1 (.t 21) (.t 22), none⟩,
 ⟨some 24, .mv (.t 8), none⟩,
 ⟨some 25, .cvI .u64 (.t 24), none⟩,
 ⟨some 26, .call .eff 62 [(.t 23), (.t 25), (.k (.int .i64 8))], none⟩,
 ⟨some 6, .mv (.t 26), none⟩,
 ⟨some 7, .mv (.k (.bool true)), none⟩]) <|
 .ret)
 (.skip)) <|
 .seq (.seq (.reg [
 ⟨some 28, .mv (.t 1), none⟩,
 ⟨some 29, .mv (.t 2), none⟩,
 ⟨some 30, .call .ro 53 [(.t 28), (.t 29)], none⟩,
 ⟨some 27, .mv (.t 30), none⟩,
 ⟨some 31, .ext 0 (.t 27), none⟩,
 ⟨some 32, .ext 1 (.t 27), none⟩,
 ⟨some 10, .mv (.t 31), none⟩,
 ⟨some 11, .mv (.t 32), none⟩]) <|
 .seq (.reg [
 ⟨some 33, .mv (.t 11), none⟩]) <|
 .cond (.t 33)
 (.seq (.reg [
 ⟨some 34, .mv (.t 0), none⟩,
 ⟨some 35, .mv (.t 10), none⟩,
 ⟨some 36, .lenS (.t 35), none⟩,
 ⟨some 37, .cvI .u8 (.t 36), none⟩,
 ⟨some 38, .bsl false 1 [.int .u8 0] 2 [(0, (.k (.int .u8 2))), (1, (.t 37))], none⟩,
 ⟨some 39, .app 1 1 (.t 34) (.t 38), none⟩,
 ⟨some 40, .mv (.t 10), none⟩,
 ⟨some 41, .app 1 1 (.t 39) (.t 40), none⟩,
 ⟨some 42, .mv (.t 10), none⟩,
 ⟨some 43, .lenS (.t 42), none⟩,
 ⟨some 44, .bin .leq .sc (.t 43) (.k (.int .i64 200)), none⟩,
 ⟨some 6, .mv (.t 41), none⟩,
 ⟨some 7, .mv (.t 44), none⟩]) <|
 .ret)
 (.skip)) <|
 .seq (.reg [
 ⟨some 46, .mv (.t 1), none⟩,
 ⟨some 47, .mv (.t 2), none⟩,
 ⟨some 48, .call .ro 89 [(.t 46), (.t 47)], none⟩,
 ⟨some 45, .mv (.t 48), none⟩,
 ⟨some 49, .ext 0 (.t 45), none⟩,
 ⟨some 50, .ext 1 (.t 45), none⟩,
 ⟨some 12, .mv (.t 49), none⟩,
 ⟨some 13, .mv (.t 50), none⟩]) <|
 .seq (.reg [
 ⟨some 51, .mv (.t 0), none⟩,
 ⟨some 52, .mv (.t 12), none⟩,
 ⟨some 53, .call .blind 90 [(.t 52)], none⟩,
 ⟨some 54, .bsl false 1 [.int .u8 0] 2 [(0, (.k (.int .u8 3))), (1, (.t 53))], none⟩,
 ⟨some 55, .app 1 1 (.t 51) (.t 54), none⟩,
 ⟨some 6, .mv (.t 55), none⟩,
 ⟨some 7, .mv (.k (.bool true)), none⟩]) <|
 .ret⟩

def l62_0b : DC :=
 .seq (.reg [
 ⟨some 10, .bin .lss .sc (.t 9) (.t 8), none⟩]) <|
 .seq (.cond (.t 10)
 (.skip)
 (.exit 0)) <|
 .seq (.block 1 <|
 .seq (.reg [
 ⟨some 11, .mv (.t 9), none⟩,
 ⟨some 7, .mv (.t 11), none⟩]) <|
 .reg [
 ⟨some 12, .mv (.t 0), none⟩,
 ⟨some 13, .mv (.t 1), none⟩,
 ⟨some 14, .mv (.t 2), none⟩,
 ⟨some 15, .bin .sub .sc (.t 14) (.k (.int .i64 1)), none⟩,
 ⟨some 16, .mv (.t 7), none⟩,
 ⟨some 17, .bin .sub .sc (.t 15) (.t 16), none⟩,
 ⟨some 18, .bin .mul .sc (.k (.int .i64 8)) (.t 17), none⟩,
 ⟨some 19, .bin .shr .sc (.t 13) (.t 18), none⟩,
 ⟨some 20, .cvI .u8 (.t 19), none⟩,
 ⟨some 21, .bsl false 1 [.int .u8 0] 1 [(0, (.t 20))], none⟩,
 ⟨some 22, .app 1 1 (.t 12) (.t 21), none⟩,
 ⟨some 0, .mv (.t 22), none⟩]) <|
 .reg [
 ⟨some 23, .bin .add .sc (.t 9) (.k (.int .i64 1)), none⟩,
 ⟨some 9, .mv (.t 23), none⟩]
def l62_0 : DC := .loop [0, 1, 2, 8, 9] [] l62_0b
def f62 : DFn := ⟨3, [.t 6],
 .seq (.reg [
 ⟨some 6, .mv (.k (.nils)), none⟩]) <|
 .seq (.seq (.reg [
 ⟨some 8, .mv (.t 2), none⟩,
 ⟨some 9, .mv (.k (.int .i64 0)), none⟩]) <|
 .block 0 <|
 l62_0) <|
 .seq (.reg [
 ⟨some 24, .mv (.t 0), none⟩,
 ⟨some 6, .mv (.t 24), none⟩]) <|
 .ret⟩

def l63_1b : DC :=
 .seq (.reg [
 ⟨some 17, .bin .lss .sc (.t 16) (.t 15), none⟩]) <|
 .seq (.cond (.t 17)
 (.skip)
 (.exit 2)) <|
 .seq (.block 3 <|
 .seq (.reg [
 ⟨some 18, .idx 1 (.t 14) (.t 16), none⟩,
 ⟨some 19, .ld 1 false (.t 18), none⟩,
 ⟨some 7, .mv (.t 19), none⟩]) <|
 .reg [
 ⟨some 20, .mv (.t 3), none⟩,
 ⟨some 21, .mv (.t 7), none⟩,
 ⟨some 22, .call .blind 91 [(.t 20), (.t 21)], none⟩,
 ⟨some 3, .mv (.t 22), none⟩]) <|
 .reg [
 ⟨some 23, .bin .add .sc (.t 16) (.k (.int .i64 1)), none⟩,
 ⟨some 16, .mv (.t 23), none⟩]
def l63_1 : DC := .loop [3, 8, 9, 10, 14, 15, 16] [] l63_1b
def l63_0b : DC :=
 .seq (.reg [
 ⟨some 11, .bin .lss .sc (.t 10) (.t 9), none⟩]) <|
 .seq (.cond (.t 11)
 (.skip)
 (.exit 0)) <|
 .seq (.block 1 <|
 .seq (.reg [
 ⟨some 12, .idx 1 (.t 8) (.t 10), none⟩,
 ⟨some 13, .ld 1 false (.t 12), none⟩,
 ⟨some 5, .mv (.t 13), none⟩]) <|
 .seq (.reg [
 ⟨some 14, .mv (.t 5), none⟩,
 ⟨some 15, .len (.t 14), none⟩,
 ⟨some 16, .mv (.k (.int .i64 0)), none⟩]) <|
 .block 2 <|
 l63_1) <|
 .reg [
 ⟨some 24, .bin .add .sc (.t 10) (.k (.int .i64 1)), none⟩,
 ⟨some 10, .mv (.t 24), none⟩]
def l63_0 : DC := .loop [3, 8, 9, 10] [] l63_0b
def f63 : DFn := ⟨1, [.t 2],
 .seq (.reg [
 ⟨some 2, .mv (.k (.int .u32 0)), none⟩]) <|
 .seq (.reg [
 ⟨some 3, .mv (.k (.int .u32 4294967295)), none⟩]) <|
 .seq (.seq (.reg [
 ⟨some 8, .mv (.t 0), none⟩,
 ⟨some 9, .len (.t 8), none⟩,
 ⟨some 10, .mv (.k (.int .i64 0)), none⟩]) <|
 .block 0 <|
 l63_0) <|
 .seq (.reg [
 ⟨some 25, .mv (.t 3), none⟩,
 ⟨some 26, .un .xor (.t 25), none⟩,
 ⟨some 2, .mv (.t 26), none⟩]) <|
 .ret⟩

def f64 : DFn := ⟨2, [.t 4],
 .seq (.reg [
 ⟨some 4, .mv (.k (.bool false)), none⟩]) <|
 .seq (.reg [
 ⟨some 5, .mv (.t 0), none⟩,
 ⟨some 6, .mv (.t 1), none⟩,
 ⟨some 7, .mkI 9 (.t 6), none⟩,
 ⟨some 8, .call .eff 92 [(.t 5), (.t 7)], none⟩,
 ⟨some 4, .mv (.t 8), none⟩]) <|
 .ret⟩

def l65_0b : DC :=
 .seq (.reg [
 ⟨some 9, .bin .lss .sc (.t 8) (.t 7), none⟩]) <|
 .seq (.cond (.t 9)
 (.skip)
 (.exit 0)) <|
 .seq (.block 1 <|
 .seq (.reg [
 ⟨some 10, .idx 4 (.t 6) (.t 8), none⟩,
 ⟨some 11, .ld 4 true (.t 10), none⟩,
 ⟨some 5, .alL [.int .i64 0, .int .i64 0, .int .i64 0, .bool false], none⟩,
 ⟨none, .st 4 (.t 5) (.t 11), none⟩]) <|
 .drw [
 ⟨some 12, .mv (.t 3), none⟩,
 ⟨some 13, .fld 0 (.t 5), none⟩,
 ⟨some 14, .ld 1 false (.t 13), none⟩,
 ⟨some 15, .fld 1 (.t 5), none⟩,
 ⟨some 16, .ld 1 false (.t 15), none⟩,
 ⟨some 17, .fld 2 (.t 5), none⟩,
 ⟨some 18, .ld 1 false (.t 17), none⟩,
 ⟨some 19, .fld 3 (.t 5), none⟩,
 ⟨some 20, .ld 1 false (.t 19), none⟩,
 ⟨some 21, .call .blind 93 [(.t 20)], none⟩,
 ⟨some 22, .bsl false 1 [.int .i64 0] 4 [(0, (.t 14)), (1, (.t 16)), (2, (.t 18)), (3, (.t 21))], none⟩,
 ⟨some 23, .app 1 8 (.t 12) (.t 22), none⟩,
 ⟨some 3, .mv (.t 23), none⟩] [[], [], [], [], [], [], [], [], [], [8], [2, 4, 6, 8, 9], [2, 4, 6, 8, 9, 10], []]) <|
 .reg [
 ⟨some 24, .bin .add .sc (.t 8) (.k (.int .i64 1)), none⟩,
 ⟨some 8, .mv (.t 24), none⟩]
def l65_0 : DC := .loop [3, 6, 7, 8] [] l65_0b
def f65 : DFn := ⟨1, [.t 2],
 .seq (.reg [
 ⟨some 2, .mv (.k (.nils)), none⟩]) <|
 .seq (.reg [
 ⟨some 3, .mv (.k (.nils)), none⟩]) <|
 .seq (.seq (.reg [
 ⟨some 6, .mv (.t 0), none⟩,
 ⟨some 7, .len (.t 6), none⟩,
 ⟨some 8, .mv (.k (.int .i64 0)), none⟩]) <|
 .block 0 <|
 l65_0) <|
 .seq (.reg [
 ⟨some 25, .mv (.t 3), none⟩,
 ⟨some 2, .mv (.t 25), none⟩]) <|
 .ret⟩

def f66 : DFn := ⟨2, [.t 4],
 .seq (.reg [
 ⟨some 4, .mv (.k (.bool false)), none⟩]) <|
 .seq (.reg [
 ⟨some 5, .mv (.t 0), none⟩,
 ⟨some 6, .mv (.t 1), none⟩,
 ⟨some 7, .mkI 3 (.t 6), none⟩,
 ⟨some 8, .call .eff 92 [(.t 5), (.t 7)], none⟩,
 ⟨some 4, .mv (.t 8), none⟩]) <|
 .ret⟩

def f69 : DFn := ⟨1, [.t 2],
 .seq (.reg [
 ⟨some 2, .mv (.k (.int .i64 0)), none⟩]) <|
 .seq (.seq (.reg [
 ⟨some 3, .mv (.t 0), none⟩]) <|
 .cond (.t 3)
 (.seq (.reg [
 ⟨some 2, .mv (.k (.int .i64 1)), none⟩]) <|
 .ret)
 (.skip)) <|
 .seq (.reg [
 ⟨some 2, .mv (.k (.int .i64 0)), none⟩]) <|
 .ret⟩

def f70 : DFn := ⟨2, [.t 4],
 .seq (.reg [
 ⟨some 4, .mv (.k (.bool false)), none⟩]) <|
 .seq (.reg [
 ⟨some 5, .mv (.t 0), none⟩,
 ⟨some 6, .mv (.t 1), none⟩,
 ⟨some 7, .mkI 4 (.t 6), none⟩,
 ⟨some 8, .call .eff 92 [(.t 5), (.t 7)], none⟩,
 ⟨some 4, .mv (.t 8), none⟩]) <|
 .ret⟩

def f71 : DFn := ⟨1, [.t 2],
 .seq (.reg [
 ⟨some 2, .mv (.k (.nils)), none⟩]) <|
 .seq (.seq (.reg [
 ⟨some 3, .mv (.t 0), none⟩,
 ⟨some 4, .bin .eql .np (.t 3) (.k (.nilp)), none⟩]) <|
 .cond (.t 4)
 (.seq (.reg [
 ⟨some 2, .mv (.k (.nils)), none⟩]) <|
 .ret)
 (.skip)) <|
 .seq (.reg [
 ⟨some 5, .mv (.t 0), none⟩,
 ⟨some 6, .nilck (.t 5), none⟩,
 ⟨some 7, .fld 0 (.t 6), none⟩,
 ⟨some 8, .ld 1 false (.t 7), none⟩,
 ⟨some 2, .mv (.t 8), none⟩]) <|
 .ret⟩

def f72 : DFn := ⟨2, [.t 4],
 .seq (.reg [
 ⟨some 4, .mv (.k (.nili)), none⟩]) <|
 .seq (.seq (.reg [
 ⟨some 6, .mv (.t 0), none⟩,
 ⟨some 7, .call .ro 71 [(.t 6)], none⟩,
 ⟨some 5, .mv (.t 7), none⟩]) <|
 .seq (.reg [
 ⟨some 8, .mv (.t 1), none⟩,
 ⟨some 9, .bin .geq .sc (.t 8) (.k (.int .i64 0)), none⟩,
 ⟨some 10, .mv (.t 9), none⟩,
 ⟨some 11, .mv (.t 1), some (10, true)⟩,
 ⟨some 12, .mv (.t 5), some (10, true)⟩,
 ⟨some 13, .len (.t 12), some (10, true)⟩,
 ⟨some 14, .bin .lss .sc (.t 11) (.t 13), some (10, true)⟩,
 ⟨some 15, .pick (.t 10) (.t 14) (.k (.bool false)), none⟩]) <|
 .cond (.t 15)
 (.seq (.reg [
 ⟨some 16, .mv (.t 5), none⟩,
 ⟨some 17, .mv (.t 1), none⟩,
 ⟨some 18, .idx 1 (.t 16) (.t 17), none⟩,
 ⟨some 19, .ld 1 false (.t 18), none⟩,
 ⟨some 4, .mv (.t 19), none⟩]) <|
 .ret)
 (.skip)) <|
 .seq (.reg [
 ⟨some 4, .mv (.k (.nili)), none⟩]) <|
 .ret⟩

def f73 : DFn := ⟨2, [.t 4],
 .seq (.reg [
 ⟨some 2, .boxH (.t 0), none⟩,
 ⟨some 3, .boxH (.t 1), none⟩,
 ⟨some 4, .mv (.k (.nilf)), none⟩]) <|
 .seq (.seq (.reg [
 ⟨some 5, .ld 1 false (.t 3), none⟩,
 ⟨some 6, .bin .lss .sc (.t 5) (.k (.int .i64 1)), none⟩]) <|
 .cond (.t 6)
 (.reg [
 ⟨some 7, .mkI 9 (.k (.str [99, 97, 110, 110, 111, 116, 32, 98, 101, 32, 108, 101, 115, 115, 32, 116, 104, 97, 110, 32, 49])), none⟩,
 ⟨none, .nilck (.k .nilp), none⟩])
 (.skip)) <|
 .seq (.reg [
 ⟨some 8, .mkF 101 [(.t 2), (.t 3)], none⟩,
 ⟨some 4, .mv (.t 8), none⟩]) <|
 .ret⟩

def f74 : DFn := ⟨2, [.t 4],
 .seq (.reg [
 ⟨some 4, .mv (.k (.bool false)), none⟩]) <|
 .seq (.reg [
 ⟨some 5, .mv (.t 0), none⟩,
 ⟨some 6, .mv (.t 1), none⟩,
 ⟨some 7, .call .ro 102 [(.t 5), (.t 6)], none⟩,
 ⟨some 8, .bin .geq .sc (.t 7) (.k (.int .i64 0)), none⟩,
 ⟨some 4, .mv (.t 8), none⟩]) <|
 .ret⟩

def f75 : DFn := ⟨2, [.t 3],
 .seq (.reg [
 ⟨some 3, .mv (.k (.bool false)), none⟩]) <|
 .seq (.reg [
 ⟨some 4, .fld 3 (.t 1), none⟩,
 ⟨some 5, .ld 1 false (.t 4), none⟩,
 ⟨some 6, .mv (.t 0), none⟩,
 ⟨some 7, .call .blind 76 [(.t 5), (.t 6)], none⟩,
 ⟨some 3, .mv (.t 7), none⟩]) <|
 .ret⟩

def f76 : DFn := ⟨2, [.t 4],
 .seq (.reg [
 ⟨some 4, .mv (.k (.bool false)), none⟩]) <|
 .seq (.reg [
 ⟨some 5, .mv (.t 0), none⟩,
 ⟨some 6, .mv (.t 1), none⟩,
 ⟨some 7, .call .blind 103 [(.t 5), (.t 6)], none⟩,
 ⟨some 8, .bin .geq .sc (.t 7) (.k (.int .i64 0)), none⟩,
 ⟨some 4, .mv (.t 8), none⟩]) <|
 .ret⟩

def f77 : DFn := ⟨2, [.t 4],
 .seq (.reg [
 ⟨some 4, .mv (.k (.bool false)), none⟩]) <|
 .seq (.reg [
 ⟨some 5, .mv (.t 0), none⟩,
 ⟨some 6, .mv (.t 1), none⟩,
 ⟨some 7, .call .ro 104 [(.t 5), (.t 6)], none⟩,
 ⟨some 8, .bin .geq .sc (.t 7) (.k (.int .i64 0)), none⟩,
 ⟨some 4, .mv (.t 8), none⟩]) <|
 .ret⟩

def f78 : DFn := ⟨2, [.t 4],
 .seq (.reg [
 ⟨some 2, .boxL (.t 0), none⟩,
 ⟨some 4, .mv (.k (.nils)), none⟩]) <|
 .seq (.drw [
 ⟨some 5, .fld 3 (.t 2), none⟩,
 ⟨some 6, .ld 1 false (.t 5), none⟩,
 ⟨some 7, .mv (.t 1), none⟩,
 ⟨some 8, .idx 6 (.t 6) (.t 7), none⟩,
 ⟨some 9, .fld 4 (.t 8), none⟩,
 ⟨some 10, .ld 1 false (.t 9), none⟩,
 ⟨some 11, .fld 3 (.t 2), none⟩,
 ⟨some 12, .ld 1 false (.t 11), none⟩,
 ⟨some 13, .mv (.t 1), none⟩,
 ⟨some 14, .idx 6 (.t 12) (.t 13), none⟩,
 ⟨some 15, .fld 5 (.t 14), none⟩,
 ⟨some 16, .ld 1 false (.t 15), none⟩,
 ⟨some 17, .bsl false 1 [.nils] 2 [(0, (.t 10)), (1, (.t 16))], none⟩,
 ⟨some 18, .call .blind 105 [(.t 17)], none⟩,
 ⟨some 4, .mv (.t 18), none⟩] [[], [], [], [1], [], [1, 3], [], [], [], [7], [], [7, 9], [1, 3, 5, 7, 9, 11], [1, 3, 5, 7, 9, 11, 12], []]) <|
 .ret⟩

def f79 : DFn := ⟨3, [.t 4],
 .seq (.reg [
 ⟨some 3, .boxL (.t 0), none⟩,
 ⟨some 4, .mv (.k (.bool false)), none⟩]) <|
 .seq (.drw [
 ⟨some 5, .ld 4 true (.t 1), none⟩,
 ⟨some 6, .ld 1 false (.t 2), none⟩,
 ⟨some 7, .call .blind 78 [(.t 5), (.t 6)], none⟩,
 ⟨some 8, .fld 0 (.t 3), none⟩,
 ⟨some 9, .ld 1 false (.t 8), none⟩,
 ⟨some 10, .fld 1 (.t 3), none⟩,
 ⟨some 11, .ld 1 false (.t 10), none⟩,
 ⟨some 12, .un .not (.t 11), none⟩,
 ⟨some 13, .build [.int .i64 0, .bool false] [(0, 1, (.t 9)), (1, 1, (.t 12))], none⟩,
 ⟨some 14, .call .blind 80 [(.t 7), (.t 13)], none⟩,
 ⟨some 4, .mv (.t 14), none⟩] [[], [], [0, 1], [], [], [], [], [], [], [0, 1, 2, 4, 6], []]) <|
 .ret⟩

def f80 : DFn := ⟨2, [.t 4],
 .seq (.reg [
 ⟨some 3, .boxL (.t 1), none⟩,
 ⟨some 4, .mv (.k (.bool false)), none⟩]) <|
 .seq (.reg [
 ⟨some 5, .mv (.t 0), none⟩,
 ⟨some 6, .ld 2 true (.t 3), none⟩,
 ⟨some 7, .call .blind 106 [(.t 5), (.t 6)], none⟩,
 ⟨some 8, .bin .geq .sc (.t 7) (.k (.int .i64 0)), none⟩,
 ⟨some 4, .mv (.t 8), none⟩]) <|
 .ret⟩

def f81 : DFn := ⟨3, [.t 6],
 .seq (.reg [
 ⟨some 6, .mv (.k (.bool false)), none⟩]) <|
 .seq (.reg [
 ⟨some 7, .mv (.t 0), none⟩,
 ⟨some 8, .mv (.t 1), none⟩,
 ⟨some 9, .bin .geq .sc (.t 7) (.t 8), none⟩,
 ⟨some 10, .mv (.t 9), none⟩,
 ⟨some 11, .mv (.t 0), some (10, true)⟩,
 ⟨some 12, .mv (.t 2), some (10, true)⟩,
 ⟨some 13, .bin .leq .sc (.t 11) (.t 12), some (10, true)⟩,
 ⟨some 14, .pick (.t 10) (.t 13) (.k (.bool false)), none⟩,
 ⟨some 6, .mv (.t 14), none⟩]) <|
 .ret⟩

def l82_0b : DC :=
 .seq (.reg [
 ⟨some 61, .bin .lss .sc (.t 60) (.t 59), none⟩]) <|
 .seq (.cond (.t 61)
 (.skip)
 (.exit 0)) <|
 .seq (.block 1 <|
 .seq (.reg [
 ⟨some 62, .idx 2 (.t 58) (.t 60), none⟩,
 ⟨some 63, .ld 2 true (.t 62), none⟩,
 ⟨some 8, .alL [.str [], .int .i64 0], none⟩,
 ⟨none, .st 2 (.t 8) (.t 63), none⟩]) <|
 .seq (.reg [
 ⟨some 64, .fld 3 (.t 3), none⟩,
 ⟨some 65, .ld 1 false (.t 64), none⟩,
 ⟨some 66, .fld 1 (.t 8), none⟩,
 ⟨some 67, .ld 1 false (.t 66), none⟩,
 ⟨some 68, .call .blind 76 [(.t 65), (.t 67)], none⟩]) <|
 .cond (.t 68)
 (.reg [
 ⟨some 69, .mv (.t 6), none⟩,
 ⟨some 70, .bin .add .sc (.t 69) (.k (.int .i64 1)), none⟩,
 ⟨some 6, .mv (.t 70), none⟩])
 (.skip)) <|
 .reg [
 ⟨some 71, .bin .add .sc (.t 60) (.k (.int .i64 1)), none⟩,
 ⟨some 60, .mv (.t 71), none⟩]
def l82_0 : DC := .loop [3, 6, 58, 59, 60] [3] l82_0b
def f82 : DFn := ⟨2, [.t 4],
 .seq (.reg [
 ⟨some 2, .boxL (.t 0), none⟩,
 ⟨some 3, .boxL (.t 1), none⟩,
 ⟨some 4, .mv (.k (.bool false)), none⟩]) <|
 .seq (.reg [
 ⟨some 9, .fld 2 (.t 2), none⟩,
 ⟨some 10, .ld 1 false (.t 9), none⟩,
 ⟨some 11, .len (.t 10), none⟩,
 ⟨some 12, .bin .sub .sc (.t 11) (.k (.int .i64 1)), none⟩,
 ⟨some 5, .mv (.t 12), none⟩]) <|
 .seq (.seq (.reg [
 ⟨some 13, .fld 1 (.t 3), none⟩,
 ⟨some 14, .ld 1 false (.t 13), none⟩,
 ⟨some 15, .mv (.t 5), none⟩,
 ⟨some 16, .call .blind 81 [(.t 14), (.k (.int .i64 0)), (.t 15)], none⟩,
 ⟨some 17, .un .not (.t 16), none⟩,
 ⟨some 18, .mv (.t 17), none⟩,
 ⟨some 19, .fld 2 (.t 3), some (18, false)⟩,
 ⟨some 20, .ld 1 false (.t 19), some (18, false)⟩,
 ⟨some 21, .mv (.t 5), some (18, false)⟩,
 ⟨some 22, .call .blind 81 [(.t 20), (.k (.int .i64 0)), (.t 21)], some (18, false)⟩,
 ⟨some 23, .un .not (.t 22), some (18, false)⟩,
 ⟨some 24, .pick (.t 18) (.k (.bool true)) (.t 23), none⟩,
 ⟨some 25, .mv (.t 24), none⟩,
 ⟨some 26, .fld 1 (.t 3), some (25, false)⟩,
 ⟨some 27, .ld 1 false (.t 26), some (25, false)⟩,
 ⟨some 28, .fld 2 (.t 3), some (25, false)⟩,
 ⟨some 29, .ld 1 false (.t 28), some (25, false)⟩,
 ⟨some 30, .bin .eql .sc (.t 27) (.t 29), some (25, false)⟩,
 ⟨some 31, .pick (.t 25) (.k (.bool true)) (.t 30), none⟩,
 ⟨some 32, .mv (.t 31), none⟩,
 ⟨some 33, .ld 4 true (.t 2), some (32, false)⟩,
 ⟨some 34, .fld 3 (.t 3), some (32, false)⟩,
 ⟨some 35, .ld 1 false (.t 34), some (32, false)⟩,
 ⟨some 36, .call .blind 107 [(.t 33), (.t 35)], some (32, false)⟩,
 ⟨some 37, .un .not (.t 36), some (32, false)⟩,
 ⟨some 38, .pick (.t 32) (.k (.bool true)) (.t 37), none⟩,
 ⟨some 39, .mv (.t 38), none⟩,
 ⟨some 40, .ld 4 true (.t 2), some (39, false)⟩,
 ⟨some 41, .fld 4 (.t 3), some (39, false)⟩,
 ⟨some 42, .ld 1 false (.t 41), some (39, false)⟩,
 ⟨some 43, .fld 3 (.t 3), some (39, false)⟩,
 ⟨some 44, .ld 1 false (.t 43), some (39, false)⟩,
 ⟨some 45, .call .blind 108 [(.t 40), (.t 42), (.t 44), (.k (.bool true))], some (39, false)⟩,
 ⟨some 46, .un .not (.t 45), some (39, false)⟩,
 ⟨some 47, .pick (.t 39) (.k (.bool true)) (.t 46), none⟩,
 ⟨some 48, .mv (.t 47), none⟩,
 ⟨some 49, .ld 4 true (.t 2), some (48, false)⟩,
 ⟨some 50, .fld 5 (.t 3), some (48, false)⟩,
 ⟨some 51, .ld 1 false (.t 50), some (48, false)⟩,
 ⟨some 52, .fld 3 (.t 3), some (48, false)⟩,
 ⟨some 53, .ld 1 false (.t 52), some (48, false)⟩,
 ⟨some 54, .call .blind 108 [(.t 49), (.t 51), (.t 53), (.k (.bool false))], some (48, false)⟩,
 ⟨some 55, .un .not (.t 54), some (48, false)⟩,
 ⟨some 56, .pick (.t 48) (.k (.bool true)) (.t 55), none⟩]) <|
 .cond (.t 56)
 (.seq (.reg [
 ⟨some 4, .mv (.k (.bool false)), none⟩]) <|
 .ret)
 (.skip)) <|
 .seq (.reg [
 ⟨some 6, .mv (.k (.int .i64 0)), none⟩]) <|
 .seq (.seq (.reg [
 ⟨some 57, .fld 1 (.t 2), none⟩,
 ⟨some 58, .ld 1 false (.t 57), none⟩,
 ⟨some 59, .len (.t 58), none⟩,
 ⟨some 60, .mv (.k (.int .i64 0)), none⟩]) <|
 .block 0 <|
 l82_0) <|
 .seq (.reg [
 ⟨some 72, .mv (.t 6), none⟩,
 ⟨some 73, .fld 4 (.t 3), none⟩,
 ⟨some 74, .ld 1 false (.t 73), none⟩,
 ⟨some 75, .len (.t 74), none⟩,
 ⟨some 76, .bin .eql .sc (.t 72) (.t 75), none⟩,
 ⟨some 4, .mv (.t 76), none⟩]) <|
 .ret⟩

def l83_0b : DC :=
 .seq (.reg [
 ⟨some 8, .bin .lss .sc (.t 7) (.t 6), none⟩]) <|
 .seq (.cond (.t 8)
 (.skip)
 (.exit 0)) <|
 .seq (.block 1 <|
 .seq (.reg [
 ⟨some 9, .mv (.t 7), none⟩,
 ⟨some 10, .idx 1 (.t 5) (.t 7), none⟩,
 ⟨some 11, .ld 1 false (.t 10), none⟩,
 ⟨some 3, .mv (.t 9), none⟩,
 ⟨some 4, .mv (.t 11), none⟩]) <|
 .seq (.reg [
 ⟨some 12, .mv (.t 4), none⟩,
 ⟨some 13, .call .blind 109 [(.t 12)], none⟩,
 ⟨some 14, .un .not (.t 13), none⟩,
 ⟨some 15, .mv (.t 14), none⟩,
 ⟨some 16, .mv (.t 4), some (15, false)⟩,
 ⟨some 17, .bin .eql .sc (.t 16) (.k (.str [115, 101, 116])), some (15, false)⟩,
 ⟨some 18, .pick (.t 15) (.k (.bool true)) (.t 17), none⟩,
 ⟨some 19, .mv (.t 18), none⟩,
 ⟨some 20, .mv (.t 4), some (19, false)⟩,
 ⟨some 21, .bin .eql .sc (.t 20) (.k (.str [102, 108, 97, 110, 107])), some (19, false)⟩,
 ⟨some 22, .pick (.t 19) (.k (.bool true)) (.t 21), none⟩,
 ⟨some 23, .mv (.t 22), none⟩,
 ⟨some 24, .mv (.t 0), some (23, false)⟩,
 ⟨some 25, .mv (.t 3), some (23, false)⟩,
 ⟨some 26, .slc 1 (.t 24) none (some (.t 25)) none, some (23, false)⟩,
 ⟨some 27, .mv (.t 4), some (23, false)⟩,
 ⟨some 28, .call .blind 110 [(.t 26), (.t 27)], some (23, false)⟩,
 ⟨some 29, .pick (.t 23) (.k (.bool true)) (.t 28), none⟩]) <|
 .cond (.t 29)
 (.seq (.reg [
 ⟨some 2, .mv (.k (.bool false)), none⟩]) <|
 .ret)
 (.skip)) <|
 .reg [
 ⟨some 30, .bin .add .sc (.t 7) (.k (.int .i64 1)), none⟩,
 ⟨some 7, .mv (.t 30), none⟩]
def l83_0 : DC := .loop [0, 5, 6, 7] [] l83_0b
def f83 : DFn := ⟨1, [.t 2],
 .seq (.reg [
 ⟨some 2, .mv (.k (.bool false)), none⟩]) <|
 .seq (.seq (.reg [
 ⟨some 5, .mv (.t 0), none⟩,
 ⟨some 6, .len (.t 5), none⟩,
 ⟨some 7, .mv (.k (.int .i64 0)), none⟩]) <|
 .block 0 <|
 l83_0) <|
 .seq (.reg [
 ⟨some 2, .mv (.k (.bool true)), none⟩]) <|
 .ret⟩

def f84 : DFn := ⟨1, [.t 2],
 .seq (.reg [
 ⟨some 2, .mv (.k (.nils)), none⟩]) <|
 .seq (.seq (.reg [
 ⟨some 3, .mv (.t 0), none⟩,
 ⟨some 4, .bin .eql .ns (.t 3) (.k (.nils)), none⟩]) <|
 .cond (.t 4)
 (.seq (.reg [
 ⟨some 2, .mv (.k (.nils)), none⟩]) <|
 .ret)
 (.skip)) <|
 .seq (.reg [
 ⟨some 5, .bsl false 1 [.str []] 0 [], none⟩,
 ⟨some 6, .mv (.t 0), none⟩,
 ⟨some 7, .app 1 16 (.t 5) (.t 6), none⟩,
 ⟨some 2, .mv (.t 7), none⟩]) <|
 .ret⟩

def f85 : DFn := ⟨1, [.t 2],
 .seq (.reg [
 ⟨some 2, .mv (.k (.nils)), none⟩]) <|
 .seq (.seq (.reg [
 ⟨some 3, .mv (.t 0), none⟩,
 ⟨some 4, .bin .eql .ns (.t 3) (.k (.nils)), none⟩]) <|
 .cond (.t 4)
 (.seq (.reg [
 ⟨some 2, .mv (.k (.nils)), none⟩]) <|
 .ret)
 (.skip)) <|
 .seq (.reg [
 ⟨some 5, .bsl false 2 [.str [], .int .i64 0] 0 [], none⟩,
 ⟨some 6, .mv (.t 0), none⟩,
 ⟨some 7, .app 2 24 (.t 5) (.t 6), none⟩,
 ⟨some 2, .mv (.t 7), none⟩]) <|
 .ret⟩

def f86 : DFn := ⟨1, [.t 2],
 .seq (.reg [
 ⟨some 2, .mv (.k (.nils)), none⟩]) <|
 .seq (.seq (.reg [
 ⟨some 3, .mv (.t 0), none⟩,
 ⟨some 4, .bin .eql .ns (.t 3) (.k (.nils)), none⟩]) <|
 .cond (.t 4)
 (.seq (.reg [
 ⟨some 2, .mv (.k (.nils)), none⟩]) <|
 .ret)
 (.skip)) <|
 .seq (.reg [
 ⟨some 5, .bsl false 6 [.str [], .int .i64 0, .int .i64 0, .nils, .nils, .nils] 0 [], none⟩,
 ⟨some 6, .mv (.t 0), none⟩,
 ⟨some 7, .app 6 104 (.t 5) (.t 6), none⟩,
 ⟨some 2, .mv (.t 7), none⟩]) <|
 .ret⟩

def f87 : DFn := ⟨1, [.t 2],
 .seq (.reg [
 ⟨some 2, .mv (.k (.nils)), none⟩]) <|
 .seq (.seq (.reg [
 ⟨some 3, .mv (.t 0), none⟩,
 ⟨some 4, .bin .eql .ns (.t 3) (.k (.nils)), none⟩]) <|
 .cond (.t 4)
 (.seq (.reg [
 ⟨some 2, .mv (.k (.nils)), none⟩]) <|
 .ret)
 (.skip)) <|
 .seq (.reg [
 ⟨some 5, .bsl false 1 [.int .i64 0] 0 [], none⟩,
 ⟨some 6, .mv (.t 0), none⟩,
 ⟨some 7, .app 1 8 (.t 5) (.t 6), none⟩,
 ⟨some 2, .mv (.t 7), none⟩]) <|
 .ret⟩

def f88 : DFn := ⟨1, [.t 2],
 .seq (.reg [
 ⟨some 2, .mv (.k (.nils)), none⟩]) <|
 .seq (.seq (.reg [
 ⟨some 3, .mv (.t 0), none⟩,
 ⟨some 4, .bin .eql .ns (.t 3) (.k (.nils)), none⟩]) <|
 .cond (.t 4)
 (.seq (.reg [
 ⟨some 2, .mv (.k (.nils)), none⟩]) <|
 .ret)
 (.skip)) <|
 .seq (.reg [
 ⟨some 5, .bsl false 2 [.int .i64 0, .bool false] 0 [], none⟩,
 ⟨some 6, .mv (.t 0), none⟩,
 ⟨some 7, .app 2 16 (.t 5) (.t 6), none⟩,
 ⟨some 2, .mv (.t 7), none⟩]) <|
 .ret⟩

def f89 : DFn := ⟨2, [.t 4, .t 5],
 .seq (.reg [
 ⟨some 4, .mv (.k (.bool false)), none⟩,
 ⟨some 5, .mv (.k (.bool false)), none⟩]) <|
 .seq (.reg [
 ⟨some 7, .mv (.t 0), none⟩,
 ⟨some 8, .mv (.t 1), none⟩,
 ⟨some 9, .call .ro 72 [(.t 7), (.t 8)], none⟩,
 ⟨some 10, .asrt 4 (.bool false) true (.t 9), none⟩,
 ⟨some 6, .mv (.t 10), none⟩,
 ⟨some 11, .ext 0 (.t 6), none⟩,
 ⟨some 12, .ext 1 (.t 6), none⟩,
 ⟨some 4, .mv (.t 11), none⟩,
 ⟨some 5, .mv (.t 12), none⟩]) <|
 .seq (.reg [
 ⟨some 13, .mv (.t 4), none⟩,
 ⟨some 14, .mv (.t 5), none⟩,
 ⟨some 4, .mv (.t 13), none⟩,
 ⟨some 5, .mv (.t 14), none⟩]) <|
 .ret⟩

def f90 : DFn := ⟨1, [.t 2],
 .seq (.reg [
 ⟨some 2, .mv (.k (.int .u8 0)), none⟩]) <|
 .seq (.seq (.reg [
 ⟨some 3, .mv (.t 0), none⟩]) <|
 .cond (.t 3)
 (.seq (.reg [
 ⟨some 2, .mv (.k (.int .u8 1)), none⟩]) <|
 .ret)
 (.skip)) <|
 .seq (.reg [
 ⟨some 2, .mv (.k (.int .u8 0)), none⟩]) <|
 .ret⟩

def l91_0b : DC :=
 .seq (.reg [
 ⟨some 11, .bin .lss .sc (.t 10) (.k (.int .i64 8)), none⟩]) <|
 .seq (.cond (.t 11)
 (.skip)
 (.exit 0)) <|
 .seq (.block 1 <|
 .seq (.reg [
 ⟨some 12, .mv (.t 0), none⟩,
 ⟨some 13, .bin .and .sc (.t 12) (.k (.int .u32 1)), none⟩,
 ⟨some 14, .bin .eql .sc (.t 13) (.k (.int .u32 1)), none⟩,
 ⟨some 5, .mv (.t 14), none⟩]) <|
 .seq (.reg [
 ⟨some 15, .mv (.t 0), none⟩,
 ⟨some 16, .bin .shr .sc (.t 15) (.k (.int .u64 1)), none⟩,
 ⟨some 0, .mv (.t 16), none⟩]) <|
 .seq (.reg [
 ⟨some 17, .mv (.t 5), none⟩]) <|
 .cond (.t 17)
 (.reg [
 ⟨some 18, .mv (.t 0), none⟩,
 ⟨some 19, .bin .xor .sc (.t 18) (.k (.int .u32 2197175160)), none⟩,
 ⟨some 0, .mv (.t 19), none⟩])
 (.skip)) <|
 .reg [
 ⟨some 20, .bin .add .sc (.t 10) (.k (.int .i64 1)), none⟩,
 ⟨some 10, .mv (.t 20), none⟩]
def l91_0 : DC := .loop [0, 10] [] l91_0b
def f91 : DFn := ⟨2, [.t 4],
 .seq (.reg [
 ⟨some 4, .mv (.k (.int .u32 0)), none⟩]) <|
 .seq (.reg [
 ⟨some 6, .mv (.t 0), none⟩,
 ⟨some 7, .mv (.t 1), none⟩,
 ⟨some 8, .cvI .u32 (.t 7), none⟩,
 ⟨some 9, .bin .xor .sc (.t 6) (.t 8), none⟩,
 ⟨some 0, .mv (.t 9), none⟩]) <|
 .seq (.seq (.reg [
 ⟨some 10, .mv (.k (.int .i64 0)), none⟩]) <|
 .block 0 <|
 l91_0) <|
 .seq (.reg [
 ⟨some 21, .mv (.t 0), none⟩,
 ⟨some 4, .mv (.t 21), none⟩]) <|
 .ret⟩

def f92 : DFn := ⟨2, [.t 4],
 .seq (.reg [
 ⟨some 4, .mv (.k (.bool false)), none⟩]) <|
 .seq (.seq (.reg [
 ⟨some 5, .mv (.t 0), none⟩,
 ⟨some 6, .bin .eql .np (.t 5) (.k (.nilp)), none⟩,
 ⟨some 7, .mv (.t 6), none⟩,
 ⟨some 8, .mv (.t 0), some (7, false)⟩,
 ⟨some 9, .nilck (.t 8), some (7, false)⟩,
 ⟨some 10, .fld 0 (.t 9), some (7, false)⟩,
 ⟨some 11, .ld 1 false (.t 10), some (7, false)⟩,
 ⟨some 12, .len (.t 11), some (7, false)⟩,
 ⟨some 13, .bin .geq .sc (.t 12) (.k (.int .i64 100)), some (7, false)⟩,
 ⟨some 14, .pick (.t 7) (.k (.bool true)) (.t 13), none⟩]) <|
 .cond (.t 14)
 (.seq (.reg [
 ⟨some 4, .mv (.k (.bool false)), none⟩]) <|
 .ret)
 (.skip)) <|
 .seq (.reg [
 ⟨some 15, .mv (.t 0), none⟩,
 ⟨some 16, .mv (.t 0), none⟩,
 ⟨some 17, .nilck (.t 16), none⟩,
 ⟨some 18, .fld 0 (.t 17), none⟩,
 ⟨some 19, .ld 1 false (.t 18), none⟩,
 ⟨some 20, .mv (.t 1), none⟩,
 ⟨some 21, .bsl false 1 [.nili] 1 [(0, (.t 20))], none⟩,
 ⟨some 22, .app 1 16 (.t 19) (.t 21), none⟩,
 ⟨some 23, .nilck (.t 15), none⟩,
 ⟨some 24, .fld 0 (.t 23), none⟩,
 ⟨none, .st 1 (.t 24) (.t 22), none⟩]) <|
 .seq (.reg [
 ⟨some 4, .mv (.k (.bool true)), none⟩]) <|
 .ret⟩

def f93 : DFn := ⟨1, [.t 2],
 .seq (.reg [
 ⟨some 2, .mv (.k (.int .i64 0)), none⟩]) <|
 .seq (.seq (.reg [
 ⟨some 3, .mv (.t 0), none⟩]) <|
 .cond (.t 3)
 (.seq (.reg [
 ⟨some 2, .mv (.k (.int .i64 1)), none⟩]) <|
 .ret)
 (.skip)) <|
 .seq (.reg [
 ⟨some 2, .mv (.k (.int .i64 0)), none⟩]) <|
 .ret⟩

def l101_0b : DC :=
 .seq (.seq (.reg [
 ⟨some 6, .mv (.t 4), none⟩,
 ⟨some 7, .ld 1 false (.t 1), none⟩,
 ⟨some 8, .len (.t 7), none⟩,
 ⟨some 9, .bin .lss .sc (.t 6) (.t 8), none⟩]) <|
 .cond (.t 9)
 (.skip)
 (.exit 0)) <|
 .seq (.block 1 <|
 .seq (.drw [
 ⟨some 13, .ld 1 false (.t 2), none⟩,
 ⟨some 14, .ld 1 false (.t 1), none⟩,
 ⟨some 15, .mv (.t 4), none⟩,
 ⟨some 16, .slc 1 (.t 14) (some (.t 15)) none none, none⟩,
 ⟨some 17, .len (.t 16), none⟩,
 ⟨some 18, .mn (.t 13) (.t 17), none⟩,
 ⟨some 5, .mv (.t 18), none⟩] [[], [], [], [], [], [], []]) <|
 .seq (.reg [
 ⟨some 19, .mv (.t 0), none⟩,
 ⟨some 20, .ld 1 false (.t 1), none⟩,
 ⟨some 21, .mv (.t 4), none⟩,
 ⟨some 22, .mv (.t 4), none⟩,
 ⟨some 23, .mv (.t 5), none⟩,
 ⟨some 24, .bin .add .sc (.t 22) (.t 23), none⟩,
 ⟨some 25, .mv (.t 4), none⟩,
 ⟨some 26, .mv (.t 5), none⟩,
 ⟨some 27, .bin .add .sc (.t 25) (.t 26), none⟩,
 ⟨some 28, .slc 1 (.t 20) (some (.t 21)) (some (.t 24)) (some (.t 27)), none⟩,
 ⟨some 29, .calld .ro (.t 19) [(.t 28)], none⟩,
 ⟨some 30, .un .not (.t 29), none⟩]) <|
 .cond (.t 30)
 (.ret)
 (.skip)) <|
 .reg [
 ⟨some 10, .mv (.t 4), none⟩,
 ⟨some 11, .ld 1 false (.t 2), none⟩,
 ⟨some 12, .bin .add .sc (.t 10) (.t 11), none⟩,
 ⟨some 4, .mv (.t 12), none⟩]
def l101_0 : DC := .loop [0, 1, 2, 4] [] l101_0b
def f101 : DFn := ⟨3, [],
 .seq (.reg [
 ⟨some 4, .mv (.k (.int .i64 0)), none⟩]) <|
 .block 0 <|
 l101_0⟩

def l102_0b : DC :=
 .seq (.reg [
 ⟨some 9, .bin .lss .sc (.t 8) (.t 7), none⟩]) <|
 .seq (.cond (.t 9)
 (.skip)
 (.exit 0)) <|
 .seq (.block 1 <|
 .seq (.reg [
 ⟨some 10, .mv (.t 8), none⟩,
 ⟨some 5, .mv (.t 10), none⟩]) <|
 .seq (.reg [
 ⟨some 11, .mv (.t 1), none⟩,
 ⟨some 12, .mv (.t 0), none⟩,
 ⟨some 13, .mv (.t 5), none⟩,
 ⟨some 14, .idx 1 (.t 12) (.t 13), none⟩,
 ⟨some 15, .ld 1 false (.t 14), none⟩,
 ⟨some 16, .calld .ro (.t 11) [(.t 15)], none⟩]) <|
 .cond (.t 16)
 (.seq (.reg [
 ⟨some 17, .mv (.t 5), none⟩,
 ⟨some 4, .mv (.t 17), none⟩]) <|
 .ret)
 (.skip)) <|
 .reg [
 ⟨some 18, .bin .add .sc (.t 8) (.k (.int .i64 1)), none⟩,
 ⟨some 8, .mv (.t 18), none⟩]
def l102_0 : DC := .loop [0, 1, 7, 8] [] l102_0b
def f102 : DFn := ⟨2, [.t 4],
 .seq (.reg [
 ⟨some 4, .mv (.k (.int .i64 0)), none⟩]) <|
 .seq (.seq (.reg [
 ⟨some 6, .mv (.t 0), none⟩,
 ⟨some 7, .len (.t 6), none⟩,
 ⟨some 8, .mv (.k (.int .i64 0)), none⟩]) <|
 .block 0 <|
 l102_0) <|
 .seq (.reg [
 ⟨some 4, .mv (.k (.int .i64 (-1))), none⟩]) <|
 .ret⟩

def l103_0b : DC :=
 .seq (.reg [
 ⟨some 9, .bin .lss .sc (.t 8) (.t 7), none⟩]) <|
 .seq (.cond (.t 9)
 (.skip)
 (.exit 0)) <|
 .seq (.block 1 <|
 .seq (.reg [
 ⟨some 10, .mv (.t 8), none⟩,
 ⟨some 5, .mv (.t 10), none⟩]) <|
 .seq (.reg [
 ⟨some 11, .mv (.t 1), none⟩,
 ⟨some 12, .mv (.t 0), none⟩,
 ⟨some 13, .mv (.t 5), none⟩,
 ⟨some 14, .idx 1 (.t 12) (.t 13), none⟩,
 ⟨some 15, .ld 1 false (.t 14), none⟩,
 ⟨some 16, .bin .eql .sc (.t 11) (.t 15), none⟩]) <|
 .cond (.t 16)
 (.seq (.reg [
 ⟨some 17, .mv (.t 5), none⟩,
 ⟨some 4, .mv (.t 17), none⟩]) <|
 .ret)
 (.skip)) <|
 .reg [
 ⟨some 18, .bin .add .sc (.t 8) (.k (.int .i64 1)), none⟩,
 ⟨some 8, .mv (.t 18), none⟩]
def l103_0 : DC := .loop [0, 1, 7, 8] [] l103_0b
def f103 : DFn := ⟨2, [.t 4],
 .seq (.reg [
 ⟨some 4, .mv (.k (.int .i64 0)), none⟩]) <|
 .seq (.seq (.reg [
 ⟨some 6, .mv (.t 0), none⟩,
 ⟨some 7, .len (.t 6), none⟩,
 ⟨some 8, .mv (.k (.int .i64 0)), none⟩]) <|
 .block 0 <|
 l103_0) <|
 .seq (.reg [
 ⟨some 4, .mv (.k (.int .i64 (-1))), none⟩]) <|
 .ret⟩

def l104_0b : DC :=
 .seq (.reg [
 ⟨some 9, .bin .lss .sc (.t 8) (.t 7), none⟩]) <|
 .seq (.cond (.t 9)
 (.skip)
 (.exit 0)) <|
 .seq (.block 1 <|
 .seq (.reg [
 ⟨some 10, .mv (.t 8), none⟩,
 ⟨some 5, .mv (.t 10), none⟩]) <|
 .seq (.reg [
 ⟨some 11, .mv (.t 1), none⟩,
 ⟨some 12, .mv (.t 0), none⟩,
 ⟨some 13, .mv (.t 5), none⟩,
 ⟨some 14, .idx 2 (.t 12) (.t 13), none⟩,
 ⟨some 15, .ld 2 true (.t 14), none⟩,
 ⟨some 16, .calld .ro (.t 11) [(.t 15)], none⟩]) <|
 .cond (.t 16)
 (.seq (.reg [
 ⟨some 17, .mv (.t 5), none⟩,
 ⟨some 4, .mv (.t 17), none⟩]) <|
 .ret)
 (.skip)) <|
 .reg [
 ⟨some 18, .bin .add .sc (.t 8) (.k (.int .i64 1)), none⟩,
 ⟨some 8, .mv (.t 18), none⟩]
def l104_0 : DC := .loop [0, 1, 7, 8] [] l104_0b
def f104 : DFn := ⟨2, [.t 4],
 .seq (.reg [
 ⟨some 4, .mv (.k (.int .i64 0)), none⟩]) <|
 .seq (.seq (.reg [
 ⟨some 6, .mv (.t 0), none⟩,
 ⟨some 7, .len (.t 6), none⟩,
 ⟨some 8, .mv (.k (.int .i64 0)), none⟩]) <|
 .block 0 <|
 l104_0) <|
 .seq (.reg [
 ⟨some 4, .mv (.k (.int .i64 (-1))), none⟩]) <|
 .ret⟩

def l105_1b : DC :=
 .seq (.reg [
 ⟨some 28, .bin .lss .sc (.t 27) (.t 26), none⟩]) <|
 .seq (.cond (.t 28)
 (.skip)
 (.exit 2)) <|
 .seq (.block 3 <|
 .seq (.reg [
 ⟨some 29, .idx 1 (.t 25) (.t 27), none⟩,
 ⟨some 30, .ld 1 false (.t 29), none⟩,
 ⟨some 8, .mv (.t 30), none⟩]) <|
 .reg [
 ⟨some 31, .mv (.t 6), none⟩,
 ⟨some 32, .mv (.t 8), none⟩,
 ⟨some 33, .app 2 16 (.t 31) (.t 32), none⟩,
 ⟨some 6, .mv (.t 33), none⟩]) <|
 .reg [
 ⟨some 34, .bin .add .sc (.t 27) (.k (.int .i64 1)), none⟩,
 ⟨some 27, .mv (.t 34), none⟩]
def l105_1 : DC := .loop [6, 25, 26, 27] [] l105_1b
def l105_0b : DC :=
 .seq (.reg [
 ⟨some 12, .bin .lss .sc (.t 11) (.t 10), none⟩]) <|
 .seq (.cond (.t 12)
 (.skip)
 (.exit 0)) <|
 .seq (.block 1 <|
 .seq (.reg [
 ⟨some 13, .idx 1 (.t 9) (.t 11), none⟩,
 ⟨some 14, .ld 1 false (.t 13), none⟩,
 ⟨some 5, .mv (.t 14), none⟩]) <|
 .seq (.reg [
 ⟨some 15, .mv (.t 3), none⟩,
 ⟨some 16, .mv (.t 5), none⟩,
 ⟨some 17, .len (.t 16), none⟩,
 ⟨some 18, .bin .add .sc (.t 15) (.t 17), none⟩,
 ⟨some 3, .mv (.t 18), none⟩]) <|
 .seq (.reg [
 ⟨some 19, .mv (.t 3), none⟩,
 ⟨some 20, .bin .lss .sc (.t 19) (.k (.int .i64 0)), none⟩]) <|
 .cond (.t 20)
 (.reg [
 ⟨some 21, .mkI 9 (.k (.str [108, 101, 110, 32, 111, 117, 116, 32, 111, 102, 32, 114, 97, 110, 103, 101])), none⟩,
 ⟨none, .nilck (.k .nilp), none⟩])
 (.skip)) <|
 .reg [
 ⟨some 22, .bin .add .sc (.t 11) (.k (.int .i64 1)), none⟩,
 ⟨some 11, .mv (.t 22), none⟩]
def l105_0 : DC := .loop [0, 3, 9, 10, 11] [] l105_0b
def f105 : DFn := ⟨1, [.t 2],
 .seq (.reg [
 ⟨some 2, .mv (.k (.nils)), none⟩]) <|
 .seq (.reg [
 ⟨some 3, .mv (.k (.int .i64 0)), none⟩]) <|
 .seq (.seq (.reg [
 ⟨some 9, .mv (.t 0), none⟩,
 ⟨some 10, .len (.t 9), none⟩,
 ⟨some 11, .mv (.k (.int .i64 0)), none⟩]) <|
 .block 0 <|
 l105_0) <|
 .seq (.reg [
 ⟨some 23, .mv (.t 3), none⟩,
 ⟨some 24, .call .eff 120 [(.k (.nils)), (.t 23)], none⟩,
 ⟨some 6, .mv (.t 24), none⟩]) <|
 .seq (.seq (.reg [
 ⟨some 25, .mv (.t 0), none⟩,
 ⟨some 26, .len (.t 25), none⟩,
 ⟨some 27, .mv (.k (.int .i64 0)), none⟩]) <|
 .block 2 <|
 l105_1) <|
 .seq (.reg [
 ⟨some 35, .mv (.t 6), none⟩,
 ⟨some 2, .mv (.t 35), none⟩]) <|
 .ret⟩

def l106_0b : DC :=
 .seq (.reg [
 ⟨some 9, .bin .lss .sc (.t 8) (.t 7), none⟩]) <|
 .seq (.cond (.t 9)
 (.skip)
 (.exit 0)) <|
 .seq (.block 1 <|
 .seq (.reg [
 ⟨some 10, .mv (.t 8), none⟩,
 ⟨some 5, .mv (.t 10), none⟩]) <|
 .seq (.drw [
 ⟨some 11, .ld 2 true (.t 3), none⟩,
 ⟨some 12, .mv (.t 0), none⟩,
 ⟨some 13, .mv (.t 5), none⟩,
 ⟨some 14, .idx 2 (.t 12) (.t 13), none⟩,
 ⟨some 15, .ld 2 true (.t 14), none⟩,
 ⟨some 16, .bin .eql (.st [.i, .b]) (.t 11) (.t 15), none⟩] [[], [], [], [], [3], []]) <|
 .cond (.t 16)
 (.seq (.reg [
 ⟨some 17, .mv (.t 5), none⟩,
 ⟨some 4, .mv (.t 17), none⟩]) <|
 .ret)
 (.skip)) <|
 .reg [
 ⟨some 18, .bin .add .sc (.t 8) (.k (.int .i64 1)), none⟩,
 ⟨some 8, .mv (.t 18), none⟩]
def l106_0 : DC := .loop [0, 3, 7, 8] [3] l106_0b
def f106 : DFn := ⟨2, [.t 4],
 .seq (.reg [
 ⟨some 3, .boxL (.t 1), none⟩,
 ⟨some 4, .mv (.k (.int .i64 0)), none⟩]) <|
 .seq (.seq (.reg [
 ⟨some 6, .mv (.t 0), none⟩,
 ⟨some 7, .len (.t 6), none⟩,
 ⟨some 8, .mv (.k (.int .i64 0)), none⟩]) <|
 .block 0 <|
 l106_0) <|
 .seq (.reg [
 ⟨some 4, .mv (.k (.int .i64 (-1))), none⟩]) <|
 .ret⟩

def l107_0b : DC :=
 .seq (.reg [
 ⟨some 10, .bin .lss .sc (.t 9) (.t 8), none⟩]) <|
 .seq (.cond (.t 10)
 (.skip)
 (.exit 0)) <|
 .seq (.block 1 <|
 .seq (.reg [
 ⟨some 11, .mv (.t 9), none⟩,
 ⟨some 12, .idx 1 (.t 7) (.t 9), none⟩,
 ⟨some 13, .ld 1 false (.t 12), none⟩,
 ⟨some 5, .mv (.t 11), none⟩,
 ⟨some 6, .mv (.t 13), none⟩]) <|
 .seq (.reg [
 ⟨some 14, .mv (.t 6), none⟩,
 ⟨some 15, .fld 0 (.t 2), none⟩,
 ⟨some 16, .ld 1 false (.t 15), none⟩,
 ⟨some 17, .len (.t 16), none⟩,
 ⟨some 18, .bin .sub .sc (.t 17) (.k (.int .i64 1)), none⟩,
 ⟨some 19, .call .blind 81 [(.t 14), (.k (.int .i64 0)), (.t 18)], none⟩,
 ⟨some 20, .un .not (.t 19), none⟩,
 ⟨some 21, .mv (.t 20), none⟩,
 ⟨some 22, .mv (.t 1), some (21, false)⟩,
 ⟨some 23, .mv (.t 5), some (21, false)⟩,
 ⟨some 24, .slc 1 (.t 22) none (some (.t 23)) none, some (21, false)⟩,
 ⟨some 25, .mv (.t 6), some (21, false)⟩,
 ⟨some 26, .call .blind 76 [(.t 24), (.t 25)], some (21, false)⟩,
 ⟨some 27, .pick (.t 21) (.k (.bool true)) (.t 26), none⟩]) <|
 .cond (.t 27)
 (.seq (.reg [
 ⟨some 4, .mv (.k (.bool false)), none⟩]) <|
 .ret)
 (.skip)) <|
 .reg [
 ⟨some 28, .bin .add .sc (.t 9) (.k (.int .i64 1)), none⟩,
 ⟨some 9, .mv (.t 28), none⟩]
def l107_0 : DC := .loop [1, 2, 7, 8, 9] [2] l107_0b
def f107 : DFn := ⟨2, [.t 4],
 .seq (.reg [
 ⟨some 2, .boxL (.t 0), none⟩,
 ⟨some 4, .mv (.k (.bool false)), none⟩]) <|
 .seq (.seq (.reg [
 ⟨some 7, .mv (.t 1), none⟩,
 ⟨some 8, .len (.t 7), none⟩,
 ⟨some 9, .mv (.k (.int .i64 0)), none⟩]) <|
 .block 0 <|
 l107_0) <|
 .seq (.reg [
 ⟨some 29, .mv (.t 1), none⟩,
 ⟨some 30, .len (.t 29), none⟩,
 ⟨some 31, .call .blind 81 [(.t 30), (.k (.int .i64 1)), (.k (.int .i64 5))], none⟩,
 ⟨some 4, .mv (.t 31), none⟩]) <|
 .ret⟩

def l108_0b : DC :=
 .seq (.reg [
 ⟨some 14, .bin .lss .sc (.t 13) (.t 12), none⟩]) <|
 .seq (.cond (.t 14)
 (.skip)
 (.exit 0)) <|
 .seq (.block 1 <|
 .seq (.reg [
 ⟨some 15, .mv (.t 13), none⟩,
 ⟨some 16, .idx 2 (.t 11) (.t 13), none⟩,
 ⟨some 17, .ld 2 true (.t 16), none⟩,
 ⟨some 10, .alL [.int .i64 0, .bool false], none⟩,
 ⟨some 9, .mv (.t 15), none⟩,
 ⟨none, .st 2 (.t 10) (.t 17), none⟩]) <|
 .seq (.drw [
 ⟨some 18, .fld 0 (.t 10), none⟩,
 ⟨some 19, .ld 1 false (.t 18), none⟩,
 ⟨some 20, .fld 1 (.t 4), none⟩,
 ⟨some 21, .ld 1 false (.t 20), none⟩,
 ⟨some 22, .len (.t 21), none⟩,
 ⟨some 23, .bin .sub .sc (.t 22) (.k (.int .i64 1)), none⟩,
 ⟨some 24, .call .blind 81 [(.t 19), (.k (.int .i64 0)), (.t 23)], none⟩,
 ⟨some 25, .un .not (.t 24), none⟩,
 ⟨some 26, .mv (.t 25), none⟩,
 ⟨some 27, .mv (.t 9), some (26, false)⟩,
 ⟨some 28, .bin .gtr .sc (.t 27) (.k (.int .i64 0)), some (26, false)⟩,
 ⟨some 29, .mv (.t 28), some (26, false)⟩,
 ⟨some 30, .mv (.t 1), some (29, true)⟩,
 ⟨some 31, .mv (.t 9), some (29, true)⟩,
 ⟨some 32, .bin .sub .sc (.t 31) (.k (.int .i64 1)), some (29, true)⟩,
 ⟨some 33, .idx 2 (.t 30) (.t 32), some (29, true)⟩,
 ⟨some 34, .fld 0 (.t 33), some (29, true)⟩,
 ⟨some 35, .ld 1 false (.t 34), some (29, true)⟩,
 ⟨some 36, .fld 0 (.t 10), some (29, true)⟩,
 ⟨some 37, .ld 1 false (.t 36), some (29, true)⟩,
 ⟨some 38, .bin .geq .sc (.t 35) (.t 37), some (29, true)⟩,
 ⟨some 39, .pick (.t 29) (.t 38) (.k (.bool false)), some (26, false)⟩,
 ⟨some 40, .pick (.t 26) (.k (.bool true)) (.t 39), none⟩,
 ⟨some 41, .mv (.t 40), none⟩,
 ⟨some 42, .mv (.t 2), some (41, false)⟩,
 ⟨some 43, .fld 1 (.t 4), some (41, false)⟩,
 ⟨some 44, .ld 1 false (.t 43), some (41, false)⟩,
 ⟨some 45, .fld 0 (.t 10), some (41, false)⟩,
 ⟨some 46, .ld 1 false (.t 45), some (41, false)⟩,
 ⟨some 47, .idx 2 (.t 44) (.t 46), some (41, false)⟩,
 ⟨some 48, .fld 1 (.t 47), some (41, false)⟩,
 ⟨some 49, .ld 1 false (.t 48), some (41, false)⟩,
 ⟨some 50, .call .blind 76 [(.t 42), (.t 49)], some (41, false)⟩,
 ⟨some 51, .mv (.t 3), some (41, false)⟩,
 ⟨some 52, .bin .neq .bl (.t 50) (.t 51), some (41, false)⟩,
 ⟨some 53, .pick (.t 41) (.k (.bool true)) (.t 52), none⟩] [[], [], [], [], [], [], [1, 3], [], [], [], [], [], [], [], [], [1, 3, 6], [], [1, 3, 6, 15], [], [1, 3, 6], [], [], [], [], [], [], [1, 3, 6, 15, 17, 19], [], [1, 3, 6, 15, 17, 19], [1, 3, 6, 15, 17, 19, 26, 28], [], [1, 3, 6, 15, 17, 19, 26, 28, 29], [1, 3, 6, 15, 17, 19, 26, 28, 29, 31], [], [], []]) <|
 .cond (.t 53)
 (.seq (.reg [
 ⟨some 8, .mv (.k (.bool false)), none⟩]) <|
 .ret)
 (.skip)) <|
 .reg [
 ⟨some 54, .bin .add .sc (.t 13) (.k (.int .i64 1)), none⟩,
 ⟨some 13, .mv (.t 54), none⟩]
def l108_0 : DC := .loop [1, 2, 3, 4, 11, 12, 13] [4] l108_0b
def f108 : DFn := ⟨4, [.t 8],
 .seq (.reg [
 ⟨some 4, .boxL (.t 0), none⟩,
 ⟨some 8, .mv (.k (.bool false)), none⟩]) <|
 .seq (.seq (.reg [
 ⟨some 11, .mv (.t 1), none⟩,
 ⟨some 12, .len (.t 11), none⟩,
 ⟨some 13, .mv (.k (.int .i64 0)), none⟩]) <|
 .block 0 <|
 l108_0) <|
 .seq (.reg [
 ⟨some 8, .mv (.k (.bool true)), none⟩]) <|
 .ret⟩

def l109_0b : DC :=
 .seq (.reg [
 ⟨some 9, .nxt 8, none⟩,
 ⟨some 10, .ext 0 (.t 9), none⟩]) <|
 .seq (.cond (.t 10)
 (.skip)
 (.exit 0)) <|
 .block 1 <|
 .seq (.reg [
 ⟨some 11, .ext 1 (.t 9), none⟩,
 ⟨some 12, .ext 2 (.t 9), none⟩,
 ⟨some 4, .mv (.t 11), none⟩,
 ⟨some 5, .mv (.t 12), none⟩]) <|
 .seq (.reg [
 ⟨some 13, .mv (.t 5), none⟩,
 ⟨some 14, .bin .geq .sc (.t 13) (.k (.int .i32 48)), none⟩,
 ⟨some 15, .mv (.t 14), none⟩,
 ⟨some 16, .mv (.t 5), some (15, true)⟩,
 ⟨some 17, .bin .leq .sc (.t 16) (.k (.int .i32 57)), some (15, true)⟩,
 ⟨some 18, .pick (.t 15) (.t 17) (.k (.bool false)), none⟩,
 ⟨some 19, .mv (.t 18), none⟩,
 ⟨some 20, .mv (.t 4), some (19, true)⟩,
 ⟨some 21, .bin .gtr .sc (.t 20) (.k (.int .i64 0)), some (19, true)⟩,
 ⟨some 22, .pick (.t 19) (.t 21) (.k (.bool false)), none⟩,
 ⟨some 6, .mv (.t 22), none⟩]) <|
 .seq (.seq (.reg [
 ⟨some 23, .mv (.t 0), none⟩,
 ⟨some 24, .mv (.t 4), none⟩,
 ⟨some 25, .call .blind 121 [(.t 23), (.t 24)], none⟩,
 ⟨some 26, .mv (.t 25), none⟩,
 ⟨some 27, .mv (.t 5), some (26, false)⟩,
 ⟨some 28, .call .blind 122 [(.t 27)], some (26, false)⟩,
 ⟨some 29, .un .not (.t 28), some (26, false)⟩,
 ⟨some 30, .mv (.t 29), some (26, false)⟩,
 ⟨some 31, .mv (.t 6), some (30, true)⟩,
 ⟨some 32, .un .not (.t 31), some (30, true)⟩,
 ⟨some 33, .pick (.t 30) (.t 32) (.k (.bool false)), some (26, false)⟩,
 ⟨some 34, .pick (.t 26) (.k (.bool true)) (.t 33), none⟩]) <|
 .cond (.t 34)
 (.seq (.reg [
 ⟨some 2, .mv (.k (.bool false)), none⟩]) <|
 .ret)
 (.skip)) <|
 .reg [
 ⟨some 35, .mv (.t 3), none⟩,
 ⟨some 36, .bin .add .sc (.t 35) (.k (.int .i64 1)), none⟩,
 ⟨some 3, .mv (.t 36), none⟩]
def l109_0 : DC := .loop [0, 3, 8] [8] l109_0b
def f109 : DFn := ⟨1, [.t 2],
 .seq (.reg [
 ⟨some 2, .mv (.k (.bool false)), none⟩]) <|
 .seq (.reg [
 ⟨some 3, .mv (.k (.int .i64 0)), none⟩]) <|
 .seq (.seq (.reg [
 ⟨some 7, .mv (.t 0), none⟩,
 ⟨some 8, .rng (.t 7), none⟩]) <|
 .block 0 <|
 l109_0) <|
 .seq (.reg [
 ⟨some 37, .mv (.t 3), none⟩,
 ⟨some 38, .bin .geq .sc (.t 37) (.k (.int .i64 1)), none⟩,
 ⟨some 39, .mv (.t 38), none⟩,
 ⟨some 40, .mv (.t 3), some (39, true)⟩,
 ⟨some 41, .bin .leq .sc (.t 40) (.k (.int .i64 8)), some (39, true)⟩,
 ⟨some 42, .pick (.t 39) (.t 41) (.k (.bool false)), none⟩,
 ⟨some 2, .mv (.t 42), none⟩]) <|
 .ret⟩

def f110 : DFn := ⟨2, [.t 4],
 .seq (.reg [
 ⟨some 4, .mv (.k (.bool false)), none⟩]) <|
 .seq (.reg [
 ⟨some 5, .mv (.t 0), none⟩,
 ⟨some 6, .mv (.t 1), none⟩,
 ⟨some 7, .call .blind 123 [(.t 5), (.t 6)], none⟩,
 ⟨some 8, .bin .geq .sc (.t 7) (.k (.int .i64 0)), none⟩,
 ⟨some 4, .mv (.t 8), none⟩]) <|
 .ret⟩

def f120 : DFn := ⟨2, [.t 4],
 .seq (.reg [
 ⟨some 4, .mv (.k (.nils)), none⟩]) <|
 .seq (.seq (.reg [
 ⟨some 5, .mv (.t 1), none⟩,
 ⟨some 6, .bin .lss .sc (.t 5) (.k (.int .i64 0)), none⟩]) <|
 .cond (.t 6)
 (.reg [
 ⟨some 7, .mkI 9 (.k (.str [99, 97, 110, 110, 111, 116, 32, 98, 101, 32, 110, 101, 103, 97, 116, 105, 118, 101])), none⟩,
 ⟨none, .nilck (.k .nilp), none⟩])
 (.skip)) <|
 .seq (.seq (.reg [
 ⟨some 8, .mv (.t 1), none⟩,
 ⟨some 9, .mv (.t 0), none⟩,
 ⟨some 10, .cap (.t 9), none⟩,
 ⟨some 11, .mv (.t 0), none⟩,
 ⟨some 12, .len (.t 11), none⟩,
 ⟨some 13, .bin .sub .sc (.t 10) (.t 12), none⟩,
 ⟨some 14, .bin .sub .sc (.t 8) (.t 13), none⟩,
 ⟨some 1, .mv (.t 14), none⟩]) <|
 .seq (.reg [
 ⟨some 15, .mv (.t 1), none⟩,
 ⟨some 16, .bin .gtr .sc (.t 15) (.k (.int .i64 0)), none⟩]) <|
 .cond (.t 16)
 (.reg [
 ⟨some 17, .mv (.t 0), none⟩,
 ⟨some 18, .mv (.t 0), none⟩,
 ⟨some 19, .cap (.t 18), none⟩,
 ⟨some 20, .slc 2 (.t 17) none (some (.t 19)) none, none⟩,
 ⟨some 21, .mv (.t 1), none⟩,
 ⟨some 22, .appZ 2 16 [.int .i64 0, .bool false] (.t 20) (.t 21), none⟩,
 ⟨some 23, .mv (.t 0), none⟩,
 ⟨some 24, .len (.t 23), none⟩,
 ⟨some 25, .slc 2 (.t 22) none (some (.t 24)) none, none⟩,
 ⟨some 0, .mv (.t 25), none⟩])
 (.skip)) <|
 .seq (.reg [
 ⟨some 26, .mv (.t 0), none⟩,
 ⟨some 4, .mv (.t 26), none⟩]) <|
 .ret⟩

def f121 : DFn := ⟨2, [.t 4],
 .seq (.reg [
 ⟨some 4, .mv (.k (.bool false)), none⟩]) <|
 .seq (.reg [
 ⟨some 8, .mv (.t 0), none⟩,
 ⟨some 9, .mv (.t 1), none⟩,
 ⟨some 10, .slS (.t 8) (some (.t 9)) none, none⟩,
 ⟨some 11, .call .blind 125 [(.t 10)], none⟩,
 ⟨some 7, .mv (.t 11), none⟩,
 ⟨some 12, .ext 0 (.t 7), none⟩,
 ⟨some 13, .ext 1 (.t 7), none⟩,
 ⟨some 5, .mv (.t 12), none⟩,
 ⟨some 6, .mv (.t 13), none⟩]) <|
 .seq (.reg [
 ⟨some 14, .mv (.t 5), none⟩,
 ⟨some 15, .bin .eql .sc (.t 14) (.k (.int .i32 65533)), none⟩,
 ⟨some 16, .mv (.t 15), none⟩,
 ⟨some 17, .mv (.t 6), some (16, true)⟩,
 ⟨some 18, .bin .eql .sc (.t 17) (.k (.int .i64 1)), some (16, true)⟩,
 ⟨some 19, .pick (.t 16) (.t 18) (.k (.bool false)), none⟩,
 ⟨some 4, .mv (.t 19), none⟩]) <|
 .ret⟩

def f122 : DFn := ⟨1, [.t 2],
 .seq (.reg [
 ⟨some 2, .mv (.k (.bool false)), none⟩]) <|
 .seq (.block 0 <|
 .seq (.seq (.reg [
 ⟨some 4, .mv (.t 0), none⟩,
 ⟨some 5, .bin .geq .sc (.t 4) (.k (.int .i32 97)), none⟩,
 ⟨some 6, .mv (.t 5), none⟩,
 ⟨some 7, .mv (.t 0), some (6, true)⟩,
 ⟨some 8, .bin .leq .sc (.t 7) (.k (.int .i32 122)), some (6, true)⟩,
 ⟨some 9, .pick (.t 6) (.t 8) (.k (.bool false)), none⟩,
 ⟨some 3, .mv (.t 9), none⟩]) <|
 .cond (.t 3)
 (.skip)
 (.reg [
 ⟨some 10, .mv (.t 0), none⟩,
 ⟨some 11, .bin .geq .sc (.t 10) (.k (.int .i32 65)), none⟩,
 ⟨some 12, .mv (.t 11), none⟩,
 ⟨some 13, .mv (.t 0), some (12, true)⟩,
 ⟨some 14, .bin .leq .sc (.t 13) (.k (.int .i32 90)), some (12, true)⟩,
 ⟨some 15, .pick (.t 12) (.t 14) (.k (.bool false)), none⟩,
 ⟨some 3, .mv (.t 15), none⟩])) <|
 .cond (.t 3)
 (.seq (.reg [
 ⟨some 2, .mv (.k (.bool true)), none⟩]) <|
 .ret)
 (.skip)) <|
 .seq (.reg [
 ⟨some 16, .mv (.t 0), none⟩,
 ⟨some 17, .bin .geq .sc (.t 16) (.k (.int .i32 192)), none⟩,
 ⟨some 18, .mv (.t 17), none⟩,
 ⟨some 19, .mv (.t 0), some (18, true)⟩,
 ⟨some 20, .bin .leq .sc (.t 19) (.k (.int .i32 591)), some (18, true)⟩,
 ⟨some 21, .pick (.t 18) (.t 20) (.k (.bool false)), none⟩,
 ⟨some 22, .mv (.t 21), none⟩,
 ⟨some 23, .mv (.t 0), some (22, true)⟩,
 ⟨some 24, .bin .neq .sc (.t 23) (.k (.int .i32 215)), some (22, true)⟩,
 ⟨some 25, .pick (.t 22) (.t 24) (.k (.bool false)), none⟩,
 ⟨some 26, .mv (.t 25), none⟩,
 ⟨some 27, .mv (.t 0), some (26, true)⟩,
 ⟨some 28, .bin .neq .sc (.t 27) (.k (.int .i32 247)), some (26, true)⟩,
 ⟨some 29, .pick (.t 26) (.t 28) (.k (.bool false)), none⟩,
 ⟨some 2, .mv (.t 29), none⟩]) <|
 .ret⟩

def l123_0b : DC :=
 .seq (.reg [
 ⟨some 9, .bin .lss .sc (.t 8) (.t 7), none⟩]) <|
 .seq (.cond (.t 9)
 (.skip)
 (.exit 0)) <|
 .seq (.block 1 <|
 .seq (.reg [
 ⟨some 10, .mv (.t 8), none⟩,
 ⟨some 5, .mv (.t 10), none⟩]) <|
 .seq (.reg [
 ⟨some 11, .mv (.t 1), none⟩,
 ⟨some 12, .mv (.t 0), none⟩,
 ⟨some 13, .mv (.t 5), none⟩,
 ⟨some 14, .idx 1 (.t 12) (.t 13), none⟩,
 ⟨some 15, .ld 1 false (.t 14), none⟩,
 ⟨some 16, .bin .eql .sc (.t 11) (.t 15), none⟩]) <|
 .cond (.t 16)
 (.seq (.reg [
 ⟨some 17, .mv (.t 5), none⟩,
 ⟨some 4, .mv (.t 17), none⟩]) <|
 .ret)
 (.skip)) <|
 .reg [
 ⟨some 18, .bin .add .sc (.t 8) (.k (.int .i64 1)), none⟩,
 ⟨some 8, .mv (.t 18), none⟩]
def l123_0 : DC := .loop [0, 1, 7, 8] [] l123_0b
def f123 : DFn := ⟨2, [.t 4],
 .seq (.reg [
 ⟨some 4, .mv (.k (.int .i64 0)), none⟩]) <|
 .seq (.seq (.reg [
 ⟨some 6, .mv (.t 0), none⟩,
 ⟨some 7, .len (.t 6), none⟩,
 ⟨some 8, .mv (.k (.int .i64 0)), none⟩]) <|
 .block 0 <|
 l123_0) <|
 .seq (.reg [
 ⟨some 4, .mv (.k (.int .i64 (-1))), none⟩]) <|
 .ret⟩

def f125 : DFn := ⟨1, [.t 2, .t 3],
 .seq (.reg [
 ⟨some 2, .mv (.k (.int .i32 0)), none⟩,
 ⟨some 3, .mv (.k (.int .i64 0)), none⟩]) <|
 .seq (.seq (.reg [
 ⟨some 4, .mv (.t 0), none⟩,
 ⟨some 5, .bin .neq .sc (.t 4) (.k (.str [])), none⟩,
 ⟨some 6, .mv (.t 5), none⟩,
 ⟨some 7, .mv (.t 0), some (6, true)⟩,
 ⟨some 8, .idxS (.t 7) (.k (.int .i64 0)), some (6, true)⟩,
 ⟨some 9, .bin .lss .sc (.t 8) (.k (.int .u8 128)), some (6, true)⟩,
 ⟨some 10, .pick (.t 6) (.t 9) (.k (.bool false)), none⟩]) <|
 .cond (.t 10)
 (.seq (.reg [
 ⟨some 11, .mv (.t 0), none⟩,
 ⟨some 12, .idxS (.t 11) (.k (.int .i64 0)), none⟩,
 ⟨some 13, .cvI .i32 (.t 12), none⟩,
 ⟨some 2, .mv (.t 13), none⟩,
 ⟨some 3, .mv (.k (.int .i64 1)), none⟩]) <|
 .ret)
 (.reg [
 ⟨some 15, .mv (.t 0), none⟩,
 ⟨some 16, .call .blind 126 [(.t 15)], none⟩,
 ⟨some 14, .mv (.t 16), none⟩,
 ⟨some 17, .ext 0 (.t 14), none⟩,
 ⟨some 18, .ext 1 (.t 14), none⟩,
 ⟨some 2, .mv (.t 17), none⟩,
 ⟨some 3, .mv (.t 18), none⟩])) <|
 .ret⟩

def f126 : DFn := ⟨1, [.t 2, .t 3],
 .seq (.reg [
 ⟨some 2, .mv (.k (.int .i32 0)), none⟩,
 ⟨some 3, .mv (.k (.int .i64 0)), none⟩]) <|
 .seq (.reg [
 ⟨some 13, .mv (.t 0), none⟩,
 ⟨some 14, .lenS (.t 13), none⟩,
 ⟨some 4, .mv (.t 14), none⟩]) <|
 .seq (.seq (.reg [
 ⟨some 15, .mv (.t 4), none⟩,
 ⟨some 16, .bin .lss .sc (.t 15) (.k (.int .i64 1)), none⟩]) <|
 .cond (.t 16)
 (.seq (.reg [
 ⟨some 2, .mv (.k (.int .i32 65533)), none⟩,
 ⟨some 3, .mv (.k (.int .i64 0)), none⟩]) <|
 .ret)
 (.skip)) <|
 .seq (.reg [
 ⟨some 17, .mv (.t 0), none⟩,
 ⟨some 18, .idxS (.t 17) (.k (.int .i64 0)), none⟩,
 ⟨some 5, .mv (.t 18), none⟩]) <|
 .seq (.reg [
 ⟨some 19, .mv (.t 5), none⟩,
 ⟨some 20, .idxA 1 256 (.g 0) (.t 19), none⟩,
 ⟨some 21, .ld 1 false (.t 20), none⟩,
 ⟨some 6, .mv (.t 21), none⟩]) <|
 .seq (.seq (.reg [
 ⟨some 22, .mv (.t 6), none⟩,
 ⟨some 23, .bin .geq .sc (.t 22) (.k (.int .u8 240)), none⟩]) <|
 .cond (.t 23)
 (.seq (.reg [
 ⟨some 24, .mv (.t 6), none⟩,
 ⟨some 25, .cvI .i32 (.t 24), none⟩,
 ⟨some 26, .bin .shl .sc (.t 25) (.k (.int .u64 31)), none⟩,
 ⟨some 27, .bin .shr .sc (.t 26) (.k (.int .u64 31)), none⟩,
 ⟨some 7, .mv (.t 27), none⟩]) <|
 .seq (.reg [
 ⟨some 28, .mv (.t 0), none⟩,
 ⟨some 29, .idxS (.t 28) (.k (.int .i64 0)), none⟩,
 ⟨some 30, .cvI .i32 (.t 29), none⟩,
 ⟨some 31, .mv (.t 7), none⟩,
 ⟨some 32, .bin .andNot .sc (.t 30) (.t 31), none⟩,
 ⟨some 33, .mv (.t 7), none⟩,
 ⟨some 34, .bin .and .sc (.k (.int .i32 65533)) (.t 33), none⟩,
 ⟨some 35, .bin .or .sc (.t 32) (.t 34), none⟩,
 ⟨some 2, .mv (.t 35), none⟩,
 ⟨some 3, .mv (.k (.int .i64 1)), none⟩]) <|
 .ret)
 (.skip)) <|
 .seq (.reg [
 ⟨some 36, .mv (.t 6), none⟩,
 ⟨some 37, .bin .and .sc (.t 36) (.k (.int .u8 7)), none⟩,
 ⟨some 38, .cvI .i64 (.t 37), none⟩,
 ⟨some 8, .mv (.t 38), none⟩]) <|
 .seq (.reg [
 ⟨some 39, .mv (.t 6), none⟩,
 ⟨some 40, .bin .shr .sc (.t 39) (.k (.int .u64 4)), none⟩,
 ⟨some 41, .idxA 2 16 (.g 1) (.t 40), none⟩,
 ⟨some 42, .ld 2 true (.t 41), none⟩,
 ⟨some 9, .alL [.int .u8 0, .int .u8 0], none⟩,
 ⟨none, .st 2 (.t 9) (.t 42), none⟩]) <|
 .seq (.seq (.reg [
 ⟨some 43, .mv (.t 4), none⟩,
 ⟨some 44, .mv (.t 8), none⟩,
 ⟨some 45, .bin .lss .sc (.t 43) (.t 44), none⟩]) <|
 .cond (.t 45)
 (.seq (.reg [
 ⟨some 2, .mv (.k (.int .i32 65533)), none⟩,
 ⟨some 3, .mv (.k (.int .i64 1)), none⟩]) <|
 .ret)
 (.skip)) <|
 .seq (.reg [
 ⟨some 46, .mv (.t 0), none⟩,
 ⟨some 47, .idxS (.t 46) (.k (.int .i64 1)), none⟩,
 ⟨some 10, .mv (.t 47), none⟩]) <|
 .seq (.seq (.reg [
 ⟨some 48, .mv (.t 10), none⟩,
 ⟨some 49, .fld 0 (.t 9), none⟩,
 ⟨some 50, .ld 1 false (.t 49), none⟩,
 ⟨some 51, .bin .lss .sc (.t 48) (.t 50), none⟩,
 ⟨some 52, .mv (.t 51), none⟩,
 ⟨some 53, .fld 1 (.t 9), some (52, false)⟩,
 ⟨some 54, .ld 1 false (.t 53), some (52, false)⟩,
 ⟨some 55, .mv (.t 10), some (52, false)⟩,
 ⟨some 56, .bin .lss .sc (.t 54) (.t 55), some (52, false)⟩,
 ⟨some 57, .pick (.t 52) (.k (.bool true)) (.t 56), none⟩]) <|
 .cond (.t 57)
 (.seq (.reg [
 ⟨some 2, .mv (.k (.int .i32 65533)), none⟩,
 ⟨some 3, .mv (.k (.int .i64 1)), none⟩]) <|
 .ret)
 (.skip)) <|
 .seq (.seq (.reg [
 ⟨some 58, .mv (.t 8), none⟩,
 ⟨some 59, .bin .leq .sc (.t 58) (.k (.int .i64 2)), none⟩]) <|
 .cond (.t 59)
 (.seq (.reg [
 ⟨some 60, .mv (.t 5), none⟩,
 ⟨some 61, .bin .and .sc (.t 60) (.k (.int .u8 31)), none⟩,
 ⟨some 62, .cvI .i32 (.t 61), none⟩,
 ⟨some 63, .bin .shl .sc (.t 62) (.k (.int .u64 6)), none⟩,
 ⟨some 64, .mv (.t 10), none⟩,
 ⟨some 65, .bin .and .sc (.t 64) (.k (.int .u8 63)), none⟩,
 ⟨some 66, .cvI .i32 (.t 65), none⟩,
 ⟨some 67, .bin .or .sc (.t 63) (.t 66), none⟩,
 ⟨some 2, .mv (.t 67), none⟩,
 ⟨some 3, .mv (.k (.int .i64 2)), none⟩]) <|
 .ret)
 (.skip)) <|
 .seq (.reg [
 ⟨some 68, .mv (.t 0), none⟩,
 ⟨some 69, .idxS (.t 68) (.k (.int .i64 2)), none⟩,
 ⟨some 11, .mv (.t 69), none⟩]) <|
 .seq (.seq (.reg [
 ⟨some 70, .mv (.t 11), none⟩,
 ⟨some 71, .bin .lss .sc (.t 70) (.k (.int .u8 128)), none⟩,
 ⟨some 72, .mv (.t 71), none⟩,
 ⟨some 73, .mv (.t 11), some (72, false)⟩,
 ⟨some 74, .bin .lss .sc (.k (.int .u8 191)) (.t 73), some (72, false)⟩,
 ⟨some 75, .pick (.t 72) (.k (.bool true)) (.t 74), none⟩]) <|
 .cond (.t 75)
 (.seq (.reg [
 ⟨some 2, .mv (.k (.int .i32 65533)), none⟩,
 ⟨some 3, .mv (.k (.int .i64 1)), none⟩]) <|
 .ret)
 (.skip)) <|
 .seq (.seq (.reg [
 ⟨some 76, .mv (.t 8), none⟩,
 ⟨some 77, .bin .leq .sc (.t 76) (.k (.int .i64 3)), none⟩]) <|
 .cond (.t 77)
 (.seq (.reg [
 ⟨some 78, .mv (.t 5), none⟩,
 ⟨some 79, .bin .and .sc (.t 78) (.k (.int .u8 15)), none⟩,
 ⟨some 80, .cvI .i32 (.t 79), none⟩,
 ⟨some 81, .bin .shl .sc (.t 80) (.k (.int .u64 12)), none⟩,
 ⟨some 82, .mv (.t 10), none⟩,
 ⟨some 83, .bin .and .sc (.t 82) (.k (.int .u8 63)), none⟩,
 ⟨some 84, .cvI .i32 (.t 83), none⟩,
 ⟨some 85, .bin .shl .sc (.t 84) (.k (.int .u64 6)), none⟩,
 ⟨some 86, .bin .or .sc (.t 81) (.t 85), none⟩,
 ⟨some 87, .mv (.t 11), none⟩,
 ⟨some 88, .bin .and .sc (.t 87) (.k (.int .u8 63)), none⟩,
 ⟨some 89, .cvI .i32 (.t 88), none⟩,
 ⟨some 90, .bin .or .sc (.t 86) (.t 89), none⟩,
 ⟨some 2, .mv (.t 90), none⟩,
 ⟨some 3, .mv (.k (.int .i64 3)), none⟩]) <|
 .ret)
 (.skip)) <|
 .seq (.reg [
 ⟨some 91, .mv (.t 0), none⟩,
 ⟨some 92, .idxS (.t 91) (.k (.int .i64 3)), none⟩,
 ⟨some 12, .mv (.t 92), none⟩]) <|
 .seq (.seq (.reg [
 ⟨some 93, .mv (.t 12), none⟩,
 ⟨some 94, .bin .lss .sc (.t 93) (.k (.int .u8 128)), none⟩,
 ⟨some 95, .mv (.t 94), none⟩,
 ⟨some 96, .mv (.t 12), some (95, false)⟩,
 ⟨some 97, .bin .lss .sc (.k (.int .u8 191)) (.t 96), some (95, false)⟩,
 ⟨some 98, .pick (.t 95) (.k (.bool true)) (.t 97), none⟩]) <|
 .cond (.t 98)
 (.seq (.reg [
 ⟨some 2, .mv (.k (.int .i32 65533)), none⟩,
 ⟨some 3, .mv (.k (.int .i64 1)), none⟩]) <|
 .ret)
 (.skip)) <|
 .seq (.reg [
 ⟨some 99, .mv (.t 5), none⟩,
 ⟨some 100, .bin .and .sc (.t 99) (.k (.int .u8 7)), none⟩,
 ⟨some 101, .cvI .i32 (.t 100), none⟩,
 ⟨some 102, .bin .shl .sc (.t 101) (.k (.int .u64 18)), none⟩,
 ⟨some 103, .mv (.t 10), none⟩,
 ⟨some 104, .bin .and .sc (.t 103) (.k (.int .u8 63)), none⟩,
 ⟨some 105, .cvI .i32 (.t 104), none⟩,
 ⟨some 106, .bin .shl .sc (.t 105) (.k (.int .u64 12)), none⟩,
 ⟨some 107, .bin .or .sc (.t 102) (.t 106), none⟩,
 ⟨some 108, .mv (.t 11), none⟩,
 ⟨some 109, .bin .and .sc (.t 108) (.k (.int .u8 63)), none⟩,
 ⟨some 110, .cvI .i32 (.t 109), none⟩,
 ⟨some 111, .bin .shl .sc (.t 110) (.k (.int .u64 6)), none⟩,
 ⟨some 112, .bin .or .sc (.t 107) (.t 111), none⟩,
 ⟨some 113, .mv (.t 12), none⟩,
 ⟨some 114, .bin .and .sc (.t 113) (.k (.int .u8 63)), none⟩,
 ⟨some 115, .cvI .i32 (.t 114), none⟩,
 ⟨some 116, .bin .or .sc (.t 112) (.t 115), none⟩,
 ⟨some 2, .mv (.t 116), none⟩,
 ⟨some 3, .mv (.k (.int .i64 4)), none⟩]) <|
 .ret⟩


noncomputable def tab : PT Entry := (.nd (.nd (.nd (.nd (.nd (.nd (.nd .lf (some (.prim primSum)) .lf) (some (.fn f31)) .lf) (some (.fn f15)) (.nd (.nd .lf (some (.fn f79)) .lf) (some (.fn f47)) .lf)) (some (.fn f7)) (.nd (.nd (.nd .lf (some (.fn f71)) .lf) (some (.fn f39)) (.nd .lf (some (.fn f103)) .lf)) (some (.fn f23)) (.nd (.nd .lf (some (.fn f87)) .lf) (some (.fn f55)) .lf))) (some (.fn f3)) (.nd (.nd (.nd .lf (some (.fn f35)) .lf) none (.nd (.nd .lf (some (.fn f83)) .lf) (some (.fn f51)) .lf)) (some (.fn f11)) (.nd (.nd (.nd .lf (some (.fn f75)) .lf) (some (.fn f43)) (.nd .lf (some (.fn f107)) .lf)) (some (.fn f27)) (.nd (.nd .lf (some (.prim primCrc)) .lf) (some (.fn f59)) (.nd .lf (some (.fn f123)) .lf))))) none (.nd (.nd (.nd (.nd (.nd .lf (some (.fn f65)) .lf) (some (.fn f33)) .lf) (some (.fn f17)) (.nd (.nd .lf (some (.fn f81)) .lf) (some (.fn f49)) .lf)) (some (.fn f9)) (.nd (.nd (.nd .lf (some (.fn f73)) .lf) none (.nd .lf (some (.fn f105)) .lf)) (some (.fn f25)) (.nd (.nd .lf (some (.fn f89)) .lf) (some (.fn f57)) (.nd .lf (some (.fn f121)) .lf)))) (some (.fn f5)) (.nd (.nd (.nd (.nd .lf (some (.fn f69)) .lf) (some (.fn f37)) (.nd .lf (some (.fn f101)) .lf)) none (.nd (.nd .lf (some (.fn f85)) .lf) (some (.fn f53)) .lf)) (some (.fn f13)) (.nd (.nd (.nd .lf (some (.fn f77)) .lf) (some (.fn f45)) (.nd .lf (some (.fn f109)) .lf)) (some (.fn f29)) (.nd (.nd .lf (some (.fn f93)) .lf) (some (.fn f61)) (.nd .lf (some (.fn f125)) .lf)))))) none (.nd (.nd (.nd (.nd (.nd (.nd .lf (some (.fn f64)) .lf) (some (.fn f32)) .lf) (some (.fn f16)) (.nd (.nd .lf (some (.fn f80)) .lf) (some (.fn f48)) .lf)) (some (.fn f8)) (.nd (.nd (.nd .lf (some (.fn f72)) .lf) none (.nd .lf (some (.fn f104)) .lf)) (some (.fn f24)) (.nd (.nd .lf (some (.fn f88)) .lf) (some (.fn f56)) (.nd .lf (some (.fn f120)) .lf)))) none (.nd (.nd (.nd .lf (some (.fn f36)) .lf) (some (.fn f20)) (.nd (.nd .lf (some (.fn f84)) .lf) (some (.fn f52)) .lf)) (some (.fn f12)) (.nd (.nd (.nd .lf (some (.fn f76)) .lf) (some (.fn f44)) (.nd .lf (some (.fn f108)) .lf)) (some (.fn f28)) (.nd (.nd .lf (some (.fn f92)) .lf) (some (.fn f60)) .lf)))) none (.nd (.nd (.nd (.nd (.nd .lf (some (.fn f66)) .lf) (some (.fn f34)) .lf) (some (.fn f18)) (.nd (.nd .lf (some (.fn f82)) .lf) (some (.fn f50)) .lf)) (some (.fn f10)) (.nd (.nd (.nd .lf (some (.fn f74)) .lf) (some (.fn f42)) (.nd .lf (some (.fn f106)) .lf)) (some (.fn f26)) (.nd (.nd .lf (some (.fn f90)) .lf) (some (.fn f58)) (.nd .lf (some (.fn f122)) .lf)))) (some (.fn f6)) (.nd (.nd (.nd (.nd .lf (some (.fn f70)) .lf) (some (.fn f38)) (.nd .lf (some (.fn f102)) .lf)) (some (.fn f22)) (.nd (.nd .lf (some (.fn f86)) .lf) (some (.prim primTake)) .lf)) (some (.fn f14)) (.nd (.nd (.nd .lf (some (.fn f78)) .lf) (some (.prim primRef)) (.nd .lf (some (.fn f110)) .lf)) (some (.fn f30)) (.nd .lf (some (.fn f62)) (.nd .lf (some (.fn f126)) .lf)))))))
noncomputable abbrev K (G : Nat → Option (List IV)) (d : Nat) : Go.PM.Callee := dcall G (fun f => tab.get f) d
theorem k3 {G : Nat → Option (List IV)} {d : Nat} {args : List DV} {H : PT HB} {n lo : Nat} : K G (d + 1) 3 args H n lo = f3.run G (K G d) args H n lo := dcall_fn rfl
theorem k5 {G : Nat → Option (List IV)} {d : Nat} {args : List DV} {H : PT HB} {n lo : Nat} : K G (d + 1) 5 args H n lo = f5.run G (K G d) args H n lo := dcall_fn rfl
theorem k6 {G : Nat → Option (List IV)} {d : Nat} {args : List DV} {H : PT HB} {n lo : Nat} : K G (d + 1) 6 args H n lo = f6.run G (K G d) args H n lo := dcall_fn rfl
theorem k7 {G : Nat → Option (List IV)} {d : Nat} {args : List DV} {H : PT HB} {n lo : Nat} : K G (d + 1) 7 args H n lo = f7.run G (K G d) args H n lo := dcall_fn rfl
theorem k8 {G : Nat → Option (List IV)} {d : Nat} {args : List DV} {H : PT HB} {n lo : Nat} : K G (d + 1) 8 args H n lo = f8.run G (K G d) args H n lo := dcall_fn rfl
theorem k9 {G : Nat → Option (List IV)} {d : Nat} {args : List DV} {H : PT HB} {n lo : Nat} : K G (d + 1) 9 args H n lo = f9.run G (K G d) args H n lo := dcall_fn rfl
theorem k10 {G : Nat → Option (List IV)} {d : Nat} {args : List DV} {H : PT HB} {n lo : Nat} : K G (d + 1) 10 args H n lo = f10.run G (K G d) args H n lo := dcall_fn rfl
theorem k11 {G : Nat → Option (List IV)} {d : Nat} {args : List DV} {H : PT HB} {n lo : Nat} : K G (d + 1) 11 args H n lo = f11.run G (K G d) args H n lo := dcall_fn rfl
theorem k12 {G : Nat → Option (List IV)} {d : Nat} {args : List DV} {H : PT HB} {n lo : Nat} : K G (d + 1) 12 args H n lo = f12.run G (K G d) args H n lo := dcall_fn rfl
theorem k13 {G : Nat → Option (List IV)} {d : Nat} {args : List DV} {H : PT HB} {n lo : Nat} : K G (d + 1) 13 args H n lo = f13.run G (K G d) args H n lo := dcall_fn rfl
theorem k14 {G : Nat → Option (List IV)} {d : Nat} {args : List DV} {H : PT HB} {n lo : Nat} : K G (d + 1) 14 args H n lo = f14.run G (K G d) args H n lo := dcall_fn rfl
theorem k15 {G : Nat → Option (List IV)} {d : Nat} {args : List DV} {H : PT HB} {n lo : Nat} : K G (d + 1) 15 args H n lo = f15.run G (K G d) args H n lo := dcall_fn rfl
theorem k16 {G : Nat → Option (List IV)} {d : Nat} {args : List DV} {H : PT HB} {n lo : Nat} : K G (d + 1) 16 args H n lo = f16.run G (K G d) args H n lo := dcall_fn rfl
theorem k17 {G : Nat → Option (List IV)} {d : Nat} {args : List DV} {H : PT HB} {n lo : Nat} : K G (d + 1) 17 args H n lo = f17.run G (K G d) args H n lo := dcall_fn rfl
theorem k18 {G : Nat → Option (List IV)} {d : Nat} {args : List DV} {H : PT HB} {n lo : Nat} : K G (d + 1) 18 args H n lo = f18.run G (K G d) args H n lo := dcall_fn rfl
theorem k20 {G : Nat → Option (List IV)} {d : Nat} {args : List DV} {H : PT HB} {n lo : Nat} : K G (d + 1) 20 args H n lo = f20.run G (K G d) args H n lo := dcall_fn rfl
theorem k22 {G : Nat → Option (List IV)} {d : Nat} {args : List DV} {H : PT HB} {n lo : Nat} : K G (d + 1) 22 args H n lo = f22.run G (K G d) args H n lo := dcall_fn rfl
theorem k23 {G : Nat → Option (List IV)} {d : Nat} {args : List DV} {H : PT HB} {n lo : Nat} : K G (d + 1) 23 args H n lo = f23.run G (K G d) args H n lo := dcall_fn rfl
theorem k24 {G : Nat → Option (List IV)} {d : Nat} {args : List DV} {H : PT HB} {n lo : Nat} : K G (d + 1) 24 args H n lo = f24.run G (K G d) args H n lo := dcall_fn rfl
theorem k25 {G : Nat → Option (List IV)} {d : Nat} {args : List DV} {H : PT HB} {n lo : Nat} : K G (d + 1) 25 args H n lo = f25.run G (K G d) args H n lo := dcall_fn rfl
theorem k26 {G : Nat → Option (List IV)} {d : Nat} {args : List DV} {H : PT HB} {n lo : Nat} : K G (d + 1) 26 args H n lo = f26.run G (K G d) args H n lo := dcall_fn rfl
theorem k27 {G : Nat → Option (List IV)} {d : Nat} {args : List DV} {H : PT HB} {n lo : Nat} : K G (d + 1) 27 args H n lo = f27.run G (K G d) args H n lo := dcall_fn rfl
theorem k28 {G : Nat → Option (List IV)} {d : Nat} {args : List DV} {H : PT HB} {n lo : Nat} : K G (d + 1) 28 args H n lo = f28.run G (K G d) args H n lo := dcall_fn rfl
theorem k29 {G : Nat → Option (List IV)} {d : Nat} {args : List DV} {H : PT HB} {n lo : Nat} : K G (d + 1) 29 args H n lo = f29.run G (K G d) args H n lo := dcall_fn rfl
theorem k30 {G : Nat → Option (List IV)} {d : Nat} {args : List DV} {H : PT HB} {n lo : Nat} : K G (d + 1) 30 args H n lo = f30.run G (K G d) args H n lo := dcall_fn rfl
theorem k31 {G : Nat → Option (List IV)} {d : Nat} {args : List DV} {H : PT HB} {n lo : Nat} : K G (d + 1) 31 args H n lo = f31.run G (K G d) args H n lo := dcall_fn rfl
theorem k32 {G : Nat → Option (List IV)} {d : Nat} {args : List DV} {H : PT HB} {n lo : Nat} : K G (d + 1) 32 args H n lo = f32.run G (K G d) args H n lo := dcall_fn rfl
theorem k33 {G : Nat → Option (List IV)} {d : Nat} {args : List DV} {H : PT HB} {n lo : Nat} : K G (d + 1) 33 args H n lo = f33.run G (K G d) args H n lo := dcall_fn rfl
theorem k34 {G : Nat → Option (List IV)} {d : Nat} {args : List DV} {H : PT HB} {n lo : Nat} : K G (d + 1) 34 args H n lo = f34.run G (K G d) args H n lo := dcall_fn rfl
theorem k35 {G : Nat → Option (List IV)} {d : Nat} {args : List DV} {H : PT HB} {n lo : Nat} : K G (d + 1) 35 args H n lo = f35.run G (K G d) args H n lo := dcall_fn rfl
theorem k36 {G : Nat → Option (List IV)} {d : Nat} {args : List DV} {H : PT HB} {n lo : Nat} : K G (d + 1) 36 args H n lo = f36.run G (K G d) args H n lo := dcall_fn rfl
theorem k37 {G : Nat → Option (List IV)} {d : Nat} {args : List DV} {H : PT HB} {n lo : Nat} : K G (d + 1) 37 args H n lo = f37.run G (K G d) args H n lo := dcall_fn rfl
theorem k38 {G : Nat → Option (List IV)} {d : Nat} {args : List DV} {H : PT HB} {n lo : Nat} : K G (d + 1) 38 args H n lo = f38.run G (K G d) args H n lo := dcall_fn rfl
theorem k39 {G : Nat → Option (List IV)} {d : Nat} {args : List DV} {H : PT HB} {n lo : Nat} : K G (d + 1) 39 args H n lo = f39.run G (K G d) args H n lo := dcall_fn rfl
theorem k42 {G : Nat → Option (List IV)} {d : Nat} {args : List DV} {H : PT HB} {n lo : Nat} : K G (d + 1) 42 args H n lo = f42.run G (K G d) args H n lo := dcall_fn rfl
theorem k43 {G : Nat → Option (List IV)} {d : Nat} {args : List DV} {H : PT HB} {n lo : Nat} : K G (d + 1) 43 args H n lo = f43.run G (K G d) args H n lo := dcall_fn rfl
theorem k44 {G : Nat → Option (List IV)} {d : Nat} {args : List DV} {H : PT HB} {n lo : Nat} : K G (d + 1) 44 args H n lo = f44.run G (K G d) args H n lo := dcall_fn rfl
theorem k45 {G : Nat → Option (List IV)} {d : Nat} {args : List DV} {H : PT HB} {n lo : Nat} : K G (d + 1) 45 args H n lo = f45.run G (K G d) args H n lo := dcall_fn rfl
theorem k46 {G : Nat → Option (List IV)} {d : Nat} {args : List DV} {H : PT HB} {n lo : Nat} : K G (d + 1) 46 args H n lo = primRef args H n lo := rfl
theorem k47 {G : Nat → Option (List IV)} {d : Nat} {args : List DV} {H : PT HB} {n lo : Nat} : K G (d + 1) 47 args H n lo = f47.run G (K G d) args H n lo := dcall_fn rfl
theorem k48 {G : Nat → Option (List IV)} {d : Nat} {args : List DV} {H : PT HB} {n lo : Nat} : K G (d + 1) 48 args H n lo = f48.run G (K G d) args H n lo := dcall_fn rfl
theorem k49 {G : Nat → Option (List IV)} {d : Nat} {args : List DV} {H : PT HB} {n lo : Nat} : K G (d + 1) 49 args H n lo = f49.run G (K G d) args H n lo := dcall_fn rfl
theorem k50 {G : Nat → Option (List IV)} {d : Nat} {args : List DV} {H : PT HB} {n lo : Nat} : K G (d + 1) 50 args H n lo = f50.run G (K G d) args H n lo := dcall_fn rfl
theorem k51 {G : Nat → Option (List IV)} {d : Nat} {args : List DV} {H : PT HB} {n lo : Nat} : K G (d + 1) 51 args H n lo = f51.run G (K G d) args H n lo := dcall_fn rfl
theorem k52 {G : Nat → Option (List IV)} {d : Nat} {args : List DV} {H : PT HB} {n lo : Nat} : K G (d + 1) 52 args H n lo = f52.run G (K G d) args H n lo := dcall_fn rfl
theorem k53 {G : Nat → Option (List IV)} {d : Nat} {args : List DV} {H : PT HB} {n lo : Nat} : K G (d + 1) 53 args H n lo = f53.run G (K G d) args H n lo := dcall_fn rfl
theorem k54 {G : Nat → Option (List IV)} {d : Nat} {args : List DV} {H : PT HB} {n lo : Nat} : K G (d + 1) 54 args H n lo = primTake args H n lo := rfl
theorem k55 {G : Nat → Option (List IV)} {d : Nat} {args : List DV} {H : PT HB} {n lo : Nat} : K G (d + 1) 55 args H n lo = f55.run G (K G d) args H n lo := dcall_fn rfl
theorem k56 {G : Nat → Option (List IV)} {d : Nat} {args : List DV} {H : PT HB} {n lo : Nat} : K G (d + 1) 56 args H n lo = f56.run G (K G d) args H n lo := dcall_fn rfl
theorem k57 {G : Nat → Option (List IV)} {d : Nat} {args : List DV} {H : PT HB} {n lo : Nat} : K G (d + 1) 57 args H n lo = f57.run G (K G d) args H n lo := dcall_fn rfl
theorem k58 {G : Nat → Option (List IV)} {d : Nat} {args : List DV} {H : PT HB} {n lo : Nat} : K G (d + 1) 58 args H n lo = f58.run G (K G d) args H n lo := dcall_fn rfl
theorem k59 {G : Nat → Option (List IV)} {d : Nat} {args : List DV} {H : PT HB} {n lo : Nat} : K G (d + 1) 59 args H n lo = f59.run G (K G d) args H n lo := dcall_fn rfl
theorem k60 {G : Nat → Option (List IV)} {d : Nat} {args : List DV} {H : PT HB} {n lo : Nat} : K G (d + 1) 60 args H n lo = f60.run G (K G d) args H n lo := dcall_fn rfl
theorem k61 {G : Nat → Option (List IV)} {d : Nat} {args : List DV} {H : PT HB} {n lo : Nat} : K G (d + 1) 61 args H n lo = f61.run G (K G d) args H n lo := dcall_fn rfl
theorem k62 {G : Nat → Option (List IV)} {d : Nat} {args : List DV} {H : PT HB} {n lo : Nat} : K G (d + 1) 62 args H n lo = f62.run G (K G d) args H n lo := dcall_fn rfl
theorem k63 {G : Nat → Option (List IV)} {d : Nat} {args : List DV} {H : PT HB} {n lo : Nat} : K G (d + 1) 63 args H n lo = primSum args H n lo := rfl
theorem k64 {G : Nat → Option (List IV)} {d : Nat} {args : List DV} {H : PT HB} {n lo : Nat} : K G (d + 1) 64 args H n lo = f64.run G (K G d) args H n lo := dcall_fn rfl
theorem k65 {G : Nat → Option (List IV)} {d : Nat} {args : List DV} {H : PT HB} {n lo : Nat} : K G (d + 1) 65 args H n lo = f65.run G (K G d) args H n lo := dcall_fn rfl
theorem k66 {G : Nat → Option (List IV)} {d : Nat} {args : List DV} {H : PT HB} {n lo : Nat} : K G (d + 1) 66 args H n lo = f66.run G (K G d) args H n lo := dcall_fn rfl
theorem k69 {G : Nat → Option (List IV)} {d : Nat} {args : List DV} {H : PT HB} {n lo : Nat} : K G (d + 1) 69 args H n lo = f69.run G (K G d) args H n lo := dcall_fn rfl
theorem k70 {G : Nat → Option (List IV)} {d : Nat} {args : List DV} {H : PT HB} {n lo : Nat} : K G (d + 1) 70 args H n lo = f70.run G (K G d) args H n lo := dcall_fn rfl
theorem k71 {G : Nat → Option (List IV)} {d : Nat} {args : List DV} {H : PT HB} {n lo : Nat} : K G (d + 1) 71 args H n lo = f71.run G (K G d) args H n lo := dcall_fn rfl
theorem k72 {G : Nat → Option (List IV)} {d : Nat} {args : List DV} {H : PT HB} {n lo : Nat} : K G (d + 1) 72 args H n lo = f72.run G (K G d) args H n lo := dcall_fn rfl
theorem k73 {G : Nat → Option (List IV)} {d : Nat} {args : List DV} {H : PT HB} {n lo : Nat} : K G (d + 1) 73 args H n lo = f73.run G (K G d) args H n lo := dcall_fn rfl
theorem k74 {G : Nat → Option (List IV)} {d : Nat} {args : List DV} {H : PT HB} {n lo : Nat} : K G (d + 1) 74 args H n lo = f74.run G (K G d) args H n lo := dcall_fn rfl
theorem k75 {G : Nat → Option (List IV)} {d : Nat} {args : List DV} {H : PT HB} {n lo : Nat} : K G (d + 1) 75 args H n lo = f75.run G (K G d) args H n lo := dcall_fn rfl
theorem k76 {G : Nat → Option (List IV)} {d : Nat} {args : List DV} {H : PT HB} {n lo : Nat} : K G (d + 1) 76 args H n lo = f76.run G (K G d) args H n lo := dcall_fn rfl
theorem k77 {G : Nat → Option (List IV)} {d : Nat} {args : List DV} {H : PT HB} {n lo : Nat} : K G (d + 1) 77 args H n lo = f77.run G (K G d) args H n lo := dcall_fn rfl
theorem k78 {G : Nat → Option (List IV)} {d : Nat} {args : List DV} {H : PT HB} {n lo : Nat} : K G (d + 1) 78 args H n lo = f78.run G (K G d) args H n lo := dcall_fn rfl
theorem k79 {G : Nat → Option (List IV)} {d : Nat} {args : List DV} {H : PT HB} {n lo : Nat} : K G (d + 1) 79 args H n lo = f79.run G (K G d) args H n lo := dcall_fn rfl
theorem k80 {G : Nat → Option (List IV)} {d : Nat} {args : List DV} {H : PT HB} {n lo : Nat} : K G (d + 1) 80 args H n lo = f80.run G (K G d) args H n lo := dcall_fn rfl
theorem k81 {G : Nat → Option (List IV)} {d : Nat} {args : List DV} {H : PT HB} {n lo : Nat} : K G (d + 1) 81 args H n lo = f81.run G (K G d) args H n lo := dcall_fn rfl
theorem k82 {G : Nat → Option (List IV)} {d : Nat} {args : List DV} {H : PT HB} {n lo : Nat} : K G (d + 1) 82 args H n lo = f82.run G (K G d) args H n lo := dcall_fn rfl
theorem k83 {G : Nat → Option (List IV)} {d : Nat} {args : List DV} {H : PT HB} {n lo : Nat} : K G (d + 1) 83 args H n lo = f83.run G (K G d) args H n lo := dcall_fn rfl
theorem k84 {G : Nat → Option (List IV)} {d : Nat} {args : List DV} {H : PT HB} {n lo : Nat} : K G (d + 1) 84 args H n lo = f84.run G (K G d) args H n lo := dcall_fn rfl
theorem k85 {G : Nat → Option (List IV)} {d : Nat} {args : List DV} {H : PT HB} {n lo : Nat} : K G (d + 1) 85 args H n lo = f85.run G (K G d) args H n lo := dcall_fn rfl
theorem k86 {G : Nat → Option (List IV)} {d : Nat} {args : List DV} {H : PT HB} {n lo : Nat} : K G (d + 1) 86 args H n lo = f86.run G (K G d) args H n lo := dcall_fn rfl
theorem k87 {G : Nat → Option (List IV)} {d : Nat} {args : List DV} {H : PT HB} {n lo : Nat} : K G (d + 1) 87 args H n lo = f87.run G (K G d) args H n lo := dcall_fn rfl
theorem k88 {G : Nat → Option (List IV)} {d : Nat} {args : List DV} {H : PT HB} {n lo : Nat} : K G (d + 1) 88 args H n lo = f88.run G (K G d) args H n lo := dcall_fn rfl
theorem k89 {G : Nat → Option (List IV)} {d : Nat} {args : List DV} {H : PT HB} {n lo : Nat} : K G (d + 1) 89 args H n lo = f89.run G (K G d) args H n lo := dcall_fn rfl
theorem k90 {G : Nat → Option (List IV)} {d : Nat} {args : List DV} {H : PT HB} {n lo : Nat} : K G (d + 1) 90 args H n lo = f90.run G (K G d) args H n lo := dcall_fn rfl
theorem k91 {G : Nat → Option (List IV)} {d : Nat} {args : List DV} {H : PT HB} {n lo : Nat} : K G (d + 1) 91 args H n lo = primCrc args H n lo := rfl
theorem k92 {G : Nat → Option (List IV)} {d : Nat} {args : List DV} {H : PT HB} {n lo : Nat} : K G (d + 1) 92 args H n lo = f92.run G (K G d) args H n lo := dcall_fn rfl
theorem k93 {G : Nat → Option (List IV)} {d : Nat} {args : List DV} {H : PT HB} {n lo : Nat} : K G (d + 1) 93 args H n lo = f93.run G (K G d) args H n lo := dcall_fn rfl
theorem k101 {G : Nat → Option (List IV)} {d : Nat} {args : List DV} {H : PT HB} {n lo : Nat} : K G (d + 1) 101 args H n lo = f101.run G (K G d) args H n lo := dcall_fn rfl
theorem k102 {G : Nat → Option (List IV)} {d : Nat} {args : List DV} {H : PT HB} {n lo : Nat} : K G (d + 1) 102 args H n lo = f102.run G (K G d) args H n lo := dcall_fn rfl
theorem k103 {G : Nat → Option (List IV)} {d : Nat} {args : List DV} {H : PT HB} {n lo : Nat} : K G (d + 1) 103 args H n lo = f103.run G (K G d) args H n lo := dcall_fn rfl
theorem k104 {G : Nat → Option (List IV)} {d : Nat} {args : List DV} {H : PT HB} {n lo : Nat} : K G (d + 1) 104 args H n lo = f104.run G (K G d) args H n lo := dcall_fn rfl
theorem k105 {G : Nat → Option (List IV)} {d : Nat} {args : List DV} {H : PT HB} {n lo : Nat} : K G (d + 1) 105 args H n lo = f105.run G (K G d) args H n lo := dcall_fn rfl
theorem k106 {G : Nat → Option (List IV)} {d : Nat} {args : List DV} {H : PT HB} {n lo : Nat} : K G (d + 1) 106 args H n lo = f106.run G (K G d) args H n lo := dcall_fn rfl
theorem k107 {G : Nat → Option (List IV)} {d : Nat} {args : List DV} {H : PT HB} {n lo : Nat} : K G (d + 1) 107 args H n lo = f107.run G (K G d) args H n lo := dcall_fn rfl
theorem k108 {G : Nat → Option (List IV)} {d : Nat} {args : List DV} {H : PT HB} {n lo : Nat} : K G (d + 1) 108 args H n lo = f108.run G (K G d) args H n lo := dcall_fn rfl
theorem k109 {G : Nat → Option (List IV)} {d : Nat} {args : List DV} {H : PT HB} {n lo : Nat} : K G (d + 1) 109 args H n lo = f109.run G (K G d) args H n lo := dcall_fn rfl
theorem k110 {G : Nat → Option (List IV)} {d : Nat} {args : List DV} {H : PT HB} {n lo : Nat} : K G (d + 1) 110 args H n lo = f110.run G (K G d) args H n lo := dcall_fn rfl
theorem k120 {G : Nat → Option (List IV)} {d : Nat} {args : List DV} {H : PT HB} {n lo : Nat} : K G (d + 1) 120 args H n lo = f120.run G (K G d) args H n lo := dcall_fn rfl
theorem k121 {G : Nat → Option (List IV)} {d : Nat} {args : List DV} {H : PT HB} {n lo : Nat} : K G (d + 1) 121 args H n lo = f121.run G (K G d) args H n lo := dcall_fn rfl
theorem k122 {G : Nat → Option (List IV)} {d : Nat} {args : List DV} {H : PT HB} {n lo : Nat} : K G (d + 1) 122 args H n lo = f122.run G (K G d) args H n lo := dcall_fn rfl
theorem k123 {G : Nat → Option (List IV)} {d : Nat} {args : List DV} {H : PT HB} {n lo : Nat} : K G (d + 1) 123 args H n lo = f123.run G (K G d) args H n lo := dcall_fn rfl
theorem k125 {G : Nat → Option (List IV)} {d : Nat} {args : List DV} {H : PT HB} {n lo : Nat} : K G (d + 1) 125 args H n lo = f125.run G (K G d) args H n lo := dcall_fn rfl
theorem k126 {G : Nat → Option (List IV)} {d : Nat} {args : List DV} {H : PT HB} {n lo : Nat} : K G (d + 1) 126 args H n lo = f126.run G (K G d) args H n lo := dcall_fn rfl
end Go.Proofs.YtnpcgejfkonfdaaGreatDoor.D
