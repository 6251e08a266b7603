/-
  D's functions of this seat, printed by program out of the translation.
-/
import Derived.Test.YtlknjgmhfimhbabGreatDoorRun
import Derived.Test.YtlknjgmhfimhbabGreatDoorPrim
set_option maxRecDepth 100000
namespace Go.Proofs.YtlknjgmhfimhbabGreatDoor.D
open Go Go.PM

-- TYPES Ints=31 Rss=47 Bool=4 Rs=50 Int=3
def l3_1b : DC :=
 .seq (.seq (.reg [
 ⟨some 37, .mv (.t 7), none⟩,
 ⟨some 38, .bin .lss .sc (.t 37) (.k (.int .i64 60)), none⟩,
 ⟨some 39, .mv (.t 38), none⟩,
 ⟨some 40, .mv (.t 3), some (39, true)⟩,
 ⟨some 41, .call .ro 13 [(.t 40), (.k (.int .i64 1))], some (39, true)⟩,
 ⟨some 42, .bin .neq .sc (.t 41) (.k (.int .i64 3)), some (39, true)⟩,
 ⟨some 43, .pick (.t 39) (.t 42) (.k (.bool false)), none⟩]) <|
 .cond (.t 43)
 (.skip)
 (.exit 2)) <|
 .block 3 <|
 .seq (.seq (.reg [
 ⟨some 44, .ld 2 true (.t 6), none⟩,
 ⟨some 45, .call .blind 10 [(.t 44)], none⟩,
 ⟨some 46, .mv (.t 45), none⟩,
 ⟨some 47, .mv (.t 3), some (46, false)⟩,
 ⟨some 48, .call .ro 14 [(.t 47)], some (46, false)⟩,
 ⟨some 49, .bin .eql .sc (.t 48) (.k (.int .i64 0)), some (46, false)⟩,
 ⟨some 50, .pick (.t 46) (.k (.bool true)) (.t 49), none⟩]) <|
 .cond (.t 50)
 (.seq (.reg [
 ⟨some 2, .mv (.k (.bool false)), none⟩]) <|
 .ret)
 (.skip)) <|
 .seq (.reg [
 ⟨some 51, .mv (.t 3), none⟩,
 ⟨some 52, .call .eff 11 [(.t 51), (.k (.nils))], none⟩,
 ⟨none, .st 2 (.t 6) (.t 52), none⟩]) <|
 .reg [
 ⟨some 53, .mv (.t 7), none⟩,
 ⟨some 54, .bin .add .sc (.t 53) (.k (.int .i64 1)), none⟩,
 ⟨some 7, .mv (.t 54), none⟩]
def l3_1 : DC := .loop [0, 3, 6, 7] [6] l3_1b
def l3_0b : DC :=
 .seq (.seq (.reg [
 ⟨some 26, .mv (.t 5), none⟩,
 ⟨some 27, .bin .lss .sc (.t 26) (.k (.int .i64 3)), none⟩]) <|
 .cond (.t 27)
 (.skip)
 (.exit 0)) <|
 .seq (.block 1 <|
 .reg [
 ⟨some 30, .mv (.t 3), none⟩,
 ⟨some 31, .mv (.t 4), none⟩,
 ⟨some 32, .call .eff 11 [(.t 30), (.t 31)], none⟩]) <|
 .reg [
 ⟨some 28, .mv (.t 5), none⟩,
 ⟨some 29, .bin .add .sc (.t 28) (.k (.int .i64 1)), none⟩,
 ⟨some 5, .mv (.t 29), none⟩]
def l3_0 : DC := .loop [0, 3, 4, 5] [] l3_0b
def f3 : DFn := ⟨1, [.t 2],
 .seq (.reg [
 ⟨some 2, .mv (.k (.bool false)), none⟩]) <|
 .seq (.reg [
 ⟨some 9, .call .blind 9 [], none⟩,
 ⟨some 10, .call .eff 8 [(.t 9)], none⟩,
 ⟨some 3, .mv (.t 10), none⟩]) <|
 .seq (.seq (.reg [
 ⟨some 11, .mv (.t 3), none⟩,
 ⟨some 12, .bin .eql .np (.t 11) (.k (.nilp)), none⟩,
 ⟨some 13, .mv (.t 12), none⟩,
 ⟨some 14, .mv (.t 3), some (13, false)⟩,
 ⟨some 15, .call .blind 12 [(.k (.int .i64 0))], some (13, false)⟩,
 ⟨some 16, .call .eff 11 [(.t 14), (.t 15)], some (13, false)⟩,
 ⟨some 17, .call .blind 10 [(.t 16)], some (13, false)⟩,
 ⟨some 18, .un .not (.t 17), some (13, false)⟩,
 ⟨some 19, .pick (.t 13) (.k (.bool true)) (.t 18), none⟩]) <|
 .cond (.t 19)
 (.seq (.reg [
 ⟨some 2, .mv (.k (.bool false)), none⟩]) <|
 .ret)
 (.skip)) <|
 .seq (.reg [
 ⟨some 20, .bsl false 5 [.int .i64 0, .int .i64 0, .int .i64 0, .int .i64 0, .int .i64 0] 0 [], none⟩,
 ⟨some 4, .mv (.t 20), none⟩]) <|
 .seq (.seq (.reg [
 ⟨some 21, .mv (.t 0), none⟩]) <|
 .cond (.t 21)
 (.reg [
 ⟨some 22, .mv (.t 4), none⟩,
 ⟨some 23, .build [.int .i64 0, .int .i64 0, .int .i64 0, .int .i64 0, .int .i64 0] [(0, 1, (.k (.int .i64 5)))], none⟩,
 ⟨some 24, .bsl false 5 [.int .i64 0, .int .i64 0, .int .i64 0, .int .i64 0, .int .i64 0] 1 [(0, (.t 23))], none⟩,
 ⟨some 25, .app 5 40 (.t 22) (.t 24), none⟩,
 ⟨some 4, .mv (.t 25), none⟩])
 (.skip)) <|
 .seq (.seq (.reg [
 ⟨some 5, .mv (.k (.int .i64 0)), none⟩]) <|
 .block 0 <|
 l3_0) <|
 .seq (.reg [
 ⟨some 33, .mv (.t 3), none⟩,
 ⟨some 34, .build [.int .i64 0, .int .i64 0, .int .i64 0, .int .i64 0, .int .i64 0] [(0, 1, (.k (.int .i64 1)))], none⟩,
 ⟨some 35, .bsl false 5 [.int .i64 0, .int .i64 0, .int .i64 0, .int .i64 0, .int .i64 0] 1 [(0, (.t 34))], none⟩,
 ⟨some 36, .call .eff 11 [(.t 33), (.t 35)], none⟩,
 ⟨some 6, .alL [.nils, .nils], none⟩,
 ⟨none, .st 2 (.t 6) (.t 36), none⟩]) <|
 .seq (.reg [
 ⟨some 7, .mv (.k (.int .i64 0)), none⟩]) <|
 .seq (.block 2 <|
 l3_1) <|
 .seq (.reg [
 ⟨some 8, .mv (.k (.int .i64 11)), none⟩]) <|
 .seq (.seq (.reg [
 ⟨some 55, .mv (.t 0), none⟩]) <|
 .cond (.t 55)
 (.seq (.reg [
 ⟨some 56, .mv (.t 7), none⟩,
 ⟨some 57, .mv (.t 8), none⟩,
 ⟨some 58, .bin .gtr .sc (.t 56) (.t 57), none⟩,
 ⟨some 59, .mv (.t 58), none⟩,
 ⟨some 60, .mv (.t 7), some (59, true)⟩,
 ⟨some 61, .mv (.t 8), some (59, true)⟩,
 ⟨some 62, .bin .add .sc (.t 61) (.k (.int .i64 10)), some (59, true)⟩,
 ⟨some 63, .bin .leq .sc (.t 60) (.t 62), some (59, true)⟩,
 ⟨some 64, .pick (.t 59) (.t 63) (.k (.bool false)), none⟩,
 ⟨some 65, .mv (.t 64), none⟩,
 ⟨some 66, .mv (.t 3), some (65, true)⟩,
 ⟨some 67, .call .eff 11 [(.t 66), (.k (.nils))], some (65, true)⟩,
 ⟨some 68, .call .blind 10 [(.t 67)], some (65, true)⟩,
 ⟨some 69, .un .not (.t 68), some (65, true)⟩,
 ⟨some 70, .pick (.t 65) (.t 69) (.k (.bool false)), none⟩,
 ⟨some 71, .mv (.t 70), none⟩,
 ⟨some 72, .call .blind 15 [], some (71, true)⟩,
 ⟨some 73, .pick (.t 71) (.t 72) (.k (.bool false)), none⟩,
 ⟨some 2, .mv (.t 73), none⟩]) <|
 .ret)
 (.skip)) <|
 .seq (.reg [
 ⟨some 74, .mv (.t 3), none⟩,
 ⟨some 75, .call .eff 11 [(.t 74), (.k (.nils))], none⟩,
 ⟨none, .st 2 (.t 6) (.t 75), none⟩]) <|
 .seq (.reg [
 ⟨some 76, .mv (.t 7), none⟩,
 ⟨some 77, .mv (.t 8), none⟩,
 ⟨some 78, .bin .leq .sc (.t 76) (.t 77), none⟩,
 ⟨some 79, .mv (.t 78), none⟩,
 ⟨some 80, .ld 2 true (.t 6), some (79, true)⟩,
 ⟨some 81, .call .blind 10 [(.t 80)], some (79, true)⟩,
 ⟨some 82, .pick (.t 79) (.t 81) (.k (.bool false)), none⟩,
 ⟨some 83, .mv (.t 82), none⟩,
 ⟨some 84, .mv (.t 3), some (83, true)⟩,
 ⟨some 85, .call .ro 14 [(.t 84)], some (83, true)⟩,
 ⟨some 86, .bin .eql .sc (.t 85) (.k (.int .i64 1)), some (83, true)⟩,
 ⟨some 87, .pick (.t 83) (.t 86) (.k (.bool false)), none⟩,
 ⟨some 88, .mv (.t 87), none⟩,
 ⟨some 89, .call .blind 15 [], some (88, true)⟩,
 ⟨some 90, .pick (.t 88) (.t 89) (.k (.bool false)), none⟩,
 ⟨some 2, .mv (.t 90), none⟩]) <|
 .ret⟩

def l4_0b : DC :=
 .seq (.seq (.reg [
 ⟨some 22, .mv (.t 4), none⟩,
 ⟨some 23, .mv (.t 0), none⟩,
 ⟨some 24, .bin .lss .sc (.t 22) (.t 23), none⟩]) <|
 .cond (.t 24)
 (.skip)
 (.exit 0)) <|
 .seq (.block 1 <|
 .seq (.reg [
 ⟨some 27, .mv (.t 3), none⟩,
 ⟨some 28, .build [.int .i64 0, .int .i64 0, .int .i64 0, .int .i64 0, .int .i64 0] [(0, 1, (.k (.int .i64 4)))], none⟩,
 ⟨some 29, .bsl false 5 [.int .i64 0, .int .i64 0, .int .i64 0, .int .i64 0, .int .i64 0] 1 [(0, (.t 28))], none⟩,
 ⟨some 30, .call .eff 11 [(.t 27), (.t 29)], none⟩,
 ⟨some 31, .call .blind 10 [(.t 30)], none⟩,
 ⟨some 32, .mv (.t 31), none⟩,
 ⟨some 33, .mv (.t 3), some (32, false)⟩,
 ⟨some 34, .call .ro 14 [(.t 33)], some (32, false)⟩,
 ⟨some 35, .bin .neq .sc (.t 34) (.k (.int .i64 (-1))), some (32, false)⟩,
 ⟨some 36, .pick (.t 32) (.k (.bool true)) (.t 35), none⟩]) <|
 .cond (.t 36)
 (.seq (.reg [
 ⟨some 2, .mv (.k (.bool false)), none⟩]) <|
 .ret)
 (.skip)) <|
 .reg [
 ⟨some 25, .mv (.t 4), none⟩,
 ⟨some 26, .bin .add .sc (.t 25) (.k (.int .i64 1)), none⟩,
 ⟨some 4, .mv (.t 26), none⟩]
def l4_0 : DC := .loop [0, 3, 4] [] l4_0b
def f4 : DFn := ⟨1, [.t 2],
 .seq (.reg [
 ⟨some 2, .mv (.k (.bool false)), none⟩]) <|
 .seq (.seq (.reg [
 ⟨some 5, .mv (.t 0), none⟩,
 ⟨some 6, .bin .lss .sc (.t 5) (.k (.int .i64 1)), none⟩,
 ⟨some 7, .mv (.t 6), none⟩,
 ⟨some 8, .mv (.t 0), some (7, false)⟩,
 ⟨some 9, .bin .geq .sc (.t 8) (.k (.int .i64 4)), some (7, false)⟩,
 ⟨some 10, .pick (.t 7) (.k (.bool true)) (.t 9), none⟩]) <|
 .cond (.t 10)
 (.seq (.reg [
 ⟨some 2, .mv (.k (.bool true)), none⟩]) <|
 .ret)
 (.skip)) <|
 .seq (.reg [
 ⟨some 11, .call .blind 9 [], none⟩,
 ⟨some 12, .call .eff 8 [(.t 11)], none⟩,
 ⟨some 3, .mv (.t 12), none⟩]) <|
 .seq (.seq (.reg [
 ⟨some 13, .mv (.t 3), none⟩,
 ⟨some 14, .bin .eql .np (.t 13) (.k (.nilp)), none⟩,
 ⟨some 15, .mv (.t 14), none⟩,
 ⟨some 16, .mv (.t 3), some (15, false)⟩,
 ⟨some 17, .call .blind 12 [(.k (.int .i64 0))], some (15, false)⟩,
 ⟨some 18, .call .eff 11 [(.t 16), (.t 17)], some (15, false)⟩,
 ⟨some 19, .call .blind 10 [(.t 18)], some (15, false)⟩,
 ⟨some 20, .un .not (.t 19), some (15, false)⟩,
 ⟨some 21, .pick (.t 15) (.k (.bool true)) (.t 20), none⟩]) <|
 .cond (.t 21)
 (.seq (.reg [
 ⟨some 2, .mv (.k (.bool false)), none⟩]) <|
 .ret)
 (.skip)) <|
 .seq (.seq (.reg [
 ⟨some 4, .mv (.k (.int .i64 0)), none⟩]) <|
 .block 0 <|
 l4_0) <|
 .seq (.reg [
 ⟨some 37, .mv (.t 3), none⟩,
 ⟨some 38, .call .eff 11 [(.t 37), (.k (.nils))], none⟩,
 ⟨some 39, .call .blind 10 [(.t 38)], none⟩,
 ⟨some 40, .mv (.t 39), none⟩,
 ⟨some 41, .mv (.t 3), some (40, true)⟩,
 ⟨some 42, .call .ro 14 [(.t 41)], some (40, true)⟩,
 ⟨some 43, .bin .eql .sc (.t 42) (.k (.int .i64 0)), some (40, true)⟩,
 ⟨some 44, .pick (.t 40) (.t 43) (.k (.bool false)), none⟩,
 ⟨some 45, .mv (.t 44), none⟩,
 ⟨some 46, .call .blind 15 [], some (45, true)⟩,
 ⟨some 47, .pick (.t 45) (.t 46) (.k (.bool false)), none⟩,
 ⟨some 2, .mv (.t 47), none⟩]) <|
 .ret⟩

def l5_1b : DC :=
 .seq (.seq (.reg [
 ⟨some 47, .mv (.t 6), none⟩,
 ⟨some 48, .bin .lss .sc (.t 47) (.k (.int .i64 3)), none⟩]) <|
 .cond (.t 48)
 (.skip)
 (.exit 2)) <|
 .seq (.block 3 <|
 .seq (.seq (.reg [
 ⟨some 51, .mv (.t 3), none⟩,
 ⟨some 52, .call .ro 13 [(.t 51), (.k (.int .i64 1))], none⟩,
 ⟨some 53, .bin .neq .sc (.t 52) (.k (.int .i64 1)), none⟩]) <|
 .cond (.t 53)
 (.seq (.reg [
 ⟨some 2, .mv (.k (.bool false)), none⟩]) <|
 .ret)
 (.skip)) <|
 .reg [
 ⟨some 54, .mv (.t 3), none⟩,
 ⟨some 55, .call .eff 11 [(.t 54), (.k (.nils))], none⟩,
 ⟨none, .st 2 (.t 4) (.t 55), none⟩]) <|
 .reg [
 ⟨some 49, .mv (.t 6), none⟩,
 ⟨some 50, .bin .add .sc (.t 49) (.k (.int .i64 1)), none⟩,
 ⟨some 6, .mv (.t 50), none⟩]
def l5_1 : DC := .loop [3, 4, 6] [4] l5_1b
def l5_0b : DC :=
 .seq (.seq (.reg [
 ⟨some 28, .mv (.t 5), none⟩,
 ⟨some 29, .mv (.t 0), none⟩,
 ⟨some 30, .bin .lss .sc (.t 28) (.t 29), none⟩]) <|
 .cond (.t 30)
 (.skip)
 (.exit 0)) <|
 .seq (.block 1 <|
 .seq (.seq (.reg [
 ⟨some 33, .ld 2 true (.t 4), none⟩,
 ⟨some 34, .call .blind 10 [(.t 33)], none⟩,
 ⟨some 35, .un .not (.t 34), none⟩,
 ⟨some 36, .mv (.t 35), none⟩,
 ⟨some 37, .mv (.t 3), some (36, false)⟩,
 ⟨some 38, .call .ro 13 [(.t 37), (.k (.int .i64 1))], some (36, false)⟩,
 ⟨some 39, .bin .neq .sc (.t 38) (.k (.int .i64 0)), some (36, false)⟩,
 ⟨some 40, .pick (.t 36) (.k (.bool true)) (.t 39), none⟩]) <|
 .cond (.t 40)
 (.seq (.reg [
 ⟨some 2, .mv (.k (.bool false)), none⟩]) <|
 .ret)
 (.skip)) <|
 .reg [
 ⟨some 41, .mv (.t 3), none⟩,
 ⟨some 42, .call .eff 11 [(.t 41), (.k (.nils))], none⟩,
 ⟨none, .st 2 (.t 4) (.t 42), none⟩]) <|
 .reg [
 ⟨some 31, .mv (.t 5), none⟩,
 ⟨some 32, .bin .add .sc (.t 31) (.k (.int .i64 1)), none⟩,
 ⟨some 5, .mv (.t 32), none⟩]
def l5_0 : DC := .loop [0, 3, 4, 5] [4] l5_0b
def f5 : DFn := ⟨1, [.t 2],
 .seq (.reg [
 ⟨some 2, .mv (.k (.bool false)), none⟩]) <|
 .seq (.seq (.reg [
 ⟨some 7, .mv (.t 0), none⟩,
 ⟨some 8, .bin .lss .sc (.t 7) (.k (.int .i64 1)), none⟩,
 ⟨some 9, .mv (.t 8), none⟩,
 ⟨some 10, .mv (.t 0), some (9, false)⟩,
 ⟨some 11, .bin .gtr .sc (.t 10) (.k (.int .i64 20)), some (9, false)⟩,
 ⟨some 12, .pick (.t 9) (.k (.bool true)) (.t 11), none⟩]) <|
 .cond (.t 12)
 (.seq (.reg [
 ⟨some 2, .mv (.k (.bool true)), none⟩]) <|
 .ret)
 (.skip)) <|
 .seq (.reg [
 ⟨some 13, .call .blind 9 [], none⟩,
 ⟨some 14, .call .eff 8 [(.t 13)], none⟩,
 ⟨some 3, .mv (.t 14), none⟩]) <|
 .seq (.seq (.reg [
 ⟨some 15, .mv (.t 3), none⟩,
 ⟨some 16, .bin .eql .np (.t 15) (.k (.nilp)), none⟩,
 ⟨some 17, .mv (.t 16), none⟩,
 ⟨some 18, .mv (.t 3), some (17, false)⟩,
 ⟨some 19, .call .blind 12 [(.k (.int .i64 0))], some (17, false)⟩,
 ⟨some 20, .call .eff 11 [(.t 18), (.t 19)], some (17, false)⟩,
 ⟨some 21, .call .blind 10 [(.t 20)], some (17, false)⟩,
 ⟨some 22, .un .not (.t 21), some (17, false)⟩,
 ⟨some 23, .pick (.t 17) (.k (.bool true)) (.t 22), none⟩]) <|
 .cond (.t 23)
 (.seq (.reg [
 ⟨some 2, .mv (.k (.bool false)), none⟩]) <|
 .ret)
 (.skip)) <|
 .seq (.reg [
 ⟨some 24, .mv (.t 3), none⟩,
 ⟨some 25, .build [.int .i64 0, .int .i64 0, .int .i64 0, .int .i64 0, .int .i64 0] [(0, 1, (.k (.int .i64 1))), (1, 1, (.k (.int .i64 1)))], none⟩,
 ⟨some 26, .bsl false 5 [.int .i64 0, .int .i64 0, .int .i64 0, .int .i64 0, .int .i64 0] 1 [(0, (.t 25))], none⟩,
 ⟨some 27, .call .eff 11 [(.t 24), (.t 26)], none⟩,
 ⟨some 4, .alL [.nils, .nils], none⟩,
 ⟨none, .st 2 (.t 4) (.t 27), none⟩]) <|
 .seq (.seq (.reg [
 ⟨some 5, .mv (.k (.int .i64 0)), none⟩]) <|
 .block 0 <|
 l5_0) <|
 .seq (.reg [
 ⟨some 43, .mv (.t 3), none⟩,
 ⟨some 44, .build [.int .i64 0, .int .i64 0, .int .i64 0, .int .i64 0, .int .i64 0] [(0, 1, (.k (.int .i64 2))), (1, 1, (.k (.int .i64 1)))], none⟩,
 ⟨some 45, .bsl false 5 [.int .i64 0, .int .i64 0, .int .i64 0, .int .i64 0, .int .i64 0] 1 [(0, (.t 44))], none⟩,
 ⟨some 46, .call .eff 11 [(.t 43), (.t 45)], none⟩]) <|
 .seq (.seq (.reg [
 ⟨some 6, .mv (.k (.int .i64 1)), none⟩]) <|
 .block 2 <|
 l5_1) <|
 .seq (.reg [
 ⟨some 56, .mv (.t 3), none⟩,
 ⟨some 57, .call .ro 13 [(.t 56), (.k (.int .i64 1))], none⟩,
 ⟨some 58, .bin .eql .sc (.t 57) (.k (.int .i64 2)), none⟩,
 ⟨some 59, .mv (.t 58), none⟩,
 ⟨some 60, .ld 2 true (.t 4), some (59, true)⟩,
 ⟨some 61, .call .blind 10 [(.t 60)], some (59, true)⟩,
 ⟨some 62, .pick (.t 59) (.t 61) (.k (.bool false)), none⟩,
 ⟨some 63, .mv (.t 62), none⟩,
 ⟨some 64, .mv (.t 3), some (63, true)⟩,
 ⟨some 65, .call .ro 13 [(.t 64), (.k (.int .i64 0))], some (63, true)⟩,
 ⟨some 66, .bin .eql .sc (.t 65) (.k (.int .i64 3)), some (63, true)⟩,
 ⟨some 67, .pick (.t 63) (.t 66) (.k (.bool false)), none⟩,
 ⟨some 68, .mv (.t 67), none⟩,
 ⟨some 69, .call .blind 15 [], some (68, true)⟩,
 ⟨some 70, .pick (.t 68) (.t 69) (.k (.bool false)), none⟩,
 ⟨some 2, .mv (.t 70), none⟩]) <|
 .ret⟩

def l6_0b : DC :=
 .seq (.seq (.reg [
 ⟨some 30, .mv (.t 5), none⟩,
 ⟨some 31, .mv (.t 0), none⟩,
 ⟨some 32, .bin .lss .sc (.t 30) (.t 31), none⟩]) <|
 .cond (.t 32)
 (.skip)
 (.exit 0)) <|
 .seq (.block 1 <|
 .seq (.reg [
 ⟨some 35, .mv (.t 3), none⟩,
 ⟨some 36, .call .eff 11 [(.t 35), (.k (.nils))], none⟩,
 ⟨some 37, .call .blind 10 [(.t 36)], none⟩]) <|
 .cond (.t 37)
 (.seq (.reg [
 ⟨some 2, .mv (.k (.bool false)), none⟩]) <|
 .ret)
 (.skip)) <|
 .reg [
 ⟨some 33, .mv (.t 5), none⟩,
 ⟨some 34, .bin .add .sc (.t 33) (.k (.int .i64 1)), none⟩,
 ⟨some 5, .mv (.t 34), none⟩]
def l6_0 : DC := .loop [0, 3, 4, 5] [] l6_0b
def f6 : DFn := ⟨1, [.t 2],
 .seq (.reg [
 ⟨some 2, .mv (.k (.bool false)), none⟩]) <|
 .seq (.seq (.reg [
 ⟨some 7, .mv (.t 0), none⟩,
 ⟨some 8, .bin .lss .sc (.t 7) (.k (.int .i64 0)), none⟩,
 ⟨some 9, .mv (.t 8), none⟩,
 ⟨some 10, .mv (.t 0), some (9, false)⟩,
 ⟨some 11, .bin .gtr .sc (.t 10) (.k (.int .i64 10)), some (9, false)⟩,
 ⟨some 12, .pick (.t 9) (.k (.bool true)) (.t 11), none⟩]) <|
 .cond (.t 12)
 (.seq (.reg [
 ⟨some 2, .mv (.k (.bool true)), none⟩]) <|
 .ret)
 (.skip)) <|
 .seq (.reg [
 ⟨some 13, .call .blind 9 [], none⟩,
 ⟨some 14, .call .eff 8 [(.t 13)], none⟩,
 ⟨some 3, .mv (.t 14), none⟩]) <|
 .seq (.seq (.reg [
 ⟨some 15, .mv (.t 3), none⟩,
 ⟨some 16, .bin .eql .np (.t 15) (.k (.nilp)), none⟩,
 ⟨some 17, .mv (.t 16), none⟩,
 ⟨some 18, .mv (.t 3), some (17, false)⟩,
 ⟨some 19, .call .blind 12 [(.k (.int .i64 0))], some (17, false)⟩,
 ⟨some 20, .call .eff 11 [(.t 18), (.t 19)], some (17, false)⟩,
 ⟨some 21, .call .blind 10 [(.t 20)], some (17, false)⟩,
 ⟨some 22, .un .not (.t 21), some (17, false)⟩,
 ⟨some 23, .pick (.t 17) (.k (.bool true)) (.t 22), none⟩]) <|
 .cond (.t 23)
 (.seq (.reg [
 ⟨some 2, .mv (.k (.bool false)), none⟩]) <|
 .ret)
 (.skip)) <|
 .seq (.reg [
 ⟨some 24, .build [.int .i64 0, .int .i64 0, .int .i64 0, .int .i64 0, .int .i64 0] [(0, 1, (.k (.int .i64 7)))], none⟩,
 ⟨some 25, .bsl false 5 [.int .i64 0, .int .i64 0, .int .i64 0, .int .i64 0, .int .i64 0] 1 [(0, (.t 24))], none⟩,
 ⟨some 4, .mv (.t 25), none⟩]) <|
 .seq (.seq (.reg [
 ⟨some 26, .mv (.t 3), none⟩,
 ⟨some 27, .mv (.t 4), none⟩,
 ⟨some 28, .call .eff 11 [(.t 26), (.t 27)], none⟩,
 ⟨some 29, .call .blind 10 [(.t 28)], none⟩]) <|
 .cond (.t 29)
 (.seq (.reg [
 ⟨some 2, .mv (.k (.bool false)), none⟩]) <|
 .ret)
 (.skip)) <|
 .seq (.seq (.reg [
 ⟨some 5, .mv (.k (.int .i64 0)), none⟩]) <|
 .block 0 <|
 l6_0) <|
 .seq (.seq (.reg [
 ⟨some 38, .mv (.t 3), none⟩,
 ⟨some 39, .mv (.t 4), none⟩,
 ⟨some 40, .call .eff 11 [(.t 38), (.t 39)], none⟩,
 ⟨some 41, .call .blind 10 [(.t 40)], none⟩,
 ⟨some 42, .mv (.t 41), none⟩,
 ⟨some 43, .mv (.t 3), some (42, false)⟩,
 ⟨some 44, .call .eff 11 [(.t 43), (.k (.nils))], some (42, false)⟩,
 ⟨some 45, .call .blind 10 [(.t 44)], some (42, false)⟩,
 ⟨some 46, .pick (.t 42) (.k (.bool true)) (.t 45), none⟩]) <|
 .cond (.t 46)
 (.seq (.reg [
 ⟨some 2, .mv (.k (.bool false)), none⟩]) <|
 .ret)
 (.skip)) <|
 .seq (.reg [
 ⟨some 47, .mv (.t 3), none⟩,
 ⟨some 48, .call .ro 16 [(.t 47), (.k (.int .i64 0))], none⟩,
 ⟨some 6, .mv (.t 48), none⟩]) <|
 .seq (.reg [
 ⟨some 49, .mv (.t 6), none⟩,
 ⟨some 50, .len (.t 49), none⟩,
 ⟨some 51, .bin .eql .sc (.t 50) (.k (.int .i64 1)), none⟩,
 ⟨some 52, .mv (.t 51), none⟩,
 ⟨some 53, .mv (.t 6), some (52, true)⟩,
 ⟨some 54, .idx 4 (.t 53) (.k (.int .i64 0)), some (52, true)⟩,
 ⟨some 55, .fld 0 (.t 54), some (52, true)⟩,
 ⟨some 56, .ld 1 false (.t 55), some (52, true)⟩,
 ⟨some 57, .bin .eql .sc (.t 56) (.k (.int .i64 0)), some (52, true)⟩,
 ⟨some 58, .pick (.t 52) (.t 57) (.k (.bool false)), none⟩,
 ⟨some 59, .mv (.t 58), none⟩,
 ⟨some 60, .mv (.t 3), some (59, true)⟩,
 ⟨some 61, .call .blind 12 [(.k (.int .i64 0))], some (59, true)⟩,
 ⟨some 62, .call .eff 11 [(.t 60), (.t 61)], some (59, true)⟩,
 ⟨some 63, .call .blind 10 [(.t 62)], some (59, true)⟩,
 ⟨some 64, .pick (.t 59) (.t 63) (.k (.bool false)), none⟩,
 ⟨some 65, .mv (.t 64), none⟩,
 ⟨some 66, .call .blind 15 [], some (65, true)⟩,
 ⟨some 67, .pick (.t 65) (.t 66) (.k (.bool false)), none⟩,
 ⟨some 2, .mv (.t 67), none⟩]) <|
 .ret⟩

def l7_1b : DC :=
 .seq (.seq (.reg [
 ⟨some 36, .mv (.t 6), none⟩,
 ⟨some 37, .bin .lss .sc (.t 36) (.k (.int .i64 20)), none⟩]) <|
 .cond (.t 37)
 (.skip)
 (.exit 2)) <|
 .seq (.block 3 <|
 .seq (.reg [
 ⟨some 40, .mv (.t 3), none⟩,
 ⟨some 41, .call .eff 11 [(.t 40), (.k (.nils))], none⟩,
 ⟨some 42, .call .blind 10 [(.t 41)], none⟩]) <|
 .cond (.t 42)
 (.seq (.reg [
 ⟨some 2, .mv (.k (.bool false)), none⟩]) <|
 .ret)
 (.skip)) <|
 .reg [
 ⟨some 38, .mv (.t 6), none⟩,
 ⟨some 39, .bin .add .sc (.t 38) (.k (.int .i64 1)), none⟩,
 ⟨some 6, .mv (.t 39), none⟩]
def l7_1 : DC := .loop [3, 6] [] l7_1b
def l7_0b : DC :=
 .seq (.seq (.reg [
 ⟨some 25, .mv (.t 5), none⟩,
 ⟨some 26, .mv (.t 0), none⟩,
 ⟨some 27, .bin .lss .sc (.t 25) (.t 26), none⟩]) <|
 .cond (.t 27)
 (.skip)
 (.exit 0)) <|
 .seq (.block 1 <|
 .reg [
 ⟨some 30, .mv (.t 3), none⟩,
 ⟨some 31, .call .eff 11 [(.t 30), (.k (.nils))], none⟩]) <|
 .reg [
 ⟨some 28, .mv (.t 5), none⟩,
 ⟨some 29, .bin .add .sc (.t 28) (.k (.int .i64 1)), none⟩,
 ⟨some 5, .mv (.t 29), none⟩]
def l7_0 : DC := .loop [0, 3, 5] [] l7_0b
def f7 : DFn := ⟨1, [.t 2],
 .seq (.reg [
 ⟨some 2, .mv (.k (.bool false)), none⟩]) <|
 .seq (.seq (.reg [
 ⟨some 8, .mv (.t 0), none⟩,
 ⟨some 9, .bin .lss .sc (.t 8) (.k (.int .i64 0)), none⟩,
 ⟨some 10, .mv (.t 9), none⟩,
 ⟨some 11, .mv (.t 0), some (10, false)⟩,
 ⟨some 12, .bin .geq .sc (.t 11) (.k (.int .i64 10)), some (10, false)⟩,
 ⟨some 13, .pick (.t 10) (.k (.bool true)) (.t 12), none⟩]) <|
 .cond (.t 13)
 (.seq (.reg [
 ⟨some 2, .mv (.k (.bool true)), none⟩]) <|
 .ret)
 (.skip)) <|
 .seq (.reg [
 ⟨some 15, .call .blind 9 [], none⟩,
 ⟨some 16, .call .eff 17 [(.t 15)], none⟩,
 ⟨some 14, .mv (.t 16), none⟩,
 ⟨some 17, .ext 0 (.t 14), none⟩,
 ⟨some 18, .ext 1 (.t 14), none⟩,
 ⟨some 3, .mv (.t 17), none⟩,
 ⟨some 4, .mv (.t 18), none⟩]) <|
 .seq (.seq (.reg [
 ⟨some 19, .mv (.t 4), none⟩,
 ⟨some 20, .bin .neq .sc (.t 19) (.k (.int .i64 0)), none⟩,
 ⟨some 21, .mv (.t 20), none⟩,
 ⟨some 22, .mv (.t 3), some (21, false)⟩,
 ⟨some 23, .bin .eql .np (.t 22) (.k (.nilp)), some (21, false)⟩,
 ⟨some 24, .pick (.t 21) (.k (.bool true)) (.t 23), none⟩]) <|
 .cond (.t 24)
 (.seq (.reg [
 ⟨some 2, .mv (.k (.bool false)), none⟩]) <|
 .ret)
 (.skip)) <|
 .seq (.seq (.reg [
 ⟨some 5, .mv (.k (.int .i64 0)), none⟩]) <|
 .block 0 <|
 l7_0) <|
 .seq (.seq (.reg [
 ⟨some 32, .mv (.t 3), none⟩,
 ⟨some 33, .call .blind 12 [(.k (.int .i64 0))], none⟩,
 ⟨some 34, .call .eff 11 [(.t 32), (.t 33)], none⟩,
 ⟨some 35, .call .blind 10 [(.t 34)], none⟩]) <|
 .cond (.t 35)
 (.seq (.reg [
 ⟨some 2, .mv (.k (.bool false)), none⟩]) <|
 .ret)
 (.skip)) <|
 .seq (.seq (.reg [
 ⟨some 6, .mv (.k (.int .i64 0)), none⟩]) <|
 .block 2 <|
 l7_1) <|
 .seq (.reg [
 ⟨some 43, .mv (.t 3), none⟩,
 ⟨some 44, .call .ro 16 [(.t 43), (.k (.int .i64 0))], none⟩,
 ⟨some 7, .mv (.t 44), none⟩]) <|
 .seq (.reg [
 ⟨some 45, .mv (.t 7), none⟩,
 ⟨some 46, .len (.t 45), none⟩,
 ⟨some 47, .bin .eql .sc (.t 46) (.k (.int .i64 1)), none⟩,
 ⟨some 48, .mv (.t 47), none⟩,
 ⟨some 49, .mv (.t 7), some (48, true)⟩,
 ⟨some 50, .idx 4 (.t 49) (.k (.int .i64 0)), some (48, true)⟩,
 ⟨some 51, .fld 0 (.t 50), some (48, true)⟩,
 ⟨some 52, .ld 1 false (.t 51), some (48, true)⟩,
 ⟨some 53, .bin .eql .sc (.t 52) (.k (.int .i64 0)), some (48, true)⟩,
 ⟨some 54, .pick (.t 48) (.t 53) (.k (.bool false)), none⟩,
 ⟨some 55, .mv (.t 54), none⟩,
 ⟨some 56, .mv (.t 3), some (55, true)⟩,
 ⟨some 57, .call .blind 12 [(.k (.int .i64 0))], some (55, true)⟩,
 ⟨some 58, .call .eff 11 [(.t 56), (.t 57)], some (55, true)⟩,
 ⟨some 59, .call .blind 10 [(.t 58)], some (55, true)⟩,
 ⟨some 60, .pick (.t 55) (.t 59) (.k (.bool false)), none⟩,
 ⟨some 61, .mv (.t 60), none⟩,
 ⟨some 62, .call .blind 15 [], some (61, true)⟩,
 ⟨some 63, .pick (.t 61) (.t 62) (.k (.bool false)), none⟩,
 ⟨some 2, .mv (.t 63), none⟩]) <|
 .ret⟩

def l8_0b : DC :=
 .seq (.seq (.reg [
 ⟨some 17, .mv (.t 5), none⟩,
 ⟨some 18, .bin .lss .sc (.t 17) (.k (.int .i64 10)), none⟩]) <|
 .cond (.t 18)
 (.skip)
 (.exit 0)) <|
 .seq (.block 1 <|
 .reg [
 ⟨some 21, .mv (.t 3), none⟩,
 ⟨some 22, .call .eff 11 [(.t 21), (.k (.nils))], none⟩]) <|
 .reg [
 ⟨some 19, .mv (.t 5), none⟩,
 ⟨some 20, .bin .add .sc (.t 19) (.k (.int .i64 1)), none⟩,
 ⟨some 5, .mv (.t 20), none⟩]
def l8_0 : DC := .loop [3, 5] [] l8_0b
def f8 : DFn := ⟨1, [.t 2],
 .seq (.reg [
 ⟨some 1, .boxL (.t 0), none⟩,
 ⟨some 2, .mv (.k (.nilp)), none⟩]) <|
 .seq (.reg [
 ⟨some 7, .ld 4 true (.t 1), none⟩,
 ⟨some 8, .call .eff 17 [(.t 7)], none⟩,
 ⟨some 6, .mv (.t 8), none⟩,
 ⟨some 9, .ext 0 (.t 6), none⟩,
 ⟨some 10, .ext 1 (.t 6), none⟩,
 ⟨some 3, .mv (.t 9), none⟩,
 ⟨some 4, .mv (.t 10), none⟩]) <|
 .seq (.seq (.reg [
 ⟨some 11, .mv (.t 4), none⟩,
 ⟨some 12, .bin .neq .sc (.t 11) (.k (.int .i64 0)), none⟩,
 ⟨some 13, .mv (.t 12), none⟩,
 ⟨some 14, .mv (.t 3), some (13, false)⟩,
 ⟨some 15, .bin .eql .np (.t 14) (.k (.nilp)), some (13, false)⟩,
 ⟨some 16, .pick (.t 13) (.k (.bool true)) (.t 15), none⟩]) <|
 .cond (.t 16)
 (.seq (.reg [
 ⟨some 2, .mv (.k (.nilp)), none⟩]) <|
 .ret)
 (.skip)) <|
 .seq (.seq (.reg [
 ⟨some 5, .mv (.k (.int .i64 0)), none⟩]) <|
 .block 0 <|
 l8_0) <|
 .seq (.seq (.reg [
 ⟨some 23, .mv (.t 3), none⟩,
 ⟨some 24, .call .ro 13 [(.t 23), (.k (.int .i64 0))], none⟩,
 ⟨some 25, .bin .neq .sc (.t 24) (.k (.int .i64 3)), none⟩]) <|
 .cond (.t 25)
 (.seq (.reg [
 ⟨some 2, .mv (.k (.nilp)), none⟩]) <|
 .ret)
 (.skip)) <|
 .seq (.reg [
 ⟨some 26, .mv (.t 3), none⟩,
 ⟨some 2, .mv (.t 26), none⟩]) <|
 .ret⟩

def f9 : DFn := ⟨0, [.cell 0 4 true],
 .seq (.reg [
 ⟨some 0, .alL [.nils, .nils, .nils, .nils], none⟩]) <|
 .seq (.reg [
 ⟨some 1, .bsl false 1 [.str []] 1 [(0, (.k (.str [97])))], none⟩,
 ⟨some 2, .bsl false 1 [.str []] 2 [(0, (.k (.str [115]))), (1, (.k (.str [116])))], none⟩,
 ⟨some 3, .bsl false 1 [.int .i64 0] 1 [(0, (.k (.int .i64 0)))], none⟩,
 ⟨some 4, .build [.str [], .int .i64 0, .int .i64 0, .nils, .nils, .nils] [(0, 1, (.k (.str [114]))), (2, 1, (.k (.int .i64 1))), (3, 1, (.t 3))], none⟩,
 ⟨some 5, .bsl false 6 [.str [], .int .i64 0, .int .i64 0, .nils, .nils, .nils] 1 [(0, (.t 4))], none⟩,
 ⟨some 6, .build [.nils, .nils, .nils, .nils] [(0, 1, (.t 1)), (2, 1, (.t 2)), (3, 1, (.t 5))], none⟩,
 ⟨none, .st 4 (.t 0) (.t 6), none⟩]) <|
 .ret⟩

def f10 : DFn := ⟨1, [.t 2],
 .seq (.reg [
 ⟨some 1, .boxL (.t 0), none⟩,
 ⟨some 2, .mv (.k (.bool false)), none⟩]) <|
 .seq (.reg [
 ⟨some 3, .fld 1 (.t 1), none⟩,
 ⟨some 4, .ld 1 false (.t 3), none⟩,
 ⟨some 5, .len (.t 4), none⟩,
 ⟨some 6, .bin .gtr .sc (.t 5) (.k (.int .i64 0)), none⟩,
 ⟨some 7, .mv (.t 6), none⟩,
 ⟨some 8, .fld 1 (.t 1), some (7, true)⟩,
 ⟨some 9, .ld 1 false (.t 8), some (7, true)⟩,
 ⟨some 10, .idx 1 (.t 9) (.k (.int .i64 0)), some (7, true)⟩,
 ⟨some 11, .ld 1 false (.t 10), some (7, true)⟩,
 ⟨some 12, .pick (.t 7) (.t 11) (.k (.bool false)), none⟩,
 ⟨some 2, .mv (.t 12), none⟩]) <|
 .ret⟩

def l11_2b : DC :=
 .seq (.reg [
 ⟨some 84, .bin .lss .sc (.t 83) (.t 82), none⟩]) <|
 .seq (.cond (.t 84)
 (.skip)
 (.exit 4)) <|
 .seq (.block 5 <|
 .seq (.reg [
 ⟨some 85, .idx 1 (.t 81) (.t 83), none⟩,
 ⟨some 86, .ld 1 false (.t 85), none⟩,
 ⟨some 11, .mv (.t 86), none⟩]) <|
 .reg [
 ⟨some 87, .mv (.t 0), none⟩,
 ⟨some 88, .mv (.t 11), none⟩,
 ⟨some 89, .mv (.t 1), none⟩,
 ⟨some 90, .mv (.t 11), none⟩,
 ⟨some 91, .call .blind 21 [(.t 89), (.k (.int .i64 4)), (.t 90)], none⟩,
 ⟨some 92, .call .eff 25 [(.t 87), (.t 88), (.t 91)], none⟩]) <|
 .reg [
 ⟨some 93, .bin .add .sc (.t 83) (.k (.int .i64 1)), none⟩,
 ⟨some 83, .mv (.t 93), none⟩]
def l11_2 : DC := .loop [0, 1, 4, 81, 82, 83] [4] l11_2b
def l11_1b : DC :=
 .seq (.reg [
 ⟨some 52, .bin .lss .sc (.t 51) (.k (.int .i64 2)), none⟩]) <|
 .seq (.cond (.t 52)
 (.skip)
 (.exit 2)) <|
 .seq (.block 3 <|
 .seq (.reg [
 ⟨some 53, .mv (.t 51), none⟩,
 ⟨some 54, .idxV 1 2 false (.t 50) (.t 51), none⟩,
 ⟨some 7, .mv (.t 53), none⟩,
 ⟨some 8, .mv (.t 54), none⟩]) <|
 .seq (.reg [
 ⟨some 55, .mv (.t 8), none⟩,
 ⟨some 56, .mv (.t 1), none⟩,
 ⟨some 57, .mv (.t 7), none⟩,
 ⟨some 58, .call .blind 21 [(.t 56), (.k (.int .i64 3)), (.t 57)], none⟩,
 ⟨some 59, .call .eff 20 [(.t 55), (.t 58)], none⟩]) <|
 .reg [
 ⟨some 60, .mv (.t 8), none⟩,
 ⟨some 61, .mv (.t 0), none⟩,
 ⟨some 62, .nilck (.t 61), none⟩,
 ⟨some 63, .fld 3 (.t 62), none⟩,
 ⟨some 64, .ld 1 false (.t 63), none⟩,
 ⟨some 65, .mv (.t 7), none⟩,
 ⟨some 66, .call .eff 23 [(.t 64), (.t 65)], none⟩,
 ⟨some 67, .call .eff 22 [(.t 60), (.t 66)], none⟩]) <|
 .reg [
 ⟨some 68, .bin .add .sc (.t 51) (.k (.int .i64 1)), none⟩,
 ⟨some 51, .mv (.t 68), none⟩]
def l11_1 : DC := .loop [0, 1, 4, 50, 51] [4] l11_1b
def l11_0b : DC :=
 .seq (.reg [
 ⟨some 40, .bin .lss .sc (.t 39) (.t 38), none⟩]) <|
 .seq (.cond (.t 40)
 (.skip)
 (.exit 0)) <|
 .seq (.block 1 <|
 .seq (.reg [
 ⟨some 41, .idx 5 (.t 37) (.t 39), none⟩,
 ⟨some 42, .ld 5 true (.t 41), none⟩,
 ⟨some 6, .alL [.int .i64 0, .int .i64 0, .int .i64 0, .int .i64 0, .int .i64 0], none⟩,
 ⟨none, .st 5 (.t 6) (.t 42), none⟩]) <|
 .reg [
 ⟨some 43, .mv (.t 0), none⟩,
 ⟨some 44, .ld 5 true (.t 6), none⟩,
 ⟨some 45, .call .eff 19 [(.t 43), (.t 44)], none⟩]) <|
 .reg [
 ⟨some 46, .bin .add .sc (.t 39) (.k (.int .i64 1)), none⟩,
 ⟨some 39, .mv (.t 46), none⟩]
def l11_0 : DC := .loop [0, 1, 4, 37, 38, 39] [4] l11_0b
def f11 : DFn := ⟨2, [.cell 4 2 true],
 .seq (.reg [
 ⟨some 4, .alL [.nils, .nils], none⟩]) <|
 .seq (.seq (.reg [
 ⟨some 13, .mv (.t 0), none⟩,
 ⟨some 14, .bin .eql .np (.t 13) (.k (.nilp)), none⟩]) <|
 .cond (.t 14)
 (.seq (.reg [
 ⟨some 15, .build [.nils, .nils] [], none⟩,
 ⟨none, .st 2 (.t 4) (.t 15), none⟩]) <|
 .ret)
 (.skip)) <|
 .seq (.reg [
 ⟨some 16, .mv (.t 1), none⟩,
 ⟨some 17, .mv (.t 1), none⟩,
 ⟨some 18, .len (.t 17), none⟩,
 ⟨some 19, .mn (.t 18) (.k (.int .i64 8)), none⟩,
 ⟨some 20, .slc 5 (.t 16) none (some (.t 19)) none, none⟩,
 ⟨some 1, .mv (.t 20), none⟩]) <|
 .seq (.reg [
 ⟨some 21, .mv (.t 0), none⟩,
 ⟨some 22, .nilck (.t 21), none⟩,
 ⟨some 23, .fld 6 (.t 22), none⟩,
 ⟨some 24, .ld 1 false (.t 23), none⟩,
 ⟨some 25, .bin .add .sc (.t 24) (.k (.int .i64 1)), none⟩,
 ⟨some 26, .nilck (.t 21), none⟩,
 ⟨some 27, .fld 6 (.t 26), none⟩,
 ⟨none, .st 1 (.t 27) (.t 25), none⟩]) <|
 .seq (.drw [
 ⟨some 28, .mv (.t 0), none⟩,
 ⟨some 29, .nilck (.t 28), none⟩,
 ⟨some 30, .fld 2 (.t 29), none⟩,
 ⟨some 31, .ld 1 false (.t 30), none⟩,
 ⟨some 32, .mv (.t 0), none⟩,
 ⟨some 33, .nilck (.t 32), none⟩,
 ⟨some 34, .fld 6 (.t 33), none⟩,
 ⟨some 35, .ld 1 false (.t 34), none⟩,
 ⟨some 36, .call .eff 18 [(.t 31), (.t 35)], none⟩] [[], [], [], [], [], [], [], [], [3, 7]]) <|
 .seq (.seq (.reg [
 ⟨some 37, .mv (.t 1), none⟩,
 ⟨some 38, .len (.t 37), none⟩,
 ⟨some 39, .mv (.k (.int .i64 0)), none⟩]) <|
 .block 0 <|
 l11_0) <|
 .seq (.seq (.reg [
 ⟨some 47, .mv (.t 0), none⟩,
 ⟨some 48, .nilck (.t 47), none⟩,
 ⟨some 49, .fld 0 (.t 48), none⟩,
 ⟨some 50, .ld 2 true (.t 49), none⟩,
 ⟨some 51, .mv (.k (.int .i64 0)), none⟩]) <|
 .block 2 <|
 l11_1) <|
 .seq (.reg [
 ⟨some 69, .mv (.t 0), none⟩,
 ⟨some 70, .mv (.t 1), none⟩,
 ⟨some 71, .call .eff 24 [(.t 69), (.t 70)], none⟩]) <|
 .seq (.reg [
 ⟨some 72, .mv (.t 0), none⟩,
 ⟨some 73, .nilck (.t 72), none⟩,
 ⟨some 74, .fld 6 (.t 73), none⟩,
 ⟨some 75, .ld 1 false (.t 74), none⟩,
 ⟨some 76, .bin .add .sc (.t 75) (.k (.int .i64 1)), none⟩,
 ⟨some 77, .bin .rem .sc (.t 76) (.k (.int .i64 2)), none⟩,
 ⟨some 9, .mv (.t 77), none⟩]) <|
 .seq (.seq (.reg [
 ⟨some 78, .mv (.t 9), none⟩,
 ⟨some 79, .mv (.t 9), none⟩,
 ⟨some 80, .bin .sub .sc (.k (.int .i64 1)) (.t 79), none⟩,
 ⟨some 81, .bsl false 1 [.int .i64 0] 2 [(0, (.t 78)), (1, (.t 80))], none⟩,
 ⟨some 82, .len (.t 81), none⟩,
 ⟨some 83, .mv (.k (.int .i64 0)), none⟩]) <|
 .block 4 <|
 l11_2) <|
 .seq (.reg [
 ⟨some 94, .mv (.t 0), none⟩,
 ⟨some 95, .mv (.t 1), none⟩,
 ⟨some 96, .call .eff 26 [(.t 94), (.t 95)], none⟩,
 ⟨some 12, .alL [.nils, .nils], none⟩,
 ⟨none, .st 2 (.t 12) (.t 96), none⟩]) <|
 .seq (.drw [
 ⟨some 97, .mv (.t 0), none⟩,
 ⟨some 98, .nilck (.t 97), none⟩,
 ⟨some 99, .fld 4 (.t 98), none⟩,
 ⟨some 100, .ld 1 false (.t 99), none⟩,
 ⟨some 101, .fld 0 (.t 12), none⟩,
 ⟨some 102, .ld 1 false (.t 101), none⟩,
 ⟨some 103, .call .eff 27 [(.t 100), (.t 102)], none⟩] [[], [], [], [], [], [], [3, 5]]) <|
 .seq (.reg [
 ⟨some 104, .mv (.t 0), none⟩,
 ⟨some 105, .mv (.t 1), none⟩,
 ⟨some 106, .call .eff 28 [(.t 104), (.t 105)], none⟩]) <|
 .seq (.reg [
 ⟨some 107, .ld 2 true (.t 12), none⟩,
 ⟨none, .st 2 (.t 4) (.t 107), none⟩]) <|
 .ret⟩

def f12 : DFn := ⟨1, [.t 2],
 .seq (.reg [
 ⟨some 2, .mv (.k (.nils)), none⟩]) <|
 .seq (.reg [
 ⟨some 3, .mv (.t 0), none⟩,
 ⟨some 4, .build [.int .i64 0, .int .i64 0] [(0, 1, (.k (.int .i64 1))), (1, 1, (.t 3))], none⟩,
 ⟨some 5, .build [.int .i64 0, .int .i64 0, .int .i64 0, .int .i64 0, .int .i64 0] [(0, 1, (.k (.int .i64 8))), (3, 2, (.t 4))], none⟩,
 ⟨some 6, .bsl false 5 [.int .i64 0, .int .i64 0, .int .i64 0, .int .i64 0, .int .i64 0] 1 [(0, (.t 5))], none⟩,
 ⟨some 2, .mv (.t 6), none⟩]) <|
 .ret⟩

def f13 : DFn := ⟨2, [.t 4],
 .seq (.reg [
 ⟨some 4, .mv (.k (.int .i64 0)), none⟩]) <|
 .seq (.reg [
 ⟨some 5, .mv (.t 0), none⟩,
 ⟨some 6, .mv (.t 1), none⟩,
 ⟨some 7, .call .ro 29 [(.t 5), (.t 6)], none⟩,
 ⟨some 8, .call .ro 30 [(.t 7)], none⟩,
 ⟨some 4, .mv (.t 8), none⟩]) <|
 .ret⟩

def f14 : DFn := ⟨1, [.t 2],
 .seq (.reg [
 ⟨some 2, .mv (.k (.int .i64 0)), none⟩]) <|
 .seq (.seq (.reg [
 ⟨some 3, .mv (.t 0), none⟩,
 ⟨some 4, .bin .eql .np (.t 3) (.k (.nilp)), none⟩]) <|
 .cond (.t 4)
 (.seq (.reg [
 ⟨some 2, .mv (.k (.int .i64 (-1))), none⟩]) <|
 .ret)
 (.skip)) <|
 .seq (.reg [
 ⟨some 5, .mv (.t 0), none⟩,
 ⟨some 6, .nilck (.t 5), none⟩,
 ⟨some 7, .fld 2 (.t 6), none⟩,
 ⟨some 8, .ld 1 false (.t 7), none⟩,
 ⟨some 9, .call .ro 31 [(.t 8)], none⟩,
 ⟨some 2, .mv (.t 9), none⟩]) <|
 .ret⟩

def f15 : DFn := ⟨0, [.t 0],
 .seq (.reg [
 ⟨some 0, .mv (.k (.bool false)), none⟩]) <|
 .seq (.reg [
 ⟨some 5, .call .blind 9 [], none⟩,
 ⟨some 6, .call .eff 17 [(.t 5)], none⟩,
 ⟨some 4, .mv (.t 6), none⟩,
 ⟨some 7, .ext 0 (.t 4), none⟩,
 ⟨some 8, .ext 1 (.t 4), none⟩,
 ⟨some 1, .mv (.t 7), none⟩,
 ⟨some 2, .mv (.t 8), none⟩]) <|
 .seq (.seq (.reg [
 ⟨some 9, .mv (.t 2), none⟩,
 ⟨some 10, .bin .neq .sc (.t 9) (.k (.int .i64 0)), none⟩,
 ⟨some 11, .mv (.t 10), none⟩,
 ⟨some 12, .mv (.t 1), some (11, false)⟩,
 ⟨some 13, .bin .eql .np (.t 12) (.k (.nilp)), some (11, false)⟩,
 ⟨some 14, .pick (.t 11) (.k (.bool true)) (.t 13), none⟩,
 ⟨some 15, .mv (.t 14), none⟩,
 ⟨some 16, .mv (.t 1), some (15, false)⟩,
 ⟨some 17, .call .ro 14 [(.t 16)], some (15, false)⟩,
 ⟨some 18, .bin .neq .sc (.t 17) (.k (.int .i64 (-1))), some (15, false)⟩,
 ⟨some 19, .pick (.t 15) (.k (.bool true)) (.t 18), none⟩]) <|
 .cond (.t 19)
 (.seq (.reg [
 ⟨some 0, .mv (.k (.bool false)), none⟩]) <|
 .ret)
 (.skip)) <|
 .seq (.reg [
 ⟨some 20, .mv (.t 1), none⟩,
 ⟨some 21, .call .eff 11 [(.t 20), (.k (.nils))], none⟩]) <|
 .seq (.reg [
 ⟨some 22, .mv (.t 1), none⟩,
 ⟨some 23, .call .ro 14 [(.t 22)], none⟩,
 ⟨some 3, .mv (.t 23), none⟩]) <|
 .seq (.reg [
 ⟨some 24, .mv (.t 1), none⟩,
 ⟨some 25, .call .eff 11 [(.t 24), (.k (.nils))], none⟩]) <|
 .seq (.reg [
 ⟨some 26, .mv (.t 3), none⟩,
 ⟨some 27, .bin .eql .sc (.t 26) (.k (.int .i64 (-1))), none⟩,
 ⟨some 28, .mv (.t 27), none⟩,
 ⟨some 29, .mv (.t 1), some (28, true)⟩,
 ⟨some 30, .call .ro 14 [(.t 29)], some (28, true)⟩,
 ⟨some 31, .bin .eql .sc (.t 30) (.k (.int .i64 0)), some (28, true)⟩,
 ⟨some 32, .pick (.t 28) (.t 31) (.k (.bool false)), none⟩,
 ⟨some 33, .mv (.t 32), none⟩,
 ⟨some 34, .mv (.t 1), some (33, true)⟩,
 ⟨some 35, .call .ro 32 [(.t 34)], some (33, true)⟩,
 ⟨some 36, .bin .eql .sc (.t 35) (.k (.int .i64 2)), some (33, true)⟩,
 ⟨some 37, .pick (.t 33) (.t 36) (.k (.bool false)), none⟩,
 ⟨some 38, .mv (.t 37), none⟩,
 ⟨some 39, .mv (.t 1), some (38, true)⟩,
 ⟨some 40, .call .ro 13 [(.t 39), (.k (.int .i64 0))], some (38, true)⟩,
 ⟨some 41, .bin .eql .sc (.t 40) (.k (.int .i64 4)), some (38, true)⟩,
 ⟨some 42, .pick (.t 38) (.t 41) (.k (.bool false)), none⟩,
 ⟨some 43, .mv (.t 42), none⟩,
 ⟨some 44, .mv (.t 1), some (43, true)⟩,
 ⟨some 45, .call .ro 13 [(.t 44), (.k (.int .i64 1))], some (43, true)⟩,
 ⟨some 46, .bin .eql .sc (.t 45) (.k (.int .i64 2)), some (43, true)⟩,
 ⟨some 47, .pick (.t 43) (.t 46) (.k (.bool false)), none⟩,
 ⟨some 0, .mv (.t 47), none⟩]) <|
 .ret⟩

def f16 : DFn := ⟨2, [.t 4],
 .seq (.reg [
 ⟨some 4, .mv (.k (.nils)), none⟩]) <|
 .seq (.reg [
 ⟨some 5, .mv (.t 0), none⟩,
 ⟨some 6, .mv (.t 1), none⟩,
 ⟨some 7, .call .ro 29 [(.t 5), (.t 6)], none⟩,
 ⟨some 8, .call .ro 33 [(.t 7)], none⟩,
 ⟨some 4, .mv (.t 8), none⟩]) <|
 .ret⟩

def l17_0b : DC :=
 .seq (.reg [
 ⟨some 30, .bin .lss .sc (.t 29) (.k (.int .i64 2)), none⟩]) <|
 .seq (.cond (.t 30)
 (.skip)
 (.exit 0)) <|
 .seq (.block 1 <|
 .seq (.reg [
 ⟨some 31, .mv (.t 29), none⟩,
 ⟨some 9, .mv (.t 31), none⟩]) <|
 .drw [
 ⟨some 33, .mv (.t 8), none⟩,
 ⟨some 34, .mv (.t 9), none⟩,
 ⟨some 35, .ld 4 true (.t 1), none⟩,
 ⟨some 36, .call .eff 38 [(.t 35)], none⟩,
 ⟨some 32, .mv (.t 36), none⟩,
 ⟨some 37, .ext 0 (.t 32), none⟩,
 ⟨some 38, .ext 1 (.t 32), none⟩,
 ⟨some 39, .nilck (.t 33), none⟩,
 ⟨some 40, .fld 0 (.t 39), none⟩,
 ⟨some 41, .idxA 1 2 (.t 40) (.t 34), none⟩,
 ⟨none, .st 1 (.t 41) (.t 37), none⟩] [[], [], [], [2], [], [], [], [], [], [], [2, 3]]) <|
 .reg [
 ⟨some 42, .bin .add .sc (.t 29) (.k (.int .i64 1)), none⟩,
 ⟨some 29, .mv (.t 42), none⟩]
def l17_0 : DC := .loop [1, 8, 29] [1] l17_0b
def f17 : DFn := ⟨1, [.t 2, .t 3],
 .seq (.reg [
 ⟨some 1, .boxL (.t 0), none⟩,
 ⟨some 2, .mv (.k (.nilp)), none⟩,
 ⟨some 3, .mv (.k (.int .i64 0)), none⟩]) <|
 .seq (.reg [
 ⟨some 11, .ld 4 true (.t 1), none⟩,
 ⟨some 12, .call .eff 34 [(.t 11)], none⟩,
 ⟨some 10, .mv (.t 12), none⟩,
 ⟨some 13, .ext 0 (.t 10), none⟩,
 ⟨some 14, .ext 1 (.t 10), none⟩,
 ⟨some 4, .mv (.t 13), none⟩,
 ⟨some 5, .mv (.t 14), none⟩]) <|
 .seq (.seq (.reg [
 ⟨some 15, .mv (.t 5), none⟩,
 ⟨some 16, .bin .neq .sc (.t 15) (.k (.int .i64 0)), none⟩]) <|
 .cond (.t 16)
 (.seq (.reg [
 ⟨some 17, .mv (.t 5), none⟩,
 ⟨some 2, .mv (.k (.nilp)), none⟩,
 ⟨some 3, .mv (.t 17), none⟩]) <|
 .ret)
 (.skip)) <|
 .seq (.reg [
 ⟨some 19, .ld 4 true (.t 1), none⟩,
 ⟨some 20, .call .eff 35 [(.t 19)], none⟩,
 ⟨some 18, .mv (.t 20), none⟩,
 ⟨some 21, .ext 0 (.t 18), none⟩,
 ⟨some 22, .ext 1 (.t 18), none⟩,
 ⟨some 6, .mv (.t 21), none⟩,
 ⟨some 7, .mv (.t 22), none⟩]) <|
 .seq (.reg [
 ⟨some 23, .call .eff 36 [], none⟩,
 ⟨some 24, .call .eff 37 [], none⟩,
 ⟨some 25, .mv (.t 6), none⟩,
 ⟨some 26, .mv (.t 4), none⟩,
 ⟨some 27, .build [.nilp, .nilp, .nilp, .nilp, .nilp, .nilp, .int .i64 0] [(2, 1, (.t 23)), (3, 1, (.t 24)), (4, 1, (.t 25)), (5, 1, (.t 26))], none⟩,
 ⟨some 28, .boxH (.t 27), none⟩,
 ⟨some 8, .mv (.t 28), none⟩]) <|
 .seq (.seq (.reg [
 ⟨some 29, .mv (.k (.int .i64 0)), none⟩]) <|
 .block 0 <|
 l17_0) <|
 .seq (.reg [
 ⟨some 43, .mv (.t 8), none⟩,
 ⟨some 2, .mv (.t 43), none⟩,
 ⟨some 3, .mv (.k (.int .i64 0)), none⟩]) <|
 .ret⟩

def f18 : DFn := ⟨2, [],
 .seq (.seq (.reg [
 ⟨some 4, .mv (.t 0), none⟩,
 ⟨some 5, .bin .eql .np (.t 4) (.k (.nilp)), none⟩,
 ⟨some 6, .mv (.t 5), none⟩,
 ⟨some 7, .mv (.t 1), some (6, false)⟩,
 ⟨some 8, .mv (.t 0), some (6, false)⟩,
 ⟨some 9, .nilck (.t 8), some (6, false)⟩,
 ⟨some 10, .fld 0 (.t 9), some (6, false)⟩,
 ⟨some 11, .ld 1 false (.t 10), some (6, false)⟩,
 ⟨some 12, .bin .leq .sc (.t 7) (.t 11), some (6, false)⟩,
 ⟨some 13, .pick (.t 6) (.k (.bool true)) (.t 12), none⟩,
 ⟨some 14, .mv (.t 13), none⟩,
 ⟨some 15, .mv (.t 1), some (14, false)⟩,
 ⟨some 16, .bin .gtr .sc (.t 15) (.k (.int .i64 1099511627776)), some (14, false)⟩,
 ⟨some 17, .pick (.t 14) (.k (.bool true)) (.t 16), none⟩]) <|
 .cond (.t 17)
 (.ret)
 (.skip)) <|
 .seq (.reg [
 ⟨some 18, .mv (.t 0), none⟩,
 ⟨some 19, .mv (.t 0), none⟩,
 ⟨some 20, .mv (.t 1), none⟩,
 ⟨some 21, .nilck (.t 18), none⟩,
 ⟨some 22, .fld 0 (.t 21), none⟩,
 ⟨none, .st 1 (.t 22) (.t 20), none⟩,
 ⟨some 23, .nilck (.t 19), none⟩,
 ⟨some 24, .fld 2 (.t 23), none⟩,
 ⟨none, .st 1 (.t 24) (.k (.int .i64 (-1))), none⟩]) <|
 .seq (.reg [
 ⟨some 25, .mv (.t 0), none⟩,
 ⟨some 26, .nilck (.t 25), none⟩,
 ⟨some 27, .fld 1 (.t 26), none⟩,
 ⟨some 28, .ld 1 false (.t 27), none⟩,
 ⟨some 29, .bin .neq .sc (.t 28) (.k (.int .i64 (-1))), none⟩,
 ⟨some 30, .mv (.t 29), none⟩,
 ⟨some 31, .mv (.t 1), some (30, true)⟩,
 ⟨some 32, .mv (.t 0), some (30, true)⟩,
 ⟨some 33, .nilck (.t 32), some (30, true)⟩,
 ⟨some 34, .fld 3 (.t 33), some (30, true)⟩,
 ⟨some 35, .ld 1 false (.t 34), some (30, true)⟩,
 ⟨some 36, .bin .sub .sc (.t 31) (.t 35), some (30, true)⟩,
 ⟨some 37, .bin .geq .sc (.t 36) (.k (.int .i64 8)), some (30, true)⟩,
 ⟨some 38, .pick (.t 30) (.t 37) (.k (.bool false)), none⟩]) <|
 .cond (.t 38)
 (.reg [
 ⟨some 39, .mv (.t 0), none⟩,
 ⟨some 40, .call .eff 39 [(.t 39)], none⟩])
 (.skip)⟩

def f19 : DFn := ⟨2, [],
 .seq (.reg [
 ⟨some 3, .boxL (.t 1), none⟩]) <|
 .seq (.reg [
 ⟨some 4, .fld 0 (.t 3), none⟩,
 ⟨some 5, .ld 1 false (.t 4), none⟩]) <|
 .block 0 <|
 .seq (.reg [
 ⟨some 7, .bin .eql .sc (.t 5) (.k (.int .i64 1)), none⟩,
 ⟨some 6, .mv (.t 7), none⟩]) <|
 .cond (.t 6)
 (.reg [
 ⟨some 8, .mv (.t 0), none⟩,
 ⟨some 9, .fld 1 (.t 3), none⟩,
 ⟨some 10, .ld 1 false (.t 9), none⟩,
 ⟨some 11, .call .ro 29 [(.t 8), (.t 10)], none⟩,
 ⟨some 12, .call .eff 40 [(.t 11)], none⟩])
 (.seq (.reg [
 ⟨some 14, .bin .eql .sc (.t 5) (.k (.int .i64 2)), none⟩,
 ⟨some 13, .mv (.t 14), none⟩]) <|
 .cond (.t 13)
 (.reg [
 ⟨some 15, .mv (.t 0), none⟩,
 ⟨some 16, .fld 1 (.t 3), none⟩,
 ⟨some 17, .ld 1 false (.t 16), none⟩,
 ⟨some 18, .call .ro 29 [(.t 15), (.t 17)], none⟩,
 ⟨some 19, .call .eff 41 [(.t 18)], none⟩])
 (.seq (.reg [
 ⟨some 21, .bin .eql .sc (.t 5) (.k (.int .i64 7)), none⟩,
 ⟨some 20, .mv (.t 21), none⟩]) <|
 .cond (.t 20)
 (.drw [
 ⟨some 22, .mv (.t 0), none⟩,
 ⟨some 23, .nilck (.t 22), none⟩,
 ⟨some 24, .fld 4 (.t 23), none⟩,
 ⟨some 25, .ld 1 false (.t 24), none⟩,
 ⟨some 26, .fld 2 (.t 3), none⟩,
 ⟨some 27, .ld 1 false (.t 26), none⟩,
 ⟨some 28, .call .eff 42 [(.t 25), (.t 27)], none⟩] [[], [], [], [], [], [], [3, 5]])
 (.seq (.reg [
 ⟨some 30, .bin .eql .sc (.t 5) (.k (.int .i64 10)), none⟩,
 ⟨some 29, .mv (.t 30), none⟩]) <|
 .cond (.t 29)
 (.drw [
 ⟨some 31, .mv (.t 0), none⟩,
 ⟨some 32, .nilck (.t 31), none⟩,
 ⟨some 33, .fld 4 (.t 32), none⟩,
 ⟨some 34, .ld 1 false (.t 33), none⟩,
 ⟨some 35, .fld 2 (.t 3), none⟩,
 ⟨some 36, .ld 1 false (.t 35), none⟩,
 ⟨some 37, .call .eff 43 [(.t 34), (.t 36)], none⟩] [[], [], [], [], [], [], [3, 5]])
 (.skip))))⟩

def f20 : DFn := ⟨2, [],
 .seq (.seq (.reg [
 ⟨some 4, .mv (.t 0), none⟩,
 ⟨some 5, .bin .eql .np (.t 4) (.k (.nilp)), none⟩,
 ⟨some 6, .mv (.t 5), none⟩,
 ⟨some 7, .mv (.t 0), some (6, false)⟩,
 ⟨some 8, .nilck (.t 7), some (6, false)⟩,
 ⟨some 9, .fld 3 (.t 8), some (6, false)⟩,
 ⟨some 10, .ld 1 false (.t 9), some (6, false)⟩,
 ⟨some 11, .bin .eql .sc (.t 10) (.k (.int .i64 0)), some (6, false)⟩,
 ⟨some 12, .pick (.t 6) (.k (.bool true)) (.t 11), none⟩]) <|
 .cond (.t 12)
 (.ret)
 (.skip)) <|
 .seq (.seq (.reg [
 ⟨some 13, .mv (.t 1), none⟩,
 ⟨some 14, .un .not (.t 13), none⟩]) <|
 .cond (.t 14)
 (.reg [
 ⟨some 15, .mv (.t 0), none⟩,
 ⟨some 16, .nilck (.t 15), none⟩,
 ⟨some 17, .fld 4 (.t 16), none⟩,
 ⟨some 18, .ld 1 false (.t 17), none⟩,
 ⟨some 19, .bin .add .sc (.t 18) (.k (.int .i64 1)), none⟩,
 ⟨some 20, .nilck (.t 15), none⟩,
 ⟨some 21, .fld 4 (.t 20), none⟩,
 ⟨none, .st 1 (.t 21) (.t 19), none⟩])
 (.skip)) <|
 .block 0 <|
 .seq (.reg [
 ⟨some 23, .mv (.t 0), none⟩,
 ⟨some 24, .nilck (.t 23), none⟩,
 ⟨some 25, .fld 3 (.t 24), none⟩,
 ⟨some 26, .ld 1 false (.t 25), none⟩,
 ⟨some 27, .bin .eql .sc (.t 26) (.k (.int .i64 1)), none⟩,
 ⟨some 28, .mv (.t 27), none⟩,
 ⟨some 29, .mv (.t 0), some (28, true)⟩,
 ⟨some 30, .nilck (.t 29), some (28, true)⟩,
 ⟨some 31, .fld 4 (.t 30), some (28, true)⟩,
 ⟨some 32, .ld 1 false (.t 31), some (28, true)⟩,
 ⟨some 33, .bin .geq .sc (.t 32) (.k (.int .i64 3)), some (28, true)⟩,
 ⟨some 34, .pick (.t 28) (.t 33) (.k (.bool false)), none⟩,
 ⟨some 22, .mv (.t 34), none⟩]) <|
 .cond (.t 22)
 (.reg [
 ⟨some 35, .mv (.t 0), none⟩,
 ⟨some 36, .nilck (.t 35), none⟩,
 ⟨some 37, .fld 3 (.t 36), none⟩,
 ⟨none, .st 1 (.t 37) (.k (.int .i64 2)), none⟩])
 (.seq (.drw [
 ⟨some 39, .mv (.t 0), none⟩,
 ⟨some 40, .call .ro 44 [(.t 39)], none⟩,
 ⟨some 41, .mv (.t 40), none⟩,
 ⟨some 42, .mv (.t 0), some (41, true)⟩,
 ⟨some 43, .nilck (.t 42), some (41, true)⟩,
 ⟨some 44, .fld 1 (.t 43), some (41, true)⟩,
 ⟨some 45, .ld 1 false (.t 44), some (41, true)⟩,
 ⟨some 46, .mv (.t 0), some (41, true)⟩,
 ⟨some 47, .nilck (.t 46), some (41, true)⟩,
 ⟨some 48, .fld 4 (.t 47), some (41, true)⟩,
 ⟨some 49, .ld 1 false (.t 48), some (41, true)⟩,
 ⟨some 50, .call .ro 45 [(.t 45), (.t 49)], some (41, true)⟩,
 ⟨some 51, .un .not (.t 50), some (41, true)⟩,
 ⟨some 52, .pick (.t 41) (.t 51) (.k (.bool false)), none⟩,
 ⟨some 38, .mv (.t 52), none⟩] [[], [], [], [], [], [], [1], [], [], [], [1], [1, 6, 10], [], [], []]) <|
 .cond (.t 38)
 (.reg [
 ⟨some 53, .mv (.t 0), none⟩,
 ⟨some 54, .call .eff 46 [(.t 53)], none⟩])
 (.skip))⟩

def f21 : DFn := ⟨3, [.t 6],
 .seq (.reg [
 ⟨some 4, .boxH (.t 1), none⟩,
 ⟨some 5, .boxH (.t 2), none⟩,
 ⟨some 6, .mv (.k (.bool false)), none⟩]) <|
 .seq (.reg [
 ⟨some 7, .mv (.t 0), none⟩,
 ⟨some 8, .mkF 48 [(.t 4), (.t 5)], none⟩,
 ⟨some 9, .call .ro 47 [(.t 7), (.t 8)], none⟩,
 ⟨some 6, .mv (.t 9), none⟩]) <|
 .ret⟩

def f22 : DFn := ⟨2, [],
 .seq (.seq (.reg [
 ⟨some 12, .mv (.t 0), none⟩,
 ⟨some 13, .bin .eql .np (.t 12) (.k (.nilp)), none⟩,
 ⟨some 14, .mv (.t 13), none⟩,
 ⟨some 15, .mv (.t 0), some (14, false)⟩,
 ⟨some 16, .nilck (.t 15), some (14, false)⟩,
 ⟨some 17, .fld 3 (.t 16), some (14, false)⟩,
 ⟨some 18, .ld 1 false (.t 17), some (14, false)⟩,
 ⟨some 19, .bin .neq .sc (.t 18) (.k (.int .i64 2)), some (14, false)⟩,
 ⟨some 20, .pick (.t 14) (.k (.bool true)) (.t 19), none⟩]) <|
 .cond (.t 20)
 (.ret)
 (.skip)) <|
 .seq (.reg [
 ⟨some 22, .mv (.t 1), none⟩,
 ⟨some 23, .call .eff 49 [(.t 22)], none⟩,
 ⟨some 21, .mv (.t 23), none⟩,
 ⟨some 24, .ext 0 (.t 21), none⟩,
 ⟨some 25, .ext 1 (.t 21), none⟩,
 ⟨some 4, .mv (.t 24), none⟩,
 ⟨some 5, .mv (.t 25), none⟩]) <|
 .seq (.seq (.reg [
 ⟨some 26, .mv (.t 5), none⟩,
 ⟨some 27, .bin .neq .sc (.t 26) (.k (.int .i64 0)), none⟩]) <|
 .cond (.t 27)
 (.ret)
 (.skip)) <|
 .seq (.reg [
 ⟨some 29, .mv (.t 4), none⟩,
 ⟨some 30, .call .ro 50 [(.t 29)], none⟩,
 ⟨some 28, .mv (.t 30), none⟩,
 ⟨some 31, .ext 0 (.t 28), none⟩,
 ⟨some 32, .ext 1 (.t 28), none⟩,
 ⟨some 33, .ext 2 (.t 28), none⟩,
 ⟨some 34, .ext 3 (.t 28), none⟩,
 ⟨some 6, .mv (.t 31), none⟩,
 ⟨some 7, .mv (.t 32), none⟩,
 ⟨some 8, .mv (.t 33), none⟩,
 ⟨some 9, .mv (.t 34), none⟩]) <|
 .seq (.reg [
 ⟨some 35, .mv (.t 6), none⟩,
 ⟨some 36, .mv (.t 7), none⟩,
 ⟨some 37, .mv (.t 8), none⟩,
 ⟨some 38, .build [.int .i64 0, .int .i64 0, .nils] [(0, 1, (.t 35)), (1, 1, (.t 36)), (2, 1, (.t 37))], none⟩,
 ⟨some 10, .alH [.int .i64 0, .int .i64 0, .nils], none⟩,
 ⟨none, .st 3 (.t 10) (.t 38), none⟩]) <|
 .seq (.seq (.reg [
 ⟨some 39, .mv (.t 9), none⟩,
 ⟨some 40, .un .not (.t 39), none⟩,
 ⟨some 41, .mv (.t 40), none⟩,
 ⟨some 42, .mv (.t 0), some (41, false)⟩,
 ⟨some 43, .ld 3 true (.t 10), some (41, false)⟩,
 ⟨some 44, .call .ro 51 [(.t 42), (.t 43)], some (41, false)⟩,
 ⟨some 45, .pick (.t 41) (.k (.bool true)) (.t 44), none⟩]) <|
 .cond (.t 45)
 (.ret)
 (.skip)) <|
 .seq (.reg [
 ⟨some 46, .mv (.t 0), none⟩,
 ⟨some 47, .nilck (.t 46), none⟩,
 ⟨some 48, .fld 0 (.t 47), none⟩,
 ⟨some 49, .ld 1 false (.t 48), none⟩,
 ⟨some 50, .call .ro 52 [(.t 49)], none⟩,
 ⟨some 11, .mv (.t 50), none⟩]) <|
 .seq (.seq (.reg [
 ⟨some 51, .mv (.t 0), none⟩,
 ⟨some 52, .nilck (.t 51), none⟩,
 ⟨some 53, .fld 0 (.t 52), none⟩,
 ⟨some 54, .ld 1 false (.t 53), none⟩,
 ⟨some 55, .mv (.t 8), none⟩,
 ⟨some 56, .call .eff 53 [(.t 54), (.t 55)], none⟩]) <|
 .cond (.t 56)
 (.reg [
 ⟨some 57, .mv (.t 0), none⟩,
 ⟨some 58, .nilck (.t 57), none⟩,
 ⟨some 59, .fld 2 (.t 58), none⟩,
 ⟨none, .st 1 (.t 59) (.t 10), none⟩])
 (.skip)) <|
 .reg [
 ⟨some 60, .mv (.t 0), none⟩,
 ⟨some 61, .nilck (.t 60), none⟩,
 ⟨some 62, .fld 0 (.t 61), none⟩,
 ⟨some 63, .ld 1 false (.t 62), none⟩,
 ⟨some 64, .mv (.t 11), none⟩,
 ⟨some 65, .call .eff 53 [(.t 63), (.t 64)], none⟩]⟩

def f23 : DFn := ⟨2, [.t 4],
 .seq (.reg [
 ⟨some 4, .mv (.k (.nils)), none⟩]) <|
 .seq (.seq (.reg [
 ⟨some 6, .mv (.t 0), none⟩,
 ⟨some 7, .mv (.t 1), none⟩,
 ⟨some 8, .call .ro 54 [(.t 6), (.t 7)], none⟩,
 ⟨some 9, .un .not (.t 8), none⟩]) <|
 .cond (.t 9)
 (.seq (.reg [
 ⟨some 4, .mv (.k (.nils)), none⟩]) <|
 .ret)
 (.skip)) <|
 .seq (.reg [
 ⟨some 10, .mv (.t 0), none⟩,
 ⟨some 11, .mv (.t 1), none⟩,
 ⟨some 12, .nilck (.t 10), none⟩,
 ⟨some 13, .fld 2 (.t 12), none⟩,
 ⟨some 14, .idxA 1 2 (.t 13) (.t 11), none⟩,
 ⟨some 15, .ld 1 false (.t 14), none⟩,
 ⟨some 5, .mv (.t 15), none⟩]) <|
 .seq (.reg [
 ⟨some 16, .mv (.t 0), none⟩,
 ⟨some 17, .mv (.t 1), none⟩,
 ⟨some 18, .nilck (.t 16), none⟩,
 ⟨some 19, .fld 2 (.t 18), none⟩,
 ⟨some 20, .idxA 1 2 (.t 19) (.t 17), none⟩,
 ⟨none, .st 1 (.t 20) (.k (.nils)), none⟩]) <|
 .seq (.reg [
 ⟨some 21, .mv (.t 5), none⟩,
 ⟨some 4, .mv (.t 21), none⟩]) <|
 .ret⟩

def l24_0b : DC :=
 .seq (.reg [
 ⟨some 9, .bin .lss .sc (.t 8) (.t 7), none⟩]) <|
 .seq (.cond (.t 9)
 (.skip)
 (.exit 0)) <|
 .seq (.block 1 <|
 .seq (.reg [
 ⟨some 10, .idx 5 (.t 6) (.t 8), none⟩,
 ⟨some 11, .ld 5 true (.t 10), none⟩,
 ⟨some 5, .alL [.int .i64 0, .int .i64 0, .int .i64 0, .int .i64 0, .int .i64 0], none⟩,
 ⟨none, .st 5 (.t 5) (.t 11), none⟩]) <|
 .seq (.reg [
 ⟨some 12, .fld 0 (.t 5), none⟩,
 ⟨some 13, .ld 1 false (.t 12), none⟩,
 ⟨some 14, .bin .eql .sc (.t 13) (.k (.int .i64 9)), none⟩,
 ⟨some 15, .mv (.t 14), none⟩,
 ⟨some 16, .mv (.t 0), some (15, true)⟩,
 ⟨some 17, .fld 1 (.t 5), some (15, true)⟩,
 ⟨some 18, .ld 1 false (.t 17), some (15, true)⟩,
 ⟨some 19, .call .ro 29 [(.t 16), (.t 18)], some (15, true)⟩,
 ⟨some 20, .call .eff 55 [(.t 19)], some (15, true)⟩,
 ⟨some 21, .pick (.t 15) (.t 20) (.k (.bool false)), none⟩]) <|
 .cond (.t 21)
 (.drw [
 ⟨some 22, .mv (.t 0), none⟩,
 ⟨some 23, .nilck (.t 22), none⟩,
 ⟨some 24, .fld 2 (.t 23), none⟩,
 ⟨some 25, .ld 1 false (.t 24), none⟩,
 ⟨some 26, .fld 1 (.t 5), none⟩,
 ⟨some 27, .ld 1 false (.t 26), none⟩,
 ⟨some 28, .call .eff 56 [(.t 25), (.t 27)], none⟩] [[], [], [], [], [], [], [3, 5]])
 (.skip)) <|
 .reg [
 ⟨some 29, .bin .add .sc (.t 8) (.k (.int .i64 1)), none⟩,
 ⟨some 8, .mv (.t 29), none⟩]
def l24_0 : DC := .loop [0, 6, 7, 8] [] l24_0b
def f24 : DFn := ⟨2, [],
 .seq (.reg [
 ⟨some 6, .mv (.t 1), none⟩,
 ⟨some 7, .len (.t 6), none⟩,
 ⟨some 8, .mv (.k (.int .i64 0)), none⟩]) <|
 .block 0 <|
 l24_0⟩

def f25 : DFn := ⟨3, [],
 .seq (.reg [
 ⟨some 11, .mv (.t 0), none⟩,
 ⟨some 12, .mv (.t 1), none⟩,
 ⟨some 13, .nilck (.t 11), none⟩,
 ⟨some 14, .fld 0 (.t 13), none⟩,
 ⟨some 15, .idxA 1 2 (.t 14) (.t 12), none⟩,
 ⟨some 16, .ld 1 false (.t 15), none⟩,
 ⟨some 6, .mv (.t 16), none⟩]) <|
 .seq (.seq (.reg [
 ⟨some 17, .mv (.t 6), none⟩,
 ⟨some 18, .call .ro 30 [(.t 17)], none⟩,
 ⟨some 7, .mv (.t 18), none⟩]) <|
 .seq (.reg [
 ⟨some 19, .mv (.t 2), none⟩,
 ⟨some 20, .mv (.t 19), none⟩,
 ⟨some 21, .mv (.t 7), some (20, false)⟩,
 ⟨some 22, .bin .neq .sc (.t 21) (.k (.int .i64 2)), some (20, false)⟩,
 ⟨some 23, .mv (.t 22), some (20, false)⟩,
 ⟨some 24, .mv (.t 7), some (23, true)⟩,
 ⟨some 25, .bin .neq .sc (.t 24) (.k (.int .i64 3)), some (23, true)⟩,
 ⟨some 26, .pick (.t 23) (.t 25) (.k (.bool false)), some (20, false)⟩,
 ⟨some 27, .mv (.t 26), some (20, false)⟩,
 ⟨some 28, .mv (.t 7), some (27, true)⟩,
 ⟨some 29, .bin .neq .sc (.t 28) (.k (.int .i64 4)), some (27, true)⟩,
 ⟨some 30, .pick (.t 27) (.t 29) (.k (.bool false)), some (20, false)⟩,
 ⟨some 31, .pick (.t 20) (.k (.bool true)) (.t 30), none⟩]) <|
 .cond (.t 31)
 (.ret)
 (.skip)) <|
 .seq (.drw [
 ⟨some 33, .mv (.t 0), none⟩,
 ⟨some 34, .nilck (.t 33), none⟩,
 ⟨some 35, .fld 2 (.t 34), none⟩,
 ⟨some 36, .ld 1 false (.t 35), none⟩,
 ⟨some 37, .mv (.t 1), none⟩,
 ⟨some 38, .mv (.t 6), none⟩,
 ⟨some 39, .call .ro 58 [(.t 38)], none⟩,
 ⟨some 40, .call .eff 57 [(.t 36), (.t 37), (.t 39)], none⟩,
 ⟨some 32, .mv (.t 40), none⟩,
 ⟨some 41, .ext 0 (.t 32), none⟩,
 ⟨some 42, .ext 1 (.t 32), none⟩,
 ⟨some 43, .ext 2 (.t 32), none⟩,
 ⟨some 8, .mv (.t 41), none⟩,
 ⟨some 9, .mv (.t 42), none⟩,
 ⟨some 10, .mv (.t 43), none⟩] [[], [], [], [], [], [], [], [3, 6], [], [], [], [], [], [], []]) <|
 .seq (.reg [
 ⟨some 44, .mv (.t 10), none⟩,
 ⟨some 45, .bin .eql .sc (.t 44) (.k (.int .i64 0)), none⟩]) <|
 .cond (.t 45)
 (.reg [
 ⟨some 46, .mv (.t 6), none⟩,
 ⟨some 47, .mv (.t 8), none⟩,
 ⟨some 48, .mv (.t 9), none⟩,
 ⟨some 49, .call .eff 59 [(.t 46), (.t 47), (.t 48)], none⟩])
 (.skip)⟩

def l26_1b : DC :=
 .seq (.reg [
 ⟨some 38, .bin .lss .sc (.t 37) (.k (.int .i64 2)), none⟩]) <|
 .seq (.cond (.t 38)
 (.skip)
 (.exit 2)) <|
 .seq (.block 3 <|
 .seq (.reg [
 ⟨some 39, .mv (.t 37), none⟩,
 ⟨some 40, .idxV 1 2 false (.t 36) (.t 37), none⟩,
 ⟨some 9, .mv (.t 39), none⟩,
 ⟨some 10, .mv (.t 40), none⟩]) <|
 .seq (.reg [
 ⟨some 41, .mv (.t 0), none⟩,
 ⟨some 42, .nilck (.t 41), none⟩,
 ⟨some 43, .fld 2 (.t 42), none⟩,
 ⟨some 44, .ld 1 false (.t 43), none⟩,
 ⟨some 45, .call .ro 31 [(.t 44)], none⟩,
 ⟨some 46, .mv (.t 9), none⟩,
 ⟨some 47, .bin .eql .sc (.t 45) (.t 46), none⟩,
 ⟨some 11, .mv (.t 47), none⟩]) <|
 .seq (.reg [
 ⟨some 48, .mv (.t 10), none⟩,
 ⟨some 49, .mv (.t 0), none⟩,
 ⟨some 50, .nilck (.t 49), none⟩,
 ⟨some 51, .fld 4 (.t 50), none⟩,
 ⟨some 52, .ld 1 false (.t 51), none⟩,
 ⟨some 53, .call .ro 62 [(.t 52)], none⟩,
 ⟨some 54, .mv (.t 11), none⟩,
 ⟨some 55, .mv (.t 5), none⟩,
 ⟨some 56, .call .eff 61 [(.t 48), (.t 53), (.t 54), (.t 55)], none⟩,
 ⟨some 12, .alL [.nils, .nils], none⟩,
 ⟨none, .st 2 (.t 12) (.t 56), none⟩]) <|
 .seq (.reg [
 ⟨some 57, .mv (.t 11), none⟩]) <|
 .cond (.t 57)
 (.reg [
 ⟨some 58, .ld 2 true (.t 12), none⟩,
 ⟨none, .st 2 (.t 8) (.t 58), none⟩])
 (.skip)) <|
 .reg [
 ⟨some 59, .bin .add .sc (.t 37) (.k (.int .i64 1)), none⟩,
 ⟨some 37, .mv (.t 59), none⟩]
def l26_1 : DC := .loop [0, 4, 5, 8, 36, 37] [4, 8] l26_1b
def l26_0b : DC :=
 .seq (.reg [
 ⟨some 16, .bin .lss .sc (.t 15) (.t 14), none⟩]) <|
 .seq (.cond (.t 16)
 (.skip)
 (.exit 0)) <|
 .seq (.block 1 <|
 .seq (.reg [
 ⟨some 17, .idx 5 (.t 13) (.t 15), none⟩,
 ⟨some 18, .ld 5 true (.t 17), none⟩,
 ⟨some 7, .alL [.int .i64 0, .int .i64 0, .int .i64 0, .int .i64 0, .int .i64 0], none⟩,
 ⟨none, .st 5 (.t 7) (.t 18), none⟩]) <|
 .seq (.reg [
 ⟨some 19, .fld 0 (.t 7), none⟩,
 ⟨some 20, .ld 1 false (.t 19), none⟩,
 ⟨some 21, .bin .eql .sc (.t 20) (.k (.int .i64 8)), none⟩]) <|
 .cond (.t 21)
 (.reg [
 ⟨some 22, .mv (.t 5), none⟩,
 ⟨some 23, .fld 3 (.t 7), none⟩,
 ⟨some 24, .ld 2 true (.t 23), none⟩,
 ⟨some 25, .bsl false 2 [.int .i64 0, .int .i64 0] 1 [(0, (.t 24))], none⟩,
 ⟨some 26, .app 2 16 (.t 22) (.t 25), none⟩,
 ⟨some 5, .mv (.t 26), none⟩])
 (.skip)) <|
 .reg [
 ⟨some 27, .bin .add .sc (.t 15) (.k (.int .i64 1)), none⟩,
 ⟨some 15, .mv (.t 27), none⟩]
def l26_0 : DC := .loop [0, 4, 5, 13, 14, 15] [4] l26_0b
def f26 : DFn := ⟨2, [.cell 4 2 true],
 .seq (.reg [
 ⟨some 4, .alL [.nils, .nils], none⟩]) <|
 .seq (.reg [
 ⟨some 5, .mv (.k (.nils)), none⟩]) <|
 .seq (.seq (.reg [
 ⟨some 13, .mv (.t 1), none⟩,
 ⟨some 14, .len (.t 13), none⟩,
 ⟨some 15, .mv (.k (.int .i64 0)), none⟩]) <|
 .block 0 <|
 l26_0) <|
 .seq (.reg [
 ⟨some 28, .mv (.t 0), none⟩,
 ⟨some 29, .nilck (.t 28), none⟩,
 ⟨some 30, .fld 5 (.t 29), none⟩,
 ⟨some 31, .ld 1 false (.t 30), none⟩,
 ⟨some 32, .call .ro 60 [(.t 31)], none⟩,
 ⟨some 8, .alL [.nils, .nils], none⟩,
 ⟨none, .st 2 (.t 8) (.t 32), none⟩]) <|
 .seq (.seq (.reg [
 ⟨some 33, .mv (.t 0), none⟩,
 ⟨some 34, .nilck (.t 33), none⟩,
 ⟨some 35, .fld 0 (.t 34), none⟩,
 ⟨some 36, .ld 2 true (.t 35), none⟩,
 ⟨some 37, .mv (.k (.int .i64 0)), none⟩]) <|
 .block 2 <|
 l26_1) <|
 .seq (.reg [
 ⟨some 60, .ld 2 true (.t 8), none⟩,
 ⟨none, .st 2 (.t 4) (.t 60), none⟩]) <|
 .ret⟩

def l27_0b : DC :=
 .seq (.reg [
 ⟨some 14, .bin .lss .sc (.t 13) (.t 12), none⟩]) <|
 .seq (.cond (.t 14)
 (.skip)
 (.exit 0)) <|
 .seq (.block 1 <|
 .seq (.reg [
 ⟨some 15, .mv (.t 13), none⟩,
 ⟨some 16, .idx 3 (.t 11) (.t 13), none⟩,
 ⟨some 17, .ld 3 true (.t 16), none⟩,
 ⟨some 5, .alL [.int .i64 0, .int .i64 0, .int .i64 0], none⟩,
 ⟨some 4, .mv (.t 15), none⟩,
 ⟨none, .st 3 (.t 5) (.t 17), none⟩]) <|
 .seq (.reg [
 ⟨some 18, .mv (.t 4), none⟩,
 ⟨some 19, .mv (.t 1), none⟩,
 ⟨some 20, .len (.t 19), none⟩,
 ⟨some 21, .bin .lss .sc (.t 18) (.t 20), none⟩]) <|
 .cond (.t 21)
 (.drw [
 ⟨some 22, .mv (.t 0), none⟩,
 ⟨some 23, .nilck (.t 22), none⟩,
 ⟨some 24, .fld 1 (.t 23), none⟩,
 ⟨some 25, .ld 1 false (.t 24), none⟩,
 ⟨some 26, .mv (.t 4), none⟩,
 ⟨some 27, .ld 3 true (.t 5), none⟩,
 ⟨some 28, .mv (.t 1), none⟩,
 ⟨some 29, .mv (.t 4), none⟩,
 ⟨some 30, .idx 1 (.t 28) (.t 29), none⟩,
 ⟨some 31, .ld 1 false (.t 30), none⟩,
 ⟨some 32, .call .blind 63 [(.t 27), (.t 31)], none⟩,
 ⟨some 33, .idx 3 (.t 25) (.t 26), none⟩,
 ⟨none, .st 3 (.t 33) (.t 32), none⟩] [[], [], [], [], [], [], [], [], [], [8], [5, 8, 9], [3, 5, 8, 9, 10], [3, 5, 8, 9, 10, 11]])
 (.skip)) <|
 .reg [
 ⟨some 34, .bin .add .sc (.t 13) (.k (.int .i64 1)), none⟩,
 ⟨some 13, .mv (.t 34), none⟩]
def l27_0 : DC := .loop [0, 1, 11, 12, 13] [] l27_0b
def f27 : DFn := ⟨2, [],
 .seq (.seq (.reg [
 ⟨some 6, .mv (.t 0), none⟩,
 ⟨some 7, .bin .eql .np (.t 6) (.k (.nilp)), none⟩]) <|
 .cond (.t 7)
 (.ret)
 (.skip)) <|
 .seq (.reg [
 ⟨some 8, .mv (.t 0), none⟩,
 ⟨some 9, .nilck (.t 8), none⟩,
 ⟨some 10, .fld 1 (.t 9), none⟩,
 ⟨some 11, .ld 1 false (.t 10), none⟩,
 ⟨some 12, .len (.t 11), none⟩,
 ⟨some 13, .mv (.k (.int .i64 0)), none⟩]) <|
 .block 0 <|
 l27_0⟩

def l28_1b : DC :=
 .seq (.reg [
 ⟨some 42, .bin .lss .sc (.t 41) (.k (.int .i64 2)), none⟩]) <|
 .seq (.cond (.t 42)
 (.skip)
 (.exit 2)) <|
 .seq (.block 3 <|
 .seq (.reg [
 ⟨some 43, .mv (.t 41), none⟩,
 ⟨some 44, .idxV 1 2 false (.t 40) (.t 41), none⟩,
 ⟨some 8, .mv (.t 43), none⟩,
 ⟨some 9, .mv (.t 44), none⟩]) <|
 .drw [
 ⟨some 45, .mv (.t 0), none⟩,
 ⟨some 46, .nilck (.t 45), none⟩,
 ⟨some 47, .fld 3 (.t 46), none⟩,
 ⟨some 48, .ld 1 false (.t 47), none⟩,
 ⟨some 49, .mv (.t 8), none⟩,
 ⟨some 50, .mv (.t 9), none⟩,
 ⟨some 51, .call .ro 65 [(.t 50)], none⟩,
 ⟨some 52, .call .eff 64 [(.t 48), (.t 49), (.t 51)], none⟩] [[], [], [], [], [], [], [], [3, 6]]) <|
 .reg [
 ⟨some 53, .bin .add .sc (.t 41) (.k (.int .i64 1)), none⟩,
 ⟨some 41, .mv (.t 53), none⟩]
def l28_1 : DC := .loop [0, 4, 5, 40, 41] [] l28_1b
def l28_0b : DC :=
 .seq (.reg [
 ⟨some 13, .bin .lss .sc (.t 12) (.t 11), none⟩]) <|
 .seq (.cond (.t 13)
 (.skip)
 (.exit 0)) <|
 .seq (.block 1 <|
 .seq (.reg [
 ⟨some 14, .idx 5 (.t 10) (.t 12), none⟩,
 ⟨some 15, .ld 5 true (.t 14), none⟩,
 ⟨some 7, .alL [.int .i64 0, .int .i64 0, .int .i64 0, .int .i64 0, .int .i64 0], none⟩,
 ⟨none, .st 5 (.t 7) (.t 15), none⟩]) <|
 .seq (.reg [
 ⟨some 16, .mv (.t 4), none⟩,
 ⟨some 17, .mv (.t 16), none⟩,
 ⟨some 18, .fld 0 (.t 7), some (17, false)⟩,
 ⟨some 19, .ld 1 false (.t 18), some (17, false)⟩,
 ⟨some 20, .bin .eql .sc (.t 19) (.k (.int .i64 5)), some (17, false)⟩,
 ⟨some 21, .pick (.t 17) (.k (.bool true)) (.t 20), none⟩,
 ⟨some 4, .mv (.t 21), none⟩]) <|
 .seq (.reg [
 ⟨some 22, .fld 0 (.t 7), none⟩,
 ⟨some 23, .ld 1 false (.t 22), none⟩,
 ⟨some 24, .bin .eql .sc (.t 23) (.k (.int .i64 6)), none⟩,
 ⟨some 25, .mv (.t 24), none⟩,
 ⟨some 26, .fld 2 (.t 7), some (25, true)⟩,
 ⟨some 27, .ld 1 false (.t 26), some (25, true)⟩,
 ⟨some 28, .bin .geq .sc (.t 27) (.k (.int .i64 0)), some (25, true)⟩,
 ⟨some 29, .pick (.t 25) (.t 28) (.k (.bool false)), none⟩,
 ⟨some 30, .mv (.t 29), none⟩,
 ⟨some 31, .mv (.t 5), some (30, true)⟩,
 ⟨some 32, .bin .lss .sc (.t 31) (.k (.int .i64 0)), some (30, true)⟩,
 ⟨some 33, .pick (.t 30) (.t 32) (.k (.bool false)), none⟩]) <|
 .cond (.t 33)
 (.reg [
 ⟨some 34, .fld 2 (.t 7), none⟩,
 ⟨some 35, .ld 1 false (.t 34), none⟩,
 ⟨some 5, .mv (.t 35), none⟩])
 (.skip)) <|
 .reg [
 ⟨some 36, .bin .add .sc (.t 12) (.k (.int .i64 1)), none⟩,
 ⟨some 12, .mv (.t 36), none⟩]
def l28_0 : DC := .loop [0, 4, 5, 10, 11, 12] [] l28_0b
def f28 : DFn := ⟨2, [],
 .seq (.reg [
 ⟨some 4, .mv (.k (.bool false)), none⟩,
 ⟨some 5, .mv (.k (.int .i64 (-1))), none⟩]) <|
 .seq (.seq (.reg [
 ⟨some 10, .mv (.t 1), none⟩,
 ⟨some 11, .len (.t 10), none⟩,
 ⟨some 12, .mv (.k (.int .i64 0)), none⟩]) <|
 .block 0 <|
 l28_0) <|
 .seq (.seq (.reg [
 ⟨some 37, .mv (.t 0), none⟩,
 ⟨some 38, .nilck (.t 37), none⟩,
 ⟨some 39, .fld 0 (.t 38), none⟩,
 ⟨some 40, .ld 2 true (.t 39), none⟩,
 ⟨some 41, .mv (.k (.int .i64 0)), none⟩]) <|
 .block 2 <|
 l28_1) <|
 .reg [
 ⟨some 54, .mv (.t 0), none⟩,
 ⟨some 55, .nilck (.t 54), none⟩,
 ⟨some 56, .fld 3 (.t 55), none⟩,
 ⟨some 57, .ld 1 false (.t 56), none⟩,
 ⟨some 58, .mv (.t 4), none⟩,
 ⟨some 59, .mv (.t 5), none⟩,
 ⟨some 60, .call .eff 66 [(.t 57), (.t 58), (.t 59)], none⟩]⟩

def f29 : DFn := ⟨2, [.t 4],
 .seq (.reg [
 ⟨some 4, .mv (.k (.nilp)), none⟩]) <|
 .seq (.seq (.reg [
 ⟨some 5, .mv (.t 0), none⟩,
 ⟨some 6, .bin .eql .np (.t 5) (.k (.nilp)), none⟩,
 ⟨some 7, .mv (.t 6), none⟩,
 ⟨some 8, .mv (.t 1), some (7, false)⟩,
 ⟨some 9, .bin .lss .sc (.t 8) (.k (.int .i64 0)), some (7, false)⟩,
 ⟨some 10, .pick (.t 7) (.k (.bool true)) (.t 9), none⟩,
 ⟨some 11, .mv (.t 10), none⟩,
 ⟨some 12, .mv (.t 1), some (11, false)⟩,
 ⟨some 13, .bin .geq .sc (.t 12) (.k (.int .i64 2)), some (11, false)⟩,
 ⟨some 14, .pick (.t 11) (.k (.bool true)) (.t 13), none⟩]) <|
 .cond (.t 14)
 (.seq (.reg [
 ⟨some 4, .mv (.k (.nilp)), none⟩]) <|
 .ret)
 (.skip)) <|
 .seq (.reg [
 ⟨some 15, .mv (.t 0), none⟩,
 ⟨some 16, .mv (.t 1), none⟩,
 ⟨some 17, .nilck (.t 15), none⟩,
 ⟨some 18, .fld 0 (.t 17), none⟩,
 ⟨some 19, .idxA 1 2 (.t 18) (.t 16), none⟩,
 ⟨some 20, .ld 1 false (.t 19), none⟩,
 ⟨some 4, .mv (.t 20), none⟩]) <|
 .ret⟩

def f30 : DFn := ⟨1, [.t 2],
 .seq (.reg [
 ⟨some 2, .mv (.k (.int .i64 0)), none⟩]) <|
 .seq (.seq (.reg [
 ⟨some 3, .mv (.t 0), none⟩,
 ⟨some 4, .bin .eql .np (.t 3) (.k (.nilp)), none⟩]) <|
 .cond (.t 4)
 (.seq (.reg [
 ⟨some 2, .mv (.k (.int .i64 0)), none⟩]) <|
 .ret)
 (.skip)) <|
 .seq (.reg [
 ⟨some 5, .mv (.t 0), none⟩,
 ⟨some 6, .nilck (.t 5), none⟩,
 ⟨some 7, .fld 3 (.t 6), none⟩,
 ⟨some 8, .ld 1 false (.t 7), none⟩,
 ⟨some 2, .mv (.t 8), none⟩]) <|
 .ret⟩

def f31 : DFn := ⟨1, [.t 2],
 .seq (.reg [
 ⟨some 2, .mv (.k (.int .i64 0)), none⟩]) <|
 .seq (.seq (.reg [
 ⟨some 3, .mv (.t 0), none⟩,
 ⟨some 4, .bin .eql .np (.t 3) (.k (.nilp)), none⟩]) <|
 .cond (.t 4)
 (.seq (.reg [
 ⟨some 2, .mv (.k (.int .i64 (-1))), none⟩]) <|
 .ret)
 (.skip)) <|
 .seq (.reg [
 ⟨some 5, .mv (.t 0), none⟩,
 ⟨some 6, .nilck (.t 5), none⟩,
 ⟨some 7, .fld 2 (.t 6), none⟩,
 ⟨some 8, .ld 1 false (.t 7), none⟩,
 ⟨some 2, .mv (.t 8), none⟩]) <|
 .ret⟩

def f32 : DFn := ⟨1, [.t 2],
 .seq (.reg [
 ⟨some 2, .mv (.k (.int .i64 0)), none⟩]) <|
 .seq (.seq (.reg [
 ⟨some 3, .mv (.t 0), none⟩,
 ⟨some 4, .bin .eql .np (.t 3) (.k (.nilp)), none⟩]) <|
 .cond (.t 4)
 (.seq (.reg [
 ⟨some 2, .mv (.k (.int .i64 0)), none⟩]) <|
 .ret)
 (.skip)) <|
 .seq (.reg [
 ⟨some 5, .mv (.t 0), none⟩,
 ⟨some 6, .nilck (.t 5), none⟩,
 ⟨some 7, .fld 6 (.t 6), none⟩,
 ⟨some 8, .ld 1 false (.t 7), none⟩,
 ⟨some 2, .mv (.t 8), none⟩]) <|
 .ret⟩

def f33 : DFn := ⟨1, [.t 2],
 .seq (.reg [
 ⟨some 2, .mv (.k (.nils)), none⟩]) <|
 .seq (.seq (.reg [
 ⟨some 3, .mv (.t 0), none⟩,
 ⟨some 4, .bin .eql .np (.t 3) (.k (.nilp)), none⟩]) <|
 .cond (.t 4)
 (.seq (.reg [
 ⟨some 2, .mv (.k (.nils)), none⟩]) <|
 .ret)
 (.skip)) <|
 .seq (.reg [
 ⟨some 5, .mv (.t 0), none⟩,
 ⟨some 6, .nilck (.t 5), none⟩,
 ⟨some 7, .fld 0 (.t 6), none⟩,
 ⟨some 8, .ld 1 false (.t 7), none⟩,
 ⟨some 9, .call .ro 52 [(.t 8)], none⟩,
 ⟨some 2, .mv (.t 9), none⟩]) <|
 .ret⟩

def f34 : DFn := ⟨1, [.t 2, .t 3],
 .seq (.reg [
 ⟨some 1, .boxL (.t 0), none⟩,
 ⟨some 2, .mv (.k (.nilp)), none⟩,
 ⟨some 3, .mv (.k (.int .i64 0)), none⟩]) <|
 .seq (.seq (.reg [
 ⟨some 4, .ld 4 true (.t 1), none⟩,
 ⟨some 5, .call .blind 67 [(.t 4)], none⟩,
 ⟨some 6, .un .not (.t 5), none⟩]) <|
 .cond (.t 6)
 (.seq (.reg [
 ⟨some 2, .mv (.k (.nilp)), none⟩,
 ⟨some 3, .mv (.k (.int .i64 9)), none⟩]) <|
 .ret)
 (.skip)) <|
 .seq (.drw [
 ⟨some 7, .ld 4 true (.t 1), none⟩,
 ⟨some 8, .call .blind 68 [(.t 7)], none⟩,
 ⟨some 9, .fld 3 (.t 1), none⟩,
 ⟨some 10, .ld 1 false (.t 9), none⟩,
 ⟨some 11, .len (.t 10), none⟩,
 ⟨some 12, .mks true 4 32 [.int .i64 0, .int .i64 0, .int .i64 0, .bool false] (.t 11), none⟩,
 ⟨some 13, .build [.nils, .nils, .nils, .nils, .nils] [(0, 4, (.t 8)), (4, 1, (.t 12))], none⟩,
 ⟨some 14, .boxH (.t 13), none⟩,
 ⟨some 2, .mv (.t 14), none⟩,
 ⟨some 3, .mv (.k (.int .i64 0)), none⟩] [[], [0], [], [], [], [3], [], [0, 1, 3, 5], [], []]) <|
 .ret⟩

def l35_0b : DC :=
 .seq (.reg [
 ⟨some 18, .bin .lss .sc (.t 17) (.t 16), none⟩]) <|
 .seq (.cond (.t 18)
 (.skip)
 (.exit 0)) <|
 .seq (.block 1 <|
 .reg [
 ⟨some 19, .mv (.t 4), none⟩,
 ⟨some 20, .mv (.t 4), none⟩,
 ⟨some 21, .nilck (.t 20), none⟩,
 ⟨some 22, .fld 1 (.t 21), none⟩,
 ⟨some 23, .ld 1 false (.t 22), none⟩,
 ⟨some 24, .build [.int .i64 0, .int .i64 0, .int .i64 0] [(0, 1, (.k (.int .i64 1)))], none⟩,
 ⟨some 25, .bsl true 3 [.int .i64 0, .int .i64 0, .int .i64 0] 1 [(0, (.t 24))], none⟩,
 ⟨some 26, .app 3 24 (.t 23) (.t 25), none⟩,
 ⟨some 27, .nilck (.t 19), none⟩,
 ⟨some 28, .fld 1 (.t 27), none⟩,
 ⟨none, .st 1 (.t 28) (.t 26), none⟩]) <|
 .reg [
 ⟨some 29, .bin .add .sc (.t 17) (.k (.int .i64 1)), none⟩,
 ⟨some 17, .mv (.t 29), none⟩]
def l35_0 : DC := .loop [4, 16, 17] [] l35_0b
def f35 : DFn := ⟨1, [.t 2, .t 3],
 .seq (.reg [
 ⟨some 1, .boxL (.t 0), none⟩,
 ⟨some 2, .mv (.k (.nilp)), none⟩,
 ⟨some 3, .mv (.k (.int .i64 0)), none⟩]) <|
 .seq (.seq (.reg [
 ⟨some 5, .ld 4 true (.t 1), none⟩,
 ⟨some 6, .call .blind 67 [(.t 5)], none⟩,
 ⟨some 7, .un .not (.t 6), none⟩]) <|
 .cond (.t 7)
 (.seq (.reg [
 ⟨some 2, .mv (.k (.nilp)), none⟩,
 ⟨some 3, .mv (.k (.int .i64 9)), none⟩]) <|
 .ret)
 (.skip)) <|
 .seq (.reg [
 ⟨some 8, .fld 0 (.t 1), none⟩,
 ⟨some 9, .ld 1 false (.t 8), none⟩,
 ⟨some 10, .len (.t 9), none⟩,
 ⟨some 11, .mks true 1 1 [.bool false] (.t 10), none⟩,
 ⟨some 12, .build [.nils, .nils] [(0, 1, (.t 11))], none⟩,
 ⟨some 13, .boxH (.t 12), none⟩,
 ⟨some 4, .mv (.t 13), none⟩]) <|
 .seq (.seq (.reg [
 ⟨some 14, .fld 1 (.t 1), none⟩,
 ⟨some 15, .ld 1 false (.t 14), none⟩,
 ⟨some 16, .len (.t 15), none⟩,
 ⟨some 17, .mv (.k (.int .i64 0)), none⟩]) <|
 .block 0 <|
 l35_0) <|
 .seq (.reg [
 ⟨some 30, .mv (.t 4), none⟩,
 ⟨some 2, .mv (.t 30), none⟩,
 ⟨some 3, .mv (.k (.int .i64 0)), none⟩]) <|
 .ret⟩

def f36 : DFn := ⟨0, [.t 0],
 .seq (.reg [
 ⟨some 0, .mv (.k (.nilp)), none⟩]) <|
 .seq (.reg [
 ⟨some 1, .build [.int .i64 0, .int .i64 0, .int .i64 0, .int .i64 0, .int .i64 0, .int .i64 0, .int .i64 0] [(1, 1, (.k (.int .i64 (-1)))), (2, 1, (.k (.int .i64 (-1))))], none⟩,
 ⟨some 2, .boxH (.t 1), none⟩,
 ⟨some 0, .mv (.t 2), none⟩]) <|
 .ret⟩

def f37 : DFn := ⟨0, [.t 0],
 .seq (.reg [
 ⟨some 0, .mv (.k (.nilp)), none⟩]) <|
 .seq (.reg [
 ⟨some 1, .build [.nils, .nils, .nils, .nils] [], none⟩,
 ⟨some 2, .boxH (.t 1), none⟩,
 ⟨some 0, .mv (.t 2), none⟩]) <|
 .ret⟩

def f38 : DFn := ⟨1, [.t 2, .t 3],
 .seq (.reg [
 ⟨some 1, .boxL (.t 0), none⟩,
 ⟨some 2, .mv (.k (.nilp)), none⟩,
 ⟨some 3, .mv (.k (.int .i64 0)), none⟩]) <|
 .seq (.reg [
 ⟨some 8, .ld 4 true (.t 1), none⟩,
 ⟨some 9, .call .eff 34 [(.t 8)], none⟩,
 ⟨some 7, .mv (.t 9), none⟩,
 ⟨some 10, .ext 0 (.t 7), none⟩,
 ⟨some 11, .ext 1 (.t 7), none⟩,
 ⟨some 4, .mv (.t 10), none⟩,
 ⟨some 5, .mv (.t 11), none⟩]) <|
 .seq (.seq (.reg [
 ⟨some 12, .mv (.t 5), none⟩,
 ⟨some 13, .bin .neq .sc (.t 12) (.k (.int .i64 0)), none⟩]) <|
 .cond (.t 13)
 (.seq (.reg [
 ⟨some 14, .mv (.t 5), none⟩,
 ⟨some 2, .mv (.k (.nilp)), none⟩,
 ⟨some 3, .mv (.t 14), none⟩]) <|
 .ret)
 (.skip)) <|
 .seq (.reg [
 ⟨some 15, .mv (.t 4), none⟩,
 ⟨some 16, .call .eff 69 [], none⟩,
 ⟨some 17, .build [.nilp, .nilp, .nilp, .int .i64 0, .int .i64 0, .int .i64 0, .int .i64 0] [(0, 1, (.t 15)), (1, 1, (.t 16)), (3, 1, (.k (.int .i64 2)))], none⟩,
 ⟨some 18, .boxH (.t 17), none⟩,
 ⟨some 6, .mv (.t 18), none⟩]) <|
 .seq (.reg [
 ⟨some 19, .mv (.t 6), none⟩,
 ⟨some 2, .mv (.t 19), none⟩,
 ⟨some 3, .mv (.k (.int .i64 0)), none⟩]) <|
 .ret⟩

def f39 : DFn := ⟨1, [],
 .reg [
 ⟨some 2, .mv (.t 0), none⟩,
 ⟨some 3, .mv (.t 0), none⟩,
 ⟨some 4, .mv (.t 0), none⟩,
 ⟨some 5, .nilck (.t 4), none⟩,
 ⟨some 6, .fld 0 (.t 5), none⟩,
 ⟨some 7, .ld 1 false (.t 6), none⟩,
 ⟨some 8, .bin .add .sc (.t 7) (.k (.int .i64 2)), none⟩,
 ⟨some 9, .nilck (.t 2), none⟩,
 ⟨some 10, .fld 1 (.t 9), none⟩,
 ⟨none, .st 1 (.t 10) (.k (.int .i64 (-1))), none⟩,
 ⟨some 11, .nilck (.t 3), none⟩,
 ⟨some 12, .fld 4 (.t 11), none⟩,
 ⟨none, .st 1 (.t 12) (.t 8), none⟩]⟩

def f40 : DFn := ⟨1, [],
 .seq (.seq (.reg [
 ⟨some 2, .mv (.t 0), none⟩,
 ⟨some 3, .bin .eql .np (.t 2) (.k (.nilp)), none⟩]) <|
 .cond (.t 3)
 (.ret)
 (.skip)) <|
 .seq (.reg [
 ⟨some 4, .mv (.t 0), none⟩,
 ⟨some 5, .call .eff 70 [(.t 4)], none⟩]) <|
 .reg [
 ⟨some 6, .mv (.t 0), none⟩,
 ⟨some 7, .mv (.t 0), none⟩,
 ⟨some 8, .mv (.t 0), none⟩,
 ⟨some 9, .mv (.t 0), none⟩,
 ⟨some 10, .call .eff 69 [], none⟩,
 ⟨some 11, .nilck (.t 6), none⟩,
 ⟨some 12, .fld 3 (.t 11), none⟩,
 ⟨none, .st 1 (.t 12) (.k (.int .i64 0)), none⟩,
 ⟨some 13, .nilck (.t 7), none⟩,
 ⟨some 14, .fld 1 (.t 13), none⟩,
 ⟨none, .st 1 (.t 14) (.t 10), none⟩,
 ⟨some 15, .nilck (.t 8), none⟩,
 ⟨some 16, .fld 2 (.t 15), none⟩,
 ⟨none, .st 1 (.t 16) (.k (.nilp)), none⟩,
 ⟨some 17, .nilck (.t 9), none⟩,
 ⟨some 18, .fld 5 (.t 17), none⟩,
 ⟨none, .st 1 (.t 18) (.k (.int .i64 0)), none⟩]⟩

def f41 : DFn := ⟨1, [.t 2],
 .seq (.reg [
 ⟨some 2, .mv (.k (.int .i64 0)), none⟩]) <|
 .seq (.seq (.reg [
 ⟨some 3, .mv (.t 0), none⟩,
 ⟨some 4, .bin .eql .np (.t 3) (.k (.nilp)), none⟩,
 ⟨some 5, .mv (.t 4), none⟩,
 ⟨some 6, .mv (.t 0), some (5, false)⟩,
 ⟨some 7, .nilck (.t 6), some (5, false)⟩,
 ⟨some 8, .fld 3 (.t 7), some (5, false)⟩,
 ⟨some 9, .ld 1 false (.t 8), some (5, false)⟩,
 ⟨some 10, .bin .neq .sc (.t 9) (.k (.int .i64 0)), some (5, false)⟩,
 ⟨some 11, .pick (.t 5) (.k (.bool true)) (.t 10), none⟩]) <|
 .cond (.t 11)
 (.seq (.reg [
 ⟨some 2, .mv (.k (.int .i64 7)), none⟩]) <|
 .ret)
 (.skip)) <|
 .seq (.reg [
 ⟨some 12, .mv (.t 0), none⟩,
 ⟨some 13, .mv (.t 0), none⟩,
 ⟨some 14, .nilck (.t 12), none⟩,
 ⟨some 15, .fld 3 (.t 14), none⟩,
 ⟨none, .st 1 (.t 15) (.k (.int .i64 1)), none⟩,
 ⟨some 16, .nilck (.t 13), none⟩,
 ⟨some 17, .fld 4 (.t 16), none⟩,
 ⟨none, .st 1 (.t 17) (.k (.int .i64 0)), none⟩]) <|
 .seq (.reg [
 ⟨some 2, .mv (.k (.int .i64 0)), none⟩]) <|
 .ret⟩

def f42 : DFn := ⟨2, [.t 4],
 .seq (.reg [
 ⟨some 4, .mv (.k (.int .i64 0)), none⟩]) <|
 .seq (.seq (.reg [
 ⟨some 5, .mv (.t 0), none⟩,
 ⟨some 6, .bin .eql .np (.t 5) (.k (.nilp)), none⟩,
 ⟨some 7, .mv (.t 6), none⟩,
 ⟨some 8, .mv (.t 1), some (7, false)⟩,
 ⟨some 9, .bin .lss .sc (.t 8) (.k (.int .i64 0)), some (7, false)⟩,
 ⟨some 10, .pick (.t 7) (.k (.bool true)) (.t 9), none⟩,
 ⟨some 11, .mv (.t 10), none⟩,
 ⟨some 12, .mv (.t 1), some (11, false)⟩,
 ⟨some 13, .mv (.t 0), some (11, false)⟩,
 ⟨some 14, .nilck (.t 13), some (11, false)⟩,
 ⟨some 15, .fld 0 (.t 14), some (11, false)⟩,
 ⟨some 16, .ld 1 false (.t 15), some (11, false)⟩,
 ⟨some 17, .len (.t 16), some (11, false)⟩,
 ⟨some 18, .bin .geq .sc (.t 12) (.t 17), some (11, false)⟩,
 ⟨some 19, .pick (.t 11) (.k (.bool true)) (.t 18), none⟩]) <|
 .cond (.t 19)
 (.seq (.reg [
 ⟨some 4, .mv (.k (.int .i64 5)), none⟩]) <|
 .ret)
 (.skip)) <|
 .seq (.drw [
 ⟨some 20, .mv (.t 0), none⟩,
 ⟨some 21, .nilck (.t 20), none⟩,
 ⟨some 22, .fld 0 (.t 21), none⟩,
 ⟨some 23, .ld 1 false (.t 22), none⟩,
 ⟨some 24, .mv (.t 1), none⟩,
 ⟨some 25, .mv (.t 0), none⟩,
 ⟨some 26, .nilck (.t 25), none⟩,
 ⟨some 27, .fld 0 (.t 26), none⟩,
 ⟨some 28, .ld 1 false (.t 27), none⟩,
 ⟨some 29, .mv (.t 1), none⟩,
 ⟨some 30, .idx 1 (.t 28) (.t 29), none⟩,
 ⟨some 31, .ld 1 false (.t 30), none⟩,
 ⟨some 32, .un .not (.t 31), none⟩,
 ⟨some 33, .idx 1 (.t 23) (.t 24), none⟩,
 ⟨none, .st 1 (.t 33) (.t 32), none⟩] [[], [], [], [], [], [], [], [], [], [], [8], [8, 10], [], [3, 8, 10, 11], [3, 8, 10, 11, 13]]) <|
 .seq (.reg [
 ⟨some 4, .mv (.k (.int .i64 0)), none⟩]) <|
 .ret⟩

def f43 : DFn := ⟨2, [.t 4],
 .seq (.reg [
 ⟨some 4, .mv (.k (.int .i64 0)), none⟩]) <|
 .seq (.seq (.reg [
 ⟨some 5, .mv (.t 0), none⟩,
 ⟨some 6, .bin .eql .np (.t 5) (.k (.nilp)), none⟩,
 ⟨some 7, .mv (.t 6), none⟩,
 ⟨some 8, .mv (.t 1), some (7, false)⟩,
 ⟨some 9, .bin .lss .sc (.t 8) (.k (.int .i64 0)), some (7, false)⟩,
 ⟨some 10, .pick (.t 7) (.k (.bool true)) (.t 9), none⟩,
 ⟨some 11, .mv (.t 10), none⟩,
 ⟨some 12, .mv (.t 1), some (11, false)⟩,
 ⟨some 13, .mv (.t 0), some (11, false)⟩,
 ⟨some 14, .nilck (.t 13), some (11, false)⟩,
 ⟨some 15, .fld 1 (.t 14), some (11, false)⟩,
 ⟨some 16, .ld 1 false (.t 15), some (11, false)⟩,
 ⟨some 17, .len (.t 16), some (11, false)⟩,
 ⟨some 18, .bin .geq .sc (.t 12) (.t 17), some (11, false)⟩,
 ⟨some 19, .pick (.t 11) (.k (.bool true)) (.t 18), none⟩]) <|
 .cond (.t 19)
 (.seq (.reg [
 ⟨some 4, .mv (.k (.int .i64 5)), none⟩]) <|
 .ret)
 (.skip)) <|
 .seq (.reg [
 ⟨some 20, .mv (.t 0), none⟩,
 ⟨some 21, .nilck (.t 20), none⟩,
 ⟨some 22, .fld 1 (.t 21), none⟩,
 ⟨some 23, .ld 1 false (.t 22), none⟩,
 ⟨some 24, .mv (.t 1), none⟩,
 ⟨some 25, .build [.int .i64 0, .int .i64 0, .int .i64 0] [], none⟩,
 ⟨some 26, .idx 3 (.t 23) (.t 24), none⟩,
 ⟨none, .st 3 (.t 26) (.t 25), none⟩]) <|
 .seq (.reg [
 ⟨some 4, .mv (.k (.int .i64 0)), none⟩]) <|
 .ret⟩

def f44 : DFn := ⟨1, [.t 2],
 .seq (.reg [
 ⟨some 2, .mv (.k (.bool false)), none⟩]) <|
 .seq (.reg [
 ⟨some 3, .mv (.t 0), none⟩,
 ⟨some 4, .nilck (.t 3), none⟩,
 ⟨some 5, .fld 3 (.t 4), none⟩,
 ⟨some 6, .ld 1 false (.t 5), none⟩,
 ⟨some 7, .bin .eql .sc (.t 6) (.k (.int .i64 3)), none⟩,
 ⟨some 8, .mv (.t 7), none⟩,
 ⟨some 9, .mv (.t 0), some (8, false)⟩,
 ⟨some 10, .nilck (.t 9), some (8, false)⟩,
 ⟨some 11, .fld 3 (.t 10), some (8, false)⟩,
 ⟨some 12, .ld 1 false (.t 11), some (8, false)⟩,
 ⟨some 13, .bin .eql .sc (.t 12) (.k (.int .i64 4)), some (8, false)⟩,
 ⟨some 14, .pick (.t 8) (.k (.bool true)) (.t 13), none⟩,
 ⟨some 2, .mv (.t 14), none⟩]) <|
 .ret⟩

def f45 : DFn := ⟨2, [.t 4],
 .seq (.reg [
 ⟨some 4, .mv (.k (.bool false)), none⟩]) <|
 .seq (.reg [
 ⟨some 5, .mv (.t 0), none⟩,
 ⟨some 6, .bin .neq .np (.t 5) (.k (.nilp)), none⟩,
 ⟨some 7, .mv (.t 6), none⟩,
 ⟨some 8, .mv (.t 0), some (7, true)⟩,
 ⟨some 9, .nilck (.t 8), some (7, true)⟩,
 ⟨some 10, .fld 2 (.t 9), some (7, true)⟩,
 ⟨some 11, .ld 1 false (.t 10), some (7, true)⟩,
 ⟨some 12, .pick (.t 7) (.t 11) (.k (.bool false)), none⟩,
 ⟨some 13, .mv (.t 12), none⟩,
 ⟨some 14, .mv (.t 1), some (13, true)⟩,
 ⟨some 15, .mv (.t 0), some (13, true)⟩,
 ⟨some 16, .nilck (.t 15), some (13, true)⟩,
 ⟨some 17, .fld 1 (.t 16), some (13, true)⟩,
 ⟨some 18, .ld 1 false (.t 17), some (13, true)⟩,
 ⟨some 19, .bin .lss .sc (.t 14) (.t 18), some (13, true)⟩,
 ⟨some 20, .pick (.t 13) (.t 19) (.k (.bool false)), none⟩,
 ⟨some 4, .mv (.t 20), none⟩]) <|
 .ret⟩

def f46 : DFn := ⟨1, [],
 .seq (.reg [
 ⟨some 2, .mv (.t 0), none⟩,
 ⟨some 3, .call .eff 70 [(.t 2)], none⟩]) <|
 .seq (.reg [
 ⟨some 4, .mv (.t 0), none⟩,
 ⟨some 5, .mv (.t 0), none⟩,
 ⟨some 6, .nilck (.t 4), none⟩,
 ⟨some 7, .fld 3 (.t 6), none⟩,
 ⟨none, .st 1 (.t 7) (.k (.int .i64 2)), none⟩,
 ⟨some 8, .nilck (.t 5), none⟩,
 ⟨some 9, .fld 2 (.t 8), none⟩,
 ⟨none, .st 1 (.t 9) (.k (.nilp)), none⟩]) <|
 .reg [
 ⟨some 10, .mv (.t 0), none⟩,
 ⟨some 11, .nilck (.t 10), none⟩,
 ⟨some 12, .fld 1 (.t 11), none⟩,
 ⟨some 13, .ld 1 false (.t 12), none⟩,
 ⟨some 14, .call .eff 71 [(.t 13)], none⟩]⟩

def f47 : DFn := ⟨2, [.t 4],
 .seq (.reg [
 ⟨some 4, .mv (.k (.bool false)), none⟩]) <|
 .seq (.reg [
 ⟨some 5, .mv (.t 0), none⟩,
 ⟨some 6, .mv (.t 1), none⟩,
 ⟨some 7, .call .ro 72 [(.t 5), (.t 6)], none⟩,
 ⟨some 8, .bin .geq .sc (.t 7) (.k (.int .i64 0)), none⟩,
 ⟨some 4, .mv (.t 8), none⟩]) <|
 .ret⟩

def f48 : DFn := ⟨3, [.t 4],
 .seq (.reg [
 ⟨some 3, .boxL (.t 0), none⟩,
 ⟨some 4, .mv (.k (.bool false)), none⟩]) <|
 .seq (.reg [
 ⟨some 5, .fld 0 (.t 3), none⟩,
 ⟨some 6, .ld 1 false (.t 5), none⟩,
 ⟨some 7, .ld 1 false (.t 1), none⟩,
 ⟨some 8, .bin .eql .sc (.t 6) (.t 7), none⟩,
 ⟨some 9, .mv (.t 8), none⟩,
 ⟨some 10, .fld 1 (.t 3), some (9, true)⟩,
 ⟨some 11, .ld 1 false (.t 10), some (9, true)⟩,
 ⟨some 12, .ld 1 false (.t 2), some (9, true)⟩,
 ⟨some 13, .bin .eql .sc (.t 11) (.t 12), some (9, true)⟩,
 ⟨some 14, .pick (.t 9) (.t 13) (.k (.bool false)), none⟩,
 ⟨some 4, .mv (.t 14), none⟩]) <|
 .ret⟩

def l49_0b : DC :=
 .seq (.reg [
 ⟨some 24, .bin .lss .sc (.t 23) (.t 22), none⟩]) <|
 .seq (.cond (.t 24)
 (.skip)
 (.exit 0)) <|
 .seq (.block 1 <|
 .seq (.reg [
 ⟨some 8, .mv (.k (.bool false)), none⟩]) <|
 .seq (.reg [
 ⟨some 26, .mv (.t 4), none⟩,
 ⟨some 27, .mv (.t 6), none⟩,
 ⟨some 28, .call .eff 75 [(.t 26), (.t 27)], none⟩,
 ⟨some 25, .mv (.t 28), none⟩,
 ⟨some 29, .ext 0 (.t 25), none⟩,
 ⟨some 30, .ext 1 (.t 25), none⟩,
 ⟨some 6, .mv (.t 29), none⟩,
 ⟨some 8, .mv (.t 30), none⟩]) <|
 .seq (.reg [
 ⟨some 31, .mv (.t 8), none⟩,
 ⟨some 32, .un .not (.t 31), none⟩]) <|
 .cond (.t 32)
 (.seq (.reg [
 ⟨some 2, .mv (.k (.nilp)), none⟩,
 ⟨some 3, .mv (.k (.int .i64 2)), none⟩]) <|
 .ret)
 (.skip)) <|
 .reg [
 ⟨some 33, .bin .add .sc (.t 23) (.k (.int .u64 1)), none⟩,
 ⟨some 23, .mv (.t 33), none⟩]
def l49_0 : DC := .loop [0, 4, 6, 22, 23] [] l49_0b
def f49 : DFn := ⟨1, [.t 2, .t 3],
 .seq (.reg [
 ⟨some 2, .mv (.k (.nilp)), none⟩,
 ⟨some 3, .mv (.k (.int .i64 0)), none⟩]) <|
 .seq (.seq (.reg [
 ⟨some 11, .mv (.t 0), none⟩,
 ⟨some 12, .len (.t 11), none⟩,
 ⟨some 13, .bin .leq .sc (.t 12) (.k (.int .i64 6)), none⟩]) <|
 .cond (.t 13)
 (.seq (.reg [
 ⟨some 2, .mv (.k (.nilp)), none⟩,
 ⟨some 3, .mv (.k (.int .i64 2)), none⟩]) <|
 .ret)
 (.skip)) <|
 .seq (.reg [
 ⟨some 14, .call .eff 73 [], none⟩,
 ⟨some 4, .mv (.t 14), none⟩]) <|
 .seq (.reg [
 ⟨some 16, .mv (.t 0), none⟩,
 ⟨some 17, .slc 1 (.t 16) (some (.k (.int .i64 6))) none none, none⟩,
 ⟨some 18, .call .ro 74 [(.t 17), (.k (.int .i64 1))], none⟩,
 ⟨some 15, .mv (.t 18), none⟩,
 ⟨some 19, .ext 0 (.t 15), none⟩,
 ⟨some 20, .ext 1 (.t 15), none⟩,
 ⟨some 21, .ext 2 (.t 15), none⟩,
 ⟨some 5, .mv (.t 19), none⟩,
 ⟨some 6, .mv (.t 20), none⟩,
 ⟨some 7, .mv (.t 21), none⟩]) <|
 .seq (.seq (.reg [
 ⟨some 22, .mv (.t 5), none⟩,
 ⟨some 23, .mv (.k (.int .u64 0)), none⟩]) <|
 .block 0 <|
 l49_0) <|
 .seq (.seq (.reg [
 ⟨some 35, .mv (.t 4), none⟩,
 ⟨some 36, .call .ro 76 [(.t 35)], none⟩,
 ⟨some 34, .mv (.t 36), none⟩,
 ⟨some 37, .ext 0 (.t 34), none⟩,
 ⟨some 38, .ext 1 (.t 34), none⟩,
 ⟨some 9, .mv (.t 37), none⟩,
 ⟨some 10, .mv (.t 38), none⟩]) <|
 .seq (.reg [
 ⟨some 39, .mv (.t 10), none⟩,
 ⟨some 40, .bin .neq .sc (.t 39) (.k (.int .i64 0)), none⟩,
 ⟨some 41, .mv (.t 40), none⟩,
 ⟨some 42, .mv (.t 9), some (41, false)⟩,
 ⟨some 43, .mv (.t 0), some (41, false)⟩,
 ⟨some 44, .call .blind 77 [(.t 42), (.t 43)], some (41, false)⟩,
 ⟨some 45, .un .not (.t 44), some (41, false)⟩,
 ⟨some 46, .pick (.t 41) (.k (.bool true)) (.t 45), none⟩]) <|
 .cond (.t 46)
 (.seq (.reg [
 ⟨some 2, .mv (.k (.nilp)), none⟩,
 ⟨some 3, .mv (.k (.int .i64 2)), none⟩]) <|
 .ret)
 (.skip)) <|
 .seq (.reg [
 ⟨some 47, .mv (.t 4), none⟩,
 ⟨some 2, .mv (.t 47), none⟩,
 ⟨some 3, .mv (.k (.int .i64 0)), none⟩]) <|
 .ret⟩

def l50_0b : DC :=
 .seq (.seq (.reg [
 ⟨some 12, .mv (.t 7), none⟩,
 ⟨some 13, .mv (.t 0), none⟩,
 ⟨some 14, .call .ro 78 [(.t 13)], none⟩,
 ⟨some 15, .bin .lss .sc (.t 12) (.t 14), none⟩]) <|
 .cond (.t 15)
 (.skip)
 (.exit 0)) <|
 .seq (.block 1 <|
 .seq (.reg [
 ⟨some 19, .mv (.t 0), none⟩,
 ⟨some 20, .mv (.t 7), none⟩,
 ⟨some 21, .call .ro 79 [(.t 19), (.t 20)], none⟩,
 ⟨some 18, .mv (.t 21), none⟩,
 ⟨some 22, .ext 0 (.t 18), none⟩,
 ⟨some 23, .ext 1 (.t 18), none⟩,
 ⟨some 8, .mv (.t 22), none⟩,
 ⟨some 9, .mv (.t 23), none⟩]) <|
 .seq (.seq (.reg [
 ⟨some 24, .mv (.t 9), none⟩,
 ⟨some 25, .un .not (.t 24), none⟩]) <|
 .cond (.t 25)
 (.seq (.reg [
 ⟨some 2, .mv (.k (.int .i64 0)), none⟩,
 ⟨some 3, .mv (.k (.int .i64 0)), none⟩,
 ⟨some 4, .mv (.k (.nils)), none⟩,
 ⟨some 5, .mv (.k (.bool false)), none⟩]) <|
 .ret)
 (.skip)) <|
 .reg [
 ⟨some 26, .mv (.t 6), none⟩,
 ⟨some 27, .mv (.t 8), none⟩,
 ⟨some 28, .bsl false 1 [.int .i64 0] 1 [(0, (.t 27))], none⟩,
 ⟨some 29, .app 1 8 (.t 26) (.t 28), none⟩,
 ⟨some 6, .mv (.t 29), none⟩]) <|
 .reg [
 ⟨some 16, .mv (.t 7), none⟩,
 ⟨some 17, .bin .add .sc (.t 16) (.k (.int .i64 1)), none⟩,
 ⟨some 7, .mv (.t 17), none⟩]
def l50_0 : DC := .loop [0, 6, 7] [] l50_0b
def f50 : DFn := ⟨1, [.t 2, .t 3, .t 4, .t 5],
 .seq (.reg [
 ⟨some 2, .mv (.k (.int .i64 0)), none⟩,
 ⟨some 3, .mv (.k (.int .i64 0)), none⟩,
 ⟨some 4, .mv (.k (.nils)), none⟩,
 ⟨some 5, .mv (.k (.bool false)), none⟩]) <|
 .seq (.reg [
 ⟨some 6, .mv (.k (.nils)), none⟩]) <|
 .seq (.seq (.reg [
 ⟨some 7, .mv (.k (.int .i64 1)), none⟩]) <|
 .block 0 <|
 l50_0) <|
 .seq (.reg [
 ⟨some 31, .mv (.t 0), none⟩,
 ⟨some 32, .call .ro 80 [(.t 31), (.k (.int .i64 0))], none⟩,
 ⟨some 30, .mv (.t 32), none⟩,
 ⟨some 33, .ext 0 (.t 30), none⟩,
 ⟨some 34, .ext 1 (.t 30), none⟩,
 ⟨some 10, .mv (.t 33), none⟩,
 ⟨some 11, .mv (.t 34), none⟩]) <|
 .seq (.seq (.reg [
 ⟨some 35, .mv (.t 11), none⟩,
 ⟨some 36, .un .not (.t 35), none⟩,
 ⟨some 37, .mv (.t 36), none⟩,
 ⟨some 38, .mv (.t 10), some (37, false)⟩,
 ⟨some 39, .bin .neq .sc (.t 38) (.k (.str [115, 116, 97, 116, 101])), some (37, false)⟩,
 ⟨some 40, .pick (.t 37) (.k (.bool true)) (.t 39), none⟩,
 ⟨some 41, .mv (.t 40), none⟩,
 ⟨some 42, .mv (.t 6), some (41, false)⟩,
 ⟨some 43, .len (.t 42), some (41, false)⟩,
 ⟨some 44, .bin .lss .sc (.t 43) (.k (.int .i64 3)), some (41, false)⟩,
 ⟨some 45, .pick (.t 41) (.k (.bool true)) (.t 44), none⟩]) <|
 .cond (.t 45)
 (.seq (.reg [
 ⟨some 2, .mv (.k (.int .i64 0)), none⟩,
 ⟨some 3, .mv (.k (.int .i64 0)), none⟩,
 ⟨some 4, .mv (.k (.nils)), none⟩,
 ⟨some 5, .mv (.k (.bool false)), none⟩]) <|
 .ret)
 (.skip)) <|
 .seq (.reg [
 ⟨some 47, .mv (.t 6), none⟩,
 ⟨some 48, .slc 1 (.t 47) (some (.k (.int .i64 3))) none none, none⟩,
 ⟨some 49, .call .ro 81 [(.t 48)], none⟩,
 ⟨some 46, .mv (.t 49), none⟩,
 ⟨some 50, .ext 0 (.t 46), none⟩,
 ⟨some 51, .ext 1 (.t 46), none⟩,
 ⟨some 4, .mv (.t 50), none⟩,
 ⟨some 5, .mv (.t 51), none⟩]) <|
 .seq (.seq (.reg [
 ⟨some 52, .mv (.t 5), none⟩,
 ⟨some 53, .un .not (.t 52), none⟩,
 ⟨some 54, .mv (.t 53), none⟩,
 ⟨some 55, .mv (.t 6), some (54, false)⟩,
 ⟨some 56, .idx 1 (.t 55) (.k (.int .i64 2)), some (54, false)⟩,
 ⟨some 57, .ld 1 false (.t 56), some (54, false)⟩,
 ⟨some 58, .mv (.t 4), some (54, false)⟩,
 ⟨some 59, .len (.t 58), some (54, false)⟩,
 ⟨some 60, .bin .neq .sc (.t 57) (.t 59), some (54, false)⟩,
 ⟨some 61, .pick (.t 54) (.k (.bool true)) (.t 60), none⟩]) <|
 .cond (.t 61)
 (.seq (.reg [
 ⟨some 2, .mv (.k (.int .i64 0)), none⟩,
 ⟨some 3, .mv (.k (.int .i64 0)), none⟩,
 ⟨some 4, .mv (.k (.nils)), none⟩,
 ⟨some 5, .mv (.k (.bool false)), none⟩]) <|
 .ret)
 (.skip)) <|
 .seq (.drw [
 ⟨some 62, .mv (.t 6), none⟩,
 ⟨some 63, .idx 1 (.t 62) (.k (.int .i64 0)), none⟩,
 ⟨some 64, .ld 1 false (.t 63), none⟩,
 ⟨some 65, .mv (.t 6), none⟩,
 ⟨some 66, .idx 1 (.t 65) (.k (.int .i64 1)), none⟩,
 ⟨some 67, .ld 1 false (.t 66), none⟩,
 ⟨some 68, .mv (.t 4), none⟩,
 ⟨some 2, .mv (.t 64), none⟩,
 ⟨some 3, .mv (.t 67), none⟩,
 ⟨some 4, .mv (.t 68), none⟩,
 ⟨some 5, .mv (.k (.bool true)), none⟩] [[], [], [1], [], [], [4], [], [], [], [], []]) <|
 .ret⟩

def f51 : DFn := ⟨2, [.t 4],
 .seq (.reg [
 ⟨some 3, .boxL (.t 1), none⟩,
 ⟨some 4, .mv (.k (.bool false)), none⟩]) <|
 .seq (.reg [
 ⟨some 6, .mv (.t 0), none⟩,
 ⟨some 7, .nilck (.t 6), none⟩,
 ⟨some 8, .fld 2 (.t 7), none⟩,
 ⟨some 9, .ld 1 false (.t 8), none⟩,
 ⟨some 5, .mv (.t 9), none⟩]) <|
 .seq (.drw [
 ⟨some 10, .mv (.t 5), none⟩,
 ⟨some 11, .bin .neq .np (.t 10) (.k (.nilp)), none⟩,
 ⟨some 12, .mv (.t 11), none⟩,
 ⟨some 13, .fld 0 (.t 3), some (12, true)⟩,
 ⟨some 14, .ld 1 false (.t 13), some (12, true)⟩,
 ⟨some 15, .mv (.t 5), some (12, true)⟩,
 ⟨some 16, .nilck (.t 15), some (12, true)⟩,
 ⟨some 17, .fld 0 (.t 16), some (12, true)⟩,
 ⟨some 18, .ld 1 false (.t 17), some (12, true)⟩,
 ⟨some 19, .bin .lss .sc (.t 14) (.t 18), some (12, true)⟩,
 ⟨some 20, .mv (.t 19), some (12, true)⟩,
 ⟨some 21, .fld 0 (.t 3), some (20, false)⟩,
 ⟨some 22, .ld 1 false (.t 21), some (20, false)⟩,
 ⟨some 23, .mv (.t 5), some (20, false)⟩,
 ⟨some 24, .nilck (.t 23), some (20, false)⟩,
 ⟨some 25, .fld 0 (.t 24), some (20, false)⟩,
 ⟨some 26, .ld 1 false (.t 25), some (20, false)⟩,
 ⟨some 27, .bin .eql .sc (.t 22) (.t 26), some (20, false)⟩,
 ⟨some 28, .mv (.t 27), some (20, false)⟩,
 ⟨some 29, .fld 1 (.t 3), some (28, true)⟩,
 ⟨some 30, .ld 1 false (.t 29), some (28, true)⟩,
 ⟨some 31, .mv (.t 5), some (28, true)⟩,
 ⟨some 32, .nilck (.t 31), some (28, true)⟩,
 ⟨some 33, .fld 1 (.t 32), some (28, true)⟩,
 ⟨some 34, .ld 1 false (.t 33), some (28, true)⟩,
 ⟨some 35, .bin .leq .sc (.t 30) (.t 34), some (28, true)⟩,
 ⟨some 36, .pick (.t 28) (.t 35) (.k (.bool false)), some (20, false)⟩,
 ⟨some 37, .pick (.t 20) (.k (.bool true)) (.t 36), some (12, true)⟩,
 ⟨some 38, .pick (.t 12) (.t 37) (.k (.bool false)), none⟩,
 ⟨some 4, .mv (.t 38), none⟩] [[], [], [], [], [], [], [], [], [], [], [], [], [4, 8], [], [], [], [4, 8], [], [], [], [4, 8, 12, 16], [], [], [], [4, 8, 12, 16], [], [], [], [], []]) <|
 .ret⟩

def f52 : DFn := ⟨1, [.t 2],
 .seq (.reg [
 ⟨some 2, .mv (.k (.nils)), none⟩]) <|
 .seq (.seq (.reg [
 ⟨some 3, .mv (.t 0), none⟩,
 ⟨some 4, .bin .eql .np (.t 3) (.k (.nilp)), none⟩]) <|
 .cond (.t 4)
 (.seq (.reg [
 ⟨some 2, .mv (.k (.nils)), none⟩]) <|
 .ret)
 (.skip)) <|
 .seq (.reg [
 ⟨some 5, .mv (.t 0), none⟩,
 ⟨some 6, .nilck (.t 5), none⟩,
 ⟨some 7, .fld 4 (.t 6), none⟩,
 ⟨some 8, .ld 1 false (.t 7), none⟩,
 ⟨some 9, .call .eff 82 [(.t 8)], none⟩,
 ⟨some 2, .mv (.t 9), none⟩]) <|
 .ret⟩

def l53_1b : DC :=
 .seq (.reg [
 ⟨some 38, .bin .lss .sc (.t 37) (.t 36), none⟩]) <|
 .seq (.cond (.t 38)
 (.skip)
 (.exit 2)) <|
 .seq (.block 3 <|
 .seq (.reg [
 ⟨some 39, .mv (.t 37), none⟩,
 ⟨some 40, .idx 4 (.t 35) (.t 37), none⟩,
 ⟨some 41, .ld 4 true (.t 40), none⟩,
 ⟨some 8, .alL [.int .i64 0, .int .i64 0, .int .i64 0, .bool false], none⟩,
 ⟨some 7, .mv (.t 39), none⟩,
 ⟨none, .st 4 (.t 8) (.t 41), none⟩]) <|
 .seq (.reg [
 ⟨some 42, .fld 0 (.t 6), none⟩,
 ⟨some 43, .ld 1 false (.t 42), none⟩,
 ⟨some 44, .bin .neq .sc (.t 43) (.k (.int .i64 0)), none⟩,
 ⟨some 45, .mv (.t 44), none⟩,
 ⟨some 46, .fld 0 (.t 8), some (45, true)⟩,
 ⟨some 47, .ld 1 false (.t 46), some (45, true)⟩,
 ⟨some 48, .bin .neq .sc (.t 47) (.k (.int .i64 0)), some (45, true)⟩,
 ⟨some 49, .pick (.t 45) (.t 48) (.k (.bool false)), none⟩,
 ⟨some 50, .mv (.t 49), none⟩,
 ⟨some 51, .mv (.t 0), some (50, true)⟩,
 ⟨some 52, .nilck (.t 51), some (50, true)⟩,
 ⟨some 53, .fld 0 (.t 52), some (50, true)⟩,
 ⟨some 54, .ld 4 true (.t 53), some (50, true)⟩,
 ⟨some 55, .mv (.t 5), some (50, true)⟩,
 ⟨some 56, .mv (.t 7), some (50, true)⟩,
 ⟨some 57, .call .blind 84 [(.t 54), (.t 55), (.t 56)], some (50, true)⟩,
 ⟨some 58, .pick (.t 50) (.t 57) (.k (.bool false)), none⟩]) <|
 .cond (.t 58)
 (.seq (.reg [
 ⟨some 4, .mv (.k (.bool false)), none⟩]) <|
 .ret)
 (.skip)) <|
 .reg [
 ⟨some 59, .bin .add .sc (.t 37) (.k (.int .i64 1)), none⟩,
 ⟨some 37, .mv (.t 59), none⟩]
def l53_1 : DC := .loop [0, 1, 5, 6, 21, 22, 23, 35, 36, 37] [6] l53_1b
def l53_0b : DC :=
 .seq (.reg [
 ⟨some 24, .bin .lss .sc (.t 23) (.t 22), none⟩]) <|
 .seq (.cond (.t 24)
 (.skip)
 (.exit 0)) <|
 .seq (.block 1 <|
 .seq (.reg [
 ⟨some 25, .mv (.t 23), none⟩,
 ⟨some 26, .idx 4 (.t 21) (.t 23), none⟩,
 ⟨some 27, .ld 4 true (.t 26), none⟩,
 ⟨some 6, .alL [.int .i64 0, .int .i64 0, .int .i64 0, .bool false], none⟩,
 ⟨some 5, .mv (.t 25), none⟩,
 ⟨none, .st 4 (.t 6) (.t 27), none⟩]) <|
 .seq (.seq (.reg [
 ⟨some 28, .mv (.t 0), none⟩,
 ⟨some 29, .mv (.t 5), none⟩,
 ⟨some 30, .ld 4 true (.t 6), none⟩,
 ⟨some 31, .call .ro 83 [(.t 28), (.t 29), (.t 30)], none⟩,
 ⟨some 32, .un .not (.t 31), none⟩]) <|
 .cond (.t 32)
 (.seq (.reg [
 ⟨some 4, .mv (.k (.bool false)), none⟩]) <|
 .ret)
 (.skip)) <|
 .seq (.reg [
 ⟨some 33, .mv (.t 1), none⟩,
 ⟨some 34, .mv (.t 5), none⟩,
 ⟨some 35, .slc 4 (.t 33) none (some (.t 34)) none, none⟩,
 ⟨some 36, .len (.t 35), none⟩,
 ⟨some 37, .mv (.k (.int .i64 0)), none⟩]) <|
 .block 2 <|
 l53_1) <|
 .reg [
 ⟨some 60, .bin .add .sc (.t 23) (.k (.int .i64 1)), none⟩,
 ⟨some 23, .mv (.t 60), none⟩]
def l53_0 : DC := .loop [0, 1, 21, 22, 23] [] l53_0b
def f53 : DFn := ⟨2, [.t 4],
 .seq (.reg [
 ⟨some 4, .mv (.k (.bool false)), none⟩]) <|
 .seq (.seq (.reg [
 ⟨some 9, .mv (.t 0), none⟩,
 ⟨some 10, .bin .eql .np (.t 9) (.k (.nilp)), none⟩,
 ⟨some 11, .mv (.t 10), none⟩,
 ⟨some 12, .mv (.t 1), some (11, false)⟩,
 ⟨some 13, .len (.t 12), some (11, false)⟩,
 ⟨some 14, .mv (.t 0), some (11, false)⟩,
 ⟨some 15, .nilck (.t 14), some (11, false)⟩,
 ⟨some 16, .fld 4 (.t 15), some (11, false)⟩,
 ⟨some 17, .ld 1 false (.t 16), some (11, false)⟩,
 ⟨some 18, .len (.t 17), some (11, false)⟩,
 ⟨some 19, .bin .neq .sc (.t 13) (.t 18), some (11, false)⟩,
 ⟨some 20, .pick (.t 11) (.k (.bool true)) (.t 19), none⟩]) <|
 .cond (.t 20)
 (.seq (.reg [
 ⟨some 4, .mv (.k (.bool false)), none⟩]) <|
 .ret)
 (.skip)) <|
 .seq (.seq (.reg [
 ⟨some 21, .mv (.t 1), none⟩,
 ⟨some 22, .len (.t 21), none⟩,
 ⟨some 23, .mv (.k (.int .i64 0)), none⟩]) <|
 .block 0 <|
 l53_0) <|
 .seq (.reg [
 ⟨some 61, .mv (.t 0), none⟩,
 ⟨some 62, .mv (.t 1), none⟩,
 ⟨some 63, .call .eff 82 [(.t 62)], none⟩,
 ⟨some 64, .nilck (.t 61), none⟩,
 ⟨some 65, .fld 4 (.t 64), none⟩,
 ⟨none, .st 1 (.t 65) (.t 63), none⟩]) <|
 .seq (.reg [
 ⟨some 4, .mv (.k (.bool true)), none⟩]) <|
 .ret⟩

def f54 : DFn := ⟨2, [.t 4],
 .seq (.reg [
 ⟨some 4, .mv (.k (.bool false)), none⟩]) <|
 .seq (.reg [
 ⟨some 5, .mv (.t 0), none⟩,
 ⟨some 6, .bin .neq .np (.t 5) (.k (.nilp)), none⟩,
 ⟨some 7, .mv (.t 6), none⟩,
 ⟨some 8, .mv (.t 1), some (7, true)⟩,
 ⟨some 9, .bin .geq .sc (.t 8) (.k (.int .i64 0)), some (7, true)⟩,
 ⟨some 10, .pick (.t 7) (.t 9) (.k (.bool false)), none⟩,
 ⟨some 11, .mv (.t 10), none⟩,
 ⟨some 12, .mv (.t 1), some (11, true)⟩,
 ⟨some 13, .bin .lss .sc (.t 12) (.k (.int .i64 2)), some (11, true)⟩,
 ⟨some 14, .pick (.t 11) (.t 13) (.k (.bool false)), none⟩,
 ⟨some 4, .mv (.t 14), none⟩]) <|
 .ret⟩

def f55 : DFn := ⟨1, [.t 2],
 .seq (.reg [
 ⟨some 2, .mv (.k (.bool false)), none⟩]) <|
 .seq (.seq (.reg [
 ⟨some 3, .mv (.t 0), none⟩,
 ⟨some 4, .bin .eql .np (.t 3) (.k (.nilp)), none⟩,
 ⟨some 5, .mv (.t 4), none⟩,
 ⟨some 6, .mv (.t 0), some (5, false)⟩,
 ⟨some 7, .nilck (.t 6), some (5, false)⟩,
 ⟨some 8, .fld 3 (.t 7), some (5, false)⟩,
 ⟨some 9, .ld 1 false (.t 8), some (5, false)⟩,
 ⟨some 10, .bin .neq .sc (.t 9) (.k (.int .i64 3)), some (5, false)⟩,
 ⟨some 11, .pick (.t 5) (.k (.bool true)) (.t 10), none⟩]) <|
 .cond (.t 11)
 (.seq (.reg [
 ⟨some 2, .mv (.k (.bool false)), none⟩]) <|
 .ret)
 (.skip)) <|
 .seq (.reg [
 ⟨some 12, .mv (.t 0), none⟩,
 ⟨some 13, .call .eff 46 [(.t 12)], none⟩]) <|
 .seq (.reg [
 ⟨some 2, .mv (.k (.bool true)), none⟩]) <|
 .ret⟩

def f56 : DFn := ⟨2, [.t 4],
 .seq (.reg [
 ⟨some 4, .mv (.k (.int .i64 0)), none⟩]) <|
 .seq (.seq (.reg [
 ⟨some 5, .mv (.t 0), none⟩,
 ⟨some 6, .bin .eql .np (.t 5) (.k (.nilp)), none⟩,
 ⟨some 7, .mv (.t 6), none⟩,
 ⟨some 8, .mv (.t 0), some (7, false)⟩,
 ⟨some 9, .nilck (.t 8), some (7, false)⟩,
 ⟨some 10, .fld 1 (.t 9), some (7, false)⟩,
 ⟨some 11, .ld 1 false (.t 10), some (7, false)⟩,
 ⟨some 12, .bin .eql .sc (.t 11) (.k (.int .i64 (-1))), some (7, false)⟩,
 ⟨some 13, .pick (.t 7) (.k (.bool true)) (.t 12), none⟩,
 ⟨some 14, .mv (.t 13), none⟩,
 ⟨some 15, .mv (.t 0), some (14, false)⟩,
 ⟨some 16, .nilck (.t 15), some (14, false)⟩,
 ⟨some 17, .fld 1 (.t 16), some (14, false)⟩,
 ⟨some 18, .ld 1 false (.t 17), some (14, false)⟩,
 ⟨some 19, .mv (.t 1), some (14, false)⟩,
 ⟨some 20, .bin .neq .sc (.t 18) (.t 19), some (14, false)⟩,
 ⟨some 21, .pick (.t 14) (.k (.bool true)) (.t 20), none⟩]) <|
 .cond (.t 21)
 (.seq (.reg [
 ⟨some 4, .mv (.k (.int .i64 7)), none⟩]) <|
 .ret)
 (.skip)) <|
 .seq (.reg [
 ⟨some 22, .mv (.t 0), none⟩,
 ⟨some 23, .call .eff 39 [(.t 22)], none⟩]) <|
 .seq (.reg [
 ⟨some 24, .mv (.t 0), none⟩,
 ⟨some 25, .nilck (.t 24), none⟩,
 ⟨some 26, .fld 2 (.t 25), none⟩,
 ⟨none, .st 1 (.t 26) (.k (.int .i64 (-1))), none⟩]) <|
 .seq (.reg [
 ⟨some 4, .mv (.k (.int .i64 0)), none⟩]) <|
 .ret⟩

def f57 : DFn := ⟨3, [.t 6, .t 7, .t 8],
 .seq (.reg [
 ⟨some 6, .mv (.k (.int .i64 0)), none⟩,
 ⟨some 7, .mv (.k (.int .i64 0)), none⟩,
 ⟨some 8, .mv (.k (.int .i64 0)), none⟩]) <|
 .seq (.block 0 <|
 .seq (.reg [
 ⟨some 10, .mv (.t 0), none⟩,
 ⟨some 11, .bin .eql .np (.t 10) (.k (.nilp)), none⟩,
 ⟨some 12, .mv (.t 11), none⟩,
 ⟨some 13, .mv (.t 1), some (12, false)⟩,
 ⟨some 14, .bin .lss .sc (.t 13) (.k (.int .i64 0)), some (12, false)⟩,
 ⟨some 15, .pick (.t 12) (.k (.bool true)) (.t 14), none⟩,
 ⟨some 16, .mv (.t 15), none⟩,
 ⟨some 17, .mv (.t 1), some (16, false)⟩,
 ⟨some 18, .bin .geq .sc (.t 17) (.k (.int .i64 2)), some (16, false)⟩,
 ⟨some 19, .pick (.t 16) (.k (.bool true)) (.t 18), none⟩,
 ⟨some 20, .mv (.t 19), none⟩,
 ⟨some 21, .mv (.t 2), some (20, false)⟩,
 ⟨some 22, .bin .lss .sc (.t 21) (.k (.int .i64 0)), some (20, false)⟩,
 ⟨some 23, .pick (.t 20) (.k (.bool true)) (.t 22), none⟩,
 ⟨some 9, .mv (.t 23), none⟩]) <|
 .cond (.t 9)
 (.seq (.reg [
 ⟨some 6, .mv (.k (.int .i64 0)), none⟩,
 ⟨some 7, .mv (.k (.int .i64 0)), none⟩,
 ⟨some 8, .mv (.k (.int .i64 1)), none⟩]) <|
 .ret)
 (.seq (.reg [
 ⟨some 25, .mv (.t 0), none⟩,
 ⟨some 26, .nilck (.t 25), none⟩,
 ⟨some 27, .fld 1 (.t 26), none⟩,
 ⟨some 28, .ld 1 false (.t 27), none⟩,
 ⟨some 29, .mv (.t 1), none⟩,
 ⟨some 30, .bin .eql .sc (.t 28) (.t 29), none⟩,
 ⟨some 24, .mv (.t 30), none⟩]) <|
 .cond (.t 24)
 (.seq (.reg [
 ⟨some 31, .mv (.t 0), none⟩,
 ⟨some 32, .nilck (.t 31), none⟩,
 ⟨some 33, .fld 6 (.t 32), none⟩,
 ⟨some 34, .ld 1 false (.t 33), none⟩,
 ⟨some 7, .mv (.t 34), none⟩]) <|
 .seq (.reg [
 ⟨some 35, .mv (.t 0), none⟩,
 ⟨some 36, .mv (.t 0), none⟩,
 ⟨some 37, .mv (.t 0), none⟩,
 ⟨some 38, .mv (.t 1), none⟩,
 ⟨some 39, .mv (.t 0), none⟩,
 ⟨some 40, .nilck (.t 39), none⟩,
 ⟨some 41, .fld 0 (.t 40), none⟩,
 ⟨some 42, .ld 1 false (.t 41), none⟩,
 ⟨some 43, .mv (.t 2), none⟩,
 ⟨some 44, .nilck (.t 35), none⟩,
 ⟨some 45, .fld 2 (.t 44), none⟩,
 ⟨none, .st 1 (.t 45) (.t 38), none⟩,
 ⟨some 46, .nilck (.t 36), none⟩,
 ⟨some 47, .fld 3 (.t 46), none⟩,
 ⟨none, .st 1 (.t 47) (.t 42), none⟩,
 ⟨some 48, .nilck (.t 37), none⟩,
 ⟨some 49, .fld 6 (.t 48), none⟩,
 ⟨none, .st 1 (.t 49) (.t 43), none⟩]) <|
 .seq (.reg [
 ⟨some 50, .mv (.t 0), none⟩,
 ⟨some 51, .nilck (.t 50), none⟩,
 ⟨some 52, .fld 5 (.t 51), none⟩,
 ⟨some 53, .ld 1 false (.t 52), none⟩,
 ⟨some 54, .mv (.t 7), none⟩,
 ⟨some 6, .mv (.t 53), none⟩,
 ⟨some 7, .mv (.t 54), none⟩,
 ⟨some 8, .mv (.k (.int .i64 0)), none⟩]) <|
 .ret)
 (.seq (.drw [
 ⟨some 56, .mv (.t 0), none⟩,
 ⟨some 57, .nilck (.t 56), none⟩,
 ⟨some 58, .fld 1 (.t 57), none⟩,
 ⟨some 59, .ld 1 false (.t 58), none⟩,
 ⟨some 60, .bin .eql .sc (.t 59) (.k (.int .i64 (-1))), none⟩,
 ⟨some 61, .mv (.t 60), none⟩,
 ⟨some 62, .mv (.t 0), some (61, true)⟩,
 ⟨some 63, .nilck (.t 62), some (61, true)⟩,
 ⟨some 64, .fld 0 (.t 63), some (61, true)⟩,
 ⟨some 65, .ld 1 false (.t 64), some (61, true)⟩,
 ⟨some 66, .mv (.t 0), some (61, true)⟩,
 ⟨some 67, .nilck (.t 66), some (61, true)⟩,
 ⟨some 68, .fld 4 (.t 67), some (61, true)⟩,
 ⟨some 69, .ld 1 false (.t 68), some (61, true)⟩,
 ⟨some 70, .bin .geq .sc (.t 65) (.t 69), some (61, true)⟩,
 ⟨some 71, .pick (.t 61) (.t 70) (.k (.bool false)), none⟩,
 ⟨some 55, .mv (.t 71), none⟩] [[], [], [], [], [], [], [], [], [], [3], [], [], [], [3], [], [], []]) <|
 .cond (.t 55)
 (.seq (.reg [
 ⟨some 72, .mv (.t 0), none⟩,
 ⟨some 73, .mv (.t 0), none⟩,
 ⟨some 74, .mv (.t 1), none⟩,
 ⟨some 75, .mv (.t 0), none⟩,
 ⟨some 76, .nilck (.t 75), none⟩,
 ⟨some 77, .fld 0 (.t 76), none⟩,
 ⟨some 78, .ld 1 false (.t 77), none⟩,
 ⟨some 79, .nilck (.t 72), none⟩,
 ⟨some 80, .fld 1 (.t 79), none⟩,
 ⟨none, .st 1 (.t 80) (.t 74), none⟩,
 ⟨some 81, .nilck (.t 73), none⟩,
 ⟨some 82, .fld 3 (.t 81), none⟩,
 ⟨none, .st 1 (.t 82) (.t 78), none⟩]) <|
 .seq (.reg [
 ⟨some 83, .mv (.t 0), none⟩,
 ⟨some 84, .nilck (.t 83), none⟩,
 ⟨some 85, .fld 5 (.t 84), none⟩,
 ⟨some 86, .ld 1 false (.t 85), none⟩,
 ⟨some 87, .bin .add .sc (.t 86) (.k (.int .i64 1)), none⟩,
 ⟨some 88, .nilck (.t 83), none⟩,
 ⟨some 89, .fld 5 (.t 88), none⟩,
 ⟨none, .st 1 (.t 89) (.t 87), none⟩]) <|
 .seq (.drw [
 ⟨some 90, .mv (.t 0), none⟩,
 ⟨some 91, .nilck (.t 90), none⟩,
 ⟨some 92, .fld 5 (.t 91), none⟩,
 ⟨some 93, .ld 1 false (.t 92), none⟩,
 ⟨some 94, .mv (.t 0), none⟩,
 ⟨some 95, .nilck (.t 94), none⟩,
 ⟨some 96, .fld 6 (.t 95), none⟩,
 ⟨some 97, .ld 1 false (.t 96), none⟩,
 ⟨some 6, .mv (.t 93), none⟩,
 ⟨some 7, .mv (.t 97), none⟩,
 ⟨some 8, .mv (.k (.int .i64 0)), none⟩] [[], [], [], [], [], [], [], [], [], [], []]) <|
 .ret)
 (.skip)))) <|
 .seq (.reg [
 ⟨some 6, .mv (.k (.int .i64 0)), none⟩,
 ⟨some 7, .mv (.k (.int .i64 0)), none⟩,
 ⟨some 8, .mv (.k (.int .i64 8)), none⟩]) <|
 .ret⟩

def f58 : DFn := ⟨1, [.t 2],
 .seq (.reg [
 ⟨some 2, .mv (.k (.int .i64 0)), none⟩]) <|
 .seq (.seq (.reg [
 ⟨some 3, .mv (.t 0), none⟩,
 ⟨some 4, .bin .eql .np (.t 3) (.k (.nilp)), none⟩]) <|
 .cond (.t 4)
 (.seq (.reg [
 ⟨some 2, .mv (.k (.int .i64 0)), none⟩]) <|
 .ret)
 (.skip)) <|
 .seq (.reg [
 ⟨some 5, .mv (.t 0), none⟩,
 ⟨some 6, .nilck (.t 5), none⟩,
 ⟨some 7, .fld 5 (.t 6), none⟩,
 ⟨some 8, .ld 1 false (.t 7), none⟩,
 ⟨some 2, .mv (.t 8), none⟩]) <|
 .ret⟩

def f59 : DFn := ⟨3, [],
 .block 0 <|
 .seq (.reg [
 ⟨some 7, .mv (.t 0), none⟩,
 ⟨some 8, .bin .eql .np (.t 7) (.k (.nilp)), none⟩,
 ⟨some 6, .mv (.t 8), none⟩]) <|
 .cond (.t 6)
 (.skip)
 (.seq (.reg [
 ⟨some 10, .mv (.t 0), none⟩,
 ⟨some 11, .call .ro 44 [(.t 10)], none⟩,
 ⟨some 12, .mv (.t 11), none⟩,
 ⟨some 13, .mv (.t 0), some (12, true)⟩,
 ⟨some 14, .nilck (.t 13), some (12, true)⟩,
 ⟨some 15, .fld 1 (.t 14), some (12, true)⟩,
 ⟨some 16, .ld 1 false (.t 15), some (12, true)⟩,
 ⟨some 17, .call .ro 85 [(.t 16)], some (12, true)⟩,
 ⟨some 18, .mv (.t 1), some (12, true)⟩,
 ⟨some 19, .bin .eql .sc (.t 17) (.t 18), some (12, true)⟩,
 ⟨some 20, .pick (.t 12) (.t 19) (.k (.bool false)), none⟩,
 ⟨some 9, .mv (.t 20), none⟩]) <|
 .cond (.t 9)
 (.drw [
 ⟨some 21, .mv (.t 0), none⟩,
 ⟨some 22, .nilck (.t 21), none⟩,
 ⟨some 23, .fld 1 (.t 22), none⟩,
 ⟨some 24, .ld 1 false (.t 23), none⟩,
 ⟨some 25, .mv (.t 1), none⟩,
 ⟨some 26, .mv (.t 0), none⟩,
 ⟨some 27, .nilck (.t 26), none⟩,
 ⟨some 28, .fld 4 (.t 27), none⟩,
 ⟨some 29, .ld 1 false (.t 28), none⟩,
 ⟨some 30, .call .eff 86 [(.t 24), (.t 25), (.t 29)], none⟩] [[], [], [], [], [], [], [], [], [], [3, 8]])
 (.seq (.reg [
 ⟨some 32, .mv (.t 0), none⟩,
 ⟨some 33, .call .ro 44 [(.t 32)], none⟩,
 ⟨some 34, .mv (.t 33), none⟩,
 ⟨some 35, .mv (.t 0), some (34, false)⟩,
 ⟨some 36, .nilck (.t 35), some (34, false)⟩,
 ⟨some 37, .fld 3 (.t 36), some (34, false)⟩,
 ⟨some 38, .ld 1 false (.t 37), some (34, false)⟩,
 ⟨some 39, .bin .eql .sc (.t 38) (.k (.int .i64 2)), some (34, false)⟩,
 ⟨some 40, .pick (.t 34) (.k (.bool true)) (.t 39), none⟩,
 ⟨some 31, .mv (.t 40), none⟩]) <|
 .cond (.t 31)
 (.seq (.drw [
 ⟨some 41, .mv (.t 0), none⟩,
 ⟨some 42, .nilck (.t 41), none⟩,
 ⟨some 43, .fld 1 (.t 42), none⟩,
 ⟨some 44, .ld 1 false (.t 43), none⟩,
 ⟨some 45, .mv (.t 1), none⟩,
 ⟨some 46, .mv (.t 0), none⟩,
 ⟨some 47, .nilck (.t 46), none⟩,
 ⟨some 48, .fld 4 (.t 47), none⟩,
 ⟨some 49, .ld 1 false (.t 48), none⟩,
 ⟨some 50, .call .eff 86 [(.t 44), (.t 45), (.t 49)], none⟩] [[], [], [], [], [], [], [], [], [], [3, 8]]) <|
 .seq (.reg [
 ⟨some 51, .mv (.t 0), none⟩,
 ⟨some 52, .mv (.t 1), none⟩,
 ⟨some 53, .mv (.t 2), none⟩,
 ⟨some 54, .call .eff 87 [(.t 51), (.t 52), (.t 53)], none⟩]) <|
 .reg [
 ⟨some 55, .mv (.t 0), none⟩,
 ⟨some 56, .nilck (.t 55), none⟩,
 ⟨some 57, .fld 2 (.t 56), none⟩,
 ⟨none, .st 1 (.t 57) (.k (.nilp)), none⟩])
 (.skip)))⟩

def f60 : DFn := ⟨1, [.cell 2 2 true],
 .seq (.reg [
 ⟨some 2, .alL [.nils, .nils], none⟩]) <|
 .seq (.seq (.reg [
 ⟨some 3, .mv (.t 0), none⟩,
 ⟨some 4, .bin .eql .np (.t 3) (.k (.nilp)), none⟩]) <|
 .cond (.t 4)
 (.seq (.reg [
 ⟨some 5, .build [.nils, .nils] [], none⟩,
 ⟨none, .st 2 (.t 2) (.t 5), none⟩]) <|
 .ret)
 (.skip)) <|
 .seq (.drw [
 ⟨some 6, .mv (.t 0), none⟩,
 ⟨some 7, .nilck (.t 6), none⟩,
 ⟨some 8, .fld 0 (.t 7), none⟩,
 ⟨some 9, .fld 1 (.t 8), none⟩,
 ⟨some 10, .ld 1 false (.t 9), none⟩,
 ⟨some 11, .len (.t 10), none⟩,
 ⟨some 12, .mks true 1 8 [.int .i64 0] (.t 11), none⟩,
 ⟨some 13, .mv (.t 0), none⟩,
 ⟨some 14, .nilck (.t 13), none⟩,
 ⟨some 15, .fld 0 (.t 14), none⟩,
 ⟨some 16, .fld 2 (.t 15), none⟩,
 ⟨some 17, .ld 1 false (.t 16), none⟩,
 ⟨some 18, .len (.t 17), none⟩,
 ⟨some 19, .mks true 1 1 [.bool false] (.t 18), none⟩,
 ⟨some 20, .build [.nils, .nils] [(0, 1, (.t 12)), (1, 1, (.t 19))], none⟩,
 ⟨none, .st 2 (.t 2) (.t 20), none⟩] [[], [], [], [], [], [], [4], [], [], [], [], [], [], [11], [], [4, 6, 11, 13]]) <|
 .ret⟩

def f61 : DFn := ⟨4, [.cell 8 2 true],
 .seq (.reg [
 ⟨some 5, .boxL (.t 1), none⟩,
 ⟨some 8, .alL [.nils, .nils], none⟩]) <|
 .seq (.seq (.reg [
 ⟨some 9, .mv (.t 0), none⟩,
 ⟨some 10, .bin .eql .np (.t 9) (.k (.nilp)), none⟩]) <|
 .cond (.t 10)
 (.seq (.reg [
 ⟨some 11, .build [.nils, .nils] [], none⟩,
 ⟨none, .st 2 (.t 8) (.t 11), none⟩]) <|
 .ret)
 (.skip)) <|
 .seq (.seq (.drw [
 ⟨some 12, .mv (.t 0), none⟩,
 ⟨some 13, .call .ro 44 [(.t 12)], none⟩,
 ⟨some 14, .un .not (.t 13), none⟩,
 ⟨some 15, .mv (.t 14), none⟩,
 ⟨some 16, .mv (.t 0), some (15, false)⟩,
 ⟨some 17, .nilck (.t 16), some (15, false)⟩,
 ⟨some 18, .fld 1 (.t 17), some (15, false)⟩,
 ⟨some 19, .ld 1 false (.t 18), some (15, false)⟩,
 ⟨some 20, .mv (.t 0), some (15, false)⟩,
 ⟨some 21, .nilck (.t 20), some (15, false)⟩,
 ⟨some 22, .fld 4 (.t 21), some (15, false)⟩,
 ⟨some 23, .ld 1 false (.t 22), some (15, false)⟩,
 ⟨some 24, .call .ro 45 [(.t 19), (.t 23)], some (15, false)⟩,
 ⟨some 25, .un .not (.t 24), some (15, false)⟩,
 ⟨some 26, .pick (.t 15) (.k (.bool true)) (.t 25), none⟩] [[], [], [], [], [], [], [], [1], [], [], [], [1], [1, 7, 11], [], []]) <|
 .cond (.t 26)
 (.seq (.reg [
 ⟨some 27, .mv (.t 0), none⟩,
 ⟨some 28, .nilck (.t 27), none⟩,
 ⟨some 29, .fld 0 (.t 28), none⟩,
 ⟨some 30, .ld 1 false (.t 29), none⟩,
 ⟨some 31, .call .ro 60 [(.t 30)], none⟩,
 ⟨none, .st 2 (.t 8) (.t 31), none⟩]) <|
 .ret)
 (.skip)) <|
 .seq (.seq (.reg [
 ⟨some 32, .mv (.t 0), none⟩,
 ⟨some 33, .nilck (.t 32), none⟩,
 ⟨some 34, .fld 5 (.t 33), none⟩,
 ⟨some 35, .ld 1 false (.t 34), none⟩,
 ⟨some 36, .bin .lss .sc (.t 35) (.k (.int .i64 9223372036854775807)), none⟩]) <|
 .cond (.t 36)
 (.reg [
 ⟨some 37, .mv (.t 0), none⟩,
 ⟨some 38, .nilck (.t 37), none⟩,
 ⟨some 39, .fld 5 (.t 38), none⟩,
 ⟨some 40, .ld 1 false (.t 39), none⟩,
 ⟨some 41, .bin .add .sc (.t 40) (.k (.int .i64 1)), none⟩,
 ⟨some 42, .nilck (.t 37), none⟩,
 ⟨some 43, .fld 5 (.t 42), none⟩,
 ⟨none, .st 1 (.t 43) (.t 41), none⟩])
 (.skip)) <|
 .seq (.seq (.reg [
 ⟨some 44, .mv (.t 0), none⟩,
 ⟨some 45, .nilck (.t 44), none⟩,
 ⟨some 46, .fld 3 (.t 45), none⟩,
 ⟨some 47, .ld 1 false (.t 46), none⟩,
 ⟨some 48, .bin .eql .sc (.t 47) (.k (.int .i64 3)), none⟩]) <|
 .cond (.t 48)
 (.seq (.reg [
 ⟨some 49, .mv (.t 0), none⟩,
 ⟨some 50, .ld 2 true (.t 5), none⟩,
 ⟨some 51, .mv (.t 2), none⟩,
 ⟨some 52, .mv (.t 3), none⟩,
 ⟨some 53, .call .eff 88 [(.t 49), (.t 50), (.t 51), (.t 52)], none⟩,
 ⟨none, .st 2 (.t 8) (.t 53), none⟩]) <|
 .ret)
 (.skip)) <|
 .seq (.reg [
 ⟨some 54, .mv (.t 0), none⟩,
 ⟨some 55, .nilck (.t 54), none⟩,
 ⟨some 56, .fld 6 (.t 55), none⟩,
 ⟨some 57, .ld 1 false (.t 56), none⟩,
 ⟨some 58, .bin .sub .sc (.t 57) (.k (.int .i64 1)), none⟩,
 ⟨some 59, .nilck (.t 54), none⟩,
 ⟨some 60, .fld 6 (.t 59), none⟩,
 ⟨none, .st 1 (.t 60) (.t 58), none⟩]) <|
 .seq (.seq (.reg [
 ⟨some 61, .mv (.t 0), none⟩,
 ⟨some 62, .nilck (.t 61), none⟩,
 ⟨some 63, .fld 6 (.t 62), none⟩,
 ⟨some 64, .ld 1 false (.t 63), none⟩,
 ⟨some 65, .bin .leq .sc (.t 64) (.k (.int .i64 0)), none⟩]) <|
 .cond (.t 65)
 (.reg [
 ⟨some 66, .mv (.t 0), none⟩,
 ⟨some 67, .nilck (.t 66), none⟩,
 ⟨some 68, .fld 3 (.t 67), none⟩,
 ⟨none, .st 1 (.t 68) (.k (.int .i64 3)), none⟩])
 (.skip)) <|
 .seq (.reg [
 ⟨some 69, .mv (.t 0), none⟩,
 ⟨some 70, .nilck (.t 69), none⟩,
 ⟨some 71, .fld 0 (.t 70), none⟩,
 ⟨some 72, .ld 1 false (.t 71), none⟩,
 ⟨some 73, .call .ro 60 [(.t 72)], none⟩,
 ⟨none, .st 2 (.t 8) (.t 73), none⟩]) <|
 .ret⟩

def l62_0b : DC :=
 .seq (.reg [
 ⟨some 21, .bin .lss .sc (.t 20) (.t 19), none⟩]) <|
 .seq (.cond (.t 21)
 (.skip)
 (.exit 0)) <|
 .seq (.block 1 <|
 .seq (.reg [
 ⟨some 22, .idx 3 (.t 18) (.t 20), none⟩,
 ⟨some 23, .ld 3 true (.t 22), none⟩,
 ⟨some 5, .alL [.int .i64 0, .int .i64 0, .int .i64 0], none⟩,
 ⟨none, .st 3 (.t 5) (.t 23), none⟩]) <|
 .reg [
 ⟨some 24, .fld 1 (.t 3), none⟩,
 ⟨some 25, .ld 1 false (.t 24), none⟩,
 ⟨some 26, .fld 0 (.t 5), none⟩,
 ⟨some 27, .ld 1 false (.t 26), none⟩,
 ⟨some 28, .bsl false 1 [.int .i64 0] 1 [(0, (.t 27))], none⟩,
 ⟨some 29, .app 1 8 (.t 25) (.t 28), none⟩,
 ⟨some 30, .fld 1 (.t 3), none⟩,
 ⟨none, .st 1 (.t 30) (.t 29), none⟩]) <|
 .reg [
 ⟨some 31, .bin .add .sc (.t 20) (.k (.int .i64 1)), none⟩,
 ⟨some 20, .mv (.t 31), none⟩]
def l62_0 : DC := .loop [2, 3, 18, 19, 20] [2, 3] l62_0b
def f62 : DFn := ⟨1, [.cell 2 2 true],
 .seq (.reg [
 ⟨some 2, .alL [.nils, .nils], none⟩]) <|
 .seq (.seq (.reg [
 ⟨some 6, .mv (.t 0), none⟩,
 ⟨some 7, .bin .eql .np (.t 6) (.k (.nilp)), none⟩]) <|
 .cond (.t 7)
 (.seq (.reg [
 ⟨some 8, .build [.nils, .nils] [], none⟩,
 ⟨none, .st 2 (.t 2) (.t 8), none⟩]) <|
 .ret)
 (.skip)) <|
 .seq (.reg [
 ⟨some 9, .mv (.t 0), none⟩,
 ⟨some 10, .nilck (.t 9), none⟩,
 ⟨some 11, .fld 0 (.t 10), none⟩,
 ⟨some 12, .ld 1 false (.t 11), none⟩,
 ⟨some 13, .call .eff 89 [(.t 12)], none⟩,
 ⟨some 14, .build [.nils, .nils] [(0, 1, (.t 13))], none⟩,
 ⟨some 3, .alL [.nils, .nils], none⟩,
 ⟨none, .st 2 (.t 3) (.t 14), none⟩]) <|
 .seq (.seq (.reg [
 ⟨some 15, .mv (.t 0), none⟩,
 ⟨some 16, .nilck (.t 15), none⟩,
 ⟨some 17, .fld 1 (.t 16), none⟩,
 ⟨some 18, .ld 1 false (.t 17), none⟩,
 ⟨some 19, .len (.t 18), none⟩,
 ⟨some 20, .mv (.k (.int .i64 0)), none⟩]) <|
 .block 0 <|
 l62_0) <|
 .seq (.reg [
 ⟨some 32, .ld 2 true (.t 3), none⟩,
 ⟨none, .st 2 (.t 2) (.t 32), none⟩]) <|
 .ret⟩

def f63 : DFn := ⟨2, [.cell 4 3 true],
 .seq (.reg [
 ⟨some 2, .boxL (.t 0), none⟩,
 ⟨some 4, .alL [.int .i64 0, .int .i64 0, .int .i64 0], none⟩]) <|
 .seq (.seq (.reg [
 ⟨some 5, .mv (.t 1), none⟩,
 ⟨some 6, .bin .eql .sc (.t 5) (.k (.int .i64 0)), none⟩,
 ⟨some 7, .mv (.t 6), none⟩,
 ⟨some 8, .mv (.t 1), some (7, false)⟩,
 ⟨some 9, .fld 0 (.t 2), some (7, false)⟩,
 ⟨some 10, .ld 1 false (.t 9), some (7, false)⟩,
 ⟨some 11, .bin .eql .sc (.t 8) (.t 10), some (7, false)⟩,
 ⟨some 12, .pick (.t 7) (.k (.bool true)) (.t 11), none⟩]) <|
 .cond (.t 12)
 (.seq (.reg [
 ⟨some 13, .fld 0 (.t 2), none⟩,
 ⟨some 14, .ld 1 false (.t 13), none⟩,
 ⟨some 15, .build [.int .i64 0, .int .i64 0, .int .i64 0] [(0, 1, (.t 14))], none⟩,
 ⟨none, .st 3 (.t 4) (.t 15), none⟩]) <|
 .ret)
 (.skip)) <|
 .seq (.seq (.reg [
 ⟨some 16, .mv (.t 1), none⟩,
 ⟨some 17, .fld 1 (.t 2), none⟩,
 ⟨some 18, .ld 1 false (.t 17), none⟩,
 ⟨some 19, .bin .neq .sc (.t 16) (.t 18), none⟩]) <|
 .cond (.t 19)
 (.reg [
 ⟨some 20, .fld 2 (.t 2), none⟩,
 ⟨none, .st 1 (.t 20) (.k (.int .i64 0)), none⟩])
 (.skip)) <|
 .seq (.reg [
 ⟨some 21, .mv (.t 1), none⟩,
 ⟨some 22, .fld 2 (.t 2), none⟩,
 ⟨some 23, .ld 1 false (.t 22), none⟩,
 ⟨some 24, .bin .add .sc (.t 23) (.k (.int .i64 1)), none⟩,
 ⟨some 25, .build [.int .i64 0, .int .i64 0, .int .i64 0] [(1, 1, (.t 21)), (2, 1, (.t 24))], none⟩,
 ⟨none, .st 3 (.t 2) (.t 25), none⟩]) <|
 .seq (.seq (.reg [
 ⟨some 26, .fld 2 (.t 2), none⟩,
 ⟨some 27, .ld 1 false (.t 26), none⟩,
 ⟨some 28, .bin .geq .sc (.t 27) (.k (.int .i64 3)), none⟩]) <|
 .cond (.t 28)
 (.seq (.reg [
 ⟨some 29, .mv (.t 1), none⟩,
 ⟨some 30, .build [.int .i64 0, .int .i64 0, .int .i64 0] [(0, 1, (.t 29))], none⟩,
 ⟨none, .st 3 (.t 4) (.t 30), none⟩]) <|
 .ret)
 (.skip)) <|
 .seq (.reg [
 ⟨some 31, .ld 3 true (.t 2), none⟩,
 ⟨none, .st 3 (.t 4) (.t 31), none⟩]) <|
 .ret⟩

def f64 : DFn := ⟨3, [],
 .seq (.reg [
 ⟨some 6, .mv (.t 0), none⟩,
 ⟨some 7, .mv (.t 1), none⟩,
 ⟨some 8, .call .ro 54 [(.t 6), (.t 7)], none⟩,
 ⟨some 9, .mv (.t 8), none⟩,
 ⟨some 10, .mv (.t 2), some (9, true)⟩,
 ⟨some 11, .len (.t 10), some (9, true)⟩,
 ⟨some 12, .bin .gtr .sc (.t 11) (.k (.int .i64 0)), some (9, true)⟩,
 ⟨some 13, .pick (.t 9) (.t 12) (.k (.bool false)), none⟩]) <|
 .cond (.t 13)
 (.drw [
 ⟨some 14, .mv (.t 0), none⟩,
 ⟨some 15, .mv (.t 1), none⟩,
 ⟨some 16, .mv (.t 2), none⟩,
 ⟨some 17, .call .blind 90 [(.t 16)], none⟩,
 ⟨some 18, .nilck (.t 14), none⟩,
 ⟨some 19, .fld 0 (.t 18), none⟩,
 ⟨some 20, .idxA 1 2 (.t 19) (.t 15), none⟩,
 ⟨none, .st 1 (.t 20) (.t 17), none⟩] [[], [], [], [], [], [], [], [3]])
 (.skip)⟩

def f65 : DFn := ⟨1, [.t 2],
 .seq (.reg [
 ⟨some 2, .mv (.k (.nils)), none⟩]) <|
 .seq (.seq (.reg [
 ⟨some 5, .mv (.t 0), none⟩,
 ⟨some 6, .bin .eql .np (.t 5) (.k (.nilp)), none⟩,
 ⟨some 7, .mv (.t 6), none⟩,
 ⟨some 8, .mv (.t 0), some (7, false)⟩,
 ⟨some 9, .nilck (.t 8), some (7, false)⟩,
 ⟨some 10, .fld 3 (.t 9), some (7, false)⟩,
 ⟨some 11, .ld 1 false (.t 10), some (7, false)⟩,
 ⟨some 12, .bin .neq .sc (.t 11) (.k (.int .i64 3)), some (7, false)⟩,
 ⟨some 13, .pick (.t 7) (.k (.bool true)) (.t 12), none⟩]) <|
 .cond (.t 13)
 (.seq (.reg [
 ⟨some 2, .mv (.k (.nils)), none⟩]) <|
 .ret)
 (.skip)) <|
 .seq (.drw [
 ⟨some 15, .mv (.t 0), none⟩,
 ⟨some 16, .nilck (.t 15), none⟩,
 ⟨some 17, .fld 1 (.t 16), none⟩,
 ⟨some 18, .ld 1 false (.t 17), none⟩,
 ⟨some 19, .call .ro 85 [(.t 18)], none⟩,
 ⟨some 20, .mv (.t 0), none⟩,
 ⟨some 21, .nilck (.t 20), none⟩,
 ⟨some 22, .fld 5 (.t 21), none⟩,
 ⟨some 23, .ld 1 false (.t 22), none⟩,
 ⟨some 24, .mv (.t 0), none⟩,
 ⟨some 25, .nilck (.t 24), none⟩,
 ⟨some 26, .fld 0 (.t 25), none⟩,
 ⟨some 27, .ld 1 false (.t 26), none⟩,
 ⟨some 28, .call .ro 52 [(.t 27)], none⟩,
 ⟨some 29, .call .eff 91 [(.t 19), (.t 23), (.t 28)], none⟩,
 ⟨some 30, .call .ro 76 [(.t 29)], none⟩,
 ⟨some 14, .mv (.t 30), none⟩,
 ⟨some 31, .ext 0 (.t 14), none⟩,
 ⟨some 32, .ext 1 (.t 14), none⟩,
 ⟨some 3, .mv (.t 31), none⟩,
 ⟨some 4, .mv (.t 32), none⟩] [[], [], [], [], [3], [], [], [], [], [], [], [], [], [3, 4, 12], [3, 4, 8, 12, 13], [3, 4, 8, 12, 13, 14], [], [], [], [], []]) <|
 .seq (.reg [
 ⟨some 33, .mv (.t 3), none⟩,
 ⟨some 2, .mv (.t 33), none⟩]) <|
 .ret⟩

def l66_0b : DC :=
 .seq (.reg [
 ⟨some 15, .bin .lss .sc (.t 14) (.k (.int .i64 2)), none⟩]) <|
 .seq (.cond (.t 15)
 (.skip)
 (.exit 0)) <|
 .seq (.block 1 <|
 .seq (.reg [
 ⟨some 16, .mv (.t 14), none⟩,
 ⟨some 17, .idxV 1 2 false (.t 13) (.t 14), none⟩,
 ⟨some 6, .mv (.t 16), none⟩,
 ⟨some 7, .mv (.t 17), none⟩]) <|
 .seq (.seq (.reg [
 ⟨some 18, .mv (.t 1), none⟩]) <|
 .cond (.t 18)
 (.reg [
 ⟨some 7, .mv (.k (.nils)), none⟩])
 (.skip)) <|
 .seq (.seq (.reg [
 ⟨some 19, .mv (.t 7), none⟩,
 ⟨some 20, .len (.t 19), none⟩,
 ⟨some 21, .bin .gtr .sc (.t 20) (.k (.int .i64 0)), none⟩,
 ⟨some 22, .mv (.t 21), none⟩,
 ⟨some 23, .mv (.t 2), some (22, true)⟩,
 ⟨some 24, .bin .geq .sc (.t 23) (.k (.int .i64 0)), some (22, true)⟩,
 ⟨some 25, .pick (.t 22) (.t 24) (.k (.bool false)), none⟩]) <|
 .cond (.t 25)
 (.reg [
 ⟨some 26, .mv (.t 7), none⟩,
 ⟨some 27, .mv (.t 2), none⟩,
 ⟨some 28, .mv (.t 7), none⟩,
 ⟨some 29, .len (.t 28), none⟩,
 ⟨some 30, .bin .rem .sc (.t 27) (.t 29), none⟩,
 ⟨some 31, .idx 1 (.t 26) (.t 30), none⟩,
 ⟨some 32, .ld 1 false (.t 31), none⟩,
 ⟨some 33, .bin .xor .sc (.t 32) (.k (.int .u8 1)), none⟩,
 ⟨some 34, .idx 1 (.t 26) (.t 30), none⟩,
 ⟨none, .st 1 (.t 34) (.t 33), none⟩])
 (.skip)) <|
 .drw [
 ⟨some 35, .mv (.t 0), none⟩,
 ⟨some 36, .mv (.t 6), none⟩,
 ⟨some 37, .bin .sub .sc (.k (.int .i64 1)) (.t 36), none⟩,
 ⟨some 38, .mv (.t 0), none⟩,
 ⟨some 39, .mv (.t 6), none⟩,
 ⟨some 40, .mv (.t 7), none⟩,
 ⟨some 41, .nilck (.t 35), none⟩,
 ⟨some 42, .fld 2 (.t 41), none⟩,
 ⟨some 43, .idxA 1 2 (.t 42) (.t 37), none⟩,
 ⟨none, .st 1 (.t 43) (.t 40), none⟩,
 ⟨some 44, .nilck (.t 38), none⟩,
 ⟨some 45, .fld 0 (.t 44), none⟩,
 ⟨some 46, .idxA 1 2 (.t 45) (.t 39), none⟩,
 ⟨none, .st 1 (.t 46) (.k (.nils)), none⟩] [[], [], [], [], [], [], [], [], [], [], [], [], [], [9]]) <|
 .reg [
 ⟨some 47, .bin .add .sc (.t 14) (.k (.int .i64 1)), none⟩,
 ⟨some 14, .mv (.t 47), none⟩]
def l66_0 : DC := .loop [0, 1, 2, 13, 14] [] l66_0b
def f66 : DFn := ⟨3, [],
 .seq (.seq (.reg [
 ⟨some 8, .mv (.t 0), none⟩,
 ⟨some 9, .bin .eql .np (.t 8) (.k (.nilp)), none⟩]) <|
 .cond (.t 9)
 (.ret)
 (.skip)) <|
 .seq (.reg [
 ⟨some 10, .mv (.t 0), none⟩,
 ⟨some 11, .nilck (.t 10), none⟩,
 ⟨some 12, .fld 0 (.t 11), none⟩,
 ⟨some 13, .ld 2 true (.t 12), none⟩,
 ⟨some 14, .mv (.k (.int .i64 0)), none⟩]) <|
 .block 0 <|
 l66_0⟩

def l67_1b : DC :=
 .seq (.reg [
 ⟨some 58, .bin .lss .sc (.t 57) (.t 56), none⟩]) <|
 .seq (.cond (.t 58)
 (.skip)
 (.exit 2)) <|
 .seq (.block 3 <|
 .seq (.reg [
 ⟨some 59, .idx 6 (.t 55) (.t 57), none⟩,
 ⟨some 60, .ld 6 true (.t 59), none⟩,
 ⟨some 8, .alL [.str [], .int .i64 0, .int .i64 0, .nils, .nils, .nils], none⟩,
 ⟨none, .st 6 (.t 8) (.t 60), none⟩]) <|
 .seq (.reg [
 ⟨some 61, .mv (.t 4), none⟩,
 ⟨some 62, .fld 0 (.t 8), none⟩,
 ⟨some 63, .ld 1 false (.t 62), none⟩,
 ⟨some 64, .bsl false 1 [.str []] 1 [(0, (.t 63))], none⟩,
 ⟨some 65, .app 1 16 (.t 61) (.t 64), none⟩,
 ⟨some 4, .mv (.t 65), none⟩]) <|
 .seq (.reg [
 ⟨some 66, .ld 4 true (.t 1), none⟩,
 ⟨some 67, .ld 6 true (.t 8), none⟩,
 ⟨some 68, .call .blind 93 [(.t 66), (.t 67)], none⟩,
 ⟨some 69, .un .not (.t 68), none⟩]) <|
 .cond (.t 69)
 (.seq (.reg [
 ⟨some 2, .mv (.k (.bool false)), none⟩]) <|
 .ret)
 (.skip)) <|
 .reg [
 ⟨some 70, .bin .add .sc (.t 57) (.k (.int .i64 1)), none⟩,
 ⟨some 57, .mv (.t 70), none⟩]
def l67_1 : DC := .loop [1, 3, 4, 55, 56, 57] [1] l67_1b
def l67_0b : DC :=
 .seq (.reg [
 ⟨some 37, .bin .lss .sc (.t 36) (.t 35), none⟩]) <|
 .seq (.cond (.t 37)
 (.skip)
 (.exit 0)) <|
 .seq (.block 1 <|
 .seq (.reg [
 ⟨some 38, .idx 2 (.t 34) (.t 36), none⟩,
 ⟨some 39, .ld 2 true (.t 38), none⟩,
 ⟨some 6, .alL [.str [], .int .i64 0], none⟩,
 ⟨none, .st 2 (.t 6) (.t 39), none⟩]) <|
 .seq (.reg [
 ⟨some 40, .mv (.t 3), none⟩,
 ⟨some 41, .fld 0 (.t 6), none⟩,
 ⟨some 42, .ld 1 false (.t 41), none⟩,
 ⟨some 43, .bsl false 1 [.str []] 1 [(0, (.t 42))], none⟩,
 ⟨some 44, .app 1 16 (.t 40) (.t 43), none⟩,
 ⟨some 3, .mv (.t 44), none⟩]) <|
 .seq (.reg [
 ⟨some 45, .fld 1 (.t 6), none⟩,
 ⟨some 46, .ld 1 false (.t 45), none⟩,
 ⟨some 47, .fld 0 (.t 1), none⟩,
 ⟨some 48, .ld 1 false (.t 47), none⟩,
 ⟨some 49, .len (.t 48), none⟩,
 ⟨some 50, .bin .sub .sc (.t 49) (.k (.int .i64 1)), none⟩,
 ⟨some 51, .call .blind 92 [(.t 46), (.k (.int .i64 0)), (.t 50)], none⟩,
 ⟨some 52, .un .not (.t 51), none⟩]) <|
 .cond (.t 52)
 (.seq (.reg [
 ⟨some 2, .mv (.k (.bool false)), none⟩]) <|
 .ret)
 (.skip)) <|
 .reg [
 ⟨some 53, .bin .add .sc (.t 36) (.k (.int .i64 1)), none⟩,
 ⟨some 36, .mv (.t 53), none⟩]
def l67_0 : DC := .loop [1, 3, 4, 34, 35, 36] [1] l67_0b
def f67 : DFn := ⟨1, [.t 2],
 .seq (.reg [
 ⟨some 1, .boxL (.t 0), none⟩,
 ⟨some 2, .mv (.k (.bool false)), none⟩]) <|
 .seq (.reg [
 ⟨some 3, .mv (.k (.nils)), none⟩,
 ⟨some 4, .mv (.k (.nils)), none⟩]) <|
 .seq (.seq (.reg [
 ⟨some 9, .fld 0 (.t 1), none⟩,
 ⟨some 10, .ld 1 false (.t 9), none⟩,
 ⟨some 11, .len (.t 10), none⟩,
 ⟨some 12, .call .blind 92 [(.t 11), (.k (.int .i64 1)), (.k (.int .i64 10))], none⟩,
 ⟨some 13, .un .not (.t 12), none⟩,
 ⟨some 14, .mv (.t 13), none⟩,
 ⟨some 15, .fld 2 (.t 1), some (14, false)⟩,
 ⟨some 16, .ld 1 false (.t 15), some (14, false)⟩,
 ⟨some 17, .len (.t 16), some (14, false)⟩,
 ⟨some 18, .call .blind 92 [(.t 17), (.k (.int .i64 1)), (.k (.int .i64 6))], some (14, false)⟩,
 ⟨some 19, .un .not (.t 18), some (14, false)⟩,
 ⟨some 20, .pick (.t 14) (.k (.bool true)) (.t 19), none⟩,
 ⟨some 21, .mv (.t 20), none⟩,
 ⟨some 22, .fld 1 (.t 1), some (21, false)⟩,
 ⟨some 23, .ld 1 false (.t 22), some (21, false)⟩,
 ⟨some 24, .len (.t 23), some (21, false)⟩,
 ⟨some 25, .bin .gtr .sc (.t 24) (.k (.int .i64 5)), some (21, false)⟩,
 ⟨some 26, .pick (.t 21) (.k (.bool true)) (.t 25), none⟩,
 ⟨some 27, .mv (.t 26), none⟩,
 ⟨some 28, .fld 3 (.t 1), some (27, false)⟩,
 ⟨some 29, .ld 1 false (.t 28), some (27, false)⟩,
 ⟨some 30, .len (.t 29), some (27, false)⟩,
 ⟨some 31, .bin .gtr .sc (.t 30) (.k (.int .i64 6)), some (27, false)⟩,
 ⟨some 32, .pick (.t 27) (.k (.bool true)) (.t 31), none⟩]) <|
 .cond (.t 32)
 (.seq (.reg [
 ⟨some 2, .mv (.k (.bool false)), none⟩]) <|
 .ret)
 (.skip)) <|
 .seq (.seq (.reg [
 ⟨some 33, .fld 1 (.t 1), none⟩,
 ⟨some 34, .ld 1 false (.t 33), none⟩,
 ⟨some 35, .len (.t 34), none⟩,
 ⟨some 36, .mv (.k (.int .i64 0)), none⟩]) <|
 .block 0 <|
 l67_0) <|
 .seq (.seq (.reg [
 ⟨some 54, .fld 3 (.t 1), none⟩,
 ⟨some 55, .ld 1 false (.t 54), none⟩,
 ⟨some 56, .len (.t 55), none⟩,
 ⟨some 57, .mv (.k (.int .i64 0)), none⟩]) <|
 .block 2 <|
 l67_1) <|
 .seq (.reg [
 ⟨some 71, .fld 0 (.t 1), none⟩,
 ⟨some 72, .ld 1 false (.t 71), none⟩,
 ⟨some 73, .call .blind 94 [(.t 72)], none⟩,
 ⟨some 74, .mv (.t 73), none⟩,
 ⟨some 75, .fld 2 (.t 1), some (74, true)⟩,
 ⟨some 76, .ld 1 false (.t 75), some (74, true)⟩,
 ⟨some 77, .call .blind 94 [(.t 76)], some (74, true)⟩,
 ⟨some 78, .pick (.t 74) (.t 77) (.k (.bool false)), none⟩,
 ⟨some 79, .mv (.t 78), none⟩,
 ⟨some 80, .mv (.t 3), some (79, true)⟩,
 ⟨some 81, .call .blind 94 [(.t 80)], some (79, true)⟩,
 ⟨some 82, .pick (.t 79) (.t 81) (.k (.bool false)), none⟩,
 ⟨some 83, .mv (.t 82), none⟩,
 ⟨some 84, .mv (.t 4), some (83, true)⟩,
 ⟨some 85, .call .blind 94 [(.t 84)], some (83, true)⟩,
 ⟨some 86, .pick (.t 83) (.t 85) (.k (.bool false)), none⟩,
 ⟨some 2, .mv (.t 86), none⟩]) <|
 .ret⟩

def l68_0b : DC :=
 .seq (.reg [
 ⟨some 25, .bin .lss .sc (.t 24) (.t 23), none⟩]) <|
 .seq (.cond (.t 25)
 (.skip)
 (.exit 0)) <|
 .seq (.block 1 <|
 .seq (.reg [
 ⟨some 26, .mv (.t 24), none⟩,
 ⟨some 27, .idx 6 (.t 22) (.t 24), none⟩,
 ⟨some 28, .ld 6 true (.t 27), none⟩,
 ⟨some 4, .alL [.str [], .int .i64 0, .int .i64 0, .nils, .nils, .nils], none⟩,
 ⟨some 3, .mv (.t 26), none⟩,
 ⟨none, .st 6 (.t 4) (.t 28), none⟩]) <|
 .seq (.drw [
 ⟨some 29, .fld 3 (.t 4), none⟩,
 ⟨some 30, .ld 1 false (.t 29), none⟩,
 ⟨some 31, .call .blind 98 [(.t 30)], none⟩,
 ⟨some 32, .fld 4 (.t 4), none⟩,
 ⟨some 33, .ld 1 false (.t 32), none⟩,
 ⟨some 34, .call .blind 99 [(.t 33)], none⟩,
 ⟨some 35, .fld 5 (.t 4), none⟩,
 ⟨some 36, .ld 1 false (.t 35), none⟩,
 ⟨some 37, .call .blind 99 [(.t 36)], none⟩,
 ⟨some 38, .fld 3 (.t 4), none⟩,
 ⟨none, .st 1 (.t 38) (.t 31), none⟩,
 ⟨some 39, .fld 4 (.t 4), none⟩,
 ⟨none, .st 1 (.t 39) (.t 34), none⟩,
 ⟨some 40, .fld 5 (.t 4), none⟩,
 ⟨none, .st 1 (.t 40) (.t 37), none⟩] [[], [], [1], [], [], [1, 2, 4], [], [], [1, 2, 4, 5, 7], [], [1, 2, 4, 5, 7, 8], [], [1, 2, 4, 5, 7, 8, 10], [], [1, 2, 4, 5, 7, 8, 10, 12]]) <|
 .reg [
 ⟨some 41, .fld 3 (.t 1), none⟩,
 ⟨some 42, .ld 1 false (.t 41), none⟩,
 ⟨some 43, .mv (.t 3), none⟩,
 ⟨some 44, .ld 6 true (.t 4), none⟩,
 ⟨some 45, .idx 6 (.t 42) (.t 43), none⟩,
 ⟨none, .st 6 (.t 45) (.t 44), none⟩]) <|
 .reg [
 ⟨some 46, .bin .add .sc (.t 24) (.k (.int .i64 1)), none⟩,
 ⟨some 24, .mv (.t 46), none⟩]
def l68_0 : DC := .loop [1, 2, 22, 23, 24] [1, 2] l68_0b
def f68 : DFn := ⟨1, [.cell 2 4 true],
 .seq (.reg [
 ⟨some 1, .boxL (.t 0), none⟩,
 ⟨some 2, .alL [.nils, .nils, .nils, .nils], none⟩]) <|
 .seq (.drw [
 ⟨some 5, .fld 0 (.t 1), none⟩,
 ⟨some 6, .ld 1 false (.t 5), none⟩,
 ⟨some 7, .call .blind 95 [(.t 6)], none⟩,
 ⟨some 8, .fld 1 (.t 1), none⟩,
 ⟨some 9, .ld 1 false (.t 8), none⟩,
 ⟨some 10, .call .blind 96 [(.t 9)], none⟩,
 ⟨some 11, .fld 2 (.t 1), none⟩,
 ⟨some 12, .ld 1 false (.t 11), none⟩,
 ⟨some 13, .call .blind 95 [(.t 12)], none⟩,
 ⟨some 14, .fld 3 (.t 1), none⟩,
 ⟨some 15, .ld 1 false (.t 14), none⟩,
 ⟨some 16, .call .eff 97 [(.t 15)], none⟩,
 ⟨some 17, .fld 0 (.t 1), none⟩,
 ⟨none, .st 1 (.t 17) (.t 7), none⟩,
 ⟨some 18, .fld 1 (.t 1), none⟩,
 ⟨none, .st 1 (.t 18) (.t 10), none⟩,
 ⟨some 19, .fld 2 (.t 1), none⟩,
 ⟨none, .st 1 (.t 19) (.t 13), none⟩,
 ⟨some 20, .fld 3 (.t 1), none⟩,
 ⟨none, .st 1 (.t 20) (.t 16), none⟩] [[], [], [1], [], [], [1, 2, 4], [], [], [1, 2, 4, 5, 7], [], [], [1, 2, 4, 5, 7, 8, 10], [], [1, 2, 4, 5, 7, 8, 10, 11], [], [1, 2, 4, 5, 7, 8, 10, 11, 13], [], [1, 2, 4, 5, 7, 8, 10, 11, 13, 15], [], [1, 2, 4, 5, 7, 8, 10, 11, 13, 15, 17]]) <|
 .seq (.seq (.reg [
 ⟨some 21, .fld 3 (.t 1), none⟩,
 ⟨some 22, .ld 1 false (.t 21), none⟩,
 ⟨some 23, .len (.t 22), none⟩,
 ⟨some 24, .mv (.k (.int .i64 0)), none⟩]) <|
 .block 0 <|
 l68_0) <|
 .seq (.reg [
 ⟨some 47, .ld 4 true (.t 1), none⟩,
 ⟨none, .st 4 (.t 2) (.t 47), none⟩]) <|
 .ret⟩

def f69 : DFn := ⟨0, [.t 0],
 .seq (.reg [
 ⟨some 0, .mv (.k (.nilp)), none⟩]) <|
 .seq (.reg [
 ⟨some 1, .build [.int .i64 0, .int .i64 0, .bool false] [], none⟩,
 ⟨some 2, .boxH (.t 1), none⟩,
 ⟨some 0, .mv (.t 2), none⟩]) <|
 .ret⟩

def f70 : DFn := ⟨1, [],
 .drw [
 ⟨some 2, .mv (.t 0), none⟩,
 ⟨some 3, .nilck (.t 2), none⟩,
 ⟨some 4, .fld 0 (.t 3), none⟩,
 ⟨some 5, .ld 1 false (.t 4), none⟩,
 ⟨some 6, .mv (.t 0), none⟩,
 ⟨some 7, .nilck (.t 6), none⟩,
 ⟨some 8, .fld 0 (.t 7), none⟩,
 ⟨some 9, .ld 1 false (.t 8), none⟩,
 ⟨some 10, .call .ro 52 [(.t 9)], none⟩,
 ⟨some 11, .len (.t 10), none⟩,
 ⟨some 12, .mks false 4 32 [.int .i64 0, .int .i64 0, .int .i64 0, .bool false] (.t 11), none⟩,
 ⟨some 13, .call .eff 53 [(.t 5), (.t 12)], none⟩] [[], [], [], [], [], [], [], [], [7], [], [7, 8], [3, 7, 8, 10]]⟩

def f71 : DFn := ⟨1, [],
 .seq (.reg [
 ⟨some 2, .mv (.t 0), none⟩,
 ⟨some 3, .bin .neq .np (.t 2) (.k (.nilp)), none⟩]) <|
 .cond (.t 3)
 (.reg [
 ⟨some 4, .mv (.t 0), none⟩,
 ⟨some 5, .nilck (.t 4), none⟩,
 ⟨some 6, .fld 2 (.t 5), none⟩,
 ⟨none, .st 1 (.t 6) (.k (.bool false)), none⟩])
 (.skip)⟩

def l72_0b : DC :=
 .seq (.reg [
 ⟨some 9, .bin .lss .sc (.t 8) (.t 7), none⟩]) <|
 .seq (.cond (.t 9)
 (.skip)
 (.exit 0)) <|
 .seq (.block 1 <|
 .seq (.reg [
 ⟨some 10, .mv (.t 8), none⟩,
 ⟨some 5, .mv (.t 10), none⟩]) <|
 .seq (.reg [
 ⟨some 11, .mv (.t 1), none⟩,
 ⟨some 12, .mv (.t 0), none⟩,
 ⟨some 13, .mv (.t 5), none⟩,
 ⟨some 14, .idx 5 (.t 12) (.t 13), none⟩,
 ⟨some 15, .ld 5 true (.t 14), none⟩,
 ⟨some 16, .calld .ro (.t 11) [(.t 15)], none⟩]) <|
 .cond (.t 16)
 (.seq (.reg [
 ⟨some 17, .mv (.t 5), none⟩,
 ⟨some 4, .mv (.t 17), none⟩]) <|
 .ret)
 (.skip)) <|
 .reg [
 ⟨some 18, .bin .add .sc (.t 8) (.k (.int .i64 1)), none⟩,
 ⟨some 8, .mv (.t 18), none⟩]
def l72_0 : DC := .loop [0, 1, 7, 8] [] l72_0b
def f72 : DFn := ⟨2, [.t 4],
 .seq (.reg [
 ⟨some 4, .mv (.k (.int .i64 0)), none⟩]) <|
 .seq (.seq (.reg [
 ⟨some 6, .mv (.t 0), none⟩,
 ⟨some 7, .len (.t 6), none⟩,
 ⟨some 8, .mv (.k (.int .i64 0)), none⟩]) <|
 .block 0 <|
 l72_0) <|
 .seq (.reg [
 ⟨some 4, .mv (.k (.int .i64 (-1))), none⟩]) <|
 .ret⟩

def f73 : DFn := ⟨0, [.t 0],
 .seq (.reg [
 ⟨some 0, .mv (.k (.nilp)), none⟩]) <|
 .seq (.reg [
 ⟨some 1, .build [.nils] [], none⟩,
 ⟨some 2, .boxH (.t 1), none⟩,
 ⟨some 0, .mv (.t 2), none⟩]) <|
 .ret⟩

def l74_0b : DC :=
 .seq (.reg [
 ⟨some 19, .bin .lss .sc (.t 18) (.t 17), none⟩]) <|
 .seq (.cond (.t 19)
 (.skip)
 (.exit 0)) <|
 .seq (.block 1 <|
 .seq (.reg [
 ⟨some 20, .idx 1 (.t 16) (.t 18), none⟩,
 ⟨some 21, .ld 1 false (.t 20), none⟩,
 ⟨some 9, .mv (.t 21), none⟩]) <|
 .reg [
 ⟨some 22, .mv (.t 7), none⟩,
 ⟨some 23, .bin .shl .sc (.t 22) (.k (.int .u64 8)), none⟩,
 ⟨some 24, .mv (.t 9), none⟩,
 ⟨some 25, .cvI .u64 (.t 24), none⟩,
 ⟨some 26, .bin .or .sc (.t 23) (.t 25), none⟩,
 ⟨some 7, .mv (.t 26), none⟩]) <|
 .reg [
 ⟨some 27, .bin .add .sc (.t 18) (.k (.int .i64 1)), none⟩,
 ⟨some 18, .mv (.t 27), none⟩]
def l74_0 : DC := .loop [0, 1, 7, 16, 17, 18] [] l74_0b
def f74 : DFn := ⟨2, [.t 4, .t 5, .t 6],
 .seq (.reg [
 ⟨some 4, .mv (.k (.int .u64 0)), none⟩,
 ⟨some 5, .mv (.k (.nils)), none⟩,
 ⟨some 6, .mv (.k (.bool false)), none⟩]) <|
 .seq (.seq (.reg [
 ⟨some 10, .mv (.t 0), none⟩,
 ⟨some 11, .len (.t 10), none⟩,
 ⟨some 12, .mv (.t 1), none⟩,
 ⟨some 13, .bin .lss .sc (.t 11) (.t 12), none⟩]) <|
 .cond (.t 13)
 (.seq (.reg [
 ⟨some 4, .mv (.k (.int .u64 0)), none⟩,
 ⟨some 5, .mv (.k (.nils)), none⟩,
 ⟨some 6, .mv (.k (.bool false)), none⟩]) <|
 .ret)
 (.skip)) <|
 .seq (.reg [
 ⟨some 7, .mv (.k (.int .u64 0)), none⟩]) <|
 .seq (.seq (.reg [
 ⟨some 14, .mv (.t 0), none⟩,
 ⟨some 15, .mv (.t 1), none⟩,
 ⟨some 16, .slc 1 (.t 14) none (some (.t 15)) none, none⟩,
 ⟨some 17, .len (.t 16), none⟩,
 ⟨some 18, .mv (.k (.int .i64 0)), none⟩]) <|
 .block 0 <|
 l74_0) <|
 .seq (.drw [
 ⟨some 28, .mv (.t 7), none⟩,
 ⟨some 29, .mv (.t 0), none⟩,
 ⟨some 30, .mv (.t 1), none⟩,
 ⟨some 31, .slc 1 (.t 29) (some (.t 30)) none none, none⟩,
 ⟨some 4, .mv (.t 28), none⟩,
 ⟨some 5, .mv (.t 31), none⟩,
 ⟨some 6, .mv (.k (.bool true)), none⟩] [[], [], [], [], [], [], []]) <|
 .ret⟩

def f75 : DFn := ⟨2, [.t 4, .t 5],
 .seq (.reg [
 ⟨some 4, .mv (.k (.nils)), none⟩,
 ⟨some 5, .mv (.k (.bool false)), none⟩]) <|
 .seq (.reg [
 ⟨some 18, .mv (.t 1), none⟩,
 ⟨some 19, .call .ro 74 [(.t 18), (.k (.int .i64 1))], none⟩,
 ⟨some 17, .mv (.t 19), none⟩,
 ⟨some 20, .ext 0 (.t 17), none⟩,
 ⟨some 21, .ext 1 (.t 17), none⟩,
 ⟨some 22, .ext 2 (.t 17), none⟩,
 ⟨some 6, .mv (.t 20), none⟩,
 ⟨some 1, .mv (.t 21), none⟩,
 ⟨some 7, .mv (.t 22), none⟩]) <|
 .seq (.block 0 <|
 .seq (.reg [
 ⟨some 24, .mv (.t 7), none⟩,
 ⟨some 25, .un .not (.t 24), none⟩,
 ⟨some 23, .mv (.t 25), none⟩]) <|
 .cond (.t 23)
 (.seq (.reg [
 ⟨some 4, .mv (.k (.nils)), none⟩,
 ⟨some 5, .mv (.k (.bool false)), none⟩]) <|
 .ret)
 (.seq (.reg [
 ⟨some 27, .mv (.t 6), none⟩,
 ⟨some 28, .bin .eql .sc (.t 27) (.k (.int .u64 1)), none⟩,
 ⟨some 26, .mv (.t 28), none⟩]) <|
 .cond (.t 26)
 (.seq (.reg [
 ⟨some 30, .mv (.t 1), none⟩,
 ⟨some 31, .call .ro 74 [(.t 30), (.k (.int .i64 8))], none⟩,
 ⟨some 29, .mv (.t 31), none⟩,
 ⟨some 32, .ext 0 (.t 29), none⟩,
 ⟨some 33, .ext 1 (.t 29), none⟩,
 ⟨some 34, .ext 2 (.t 29), none⟩,
 ⟨some 8, .mv (.t 32), none⟩,
 ⟨some 9, .mv (.t 33), none⟩,
 ⟨some 10, .mv (.t 34), none⟩]) <|
 .seq (.reg [
 ⟨some 35, .mv (.t 9), none⟩,
 ⟨some 36, .mv (.t 10), none⟩,
 ⟨some 37, .mv (.t 36), none⟩,
 ⟨some 38, .mv (.t 0), some (37, true)⟩,
 ⟨some 39, .mv (.t 8), some (37, true)⟩,
 ⟨some 40, .cvI .i64 (.t 39), some (37, true)⟩,
 ⟨some 41, .call .eff 100 [(.t 38), (.t 40)], some (37, true)⟩,
 ⟨some 42, .pick (.t 37) (.t 41) (.k (.bool false)), none⟩,
 ⟨some 4, .mv (.t 35), none⟩,
 ⟨some 5, .mv (.t 42), none⟩]) <|
 .ret)
 (.seq (.reg [
 ⟨some 44, .mv (.t 6), none⟩,
 ⟨some 45, .bin .eql .sc (.t 44) (.k (.int .u64 2)), none⟩,
 ⟨some 43, .mv (.t 45), none⟩]) <|
 .cond (.t 43)
 (.seq (.reg [
 ⟨some 47, .mv (.t 1), none⟩,
 ⟨some 48, .call .ro 74 [(.t 47), (.k (.int .i64 1))], none⟩,
 ⟨some 46, .mv (.t 48), none⟩,
 ⟨some 49, .ext 0 (.t 46), none⟩,
 ⟨some 50, .ext 1 (.t 46), none⟩,
 ⟨some 51, .ext 2 (.t 46), none⟩,
 ⟨some 11, .mv (.t 49), none⟩,
 ⟨some 12, .mv (.t 50), none⟩,
 ⟨some 13, .mv (.t 51), none⟩]) <|
 .seq (.seq (.reg [
 ⟨some 52, .mv (.t 13), none⟩,
 ⟨some 53, .un .not (.t 52), none⟩,
 ⟨some 54, .mv (.t 53), none⟩,
 ⟨some 55, .mv (.t 11), some (54, false)⟩,
 ⟨some 56, .cvI .i64 (.t 55), some (54, false)⟩,
 ⟨some 57, .mv (.t 12), some (54, false)⟩,
 ⟨some 58, .len (.t 57), some (54, false)⟩,
 ⟨some 59, .bin .gtr .sc (.t 56) (.t 58), some (54, false)⟩,
 ⟨some 60, .pick (.t 54) (.k (.bool true)) (.t 59), none⟩]) <|
 .cond (.t 60)
 (.seq (.reg [
 ⟨some 4, .mv (.k (.nils)), none⟩,
 ⟨some 5, .mv (.k (.bool false)), none⟩]) <|
 .ret)
 (.skip)) <|
 .seq (.drw [
 ⟨some 61, .mv (.t 12), none⟩,
 ⟨some 62, .mv (.t 11), none⟩,
 ⟨some 63, .slc 1 (.t 61) (some (.t 62)) none none, none⟩,
 ⟨some 64, .mv (.t 0), none⟩,
 ⟨some 65, .mv (.t 12), none⟩,
 ⟨some 66, .mv (.t 11), none⟩,
 ⟨some 67, .slc 1 (.t 65) none (some (.t 66)) none, none⟩,
 ⟨some 68, .cvBS (.t 67), none⟩,
 ⟨some 69, .call .eff 101 [(.t 64), (.t 68)], none⟩,
 ⟨some 4, .mv (.t 63), none⟩,
 ⟨some 5, .mv (.t 69), none⟩] [[], [], [], [], [], [], [], [], [7], [], []]) <|
 .ret)
 (.seq (.reg [
 ⟨some 71, .mv (.t 6), none⟩,
 ⟨some 72, .bin .eql .sc (.t 71) (.k (.int .u64 3)), none⟩,
 ⟨some 70, .mv (.t 72), none⟩]) <|
 .cond (.t 70)
 (.seq (.reg [
 ⟨some 74, .mv (.t 1), none⟩,
 ⟨some 75, .call .ro 74 [(.t 74), (.k (.int .i64 1))], none⟩,
 ⟨some 73, .mv (.t 75), none⟩,
 ⟨some 76, .ext 0 (.t 73), none⟩,
 ⟨some 77, .ext 1 (.t 73), none⟩,
 ⟨some 78, .ext 2 (.t 73), none⟩,
 ⟨some 14, .mv (.t 76), none⟩,
 ⟨some 15, .mv (.t 77), none⟩,
 ⟨some 16, .mv (.t 78), none⟩]) <|
 .seq (.reg [
 ⟨some 79, .mv (.t 15), none⟩,
 ⟨some 80, .mv (.t 16), none⟩,
 ⟨some 81, .mv (.t 80), none⟩,
 ⟨some 82, .mv (.t 0), some (81, true)⟩,
 ⟨some 83, .mv (.t 14), some (81, true)⟩,
 ⟨some 84, .bin .eql .sc (.t 83) (.k (.int .u64 1)), some (81, true)⟩,
 ⟨some 85, .call .eff 102 [(.t 82), (.t 84)], some (81, true)⟩,
 ⟨some 86, .pick (.t 81) (.t 85) (.k (.bool false)), none⟩,
 ⟨some 4, .mv (.t 79), none⟩,
 ⟨some 5, .mv (.t 86), none⟩]) <|
 .ret)
 (.skip))))) <|
 .seq (.reg [
 ⟨some 4, .mv (.k (.nils)), none⟩,
 ⟨some 5, .mv (.k (.bool false)), none⟩]) <|
 .ret⟩

def l76_0b : DC :=
 .seq (.reg [
 ⟨some 18, .bin .lss .sc (.t 17) (.t 16), none⟩]) <|
 .seq (.cond (.t 18)
 (.skip)
 (.exit 0)) <|
 .seq (.block 1 <|
 .seq (.reg [
 ⟨some 19, .mv (.t 17), none⟩,
 ⟨some 5, .mv (.t 19), none⟩]) <|
 .seq (.reg [
 ⟨some 21, .mv (.t 4), none⟩,
 ⟨some 22, .mv (.t 0), none⟩,
 ⟨some 23, .mv (.t 5), none⟩,
 ⟨some 24, .call .eff 103 [(.t 21), (.t 22), (.t 23)], none⟩,
 ⟨some 20, .mv (.t 24), none⟩,
 ⟨some 25, .ext 0 (.t 20), none⟩,
 ⟨some 26, .ext 1 (.t 20), none⟩,
 ⟨some 6, .mv (.t 25), none⟩,
 ⟨some 7, .mv (.t 26), none⟩]) <|
 .seq (.seq (.reg [
 ⟨some 27, .mv (.t 7), none⟩,
 ⟨some 28, .un .not (.t 27), none⟩]) <|
 .cond (.t 28)
 (.seq (.reg [
 ⟨some 2, .mv (.k (.nils)), none⟩,
 ⟨some 3, .mv (.k (.int .i64 1)), none⟩]) <|
 .ret)
 (.skip)) <|
 .reg [
 ⟨some 29, .mv (.t 6), none⟩,
 ⟨some 4, .mv (.t 29), none⟩]) <|
 .reg [
 ⟨some 30, .bin .add .sc (.t 17) (.k (.int .i64 1)), none⟩,
 ⟨some 17, .mv (.t 30), none⟩]
def l76_0 : DC := .loop [0, 4, 16, 17] [] l76_0b
def f76 : DFn := ⟨1, [.t 2, .t 3],
 .seq (.reg [
 ⟨some 2, .mv (.k (.nils)), none⟩,
 ⟨some 3, .mv (.k (.int .i64 0)), none⟩]) <|
 .seq (.seq (.reg [
 ⟨some 9, .mv (.t 0), none⟩,
 ⟨some 10, .bin .eql .np (.t 9) (.k (.nilp)), none⟩]) <|
 .cond (.t 10)
 (.seq (.reg [
 ⟨some 2, .mv (.k (.nils)), none⟩,
 ⟨some 3, .mv (.k (.int .i64 1)), none⟩]) <|
 .ret)
 (.skip)) <|
 .seq (.reg [
 ⟨some 11, .mv (.t 0), none⟩,
 ⟨some 12, .call .ro 78 [(.t 11)], none⟩,
 ⟨some 13, .cvI .u8 (.t 12), none⟩,
 ⟨some 14, .bsl false 1 [.int .u8 0] 1 [(0, (.t 13))], none⟩,
 ⟨some 4, .mv (.t 14), none⟩]) <|
 .seq (.seq (.reg [
 ⟨some 15, .mv (.t 0), none⟩,
 ⟨some 16, .call .ro 78 [(.t 15)], none⟩,
 ⟨some 17, .mv (.k (.int .i64 0)), none⟩]) <|
 .block 0 <|
 l76_0) <|
 .seq (.seq (.reg [
 ⟨some 31, .mv (.t 4), none⟩,
 ⟨some 32, .len (.t 31), none⟩,
 ⟨some 33, .bin .gtr .sc (.t 32) (.k (.int .i64 4000)), none⟩]) <|
 .cond (.t 33)
 (.seq (.reg [
 ⟨some 2, .mv (.k (.nils)), none⟩,
 ⟨some 3, .mv (.k (.int .i64 1)), none⟩]) <|
 .ret)
 (.skip)) <|
 .seq (.reg [
 ⟨some 34, .mv (.t 4), none⟩,
 ⟨some 35, .bsl false 1 [.nils] 1 [(0, (.t 34))], none⟩,
 ⟨some 36, .call .blind 105 [(.t 35)], none⟩,
 ⟨some 37, .cvI .u64 (.t 36), none⟩,
 ⟨some 38, .call .eff 104 [(.k (.nils)), (.t 37), (.k (.int .i64 4))], none⟩,
 ⟨some 8, .mv (.t 38), none⟩]) <|
 .seq (.reg [
 ⟨some 39, .mv (.t 8), none⟩,
 ⟨some 40, .mv (.t 4), none⟩,
 ⟨some 41, .len (.t 40), none⟩,
 ⟨some 42, .cvI .u64 (.t 41), none⟩,
 ⟨some 43, .call .eff 104 [(.t 39), (.t 42), (.k (.int .i64 2))], none⟩,
 ⟨some 44, .mv (.t 4), none⟩,
 ⟨some 45, .app 1 1 (.t 43) (.t 44), none⟩,
 ⟨some 2, .mv (.t 45), none⟩,
 ⟨some 3, .mv (.k (.int .i64 0)), none⟩]) <|
 .ret⟩

def f77 : DFn := ⟨2, [.t 4],
 .seq (.reg [
 ⟨some 4, .mv (.k (.bool false)), none⟩]) <|
 .seq (.reg [
 ⟨some 5, .mv (.t 0), none⟩,
 ⟨some 6, .cvBS (.t 5), none⟩,
 ⟨some 7, .mv (.t 1), none⟩,
 ⟨some 8, .cvBS (.t 7), none⟩,
 ⟨some 9, .bin .eql .sc (.t 6) (.t 8), none⟩,
 ⟨some 4, .mv (.t 9), none⟩]) <|
 .ret⟩

def f78 : DFn := ⟨1, [.t 2],
 .seq (.reg [
 ⟨some 2, .mv (.k (.int .i64 0)), none⟩]) <|
 .seq (.reg [
 ⟨some 3, .mv (.t 0), none⟩,
 ⟨some 4, .call .ro 106 [(.t 3)], none⟩,
 ⟨some 5, .len (.t 4), none⟩,
 ⟨some 2, .mv (.t 5), none⟩]) <|
 .ret⟩

def f79 : DFn := ⟨2, [.t 4, .t 5],
 .seq (.reg [
 ⟨some 4, .mv (.k (.int .i64 0)), none⟩,
 ⟨some 5, .mv (.k (.bool false)), none⟩]) <|
 .seq (.reg [
 ⟨some 9, .mv (.t 0), none⟩,
 ⟨some 10, .mv (.t 1), none⟩,
 ⟨some 11, .call .ro 107 [(.t 9), (.t 10)], none⟩,
 ⟨some 12, .asrt 3 (.int .i64 0) true (.t 11), none⟩,
 ⟨some 8, .mv (.t 12), none⟩,
 ⟨some 13, .ext 0 (.t 8), none⟩,
 ⟨some 14, .ext 1 (.t 8), none⟩,
 ⟨some 6, .mv (.t 13), none⟩,
 ⟨some 7, .mv (.t 14), none⟩]) <|
 .seq (.reg [
 ⟨some 15, .mv (.t 6), none⟩,
 ⟨some 16, .mv (.t 7), none⟩,
 ⟨some 4, .mv (.t 15), none⟩,
 ⟨some 5, .mv (.t 16), none⟩]) <|
 .ret⟩

def f80 : DFn := ⟨2, [.t 4, .t 5],
 .seq (.reg [
 ⟨some 4, .mv (.k (.str [])), none⟩,
 ⟨some 5, .mv (.k (.bool false)), none⟩]) <|
 .seq (.reg [
 ⟨some 9, .mv (.t 0), none⟩,
 ⟨some 10, .mv (.t 1), none⟩,
 ⟨some 11, .call .ro 107 [(.t 9), (.t 10)], none⟩,
 ⟨some 12, .asrt 9 (.str []) true (.t 11), none⟩,
 ⟨some 8, .mv (.t 12), none⟩,
 ⟨some 13, .ext 0 (.t 8), none⟩,
 ⟨some 14, .ext 1 (.t 8), none⟩,
 ⟨some 6, .mv (.t 13), none⟩,
 ⟨some 7, .mv (.t 14), none⟩]) <|
 .seq (.reg [
 ⟨some 15, .mv (.t 6), none⟩,
 ⟨some 16, .mv (.t 7), none⟩,
 ⟨some 4, .mv (.t 15), none⟩,
 ⟨some 5, .mv (.t 16), none⟩]) <|
 .ret⟩

def f82 : DFn := ⟨1, [.t 2],
 .seq (.reg [
 ⟨some 2, .mv (.k (.nils)), none⟩]) <|
 .seq (.seq (.reg [
 ⟨some 3, .mv (.t 0), none⟩,
 ⟨some 4, .bin .eql .ns (.t 3) (.k (.nils)), none⟩]) <|
 .cond (.t 4)
 (.seq (.reg [
 ⟨some 2, .mv (.k (.nils)), none⟩]) <|
 .ret)
 (.skip)) <|
 .seq (.reg [
 ⟨some 5, .bsl false 4 [.int .i64 0, .int .i64 0, .int .i64 0, .bool false] 0 [], none⟩,
 ⟨some 6, .mv (.t 0), none⟩,
 ⟨some 7, .app 4 32 (.t 5) (.t 6), none⟩,
 ⟨some 2, .mv (.t 7), none⟩]) <|
 .ret⟩

def f83 : DFn := ⟨3, [.t 6],
 .seq (.reg [
 ⟨some 5, .boxL (.t 2), none⟩,
 ⟨some 6, .mv (.k (.bool false)), none⟩]) <|
 .seq (.reg [
 ⟨some 8, .fld 0 (.t 5), none⟩,
 ⟨some 9, .ld 1 false (.t 8), none⟩,
 ⟨some 10, .build [.int .i64 0, .int .i64 0, .int .i64 0, .bool false] [(0, 1, (.t 9))], none⟩,
 ⟨some 7, .alL [.int .i64 0, .int .i64 0, .int .i64 0, .bool false], none⟩,
 ⟨none, .st 4 (.t 7) (.t 10), none⟩]) <|
 .seq (.seq (.reg [
 ⟨some 11, .fld 0 (.t 5), none⟩,
 ⟨some 12, .ld 1 false (.t 11), none⟩]) <|
 .block 0 <|
 .seq (.seq (.reg [
 ⟨some 14, .bin .eql .sc (.t 12) (.k (.int .i64 0)), none⟩,
 ⟨some 13, .mv (.t 14), none⟩]) <|
 .cond (.t 13)
 (.skip)
 (.reg [
 ⟨some 15, .bin .eql .sc (.t 12) (.k (.int .i64 2)), none⟩,
 ⟨some 13, .mv (.t 15), none⟩])) <|
 .cond (.t 13)
 (.skip)
 (.seq (.reg [
 ⟨some 17, .bin .eql .sc (.t 12) (.k (.int .i64 1)), none⟩,
 ⟨some 16, .mv (.t 17), none⟩]) <|
 .cond (.t 16)
 (.reg [
 ⟨some 18, .fld 1 (.t 5), none⟩,
 ⟨some 19, .ld 1 false (.t 18), none⟩,
 ⟨some 20, .mx (.t 19) (.k (.int .i64 0)), none⟩,
 ⟨some 21, .mn (.t 20) (.k (.int .i64 8)), none⟩,
 ⟨some 22, .fld 1 (.t 7), none⟩,
 ⟨none, .st 1 (.t 22) (.t 21), none⟩])
 (.seq (.reg [
 ⟨some 24, .bin .eql .sc (.t 12) (.k (.int .i64 4)), none⟩,
 ⟨some 23, .mv (.t 24), none⟩]) <|
 .cond (.t 23)
 (.reg [
 ⟨some 25, .fld 1 (.t 5), none⟩,
 ⟨some 26, .ld 1 false (.t 25), none⟩,
 ⟨some 27, .mx (.t 26) (.k (.int .i64 0)), none⟩,
 ⟨some 28, .mn (.t 27) (.k (.int .i64 5)), none⟩,
 ⟨some 29, .fld 1 (.t 7), none⟩,
 ⟨none, .st 1 (.t 29) (.t 28), none⟩])
 (.seq (.reg [
 ⟨some 31, .bin .eql .sc (.t 12) (.k (.int .i64 3)), none⟩,
 ⟨some 30, .mv (.t 31), none⟩]) <|
 .cond (.t 30)
 (.drw [
 ⟨some 32, .fld 2 (.t 5), none⟩,
 ⟨some 33, .ld 1 false (.t 32), none⟩,
 ⟨some 34, .mx (.t 33) (.k (.int .i64 0)), none⟩,
 ⟨some 35, .mv (.t 0), none⟩,
 ⟨some 36, .nilck (.t 35), none⟩,
 ⟨some 37, .fld 0 (.t 36), none⟩,
 ⟨some 38, .fld 3 (.t 37), none⟩,
 ⟨some 39, .ld 1 false (.t 38), none⟩,
 ⟨some 40, .mv (.t 1), none⟩,
 ⟨some 41, .idx 6 (.t 39) (.t 40), none⟩,
 ⟨some 42, .fld 3 (.t 41), none⟩,
 ⟨some 43, .ld 1 false (.t 42), none⟩,
 ⟨some 44, .len (.t 43), none⟩,
 ⟨some 45, .bin .sub .sc (.t 44) (.k (.int .i64 1)), none⟩,
 ⟨some 46, .mn (.t 34) (.t 45), none⟩,
 ⟨some 47, .fld 3 (.t 5), none⟩,
 ⟨some 48, .ld 1 false (.t 47), none⟩,
 ⟨some 49, .fld 2 (.t 7), none⟩,
 ⟨none, .st 1 (.t 49) (.t 46), none⟩,
 ⟨some 50, .fld 3 (.t 7), none⟩,
 ⟨none, .st 1 (.t 50) (.t 48), none⟩] [[], [], [], [], [], [], [], [], [], [7], [], [7, 9], [], [], [], [], [], [], [1, 7, 9, 11], [], [1, 7, 9, 11, 16, 18]])
 (.seq (.reg [
 ⟨some 6, .mv (.k (.bool false)), none⟩]) <|
 .ret))))) <|
 .seq (.reg [
 ⟨some 51, .ld 4 true (.t 5), none⟩,
 ⟨some 52, .ld 4 true (.t 7), none⟩,
 ⟨some 53, .bin .eql (.st [.i, .i, .i, .b]) (.t 51) (.t 52), none⟩,
 ⟨some 6, .mv (.t 53), none⟩]) <|
 .ret⟩

def f84 : DFn := ⟨3, [.t 6],
 .seq (.reg [
 ⟨some 3, .boxH (.t 0), none⟩,
 ⟨some 5, .boxH (.t 2), none⟩,
 ⟨some 6, .mv (.k (.bool false)), none⟩]) <|
 .seq (.drw [
 ⟨some 11, .fld 3 (.t 3), none⟩,
 ⟨some 12, .ld 1 false (.t 11), none⟩,
 ⟨some 13, .mv (.t 1), none⟩,
 ⟨some 14, .idx 6 (.t 12) (.t 13), none⟩,
 ⟨some 15, .ld 6 true (.t 14), none⟩,
 ⟨some 16, .fld 3 (.t 3), none⟩,
 ⟨some 17, .ld 1 false (.t 16), none⟩,
 ⟨some 18, .ld 1 false (.t 5), none⟩,
 ⟨some 19, .idx 6 (.t 17) (.t 18), none⟩,
 ⟨some 20, .ld 6 true (.t 19), none⟩,
 ⟨some 7, .alL [.str [], .int .i64 0, .int .i64 0, .nils, .nils, .nils], none⟩,
 ⟨some 8, .alH [.str [], .int .i64 0, .int .i64 0, .nils, .nils, .nils], none⟩,
 ⟨none, .st 6 (.t 7) (.t 15), none⟩,
 ⟨none, .st 6 (.t 8) (.t 20), none⟩] [[], [], [], [1], [1, 3], [], [], [], [6, 7], [6, 7, 8], [], [], [1, 3, 4, 10, 11], [1, 3, 4, 6, 7, 8, 9, 10, 11, 12]]) <|
 .seq (.reg [
 ⟨some 21, .fld 3 (.t 7), none⟩,
 ⟨some 22, .ld 1 false (.t 21), none⟩,
 ⟨some 23, .mkF 110 [(.t 8)], none⟩,
 ⟨some 24, .call .ro 109 [(.t 22), (.t 23)], none⟩,
 ⟨some 9, .mv (.t 24), none⟩]) <|
 .seq (.reg [
 ⟨some 25, .ld 4 true (.t 3), none⟩,
 ⟨some 26, .mv (.t 1), none⟩,
 ⟨some 27, .call .blind 113 [(.t 25), (.t 26)], none⟩,
 ⟨some 28, .mkF 114 [(.t 3), (.t 5)], none⟩,
 ⟨some 29, .call .ro 112 [(.t 27), (.t 28)], none⟩,
 ⟨some 10, .mv (.t 29), none⟩]) <|
 .seq (.reg [
 ⟨some 30, .mv (.t 1), none⟩,
 ⟨some 31, .ld 1 false (.t 5), none⟩,
 ⟨some 32, .bin .eql .sc (.t 30) (.t 31), none⟩,
 ⟨some 33, .mv (.t 32), none⟩,
 ⟨some 34, .fld 1 (.t 7), some (33, false)⟩,
 ⟨some 35, .ld 1 false (.t 34), some (33, false)⟩,
 ⟨some 36, .fld 1 (.t 8), some (33, false)⟩,
 ⟨some 37, .ld 1 false (.t 36), some (33, false)⟩,
 ⟨some 38, .bin .eql .sc (.t 35) (.t 37), some (33, false)⟩,
 ⟨some 39, .pick (.t 33) (.k (.bool true)) (.t 38), none⟩,
 ⟨some 40, .mv (.t 39), none⟩,
 ⟨some 41, .mv (.t 9), some (40, false)⟩,
 ⟨some 42, .pick (.t 40) (.k (.bool true)) (.t 41), none⟩,
 ⟨some 43, .mv (.t 42), none⟩,
 ⟨some 44, .mv (.t 10), some (43, false)⟩,
 ⟨some 45, .pick (.t 43) (.k (.bool true)) (.t 44), none⟩,
 ⟨some 6, .mv (.t 45), none⟩]) <|
 .ret⟩

def f85 : DFn := ⟨1, [.t 2],
 .seq (.reg [
 ⟨some 2, .mv (.k (.int .i64 0)), none⟩]) <|
 .seq (.seq (.reg [
 ⟨some 3, .mv (.t 0), none⟩,
 ⟨some 4, .bin .eql .np (.t 3) (.k (.nilp)), none⟩]) <|
 .cond (.t 4)
 (.seq (.reg [
 ⟨some 2, .mv (.k (.int .i64 0)), none⟩]) <|
 .ret)
 (.skip)) <|
 .seq (.reg [
 ⟨some 5, .mv (.t 0), none⟩,
 ⟨some 6, .nilck (.t 5), none⟩,
 ⟨some 7, .fld 0 (.t 6), none⟩,
 ⟨some 8, .ld 1 false (.t 7), none⟩,
 ⟨some 2, .mv (.t 8), none⟩]) <|
 .ret⟩

def f86 : DFn := ⟨3, [],
 .seq (.reg [
 ⟨some 6, .mv (.t 0), none⟩,
 ⟨some 7, .bin .neq .np (.t 6) (.k (.nilp)), none⟩]) <|
 .cond (.t 7)
 (.reg [
 ⟨some 8, .mv (.t 0), none⟩,
 ⟨some 9, .mv (.t 0), none⟩,
 ⟨some 10, .mv (.t 0), none⟩,
 ⟨some 11, .mv (.t 1), none⟩,
 ⟨some 12, .mv (.t 2), none⟩,
 ⟨some 13, .bin .add .sc (.t 12) (.k (.int .i64 8)), none⟩,
 ⟨some 14, .bin .sub .sc (.t 13) (.k (.int .i64 3)), none⟩,
 ⟨some 15, .nilck (.t 8), none⟩,
 ⟨some 16, .fld 0 (.t 15), none⟩,
 ⟨none, .st 1 (.t 16) (.t 11), none⟩,
 ⟨some 17, .nilck (.t 9), none⟩,
 ⟨some 18, .fld 1 (.t 17), none⟩,
 ⟨none, .st 1 (.t 18) (.t 14), none⟩,
 ⟨some 19, .nilck (.t 10), none⟩,
 ⟨some 20, .fld 2 (.t 19), none⟩,
 ⟨none, .st 1 (.t 20) (.k (.bool true)), none⟩])
 (.skip)⟩

def f87 : DFn := ⟨3, [],
 .seq (.seq (.reg [
 ⟨some 7, .mv (.t 0), none⟩,
 ⟨some 8, .nilck (.t 7), none⟩,
 ⟨some 9, .fld 2 (.t 8), none⟩,
 ⟨some 10, .ld 1 false (.t 9), none⟩,
 ⟨some 6, .mv (.t 10), none⟩]) <|
 .seq (.drw [
 ⟨some 11, .mv (.t 0), none⟩,
 ⟨some 12, .nilck (.t 11), none⟩,
 ⟨some 13, .fld 3 (.t 12), none⟩,
 ⟨some 14, .ld 1 false (.t 13), none⟩,
 ⟨some 15, .bin .eql .sc (.t 14) (.k (.int .i64 2)), none⟩,
 ⟨some 16, .mv (.t 15), none⟩,
 ⟨some 17, .mv (.t 6), some (16, true)⟩,
 ⟨some 18, .bin .neq .np (.t 17) (.k (.nilp)), some (16, true)⟩,
 ⟨some 19, .pick (.t 16) (.t 18) (.k (.bool false)), none⟩,
 ⟨some 20, .mv (.t 19), none⟩,
 ⟨some 21, .mv (.t 6), some (20, true)⟩,
 ⟨some 22, .nilck (.t 21), some (20, true)⟩,
 ⟨some 23, .fld 0 (.t 22), some (20, true)⟩,
 ⟨some 24, .ld 1 false (.t 23), some (20, true)⟩,
 ⟨some 25, .mv (.t 1), some (20, true)⟩,
 ⟨some 26, .bin .sub .sc (.t 25) (.k (.int .i64 1)), some (20, true)⟩,
 ⟨some 27, .bin .eql .sc (.t 24) (.t 26), some (20, true)⟩,
 ⟨some 28, .pick (.t 20) (.t 27) (.k (.bool false)), none⟩,
 ⟨some 29, .mv (.t 28), none⟩,
 ⟨some 30, .mv (.t 6), some (29, true)⟩,
 ⟨some 31, .nilck (.t 30), some (29, true)⟩,
 ⟨some 32, .fld 1 (.t 31), some (29, true)⟩,
 ⟨some 33, .ld 1 false (.t 32), some (29, true)⟩,
 ⟨some 34, .mv (.t 2), some (29, true)⟩,
 ⟨some 35, .bin .geq .sc (.t 33) (.t 34), some (29, true)⟩,
 ⟨some 36, .pick (.t 29) (.t 35) (.k (.bool false)), none⟩,
 ⟨some 37, .mv (.t 36), none⟩,
 ⟨some 38, .mv (.t 0), some (37, true)⟩,
 ⟨some 39, .nilck (.t 38), some (37, true)⟩,
 ⟨some 40, .fld 0 (.t 39), some (37, true)⟩,
 ⟨some 41, .ld 1 false (.t 40), some (37, true)⟩,
 ⟨some 42, .mv (.t 6), some (37, true)⟩,
 ⟨some 43, .nilck (.t 42), some (37, true)⟩,
 ⟨some 44, .fld 2 (.t 43), some (37, true)⟩,
 ⟨some 45, .ld 1 false (.t 44), some (37, true)⟩,
 ⟨some 46, .call .eff 53 [(.t 41), (.t 45)], some (37, true)⟩,
 ⟨some 47, .pick (.t 37) (.t 46) (.k (.bool false)), none⟩] [[], [], [], [], [], [], [], [], [], [], [], [], [], [3], [], [], [], [], [], [], [], [], [3, 13], [], [], [], [], [], [], [], [3, 13, 22], [], [], [], [3, 13, 22], [3, 13, 22, 30, 34], []]) <|
 .cond (.t 47)
 (.seq (.reg [
 ⟨some 48, .mv (.t 0), none⟩,
 ⟨some 49, .mv (.t 0), none⟩,
 ⟨some 50, .mv (.t 6), none⟩,
 ⟨some 51, .nilck (.t 50), none⟩,
 ⟨some 52, .fld 1 (.t 51), none⟩,
 ⟨some 53, .ld 1 false (.t 52), none⟩,
 ⟨some 54, .nilck (.t 48), none⟩,
 ⟨some 55, .fld 3 (.t 54), none⟩,
 ⟨none, .st 1 (.t 55) (.k (.int .i64 3)), none⟩,
 ⟨some 56, .nilck (.t 49), none⟩,
 ⟨some 57, .fld 5 (.t 56), none⟩,
 ⟨none, .st 1 (.t 57) (.t 53), none⟩]) <|
 .ret)
 (.skip)) <|
 .seq (.reg [
 ⟨some 58, .mv (.t 0), none⟩,
 ⟨some 59, .call .eff 70 [(.t 58)], none⟩]) <|
 .reg [
 ⟨some 60, .mv (.t 0), none⟩,
 ⟨some 61, .mv (.t 0), none⟩,
 ⟨some 62, .mv (.t 0), none⟩,
 ⟨some 63, .mv (.t 2), none⟩,
 ⟨some 64, .nilck (.t 60), none⟩,
 ⟨some 65, .fld 3 (.t 64), none⟩,
 ⟨none, .st 1 (.t 65) (.k (.int .i64 4)), none⟩,
 ⟨some 66, .nilck (.t 61), none⟩,
 ⟨some 67, .fld 5 (.t 66), none⟩,
 ⟨none, .st 1 (.t 67) (.t 63), none⟩,
 ⟨some 68, .nilck (.t 62), none⟩,
 ⟨some 69, .fld 6 (.t 68), none⟩,
 ⟨none, .st 1 (.t 69) (.k (.int .i64 10)), none⟩]⟩

def l88_0b : DC :=
 .seq (.reg [
 ⟨some 16, .bin .lss .sc (.t 15) (.t 14), none⟩]) <|
 .seq (.cond (.t 16)
 (.skip)
 (.exit 0)) <|
 .seq (.block 1 <|
 .seq (.reg [
 ⟨some 17, .idx 2 (.t 13) (.t 15), none⟩,
 ⟨some 18, .ld 2 true (.t 17), none⟩,
 ⟨some 10, .alL [.int .i64 0, .int .i64 0], none⟩,
 ⟨none, .st 2 (.t 10) (.t 18), none⟩]) <|
 .drw [
 ⟨some 19, .mv (.t 0), none⟩,
 ⟨some 20, .nilck (.t 19), none⟩,
 ⟨some 21, .fld 0 (.t 20), none⟩,
 ⟨some 22, .ld 1 false (.t 21), none⟩,
 ⟨some 23, .ld 2 true (.t 5), none⟩,
 ⟨some 24, .ld 2 true (.t 10), none⟩,
 ⟨some 25, .call .eff 116 [(.t 22), (.t 23), (.t 24)], none⟩] [[], [], [], [], [], [], [3, 4, 5]]) <|
 .reg [
 ⟨some 26, .bin .add .sc (.t 15) (.k (.int .i64 1)), none⟩,
 ⟨some 15, .mv (.t 26), none⟩]
def l88_0 : DC := .loop [0, 2, 5, 8, 13, 14, 15] [5, 8] l88_0b
def f88 : DFn := ⟨4, [.cell 8 2 true],
 .seq (.reg [
 ⟨some 5, .boxL (.t 1), none⟩,
 ⟨some 8, .alL [.nils, .nils], none⟩]) <|
 .seq (.seq (.reg [
 ⟨some 12, .mv (.t 2), none⟩]) <|
 .cond (.t 12)
 (.seq (.reg [
 ⟨some 13, .mv (.t 3), none⟩,
 ⟨some 14, .len (.t 13), none⟩,
 ⟨some 15, .mv (.k (.int .i64 0)), none⟩]) <|
 .block 0 <|
 l88_0)
 (.skip)) <|
 .seq (.drw [
 ⟨some 27, .mv (.t 0), none⟩,
 ⟨some 28, .nilck (.t 27), none⟩,
 ⟨some 29, .fld 0 (.t 28), none⟩,
 ⟨some 30, .ld 1 false (.t 29), none⟩,
 ⟨some 31, .ld 2 true (.t 5), none⟩,
 ⟨some 32, .call .eff 117 [(.t 30), (.t 31)], none⟩,
 ⟨some 11, .alL [.nils, .nils], none⟩,
 ⟨none, .st 2 (.t 11) (.t 32), none⟩] [[], [], [], [], [], [3, 4], [], [3, 4, 5, 6]]) <|
 .seq (.seq (.reg [
 ⟨some 33, .mv (.t 2), none⟩,
 ⟨some 34, .un .not (.t 33), none⟩]) <|
 .cond (.t 34)
 (.seq (.reg [
 ⟨some 35, .mv (.t 0), none⟩,
 ⟨some 36, .nilck (.t 35), none⟩,
 ⟨some 37, .fld 0 (.t 36), none⟩,
 ⟨some 38, .ld 1 false (.t 37), none⟩,
 ⟨some 39, .call .ro 60 [(.t 38)], none⟩,
 ⟨none, .st 2 (.t 8) (.t 39), none⟩]) <|
 .ret)
 (.skip)) <|
 .seq (.reg [
 ⟨some 40, .ld 2 true (.t 11), none⟩,
 ⟨none, .st 2 (.t 8) (.t 40), none⟩]) <|
 .ret⟩

def f89 : DFn := ⟨1, [.t 2],
 .seq (.reg [
 ⟨some 2, .mv (.k (.nils)), none⟩]) <|
 .seq (.seq (.reg [
 ⟨some 3, .mv (.t 0), none⟩,
 ⟨some 4, .bin .eql .ns (.t 3) (.k (.nils)), none⟩]) <|
 .cond (.t 4)
 (.seq (.reg [
 ⟨some 2, .mv (.k (.nils)), none⟩]) <|
 .ret)
 (.skip)) <|
 .seq (.reg [
 ⟨some 5, .bsl false 1 [.bool false] 0 [], none⟩,
 ⟨some 6, .mv (.t 0), none⟩,
 ⟨some 7, .app 1 1 (.t 5) (.t 6), none⟩,
 ⟨some 2, .mv (.t 7), none⟩]) <|
 .ret⟩

def f90 : DFn := ⟨1, [.t 2],
 .seq (.reg [
 ⟨some 2, .mv (.k (.nils)), none⟩]) <|
 .seq (.seq (.reg [
 ⟨some 3, .mv (.t 0), none⟩,
 ⟨some 4, .bin .eql .ns (.t 3) (.k (.nils)), none⟩]) <|
 .cond (.t 4)
 (.seq (.reg [
 ⟨some 2, .mv (.k (.nils)), none⟩]) <|
 .ret)
 (.skip)) <|
 .seq (.reg [
 ⟨some 5, .bsl false 1 [.int .u8 0] 0 [], none⟩,
 ⟨some 6, .mv (.t 0), none⟩,
 ⟨some 7, .app 1 1 (.t 5) (.t 6), none⟩,
 ⟨some 2, .mv (.t 7), none⟩]) <|
 .ret⟩

def l91_0b : DC :=
 .seq (.reg [
 ⟨some 24, .bin .lss .sc (.t 23) (.t 22), none⟩]) <|
 .seq (.cond (.t 24)
 (.skip)
 (.exit 0)) <|
 .seq (.block 1 <|
 .seq (.reg [
 ⟨some 25, .idx 1 (.t 21) (.t 23), none⟩,
 ⟨some 26, .ld 1 false (.t 25), none⟩,
 ⟨some 10, .mv (.t 26), none⟩]) <|
 .reg [
 ⟨some 27, .mv (.t 7), none⟩,
 ⟨some 28, .mv (.t 10), none⟩,
 ⟨some 29, .call .eff 100 [(.t 27), (.t 28)], none⟩,
 ⟨some 30, .mv (.t 29), none⟩,
 ⟨some 31, .mv (.t 8), some (30, true)⟩,
 ⟨some 32, .pick (.t 30) (.t 31) (.k (.bool false)), none⟩,
 ⟨some 8, .mv (.t 32), none⟩]) <|
 .reg [
 ⟨some 33, .bin .add .sc (.t 23) (.k (.int .i64 1)), none⟩,
 ⟨some 23, .mv (.t 33), none⟩]
def l91_0 : DC := .loop [7, 8, 21, 22, 23] [] l91_0b
def f91 : DFn := ⟨3, [.t 6],
 .seq (.reg [
 ⟨some 6, .mv (.k (.nilp)), none⟩]) <|
 .seq (.reg [
 ⟨some 11, .call .eff 73 [], none⟩,
 ⟨some 7, .mv (.t 11), none⟩]) <|
 .seq (.reg [
 ⟨some 12, .mv (.t 7), none⟩,
 ⟨some 13, .call .eff 101 [(.t 12), (.k (.str [115, 116, 97, 116, 101]))], none⟩,
 ⟨some 8, .mv (.t 13), none⟩]) <|
 .seq (.seq (.reg [
 ⟨some 14, .mv (.t 0), none⟩,
 ⟨some 15, .mv (.t 1), none⟩,
 ⟨some 16, .mv (.t 2), none⟩,
 ⟨some 17, .len (.t 16), none⟩,
 ⟨some 18, .bsl false 1 [.int .i64 0] 3 [(0, (.t 14)), (1, (.t 15)), (2, (.t 17))], none⟩,
 ⟨some 19, .mv (.t 2), none⟩,
 ⟨some 20, .call .blind 118 [(.t 19)], none⟩,
 ⟨some 21, .app 1 8 (.t 18) (.t 20), none⟩,
 ⟨some 22, .len (.t 21), none⟩,
 ⟨some 23, .mv (.k (.int .i64 0)), none⟩]) <|
 .block 0 <|
 l91_0) <|
 .seq (.seq (.reg [
 ⟨some 34, .mv (.t 8), none⟩,
 ⟨some 35, .un .not (.t 34), none⟩]) <|
 .cond (.t 35)
 (.seq (.reg [
 ⟨some 6, .mv (.k (.nilp)), none⟩]) <|
 .ret)
 (.skip)) <|
 .seq (.reg [
 ⟨some 36, .mv (.t 7), none⟩,
 ⟨some 6, .mv (.t 36), none⟩]) <|
 .ret⟩

def f92 : DFn := ⟨3, [.t 6],
 .seq (.reg [
 ⟨some 6, .mv (.k (.bool false)), none⟩]) <|
 .seq (.reg [
 ⟨some 7, .mv (.t 0), none⟩,
 ⟨some 8, .mv (.t 1), none⟩,
 ⟨some 9, .bin .geq .sc (.t 7) (.t 8), none⟩,
 ⟨some 10, .mv (.t 9), none⟩,
 ⟨some 11, .mv (.t 0), some (10, true)⟩,
 ⟨some 12, .mv (.t 2), some (10, true)⟩,
 ⟨some 13, .bin .leq .sc (.t 11) (.t 12), some (10, true)⟩,
 ⟨some 14, .pick (.t 10) (.t 13) (.k (.bool false)), none⟩,
 ⟨some 6, .mv (.t 14), none⟩]) <|
 .ret⟩

def l93_0b : DC :=
 .seq (.reg [
 ⟨some 61, .bin .lss .sc (.t 60) (.t 59), none⟩]) <|
 .seq (.cond (.t 61)
 (.skip)
 (.exit 0)) <|
 .seq (.block 1 <|
 .seq (.reg [
 ⟨some 62, .idx 2 (.t 58) (.t 60), none⟩,
 ⟨some 63, .ld 2 true (.t 62), none⟩,
 ⟨some 8, .alL [.str [], .int .i64 0], none⟩,
 ⟨none, .st 2 (.t 8) (.t 63), none⟩]) <|
 .seq (.reg [
 ⟨some 64, .fld 3 (.t 3), none⟩,
 ⟨some 65, .ld 1 false (.t 64), none⟩,
 ⟨some 66, .fld 1 (.t 8), none⟩,
 ⟨some 67, .ld 1 false (.t 66), none⟩,
 ⟨some 68, .call .blind 111 [(.t 65), (.t 67)], none⟩]) <|
 .cond (.t 68)
 (.reg [
 ⟨some 69, .mv (.t 6), none⟩,
 ⟨some 70, .bin .add .sc (.t 69) (.k (.int .i64 1)), none⟩,
 ⟨some 6, .mv (.t 70), none⟩])
 (.skip)) <|
 .reg [
 ⟨some 71, .bin .add .sc (.t 60) (.k (.int .i64 1)), none⟩,
 ⟨some 60, .mv (.t 71), none⟩]
def l93_0 : DC := .loop [3, 6, 58, 59, 60] [3] l93_0b
def f93 : DFn := ⟨2, [.t 4],
 .seq (.reg [
 ⟨some 2, .boxL (.t 0), none⟩,
 ⟨some 3, .boxL (.t 1), none⟩,
 ⟨some 4, .mv (.k (.bool false)), none⟩]) <|
 .seq (.reg [
 ⟨some 9, .fld 2 (.t 2), none⟩,
 ⟨some 10, .ld 1 false (.t 9), none⟩,
 ⟨some 11, .len (.t 10), none⟩,
 ⟨some 12, .bin .sub .sc (.t 11) (.k (.int .i64 1)), none⟩,
 ⟨some 5, .mv (.t 12), none⟩]) <|
 .seq (.seq (.reg [
 ⟨some 13, .fld 1 (.t 3), none⟩,
 ⟨some 14, .ld 1 false (.t 13), none⟩,
 ⟨some 15, .mv (.t 5), none⟩,
 ⟨some 16, .call .blind 92 [(.t 14), (.k (.int .i64 0)), (.t 15)], none⟩,
 ⟨some 17, .un .not (.t 16), none⟩,
 ⟨some 18, .mv (.t 17), none⟩,
 ⟨some 19, .fld 2 (.t 3), some (18, false)⟩,
 ⟨some 20, .ld 1 false (.t 19), some (18, false)⟩,
 ⟨some 21, .mv (.t 5), some (18, false)⟩,
 ⟨some 22, .call .blind 92 [(.t 20), (.k (.int .i64 0)), (.t 21)], some (18, false)⟩,
 ⟨some 23, .un .not (.t 22), some (18, false)⟩,
 ⟨some 24, .pick (.t 18) (.k (.bool true)) (.t 23), none⟩,
 ⟨some 25, .mv (.t 24), none⟩,
 ⟨some 26, .fld 1 (.t 3), some (25, false)⟩,
 ⟨some 27, .ld 1 false (.t 26), some (25, false)⟩,
 ⟨some 28, .fld 2 (.t 3), some (25, false)⟩,
 ⟨some 29, .ld 1 false (.t 28), some (25, false)⟩,
 ⟨some 30, .bin .eql .sc (.t 27) (.t 29), some (25, false)⟩,
 ⟨some 31, .pick (.t 25) (.k (.bool true)) (.t 30), none⟩,
 ⟨some 32, .mv (.t 31), none⟩,
 ⟨some 33, .ld 4 true (.t 2), some (32, false)⟩,
 ⟨some 34, .fld 3 (.t 3), some (32, false)⟩,
 ⟨some 35, .ld 1 false (.t 34), some (32, false)⟩,
 ⟨some 36, .call .blind 119 [(.t 33), (.t 35)], some (32, false)⟩,
 ⟨some 37, .un .not (.t 36), some (32, false)⟩,
 ⟨some 38, .pick (.t 32) (.k (.bool true)) (.t 37), none⟩,
 ⟨some 39, .mv (.t 38), none⟩,
 ⟨some 40, .ld 4 true (.t 2), some (39, false)⟩,
 ⟨some 41, .fld 4 (.t 3), some (39, false)⟩,
 ⟨some 42, .ld 1 false (.t 41), some (39, false)⟩,
 ⟨some 43, .fld 3 (.t 3), some (39, false)⟩,
 ⟨some 44, .ld 1 false (.t 43), some (39, false)⟩,
 ⟨some 45, .call .blind 120 [(.t 40), (.t 42), (.t 44), (.k (.bool true))], some (39, false)⟩,
 ⟨some 46, .un .not (.t 45), some (39, false)⟩,
 ⟨some 47, .pick (.t 39) (.k (.bool true)) (.t 46), none⟩,
 ⟨some 48, .mv (.t 47), none⟩,
 ⟨some 49, .ld 4 true (.t 2), some (48, false)⟩,
 ⟨some 50, .fld 5 (.t 3), some (48, false)⟩,
 ⟨some 51, .ld 1 false (.t 50), some (48, false)⟩,
 ⟨some 52, .fld 3 (.t 3), some (48, false)⟩,
 ⟨some 53, .ld 1 false (.t 52), some (48, false)⟩,
 ⟨some 54, .call .blind 120 [(.t 49), (.t 51), (.t 53), (.k (.bool false))], some (48, false)⟩,
 ⟨some 55, .un .not (.t 54), some (48, false)⟩,
 ⟨some 56, .pick (.t 48) (.k (.bool true)) (.t 55), none⟩]) <|
 .cond (.t 56)
 (.seq (.reg [
 ⟨some 4, .mv (.k (.bool false)), none⟩]) <|
 .ret)
 (.skip)) <|
 .seq (.reg [
 ⟨some 6, .mv (.k (.int .i64 0)), none⟩]) <|
 .seq (.seq (.reg [
 ⟨some 57, .fld 1 (.t 2), none⟩,
 ⟨some 58, .ld 1 false (.t 57), none⟩,
 ⟨some 59, .len (.t 58), none⟩,
 ⟨some 60, .mv (.k (.int .i64 0)), none⟩]) <|
 .block 0 <|
 l93_0) <|
 .seq (.reg [
 ⟨some 72, .mv (.t 6), none⟩,
 ⟨some 73, .fld 4 (.t 3), none⟩,
 ⟨some 74, .ld 1 false (.t 73), none⟩,
 ⟨some 75, .len (.t 74), none⟩,
 ⟨some 76, .bin .eql .sc (.t 72) (.t 75), none⟩,
 ⟨some 4, .mv (.t 76), none⟩]) <|
 .ret⟩

def l94_0b : DC :=
 .seq (.reg [
 ⟨some 8, .bin .lss .sc (.t 7) (.t 6), none⟩]) <|
 .seq (.cond (.t 8)
 (.skip)
 (.exit 0)) <|
 .seq (.block 1 <|
 .seq (.reg [
 ⟨some 9, .mv (.t 7), none⟩,
 ⟨some 10, .idx 1 (.t 5) (.t 7), none⟩,
 ⟨some 11, .ld 1 false (.t 10), none⟩,
 ⟨some 3, .mv (.t 9), none⟩,
 ⟨some 4, .mv (.t 11), none⟩]) <|
 .seq (.reg [
 ⟨some 12, .mv (.t 4), none⟩,
 ⟨some 13, .call .blind 121 [(.t 12)], none⟩,
 ⟨some 14, .un .not (.t 13), none⟩,
 ⟨some 15, .mv (.t 14), none⟩,
 ⟨some 16, .mv (.t 4), some (15, false)⟩,
 ⟨some 17, .bin .eql .sc (.t 16) (.k (.str [115, 101, 116])), some (15, false)⟩,
 ⟨some 18, .pick (.t 15) (.k (.bool true)) (.t 17), none⟩,
 ⟨some 19, .mv (.t 18), none⟩,
 ⟨some 20, .mv (.t 4), some (19, false)⟩,
 ⟨some 21, .bin .eql .sc (.t 20) (.k (.str [102, 108, 97, 110, 107])), some (19, false)⟩,
 ⟨some 22, .pick (.t 19) (.k (.bool true)) (.t 21), none⟩,
 ⟨some 23, .mv (.t 22), none⟩,
 ⟨some 24, .mv (.t 0), some (23, false)⟩,
 ⟨some 25, .mv (.t 3), some (23, false)⟩,
 ⟨some 26, .slc 1 (.t 24) none (some (.t 25)) none, some (23, false)⟩,
 ⟨some 27, .mv (.t 4), some (23, false)⟩,
 ⟨some 28, .call .blind 122 [(.t 26), (.t 27)], some (23, false)⟩,
 ⟨some 29, .pick (.t 23) (.k (.bool true)) (.t 28), none⟩]) <|
 .cond (.t 29)
 (.seq (.reg [
 ⟨some 2, .mv (.k (.bool false)), none⟩]) <|
 .ret)
 (.skip)) <|
 .reg [
 ⟨some 30, .bin .add .sc (.t 7) (.k (.int .i64 1)), none⟩,
 ⟨some 7, .mv (.t 30), none⟩]
def l94_0 : DC := .loop [0, 5, 6, 7] [] l94_0b
def f94 : DFn := ⟨1, [.t 2],
 .seq (.reg [
 ⟨some 2, .mv (.k (.bool false)), none⟩]) <|
 .seq (.seq (.reg [
 ⟨some 5, .mv (.t 0), none⟩,
 ⟨some 6, .len (.t 5), none⟩,
 ⟨some 7, .mv (.k (.int .i64 0)), none⟩]) <|
 .block 0 <|
 l94_0) <|
 .seq (.reg [
 ⟨some 2, .mv (.k (.bool true)), none⟩]) <|
 .ret⟩

def f95 : DFn := ⟨1, [.t 2],
 .seq (.reg [
 ⟨some 2, .mv (.k (.nils)), none⟩]) <|
 .seq (.seq (.reg [
 ⟨some 3, .mv (.t 0), none⟩,
 ⟨some 4, .bin .eql .ns (.t 3) (.k (.nils)), none⟩]) <|
 .cond (.t 4)
 (.seq (.reg [
 ⟨some 2, .mv (.k (.nils)), none⟩]) <|
 .ret)
 (.skip)) <|
 .seq (.reg [
 ⟨some 5, .bsl false 1 [.str []] 0 [], none⟩,
 ⟨some 6, .mv (.t 0), none⟩,
 ⟨some 7, .app 1 16 (.t 5) (.t 6), none⟩,
 ⟨some 2, .mv (.t 7), none⟩]) <|
 .ret⟩

def f96 : DFn := ⟨1, [.t 2],
 .seq (.reg [
 ⟨some 2, .mv (.k (.nils)), none⟩]) <|
 .seq (.seq (.reg [
 ⟨some 3, .mv (.t 0), none⟩,
 ⟨some 4, .bin .eql .ns (.t 3) (.k (.nils)), none⟩]) <|
 .cond (.t 4)
 (.seq (.reg [
 ⟨some 2, .mv (.k (.nils)), none⟩]) <|
 .ret)
 (.skip)) <|
 .seq (.reg [
 ⟨some 5, .bsl false 2 [.str [], .int .i64 0] 0 [], none⟩,
 ⟨some 6, .mv (.t 0), none⟩,
 ⟨some 7, .app 2 24 (.t 5) (.t 6), none⟩,
 ⟨some 2, .mv (.t 7), none⟩]) <|
 .ret⟩

def f97 : DFn := ⟨1, [.t 2],
 .seq (.reg [
 ⟨some 2, .mv (.k (.nils)), none⟩]) <|
 .seq (.seq (.reg [
 ⟨some 3, .mv (.t 0), none⟩,
 ⟨some 4, .bin .eql .ns (.t 3) (.k (.nils)), none⟩]) <|
 .cond (.t 4)
 (.seq (.reg [
 ⟨some 2, .mv (.k (.nils)), none⟩]) <|
 .ret)
 (.skip)) <|
 .seq (.reg [
 ⟨some 5, .bsl false 6 [.str [], .int .i64 0, .int .i64 0, .nils, .nils, .nils] 0 [], none⟩,
 ⟨some 6, .mv (.t 0), none⟩,
 ⟨some 7, .app 6 104 (.t 5) (.t 6), none⟩,
 ⟨some 2, .mv (.t 7), none⟩]) <|
 .ret⟩

def f98 : DFn := ⟨1, [.t 2],
 .seq (.reg [
 ⟨some 2, .mv (.k (.nils)), none⟩]) <|
 .seq (.seq (.reg [
 ⟨some 3, .mv (.t 0), none⟩,
 ⟨some 4, .bin .eql .ns (.t 3) (.k (.nils)), none⟩]) <|
 .cond (.t 4)
 (.seq (.reg [
 ⟨some 2, .mv (.k (.nils)), none⟩]) <|
 .ret)
 (.skip)) <|
 .seq (.reg [
 ⟨some 5, .bsl false 1 [.int .i64 0] 0 [], none⟩,
 ⟨some 6, .mv (.t 0), none⟩,
 ⟨some 7, .app 1 8 (.t 5) (.t 6), none⟩,
 ⟨some 2, .mv (.t 7), none⟩]) <|
 .ret⟩

def f99 : DFn := ⟨1, [.t 2],
 .seq (.reg [
 ⟨some 2, .mv (.k (.nils)), none⟩]) <|
 .seq (.seq (.reg [
 ⟨some 3, .mv (.t 0), none⟩,
 ⟨some 4, .bin .eql .ns (.t 3) (.k (.nils)), none⟩]) <|
 .cond (.t 4)
 (.seq (.reg [
 ⟨some 2, .mv (.k (.nils)), none⟩]) <|
 .ret)
 (.skip)) <|
 .seq (.reg [
 ⟨some 5, .bsl false 2 [.int .i64 0, .bool false] 0 [], none⟩,
 ⟨some 6, .mv (.t 0), none⟩,
 ⟨some 7, .app 2 16 (.t 5) (.t 6), none⟩,
 ⟨some 2, .mv (.t 7), none⟩]) <|
 .ret⟩

def f100 : DFn := ⟨2, [.t 4],
 .seq (.reg [
 ⟨some 4, .mv (.k (.bool false)), none⟩]) <|
 .seq (.reg [
 ⟨some 5, .mv (.t 0), none⟩,
 ⟨some 6, .mv (.t 1), none⟩,
 ⟨some 7, .mkI 3 (.t 6), none⟩,
 ⟨some 8, .call .eff 123 [(.t 5), (.t 7)], none⟩,
 ⟨some 4, .mv (.t 8), none⟩]) <|
 .ret⟩

def f101 : DFn := ⟨2, [.t 4],
 .seq (.reg [
 ⟨some 4, .mv (.k (.bool false)), none⟩]) <|
 .seq (.reg [
 ⟨some 5, .mv (.t 0), none⟩,
 ⟨some 6, .mv (.t 1), none⟩,
 ⟨some 7, .mkI 9 (.t 6), none⟩,
 ⟨some 8, .call .eff 123 [(.t 5), (.t 7)], none⟩,
 ⟨some 4, .mv (.t 8), none⟩]) <|
 .ret⟩

def f102 : DFn := ⟨2, [.t 4],
 .seq (.reg [
 ⟨some 4, .mv (.k (.bool false)), none⟩]) <|
 .seq (.reg [
 ⟨some 5, .mv (.t 0), none⟩,
 ⟨some 6, .mv (.t 1), none⟩,
 ⟨some 7, .mkI 4 (.t 6), none⟩,
 ⟨some 8, .call .eff 123 [(.t 5), (.t 7)], none⟩,
 ⟨some 4, .mv (.t 8), none⟩]) <|
 .ret⟩

def f103 : DFn := ⟨3, [.t 6, .t 7],
 .seq (.reg [
 ⟨some 6, .mv (.k (.nils)), none⟩,
 ⟨some 7, .mv (.k (.bool false)), none⟩]) <|
 .seq (.seq (.reg [
 ⟨some 15, .mv (.t 1), none⟩,
 ⟨some 16, .mv (.t 2), none⟩,
 ⟨some 17, .call .ro 79 [(.t 15), (.t 16)], none⟩,
 ⟨some 14, .mv (.t 17), none⟩,
 ⟨some 18, .ext 0 (.t 14), none⟩,
 ⟨some 19, .ext 1 (.t 14), none⟩,
 ⟨some 8, .mv (.t 18), none⟩,
 ⟨some 9, .mv (.t 19), none⟩]) <|
 .seq (.reg [
 ⟨some 20, .mv (.t 9), none⟩]) <|
 .cond (.t 20)
 (.seq (.reg [
 ⟨some 21, .mv (.t 0), none⟩,
 ⟨some 22, .bsl false 1 [.int .u8 0] 1 [(0, (.k (.int .u8 1)))], none⟩,
 ⟨some 23, .app 1 1 (.t 21) (.t 22), none⟩,
 ⟨some 24, .mv (.t 8), none⟩,
 ⟨some 25, .cvI .u64 (.t 24), none⟩,
 ⟨some 26, .call .eff 104 [(.t 23), (.t 25), (.k (.int .i64 8))], none⟩,
 ⟨some 6, .mv (.t 26), none⟩,
 ⟨some 7, .mv (.k (.bool true)), none⟩]) <|
 .ret)
 (.skip)) <|
 .seq (.seq (.reg [
 ⟨some 28, .mv (.t 1), none⟩,
 ⟨some 29, .mv (.t 2), none⟩,
 ⟨some 30, .call .ro 80 [(.t 28), (.t 29)], none⟩,
 ⟨some 27, .mv (.t 30), none⟩,
 ⟨some 31, .ext 0 (.t 27), none⟩,
 ⟨some 32, .ext 1 (.t 27), none⟩,
 ⟨some 10, .mv (.t 31), none⟩,
 ⟨some 11, .mv (.t 32), none⟩]) <|
 .seq (.reg [
 ⟨some 33, .mv (.t 11), none⟩]) <|
 .cond (.t 33)
 (.seq (.reg [
 ⟨some 34, .mv (.t 0), none⟩,
 ⟨some 35, .mv (.t 10), none⟩,
 ⟨some 36, .lenS (.t 35), none⟩,
 ⟨some 37, .cvI .u8 (.t 36), none⟩,
 ⟨some 38, .bsl false 1 [.int .u8 0] 2 [(0, (.k (.int .u8 2))), (1, (.t 37))], none⟩,
 ⟨some 39, .app 1 1 (.t 34) (.t 38), none⟩,
 ⟨some 40, .mv (.t 10), none⟩,
 ⟨some 41, .app 1 1 (.t 39) (.t 40), none⟩,
 ⟨some 42, .mv (.t 10), none⟩,
 ⟨some 43, .lenS (.t 42), none⟩,
 ⟨some 44, .bin .leq .sc (.t 43) (.k (.int .i64 200)), none⟩,
 ⟨some 6, .mv (.t 41), none⟩,
 ⟨some 7, .mv (.t 44), none⟩]) <|
 .ret)
 (.skip)) <|
 .seq (.reg [
 ⟨some 46, .mv (.t 1), none⟩,
 ⟨some 47, .mv (.t 2), none⟩,
 ⟨some 48, .call .ro 124 [(.t 46), (.t 47)], none⟩,
 ⟨some 45, .mv (.t 48), none⟩,
 ⟨some 49, .ext 0 (.t 45), none⟩,
 ⟨some 50, .ext 1 (.t 45), none⟩,
 ⟨some 12, .mv (.t 49), none⟩,
 ⟨some 13, .mv (.t 50), none⟩]) <|
 .seq (.reg [
 ⟨some 51, .mv (.t 0), none⟩,
 ⟨some 52, .mv (.t 12), none⟩,
 ⟨some 53, .call .blind 125 [(.t 52)], none⟩,
 ⟨some 54, .bsl false 1 [.int .u8 0] 2 [(0, (.k (.int .u8 3))), (1, (.t 53))], none⟩,
 ⟨some 55, .app 1 1 (.t 51) (.t 54), none⟩,
 ⟨some 6, .mv (.t 55), none⟩,
 ⟨some 7, .mv (.k (.bool true)), none⟩]) <|
 .ret⟩

def l104_0b : DC :=
 .seq (.reg [
 ⟨some 10, .bin .lss .sc (.t 9) (.t 8), none⟩]) <|
 .seq (.cond (.t 10)
 (.skip)
 (.exit 0)) <|
 .seq (.block 1 <|
 .seq (.reg [
 ⟨some 11, .mv (.t 9), none⟩,
 ⟨some 7, .mv (.t 11), none⟩]) <|
 .reg [
 ⟨some 12, .mv (.t 0), none⟩,
 ⟨some 13, .mv (.t 1), none⟩,
 ⟨some 14, .mv (.t 2), none⟩,
 ⟨some 15, .bin .sub .sc (.t 14) (.k (.int .i64 1)), none⟩,
 ⟨some 16, .mv (.t 7), none⟩,
 ⟨some 17, .bin .sub .sc (.t 15) (.t 16), none⟩,
 ⟨some 18, .bin .mul .sc (.k (.int .i64 8)) (.t 17), none⟩,
 ⟨some 19, .bin .shr .sc (.t 13) (.t 18), none⟩,
 ⟨some 20, .cvI .u8 (.t 19), none⟩,
 ⟨some 21, .bsl false 1 [.int .u8 0] 1 [(0, (.t 20))], none⟩,
 ⟨some 22, .app 1 1 (.t 12) (.t 21), none⟩,
 ⟨some 0, .mv (.t 22), none⟩]) <|
 .reg [
 ⟨some 23, .bin .add .sc (.t 9) (.k (.int .i64 1)), none⟩,
 ⟨some 9, .mv (.t 23), none⟩]
def l104_0 : DC := .loop [0, 1, 2, 8, 9] [] l104_0b
def f104 : DFn := ⟨3, [.t 6],
 .seq (.reg [
 ⟨some 6, .mv (.k (.nils)), none⟩]) <|
 .seq (.seq (.reg [
 ⟨some 8, .mv (.t 2), none⟩,
 ⟨some 9, .mv (.k (.int .i64 0)), none⟩]) <|
 .block 0 <|
 l104_0) <|
 .seq (.reg [
 ⟨some 24, .mv (.t 0), none⟩,
 ⟨some 6, .mv (.t 24), none⟩]) <|
 .ret⟩

def l105_1b : DC :=
 .seq (.reg [
 ⟨some 17, .bin .lss .sc (.t 16) (.t 15), none⟩]) <|
 .seq (.cond (.t 17)
 (.skip)
 (.exit 2)) <|
 .seq (.block 3 <|
 .seq (.reg [
 ⟨some 18, .idx 1 (.t 14) (.t 16), none⟩,
 ⟨some 19, .ld 1 false (.t 18), none⟩,
 ⟨some 7, .mv (.t 19), none⟩]) <|
 .reg [
 ⟨some 20, .mv (.t 3), none⟩,
 ⟨some 21, .mv (.t 7), none⟩,
 ⟨some 22, .call .blind 126 [(.t 20), (.t 21)], none⟩,
 ⟨some 3, .mv (.t 22), none⟩]) <|
 .reg [
 ⟨some 23, .bin .add .sc (.t 16) (.k (.int .i64 1)), none⟩,
 ⟨some 16, .mv (.t 23), none⟩]
def l105_1 : DC := .loop [3, 8, 9, 10, 14, 15, 16] [] l105_1b
def l105_0b : DC :=
 .seq (.reg [
 ⟨some 11, .bin .lss .sc (.t 10) (.t 9), none⟩]) <|
 .seq (.cond (.t 11)
 (.skip)
 (.exit 0)) <|
 .seq (.block 1 <|
 .seq (.reg [
 ⟨some 12, .idx 1 (.t 8) (.t 10), none⟩,
 ⟨some 13, .ld 1 false (.t 12), none⟩,
 ⟨some 5, .mv (.t 13), none⟩]) <|
 .seq (.reg [
 ⟨some 14, .mv (.t 5), none⟩,
 ⟨some 15, .len (.t 14), none⟩,
 ⟨some 16, .mv (.k (.int .i64 0)), none⟩]) <|
 .block 2 <|
 l105_1) <|
 .reg [
 ⟨some 24, .bin .add .sc (.t 10) (.k (.int .i64 1)), none⟩,
 ⟨some 10, .mv (.t 24), none⟩]
def l105_0 : DC := .loop [3, 8, 9, 10] [] l105_0b
def f105 : DFn := ⟨1, [.t 2],
 .seq (.reg [
 ⟨some 2, .mv (.k (.int .u32 0)), none⟩]) <|
 .seq (.reg [
 ⟨some 3, .mv (.k (.int .u32 4294967295)), none⟩]) <|
 .seq (.seq (.reg [
 ⟨some 8, .mv (.t 0), none⟩,
 ⟨some 9, .len (.t 8), none⟩,
 ⟨some 10, .mv (.k (.int .i64 0)), none⟩]) <|
 .block 0 <|
 l105_0) <|
 .seq (.reg [
 ⟨some 25, .mv (.t 3), none⟩,
 ⟨some 26, .un .xor (.t 25), none⟩,
 ⟨some 2, .mv (.t 26), none⟩]) <|
 .ret⟩

def f106 : DFn := ⟨1, [.t 2],
 .seq (.reg [
 ⟨some 2, .mv (.k (.nils)), none⟩]) <|
 .seq (.seq (.reg [
 ⟨some 3, .mv (.t 0), none⟩,
 ⟨some 4, .bin .eql .np (.t 3) (.k (.nilp)), none⟩]) <|
 .cond (.t 4)
 (.seq (.reg [
 ⟨some 2, .mv (.k (.nils)), none⟩]) <|
 .ret)
 (.skip)) <|
 .seq (.reg [
 ⟨some 5, .mv (.t 0), none⟩,
 ⟨some 6, .nilck (.t 5), none⟩,
 ⟨some 7, .fld 0 (.t 6), none⟩,
 ⟨some 8, .ld 1 false (.t 7), none⟩,
 ⟨some 2, .mv (.t 8), none⟩]) <|
 .ret⟩

def f107 : DFn := ⟨2, [.t 4],
 .seq (.reg [
 ⟨some 4, .mv (.k (.nili)), none⟩]) <|
 .seq (.seq (.reg [
 ⟨some 6, .mv (.t 0), none⟩,
 ⟨some 7, .call .ro 106 [(.t 6)], none⟩,
 ⟨some 5, .mv (.t 7), none⟩]) <|
 .seq (.reg [
 ⟨some 8, .mv (.t 1), none⟩,
 ⟨some 9, .bin .geq .sc (.t 8) (.k (.int .i64 0)), none⟩,
 ⟨some 10, .mv (.t 9), none⟩,
 ⟨some 11, .mv (.t 1), some (10, true)⟩,
 ⟨some 12, .mv (.t 5), some (10, true)⟩,
 ⟨some 13, .len (.t 12), some (10, true)⟩,
 ⟨some 14, .bin .lss .sc (.t 11) (.t 13), some (10, true)⟩,
 ⟨some 15, .pick (.t 10) (.t 14) (.k (.bool false)), none⟩]) <|
 .cond (.t 15)
 (.seq (.reg [
 ⟨some 16, .mv (.t 5), none⟩,
 ⟨some 17, .mv (.t 1), none⟩,
 ⟨some 18, .idx 1 (.t 16) (.t 17), none⟩,
 ⟨some 19, .ld 1 false (.t 18), none⟩,
 ⟨some 4, .mv (.t 19), none⟩]) <|
 .ret)
 (.skip)) <|
 .seq (.reg [
 ⟨some 4, .mv (.k (.nili)), none⟩]) <|
 .ret⟩

def f108 : DFn := ⟨2, [.t 4],
 .seq (.reg [
 ⟨some 2, .boxH (.t 0), none⟩,
 ⟨some 3, .boxH (.t 1), none⟩,
 ⟨some 4, .mv (.k (.nilf)), none⟩]) <|
 .seq (.seq (.reg [
 ⟨some 5, .ld 1 false (.t 3), none⟩,
 ⟨some 6, .bin .lss .sc (.t 5) (.k (.int .i64 1)), none⟩]) <|
 .cond (.t 6)
 (.reg [
 ⟨some 7, .mkI 9 (.k (.str [99, 97, 110, 110, 111, 116, 32, 98, 101, 32, 108, 101, 115, 115, 32, 116, 104, 97, 110, 32, 49])), none⟩,
 ⟨none, .nilck (.k .nilp), none⟩])
 (.skip)) <|
 .seq (.reg [
 ⟨some 8, .mkF 127 [(.t 2), (.t 3)], none⟩,
 ⟨some 4, .mv (.t 8), none⟩]) <|
 .ret⟩

def f109 : DFn := ⟨2, [.t 4],
 .seq (.reg [
 ⟨some 4, .mv (.k (.bool false)), none⟩]) <|
 .seq (.reg [
 ⟨some 5, .mv (.t 0), none⟩,
 ⟨some 6, .mv (.t 1), none⟩,
 ⟨some 7, .call .ro 128 [(.t 5), (.t 6)], none⟩,
 ⟨some 8, .bin .geq .sc (.t 7) (.k (.int .i64 0)), none⟩,
 ⟨some 4, .mv (.t 8), none⟩]) <|
 .ret⟩

def f110 : DFn := ⟨2, [.t 3],
 .seq (.reg [
 ⟨some 3, .mv (.k (.bool false)), none⟩]) <|
 .seq (.reg [
 ⟨some 4, .fld 3 (.t 1), none⟩,
 ⟨some 5, .ld 1 false (.t 4), none⟩,
 ⟨some 6, .mv (.t 0), none⟩,
 ⟨some 7, .call .blind 111 [(.t 5), (.t 6)], none⟩,
 ⟨some 3, .mv (.t 7), none⟩]) <|
 .ret⟩

def f111 : DFn := ⟨2, [.t 4],
 .seq (.reg [
 ⟨some 4, .mv (.k (.bool false)), none⟩]) <|
 .seq (.reg [
 ⟨some 5, .mv (.t 0), none⟩,
 ⟨some 6, .mv (.t 1), none⟩,
 ⟨some 7, .call .blind 129 [(.t 5), (.t 6)], none⟩,
 ⟨some 8, .bin .geq .sc (.t 7) (.k (.int .i64 0)), none⟩,
 ⟨some 4, .mv (.t 8), none⟩]) <|
 .ret⟩

def f112 : DFn := ⟨2, [.t 4],
 .seq (.reg [
 ⟨some 4, .mv (.k (.bool false)), none⟩]) <|
 .seq (.reg [
 ⟨some 5, .mv (.t 0), none⟩,
 ⟨some 6, .mv (.t 1), none⟩,
 ⟨some 7, .call .ro 130 [(.t 5), (.t 6)], none⟩,
 ⟨some 8, .bin .geq .sc (.t 7) (.k (.int .i64 0)), none⟩,
 ⟨some 4, .mv (.t 8), none⟩]) <|
 .ret⟩

def f113 : DFn := ⟨2, [.t 4],
 .seq (.reg [
 ⟨some 2, .boxL (.t 0), none⟩,
 ⟨some 4, .mv (.k (.nils)), none⟩]) <|
 .seq (.drw [
 ⟨some 5, .fld 3 (.t 2), none⟩,
 ⟨some 6, .ld 1 false (.t 5), none⟩,
 ⟨some 7, .mv (.t 1), none⟩,
 ⟨some 8, .idx 6 (.t 6) (.t 7), none⟩,
 ⟨some 9, .fld 4 (.t 8), none⟩,
 ⟨some 10, .ld 1 false (.t 9), none⟩,
 ⟨some 11, .fld 3 (.t 2), none⟩,
 ⟨some 12, .ld 1 false (.t 11), none⟩,
 ⟨some 13, .mv (.t 1), none⟩,
 ⟨some 14, .idx 6 (.t 12) (.t 13), none⟩,
 ⟨some 15, .fld 5 (.t 14), none⟩,
 ⟨some 16, .ld 1 false (.t 15), none⟩,
 ⟨some 17, .bsl false 1 [.nils] 2 [(0, (.t 10)), (1, (.t 16))], none⟩,
 ⟨some 18, .call .blind 131 [(.t 17)], none⟩,
 ⟨some 4, .mv (.t 18), none⟩] [[], [], [], [1], [], [1, 3], [], [], [], [7], [], [7, 9], [1, 3, 5, 7, 9, 11], [1, 3, 5, 7, 9, 11, 12], []]) <|
 .ret⟩

def f114 : DFn := ⟨3, [.t 4],
 .seq (.reg [
 ⟨some 3, .boxL (.t 0), none⟩,
 ⟨some 4, .mv (.k (.bool false)), none⟩]) <|
 .seq (.drw [
 ⟨some 5, .ld 4 true (.t 1), none⟩,
 ⟨some 6, .ld 1 false (.t 2), none⟩,
 ⟨some 7, .call .blind 113 [(.t 5), (.t 6)], none⟩,
 ⟨some 8, .fld 0 (.t 3), none⟩,
 ⟨some 9, .ld 1 false (.t 8), none⟩,
 ⟨some 10, .fld 1 (.t 3), none⟩,
 ⟨some 11, .ld 1 false (.t 10), none⟩,
 ⟨some 12, .un .not (.t 11), none⟩,
 ⟨some 13, .build [.int .i64 0, .bool false] [(0, 1, (.t 9)), (1, 1, (.t 12))], none⟩,
 ⟨some 14, .call .blind 115 [(.t 7), (.t 13)], none⟩,
 ⟨some 4, .mv (.t 14), none⟩] [[], [], [0, 1], [], [], [], [], [], [], [0, 1, 2, 4, 6], []]) <|
 .ret⟩

def f115 : DFn := ⟨2, [.t 4],
 .seq (.reg [
 ⟨some 3, .boxL (.t 1), none⟩,
 ⟨some 4, .mv (.k (.bool false)), none⟩]) <|
 .seq (.reg [
 ⟨some 5, .mv (.t 0), none⟩,
 ⟨some 6, .ld 2 true (.t 3), none⟩,
 ⟨some 7, .call .blind 132 [(.t 5), (.t 6)], none⟩,
 ⟨some 8, .bin .geq .sc (.t 7) (.k (.int .i64 0)), none⟩,
 ⟨some 4, .mv (.t 8), none⟩]) <|
 .ret⟩

def f116 : DFn := ⟨3, [.t 6],
 .seq (.reg [
 ⟨some 4, .boxL (.t 1), none⟩,
 ⟨some 5, .boxL (.t 2), none⟩,
 ⟨some 6, .mv (.k (.int .i64 0)), none⟩]) <|
 .seq (.block 0 <|
 .seq (.drw [
 ⟨some 8, .mv (.t 0), none⟩,
 ⟨some 9, .bin .eql .np (.t 8) (.k (.nilp)), none⟩,
 ⟨some 10, .mv (.t 9), none⟩,
 ⟨some 11, .mv (.t 0), some (10, false)⟩,
 ⟨some 12, .nilck (.t 11), some (10, false)⟩,
 ⟨some 13, .fld 0 (.t 12), some (10, false)⟩,
 ⟨some 14, .ld 4 true (.t 13), some (10, false)⟩,
 ⟨some 15, .ld 2 true (.t 4), some (10, false)⟩,
 ⟨some 16, .call .blind 133 [(.t 14), (.t 15)], some (10, false)⟩,
 ⟨some 17, .un .not (.t 16), some (10, false)⟩,
 ⟨some 18, .pick (.t 10) (.k (.bool true)) (.t 17), none⟩,
 ⟨some 19, .mv (.t 18), none⟩,
 ⟨some 20, .fld 0 (.t 5), some (19, false)⟩,
 ⟨some 21, .ld 1 false (.t 20), some (19, false)⟩,
 ⟨some 22, .bin .neq .sc (.t 21) (.k (.int .i64 1)), some (19, false)⟩,
 ⟨some 23, .mv (.t 22), some (19, false)⟩,
 ⟨some 24, .fld 0 (.t 5), some (23, true)⟩,
 ⟨some 25, .ld 1 false (.t 24), some (23, true)⟩,
 ⟨some 26, .bin .neq .sc (.t 25) (.k (.int .i64 2)), some (23, true)⟩,
 ⟨some 27, .pick (.t 23) (.t 26) (.k (.bool false)), some (19, false)⟩,
 ⟨some 28, .pick (.t 19) (.k (.bool true)) (.t 27), none⟩,
 ⟨some 7, .mv (.t 28), none⟩] [[], [], [], [], [], [], [], [], [6, 7], [], [], [], [], [6, 7, 8], [], [], [], [6, 7, 8, 13], [], [], [], []]) <|
 .cond (.t 7)
 (.seq (.reg [
 ⟨some 6, .mv (.k (.int .i64 1)), none⟩]) <|
 .ret)
 (.seq (.drw [
 ⟨some 30, .fld 1 (.t 5), none⟩,
 ⟨some 31, .ld 1 false (.t 30), none⟩,
 ⟨some 32, .bin .lss .sc (.t 31) (.k (.int .i64 0)), none⟩,
 ⟨some 33, .mv (.t 32), none⟩,
 ⟨some 34, .fld 1 (.t 5), some (33, false)⟩,
 ⟨some 35, .ld 1 false (.t 34), some (33, false)⟩,
 ⟨some 36, .mv (.t 0), some (33, false)⟩,
 ⟨some 37, .nilck (.t 36), some (33, false)⟩,
 ⟨some 38, .fld 4 (.t 37), some (33, false)⟩,
 ⟨some 39, .ld 1 false (.t 38), some (33, false)⟩,
 ⟨some 40, .len (.t 39), some (33, false)⟩,
 ⟨some 41, .bin .geq .sc (.t 35) (.t 40), some (33, false)⟩,
 ⟨some 42, .pick (.t 33) (.k (.bool true)) (.t 41), none⟩,
 ⟨some 29, .mv (.t 42), none⟩] [[], [], [], [], [], [1], [], [], [], [1], [], [], [], []]) <|
 .cond (.t 29)
 (.seq (.reg [
 ⟨some 6, .mv (.k (.int .i64 5)), none⟩]) <|
 .ret)
 (.seq (.reg [
 ⟨some 44, .fld 0 (.t 5), none⟩,
 ⟨some 45, .ld 1 false (.t 44), none⟩,
 ⟨some 46, .bin .eql .sc (.t 45) (.k (.int .i64 1)), none⟩,
 ⟨some 43, .mv (.t 46), none⟩]) <|
 .cond (.t 43)
 (.seq (.reg [
 ⟨some 47, .mv (.t 0), none⟩,
 ⟨some 48, .ld 2 true (.t 4), none⟩,
 ⟨some 49, .fld 1 (.t 5), none⟩,
 ⟨some 50, .ld 1 false (.t 49), none⟩,
 ⟨some 51, .call .eff 134 [(.t 47), (.t 48), (.t 50)], none⟩,
 ⟨some 6, .mv (.t 51), none⟩]) <|
 .ret)
 (.skip)))) <|
 .seq (.reg [
 ⟨some 52, .mv (.t 0), none⟩,
 ⟨some 53, .fld 1 (.t 5), none⟩,
 ⟨some 54, .ld 1 false (.t 53), none⟩,
 ⟨some 55, .call .eff 135 [(.t 52), (.t 54)], none⟩,
 ⟨some 6, .mv (.t 55), none⟩]) <|
 .ret⟩

def l117_1b : DC :=
 .seq (.reg [
 ⟨some 53, .bin .lss .sc (.t 52) (.t 51), none⟩]) <|
 .seq (.cond (.t 53)
 (.skip)
 (.exit 2)) <|
 .seq (.block 3 <|
 .seq (.reg [
 ⟨some 54, .mv (.t 52), none⟩,
 ⟨some 55, .idx 4 (.t 50) (.t 52), none⟩,
 ⟨some 56, .ld 4 true (.t 55), none⟩,
 ⟨some 8, .alL [.int .i64 0, .int .i64 0, .int .i64 0, .bool false], none⟩,
 ⟨some 7, .mv (.t 54), none⟩,
 ⟨none, .st 4 (.t 8) (.t 56), none⟩]) <|
 .seq (.reg [
 ⟨some 57, .mv (.t 0), none⟩,
 ⟨some 58, .nilck (.t 57), none⟩,
 ⟨some 59, .fld 0 (.t 58), none⟩,
 ⟨some 60, .fld 3 (.t 59), none⟩,
 ⟨some 61, .ld 1 false (.t 60), none⟩,
 ⟨some 62, .mv (.t 7), none⟩,
 ⟨some 63, .idx 6 (.t 61) (.t 62), none⟩,
 ⟨some 64, .ld 6 true (.t 63), none⟩,
 ⟨some 9, .alL [.str [], .int .i64 0, .int .i64 0, .nils, .nils, .nils], none⟩,
 ⟨none, .st 6 (.t 9) (.t 64), none⟩]) <|
 .seq (.reg [
 ⟨some 65, .fld 0 (.t 8), none⟩,
 ⟨some 66, .ld 1 false (.t 65), none⟩,
 ⟨some 67, .bin .eql .sc (.t 66) (.k (.int .i64 2)), none⟩,
 ⟨some 68, .mv (.t 67), none⟩,
 ⟨some 69, .ld 2 true (.t 3), some (68, true)⟩,
 ⟨some 70, .fld 3 (.t 9), some (68, true)⟩,
 ⟨some 71, .ld 1 false (.t 70), some (68, true)⟩,
 ⟨some 72, .call .blind 138 [(.t 69), (.t 71)], some (68, true)⟩,
 ⟨some 73, .un .not (.t 72), some (68, true)⟩,
 ⟨some 74, .pick (.t 68) (.t 73) (.k (.bool false)), none⟩,
 ⟨some 75, .mv (.t 74), none⟩,
 ⟨some 76, .mv (.t 0), some (75, true)⟩,
 ⟨some 77, .ld 2 true (.t 3), some (75, true)⟩,
 ⟨some 78, .mv (.t 7), some (75, true)⟩,
 ⟨some 79, .call .ro 139 [(.t 76), (.t 77), (.t 78)], some (75, true)⟩,
 ⟨some 80, .pick (.t 75) (.t 79) (.k (.bool false)), none⟩]) <|
 .cond (.t 80)
 (.reg [
 ⟨some 81, .fld 1 (.t 5), none⟩,
 ⟨some 82, .ld 1 false (.t 81), none⟩,
 ⟨some 83, .fld 1 (.t 9), none⟩,
 ⟨some 84, .ld 1 false (.t 83), none⟩,
 ⟨some 85, .idx 1 (.t 82) (.t 84), none⟩,
 ⟨none, .st 1 (.t 85) (.k (.bool true)), none⟩])
 (.skip)) <|
 .reg [
 ⟨some 86, .bin .add .sc (.t 52) (.k (.int .i64 1)), none⟩,
 ⟨some 52, .mv (.t 86), none⟩]
def l117_1 : DC := .loop [0, 3, 4, 5, 50, 51, 52] [3, 4, 5] l117_1b
def l117_0b : DC :=
 .seq (.reg [
 ⟨some 30, .bin .lss .sc (.t 29) (.t 28), none⟩]) <|
 .seq (.cond (.t 30)
 (.skip)
 (.exit 0)) <|
 .seq (.block 1 <|
 .seq (.reg [
 ⟨some 31, .mv (.t 29), none⟩,
 ⟨some 6, .mv (.t 31), none⟩]) <|
 .drw [
 ⟨some 32, .mv (.t 0), none⟩,
 ⟨some 33, .nilck (.t 32), none⟩,
 ⟨some 34, .fld 4 (.t 33), none⟩,
 ⟨some 35, .ld 1 false (.t 34), none⟩,
 ⟨some 36, .mv (.t 6), none⟩,
 ⟨some 37, .mv (.t 0), none⟩,
 ⟨some 38, .ld 2 true (.t 3), none⟩,
 ⟨some 39, .mv (.t 6), none⟩,
 ⟨some 40, .call .ro 136 [(.t 37), (.t 38), (.t 39)], none⟩,
 ⟨some 41, .idx 4 (.t 35) (.t 36), none⟩,
 ⟨none, .st 4 (.t 41) (.t 40), none⟩] [[], [], [], [], [], [], [], [], [6], [3, 6, 8], [3, 6, 8, 9]]) <|
 .reg [
 ⟨some 42, .bin .add .sc (.t 29) (.k (.int .i64 1)), none⟩,
 ⟨some 29, .mv (.t 42), none⟩]
def l117_0 : DC := .loop [0, 3, 4, 5, 28, 29] [3, 4, 5] l117_0b
def f117 : DFn := ⟨2, [.cell 4 2 true],
 .seq (.reg [
 ⟨some 3, .boxL (.t 1), none⟩,
 ⟨some 4, .alL [.nils, .nils], none⟩]) <|
 .seq (.reg [
 ⟨some 10, .mv (.t 0), none⟩,
 ⟨some 11, .call .eff 60 [(.t 10)], none⟩,
 ⟨some 5, .alL [.nils, .nils], none⟩,
 ⟨none, .st 2 (.t 5) (.t 11), none⟩]) <|
 .seq (.seq (.drw [
 ⟨some 12, .mv (.t 0), none⟩,
 ⟨some 13, .bin .eql .np (.t 12) (.k (.nilp)), none⟩,
 ⟨some 14, .mv (.t 13), none⟩,
 ⟨some 15, .mv (.t 0), some (14, false)⟩,
 ⟨some 16, .nilck (.t 15), some (14, false)⟩,
 ⟨some 17, .fld 0 (.t 16), some (14, false)⟩,
 ⟨some 18, .ld 4 true (.t 17), some (14, false)⟩,
 ⟨some 19, .ld 2 true (.t 3), some (14, false)⟩,
 ⟨some 20, .call .blind 133 [(.t 18), (.t 19)], some (14, false)⟩,
 ⟨some 21, .un .not (.t 20), some (14, false)⟩,
 ⟨some 22, .pick (.t 14) (.k (.bool true)) (.t 21), none⟩] [[], [], [], [], [], [], [], [], [6, 7], [], []]) <|
 .cond (.t 22)
 (.seq (.reg [
 ⟨some 23, .ld 2 true (.t 5), none⟩,
 ⟨none, .st 2 (.t 4) (.t 23), none⟩]) <|
 .ret)
 (.skip)) <|
 .seq (.seq (.reg [
 ⟨some 24, .mv (.t 0), none⟩,
 ⟨some 25, .nilck (.t 24), none⟩,
 ⟨some 26, .fld 4 (.t 25), none⟩,
 ⟨some 27, .ld 1 false (.t 26), none⟩,
 ⟨some 28, .len (.t 27), none⟩,
 ⟨some 29, .mv (.k (.int .i64 0)), none⟩]) <|
 .block 0 <|
 l117_0) <|
 .seq (.reg [
 ⟨some 43, .mv (.t 0), none⟩,
 ⟨some 44, .ld 2 true (.t 3), none⟩,
 ⟨some 45, .ld 2 true (.t 5), none⟩,
 ⟨some 46, .call .eff 137 [(.t 43), (.t 44), (.t 45)], none⟩]) <|
 .seq (.seq (.reg [
 ⟨some 47, .mv (.t 0), none⟩,
 ⟨some 48, .nilck (.t 47), none⟩,
 ⟨some 49, .fld 4 (.t 48), none⟩,
 ⟨some 50, .ld 1 false (.t 49), none⟩,
 ⟨some 51, .len (.t 50), none⟩,
 ⟨some 52, .mv (.k (.int .i64 0)), none⟩]) <|
 .block 2 <|
 l117_1) <|
 .seq (.reg [
 ⟨some 87, .ld 2 true (.t 5), none⟩,
 ⟨none, .st 2 (.t 4) (.t 87), none⟩]) <|
 .ret⟩

def l118_0b : DC :=
 .seq (.reg [
 ⟨some 9, .bin .lss .sc (.t 8) (.t 7), none⟩]) <|
 .seq (.cond (.t 9)
 (.skip)
 (.exit 0)) <|
 .seq (.block 1 <|
 .seq (.reg [
 ⟨some 10, .idx 4 (.t 6) (.t 8), none⟩,
 ⟨some 11, .ld 4 true (.t 10), none⟩,
 ⟨some 5, .alL [.int .i64 0, .int .i64 0, .int .i64 0, .bool false], none⟩,
 ⟨none, .st 4 (.t 5) (.t 11), none⟩]) <|
 .drw [
 ⟨some 12, .mv (.t 3), none⟩,
 ⟨some 13, .fld 0 (.t 5), none⟩,
 ⟨some 14, .ld 1 false (.t 13), none⟩,
 ⟨some 15, .fld 1 (.t 5), none⟩,
 ⟨some 16, .ld 1 false (.t 15), none⟩,
 ⟨some 17, .fld 2 (.t 5), none⟩,
 ⟨some 18, .ld 1 false (.t 17), none⟩,
 ⟨some 19, .fld 3 (.t 5), none⟩,
 ⟨some 20, .ld 1 false (.t 19), none⟩,
 ⟨some 21, .call .blind 140 [(.t 20)], none⟩,
 ⟨some 22, .bsl false 1 [.int .i64 0] 4 [(0, (.t 14)), (1, (.t 16)), (2, (.t 18)), (3, (.t 21))], none⟩,
 ⟨some 23, .app 1 8 (.t 12) (.t 22), none⟩,
 ⟨some 3, .mv (.t 23), none⟩] [[], [], [], [], [], [], [], [], [], [8], [2, 4, 6, 8, 9], [2, 4, 6, 8, 9, 10], []]) <|
 .reg [
 ⟨some 24, .bin .add .sc (.t 8) (.k (.int .i64 1)), none⟩,
 ⟨some 8, .mv (.t 24), none⟩]
def l118_0 : DC := .loop [3, 6, 7, 8] [] l118_0b
def f118 : DFn := ⟨1, [.t 2],
 .seq (.reg [
 ⟨some 2, .mv (.k (.nils)), none⟩]) <|
 .seq (.reg [
 ⟨some 3, .mv (.k (.nils)), none⟩]) <|
 .seq (.seq (.reg [
 ⟨some 6, .mv (.t 0), none⟩,
 ⟨some 7, .len (.t 6), none⟩,
 ⟨some 8, .mv (.k (.int .i64 0)), none⟩]) <|
 .block 0 <|
 l118_0) <|
 .seq (.reg [
 ⟨some 25, .mv (.t 3), none⟩,
 ⟨some 2, .mv (.t 25), none⟩]) <|
 .ret⟩

def l119_0b : DC :=
 .seq (.reg [
 ⟨some 10, .bin .lss .sc (.t 9) (.t 8), none⟩]) <|
 .seq (.cond (.t 10)
 (.skip)
 (.exit 0)) <|
 .seq (.block 1 <|
 .seq (.reg [
 ⟨some 11, .mv (.t 9), none⟩,
 ⟨some 12, .idx 1 (.t 7) (.t 9), none⟩,
 ⟨some 13, .ld 1 false (.t 12), none⟩,
 ⟨some 5, .mv (.t 11), none⟩,
 ⟨some 6, .mv (.t 13), none⟩]) <|
 .seq (.reg [
 ⟨some 14, .mv (.t 6), none⟩,
 ⟨some 15, .fld 0 (.t 2), none⟩,
 ⟨some 16, .ld 1 false (.t 15), none⟩,
 ⟨some 17, .len (.t 16), none⟩,
 ⟨some 18, .bin .sub .sc (.t 17) (.k (.int .i64 1)), none⟩,
 ⟨some 19, .call .blind 92 [(.t 14), (.k (.int .i64 0)), (.t 18)], none⟩,
 ⟨some 20, .un .not (.t 19), none⟩,
 ⟨some 21, .mv (.t 20), none⟩,
 ⟨some 22, .mv (.t 1), some (21, false)⟩,
 ⟨some 23, .mv (.t 5), some (21, false)⟩,
 ⟨some 24, .slc 1 (.t 22) none (some (.t 23)) none, some (21, false)⟩,
 ⟨some 25, .mv (.t 6), some (21, false)⟩,
 ⟨some 26, .call .blind 111 [(.t 24), (.t 25)], some (21, false)⟩,
 ⟨some 27, .pick (.t 21) (.k (.bool true)) (.t 26), none⟩]) <|
 .cond (.t 27)
 (.seq (.reg [
 ⟨some 4, .mv (.k (.bool false)), none⟩]) <|
 .ret)
 (.skip)) <|
 .reg [
 ⟨some 28, .bin .add .sc (.t 9) (.k (.int .i64 1)), none⟩,
 ⟨some 9, .mv (.t 28), none⟩]
def l119_0 : DC := .loop [1, 2, 7, 8, 9] [2] l119_0b
def f119 : DFn := ⟨2, [.t 4],
 .seq (.reg [
 ⟨some 2, .boxL (.t 0), none⟩,
 ⟨some 4, .mv (.k (.bool false)), none⟩]) <|
 .seq (.seq (.reg [
 ⟨some 7, .mv (.t 1), none⟩,
 ⟨some 8, .len (.t 7), none⟩,
 ⟨some 9, .mv (.k (.int .i64 0)), none⟩]) <|
 .block 0 <|
 l119_0) <|
 .seq (.reg [
 ⟨some 29, .mv (.t 1), none⟩,
 ⟨some 30, .len (.t 29), none⟩,
 ⟨some 31, .call .blind 92 [(.t 30), (.k (.int .i64 1)), (.k (.int .i64 5))], none⟩,
 ⟨some 4, .mv (.t 31), none⟩]) <|
 .ret⟩

def l120_0b : DC :=
 .seq (.reg [
 ⟨some 14, .bin .lss .sc (.t 13) (.t 12), none⟩]) <|
 .seq (.cond (.t 14)
 (.skip)
 (.exit 0)) <|
 .seq (.block 1 <|
 .seq (.reg [
 ⟨some 15, .mv (.t 13), none⟩,
 ⟨some 16, .idx 2 (.t 11) (.t 13), none⟩,
 ⟨some 17, .ld 2 true (.t 16), none⟩,
 ⟨some 10, .alL [.int .i64 0, .bool false], none⟩,
 ⟨some 9, .mv (.t 15), none⟩,
 ⟨none, .st 2 (.t 10) (.t 17), none⟩]) <|
 .seq (.drw [
 ⟨some 18, .fld 0 (.t 10), none⟩,
 ⟨some 19, .ld 1 false (.t 18), none⟩,
 ⟨some 20, .fld 1 (.t 4), none⟩,
 ⟨some 21, .ld 1 false (.t 20), none⟩,
 ⟨some 22, .len (.t 21), none⟩,
 ⟨some 23, .bin .sub .sc (.t 22) (.k (.int .i64 1)), none⟩,
 ⟨some 24, .call .blind 92 [(.t 19), (.k (.int .i64 0)), (.t 23)], none⟩,
 ⟨some 25, .un .not (.t 24), none⟩,
 ⟨some 26, .mv (.t 25), none⟩,
 ⟨some 27, .mv (.t 9), some (26, false)⟩,
 ⟨some 28, .bin .gtr .sc (.t 27) (.k (.int .i64 0)), some (26, false)⟩,
 ⟨some 29, .mv (.t 28), some (26, false)⟩,
 ⟨some 30, .mv (.t 1), some (29, true)⟩,
 ⟨some 31, .mv (.t 9), some (29, true)⟩,
 ⟨some 32, .bin .sub .sc (.t 31) (.k (.int .i64 1)), some (29, true)⟩,
 ⟨some 33, .idx 2 (.t 30) (.t 32), some (29, true)⟩,
 ⟨some 34, .fld 0 (.t 33), some (29, true)⟩,
 ⟨some 35, .ld 1 false (.t 34), some (29, true)⟩,
 ⟨some 36, .fld 0 (.t 10), some (29, true)⟩,
 ⟨some 37, .ld 1 false (.t 36), some (29, true)⟩,
 ⟨some 38, .bin .geq .sc (.t 35) (.t 37), some (29, true)⟩,
 ⟨some 39, .pick (.t 29) (.t 38) (.k (.bool false)), some (26, false)⟩,
 ⟨some 40, .pick (.t 26) (.k (.bool true)) (.t 39), none⟩,
 ⟨some 41, .mv (.t 40), none⟩,
 ⟨some 42, .mv (.t 2), some (41, false)⟩,
 ⟨some 43, .fld 1 (.t 4), some (41, false)⟩,
 ⟨some 44, .ld 1 false (.t 43), some (41, false)⟩,
 ⟨some 45, .fld 0 (.t 10), some (41, false)⟩,
 ⟨some 46, .ld 1 false (.t 45), some (41, false)⟩,
 ⟨some 47, .idx 2 (.t 44) (.t 46), some (41, false)⟩,
 ⟨some 48, .fld 1 (.t 47), some (41, false)⟩,
 ⟨some 49, .ld 1 false (.t 48), some (41, false)⟩,
 ⟨some 50, .call .blind 111 [(.t 42), (.t 49)], some (41, false)⟩,
 ⟨some 51, .mv (.t 3), some (41, false)⟩,
 ⟨some 52, .bin .neq .bl (.t 50) (.t 51), some (41, false)⟩,
 ⟨some 53, .pick (.t 41) (.k (.bool true)) (.t 52), none⟩] [[], [], [], [], [], [], [1, 3], [], [], [], [], [], [], [], [], [1, 3, 6], [], [1, 3, 6, 15], [], [1, 3, 6], [], [], [], [], [], [], [1, 3, 6, 15, 17, 19], [], [1, 3, 6, 15, 17, 19], [1, 3, 6, 15, 17, 19, 26, 28], [], [1, 3, 6, 15, 17, 19, 26, 28, 29], [1, 3, 6, 15, 17, 19, 26, 28, 29, 31], [], [], []]) <|
 .cond (.t 53)
 (.seq (.reg [
 ⟨some 8, .mv (.k (.bool false)), none⟩]) <|
 .ret)
 (.skip)) <|
 .reg [
 ⟨some 54, .bin .add .sc (.t 13) (.k (.int .i64 1)), none⟩,
 ⟨some 13, .mv (.t 54), none⟩]
def l120_0 : DC := .loop [1, 2, 3, 4, 11, 12, 13] [4] l120_0b
def f120 : DFn := ⟨4, [.t 8],
 .seq (.reg [
 ⟨some 4, .boxL (.t 0), none⟩,
 ⟨some 8, .mv (.k (.bool false)), none⟩]) <|
 .seq (.seq (.reg [
 ⟨some 11, .mv (.t 1), none⟩,
 ⟨some 12, .len (.t 11), none⟩,
 ⟨some 13, .mv (.k (.int .i64 0)), none⟩]) <|
 .block 0 <|
 l120_0) <|
 .seq (.reg [
 ⟨some 8, .mv (.k (.bool true)), none⟩]) <|
 .ret⟩

def l121_0b : DC :=
 .seq (.reg [
 ⟨some 9, .nxt 8, none⟩,
 ⟨some 10, .ext 0 (.t 9), none⟩]) <|
 .seq (.cond (.t 10)
 (.skip)
 (.exit 0)) <|
 .block 1 <|
 .seq (.reg [
 ⟨some 11, .ext 1 (.t 9), none⟩,
 ⟨some 12, .ext 2 (.t 9), none⟩,
 ⟨some 4, .mv (.t 11), none⟩,
 ⟨some 5, .mv (.t 12), none⟩]) <|
 .seq (.reg [
 ⟨some 13, .mv (.t 5), none⟩,
 ⟨some 14, .bin .geq .sc (.t 13) (.k (.int .i32 48)), none⟩,
 ⟨some 15, .mv (.t 14), none⟩,
 ⟨some 16, .mv (.t 5), some (15, true)⟩,
 ⟨some 17, .bin .leq .sc (.t 16) (.k (.int .i32 57)), some (15, true)⟩,
 ⟨some 18, .pick (.t 15) (.t 17) (.k (.bool false)), none⟩,
 ⟨some 19, .mv (.t 18), none⟩,
 ⟨some 20, .mv (.t 4), some (19, true)⟩,
 ⟨some 21, .bin .gtr .sc (.t 20) (.k (.int .i64 0)), some (19, true)⟩,
 ⟨some 22, .pick (.t 19) (.t 21) (.k (.bool false)), none⟩,
 ⟨some 6, .mv (.t 22), none⟩]) <|
 .seq (.seq (.reg [
 ⟨some 23, .mv (.t 0), none⟩,
 ⟨some 24, .mv (.t 4), none⟩,
 ⟨some 25, .call .blind 141 [(.t 23), (.t 24)], none⟩,
 ⟨some 26, .mv (.t 25), none⟩,
 ⟨some 27, .mv (.t 5), some (26, false)⟩,
 ⟨some 28, .call .blind 142 [(.t 27)], some (26, false)⟩,
 ⟨some 29, .un .not (.t 28), some (26, false)⟩,
 ⟨some 30, .mv (.t 29), some (26, false)⟩,
 ⟨some 31, .mv (.t 6), some (30, true)⟩,
 ⟨some 32, .un .not (.t 31), some (30, true)⟩,
 ⟨some 33, .pick (.t 30) (.t 32) (.k (.bool false)), some (26, false)⟩,
 ⟨some 34, .pick (.t 26) (.k (.bool true)) (.t 33), none⟩]) <|
 .cond (.t 34)
 (.seq (.reg [
 ⟨some 2, .mv (.k (.bool false)), none⟩]) <|
 .ret)
 (.skip)) <|
 .reg [
 ⟨some 35, .mv (.t 3), none⟩,
 ⟨some 36, .bin .add .sc (.t 35) (.k (.int .i64 1)), none⟩,
 ⟨some 3, .mv (.t 36), none⟩]
def l121_0 : DC := .loop [0, 3, 8] [8] l121_0b
def f121 : DFn := ⟨1, [.t 2],
 .seq (.reg [
 ⟨some 2, .mv (.k (.bool false)), none⟩]) <|
 .seq (.reg [
 ⟨some 3, .mv (.k (.int .i64 0)), none⟩]) <|
 .seq (.seq (.reg [
 ⟨some 7, .mv (.t 0), none⟩,
 ⟨some 8, .rng (.t 7), none⟩]) <|
 .block 0 <|
 l121_0) <|
 .seq (.reg [
 ⟨some 37, .mv (.t 3), none⟩,
 ⟨some 38, .bin .geq .sc (.t 37) (.k (.int .i64 1)), none⟩,
 ⟨some 39, .mv (.t 38), none⟩,
 ⟨some 40, .mv (.t 3), some (39, true)⟩,
 ⟨some 41, .bin .leq .sc (.t 40) (.k (.int .i64 8)), some (39, true)⟩,
 ⟨some 42, .pick (.t 39) (.t 41) (.k (.bool false)), none⟩,
 ⟨some 2, .mv (.t 42), none⟩]) <|
 .ret⟩

def f122 : DFn := ⟨2, [.t 4],
 .seq (.reg [
 ⟨some 4, .mv (.k (.bool false)), none⟩]) <|
 .seq (.reg [
 ⟨some 5, .mv (.t 0), none⟩,
 ⟨some 6, .mv (.t 1), none⟩,
 ⟨some 7, .call .blind 143 [(.t 5), (.t 6)], none⟩,
 ⟨some 8, .bin .geq .sc (.t 7) (.k (.int .i64 0)), none⟩,
 ⟨some 4, .mv (.t 8), none⟩]) <|
 .ret⟩

def f123 : DFn := ⟨2, [.t 4],
 .seq (.reg [
 ⟨some 4, .mv (.k (.bool false)), none⟩]) <|
 .seq (.seq (.reg [
 ⟨some 5, .mv (.t 0), none⟩,
 ⟨some 6, .bin .eql .np (.t 5) (.k (.nilp)), none⟩,
 ⟨some 7, .mv (.t 6), none⟩,
 ⟨some 8, .mv (.t 0), some (7, false)⟩,
 ⟨some 9, .nilck (.t 8), some (7, false)⟩,
 ⟨some 10, .fld 0 (.t 9), some (7, false)⟩,
 ⟨some 11, .ld 1 false (.t 10), some (7, false)⟩,
 ⟨some 12, .len (.t 11), some (7, false)⟩,
 ⟨some 13, .bin .geq .sc (.t 12) (.k (.int .i64 100)), some (7, false)⟩,
 ⟨some 14, .pick (.t 7) (.k (.bool true)) (.t 13), none⟩]) <|
 .cond (.t 14)
 (.seq (.reg [
 ⟨some 4, .mv (.k (.bool false)), none⟩]) <|
 .ret)
 (.skip)) <|
 .seq (.reg [
 ⟨some 15, .mv (.t 0), none⟩,
 ⟨some 16, .mv (.t 0), none⟩,
 ⟨some 17, .nilck (.t 16), none⟩,
 ⟨some 18, .fld 0 (.t 17), none⟩,
 ⟨some 19, .ld 1 false (.t 18), none⟩,
 ⟨some 20, .mv (.t 1), none⟩,
 ⟨some 21, .bsl false 1 [.nili] 1 [(0, (.t 20))], none⟩,
 ⟨some 22, .app 1 16 (.t 19) (.t 21), none⟩,
 ⟨some 23, .nilck (.t 15), none⟩,
 ⟨some 24, .fld 0 (.t 23), none⟩,
 ⟨none, .st 1 (.t 24) (.t 22), none⟩]) <|
 .seq (.reg [
 ⟨some 4, .mv (.k (.bool true)), none⟩]) <|
 .ret⟩

def f124 : DFn := ⟨2, [.t 4, .t 5],
 .seq (.reg [
 ⟨some 4, .mv (.k (.bool false)), none⟩,
 ⟨some 5, .mv (.k (.bool false)), none⟩]) <|
 .seq (.reg [
 ⟨some 7, .mv (.t 0), none⟩,
 ⟨some 8, .mv (.t 1), none⟩,
 ⟨some 9, .call .ro 107 [(.t 7), (.t 8)], none⟩,
 ⟨some 10, .asrt 4 (.bool false) true (.t 9), none⟩,
 ⟨some 6, .mv (.t 10), none⟩,
 ⟨some 11, .ext 0 (.t 6), none⟩,
 ⟨some 12, .ext 1 (.t 6), none⟩,
 ⟨some 4, .mv (.t 11), none⟩,
 ⟨some 5, .mv (.t 12), none⟩]) <|
 .seq (.reg [
 ⟨some 13, .mv (.t 4), none⟩,
 ⟨some 14, .mv (.t 5), none⟩,
 ⟨some 4, .mv (.t 13), none⟩,
 ⟨some 5, .mv (.t 14), none⟩]) <|
 .ret⟩

def f125 : DFn := ⟨1, [.t 2],
 .seq (.reg [
 ⟨some 2, .mv (.k (.int .u8 0)), none⟩]) <|
 .seq (.seq (.reg [
 ⟨some 3, .mv (.t 0), none⟩]) <|
 .cond (.t 3)
 (.seq (.reg [
 ⟨some 2, .mv (.k (.int .u8 1)), none⟩]) <|
 .ret)
 (.skip)) <|
 .seq (.reg [
 ⟨some 2, .mv (.k (.int .u8 0)), none⟩]) <|
 .ret⟩

def l126_0b : DC :=
 .seq (.reg [
 ⟨some 11, .bin .lss .sc (.t 10) (.k (.int .i64 8)), none⟩]) <|
 .seq (.cond (.t 11)
 (.skip)
 (.exit 0)) <|
 .seq (.block 1 <|
 .seq (.reg [
 ⟨some 12, .mv (.t 0), none⟩,
 ⟨some 13, .bin .and .sc (.t 12) (.k (.int .u32 1)), none⟩,
 ⟨some 14, .bin .eql .sc (.t 13) (.k (.int .u32 1)), none⟩,
 ⟨some 5, .mv (.t 14), none⟩]) <|
 .seq (.reg [
 ⟨some 15, .mv (.t 0), none⟩,
 ⟨some 16, .bin .shr .sc (.t 15) (.k (.int .u64 1)), none⟩,
 ⟨some 0, .mv (.t 16), none⟩]) <|
 .seq (.reg [
 ⟨some 17, .mv (.t 5), none⟩]) <|
 .cond (.t 17)
 (.reg [
 ⟨some 18, .mv (.t 0), none⟩,
 ⟨some 19, .bin .xor .sc (.t 18) (.k (.int .u32 2197175160)), none⟩,
 ⟨some 0, .mv (.t 19), none⟩])
 (.skip)) <|
 .reg [
 ⟨some 20, .bin .add .sc (.t 10) (.k (.int .i64 1)), none⟩,
 ⟨some 10, .mv (.t 20), none⟩]
def l126_0 : DC := .loop [0, 10] [] l126_0b
def f126 : DFn := ⟨2, [.t 4],
 .seq (.reg [
 ⟨some 4, .mv (.k (.int .u32 0)), none⟩]) <|
 .seq (.reg [
 ⟨some 6, .mv (.t 0), none⟩,
 ⟨some 7, .mv (.t 1), none⟩,
 ⟨some 8, .cvI .u32 (.t 7), none⟩,
 ⟨some 9, .bin .xor .sc (.t 6) (.t 8), none⟩,
 ⟨some 0, .mv (.t 9), none⟩]) <|
 .seq (.seq (.reg [
 ⟨some 10, .mv (.k (.int .i64 0)), none⟩]) <|
 .block 0 <|
 l126_0) <|
 .seq (.reg [
 ⟨some 21, .mv (.t 0), none⟩,
 ⟨some 4, .mv (.t 21), none⟩]) <|
 .ret⟩

def l127_0b : DC :=
 .seq (.seq (.reg [
 ⟨some 6, .mv (.t 4), none⟩,
 ⟨some 7, .ld 1 false (.t 1), none⟩,
 ⟨some 8, .len (.t 7), none⟩,
 ⟨some 9, .bin .lss .sc (.t 6) (.t 8), none⟩]) <|
 .cond (.t 9)
 (.skip)
 (.exit 0)) <|
 .seq (.block 1 <|
 .seq (.drw [
 ⟨some 13, .ld 1 false (.t 2), none⟩,
 ⟨some 14, .ld 1 false (.t 1), none⟩,
 ⟨some 15, .mv (.t 4), none⟩,
 ⟨some 16, .slc 1 (.t 14) (some (.t 15)) none none, none⟩,
 ⟨some 17, .len (.t 16), none⟩,
 ⟨some 18, .mn (.t 13) (.t 17), none⟩,
 ⟨some 5, .mv (.t 18), none⟩] [[], [], [], [], [], [], []]) <|
 .seq (.reg [
 ⟨some 19, .mv (.t 0), none⟩,
 ⟨some 20, .ld 1 false (.t 1), none⟩,
 ⟨some 21, .mv (.t 4), none⟩,
 ⟨some 22, .mv (.t 4), none⟩,
 ⟨some 23, .mv (.t 5), none⟩,
 ⟨some 24, .bin .add .sc (.t 22) (.t 23), none⟩,
 ⟨some 25, .mv (.t 4), none⟩,
 ⟨some 26, .mv (.t 5), none⟩,
 ⟨some 27, .bin .add .sc (.t 25) (.t 26), none⟩,
 ⟨some 28, .slc 1 (.t 20) (some (.t 21)) (some (.t 24)) (some (.t 27)), none⟩,
 ⟨some 29, .calld .ro (.t 19) [(.t 28)], none⟩,
 ⟨some 30, .un .not (.t 29), none⟩]) <|
 .cond (.t 30)
 (.ret)
 (.skip)) <|
 .reg [
 ⟨some 10, .mv (.t 4), none⟩,
 ⟨some 11, .ld 1 false (.t 2), none⟩,
 ⟨some 12, .bin .add .sc (.t 10) (.t 11), none⟩,
 ⟨some 4, .mv (.t 12), none⟩]
def l127_0 : DC := .loop [0, 1, 2, 4] [] l127_0b
def f127 : DFn := ⟨3, [],
 .seq (.reg [
 ⟨some 4, .mv (.k (.int .i64 0)), none⟩]) <|
 .block 0 <|
 l127_0⟩

def l128_0b : DC :=
 .seq (.reg [
 ⟨some 9, .bin .lss .sc (.t 8) (.t 7), none⟩]) <|
 .seq (.cond (.t 9)
 (.skip)
 (.exit 0)) <|
 .seq (.block 1 <|
 .seq (.reg [
 ⟨some 10, .mv (.t 8), none⟩,
 ⟨some 5, .mv (.t 10), none⟩]) <|
 .seq (.reg [
 ⟨some 11, .mv (.t 1), none⟩,
 ⟨some 12, .mv (.t 0), none⟩,
 ⟨some 13, .mv (.t 5), none⟩,
 ⟨some 14, .idx 1 (.t 12) (.t 13), none⟩,
 ⟨some 15, .ld 1 false (.t 14), none⟩,
 ⟨some 16, .calld .ro (.t 11) [(.t 15)], none⟩]) <|
 .cond (.t 16)
 (.seq (.reg [
 ⟨some 17, .mv (.t 5), none⟩,
 ⟨some 4, .mv (.t 17), none⟩]) <|
 .ret)
 (.skip)) <|
 .reg [
 ⟨some 18, .bin .add .sc (.t 8) (.k (.int .i64 1)), none⟩,
 ⟨some 8, .mv (.t 18), none⟩]
def l128_0 : DC := .loop [0, 1, 7, 8] [] l128_0b
def f128 : DFn := ⟨2, [.t 4],
 .seq (.reg [
 ⟨some 4, .mv (.k (.int .i64 0)), none⟩]) <|
 .seq (.seq (.reg [
 ⟨some 6, .mv (.t 0), none⟩,
 ⟨some 7, .len (.t 6), none⟩,
 ⟨some 8, .mv (.k (.int .i64 0)), none⟩]) <|
 .block 0 <|
 l128_0) <|
 .seq (.reg [
 ⟨some 4, .mv (.k (.int .i64 (-1))), none⟩]) <|
 .ret⟩

def l129_0b : DC :=
 .seq (.reg [
 ⟨some 9, .bin .lss .sc (.t 8) (.t 7), none⟩]) <|
 .seq (.cond (.t 9)
 (.skip)
 (.exit 0)) <|
 .seq (.block 1 <|
 .seq (.reg [
 ⟨some 10, .mv (.t 8), none⟩,
 ⟨some 5, .mv (.t 10), none⟩]) <|
 .seq (.reg [
 ⟨some 11, .mv (.t 1), none⟩,
 ⟨some 12, .mv (.t 0), none⟩,
 ⟨some 13, .mv (.t 5), none⟩,
 ⟨some 14, .idx 1 (.t 12) (.t 13), none⟩,
 ⟨some 15, .ld 1 false (.t 14), none⟩,
 ⟨some 16, .bin .eql .sc (.t 11) (.t 15), none⟩]) <|
 .cond (.t 16)
 (.seq (.reg [
 ⟨some 17, .mv (.t 5), none⟩,
 ⟨some 4, .mv (.t 17), none⟩]) <|
 .ret)
 (.skip)) <|
 .reg [
 ⟨some 18, .bin .add .sc (.t 8) (.k (.int .i64 1)), none⟩,
 ⟨some 8, .mv (.t 18), none⟩]
def l129_0 : DC := .loop [0, 1, 7, 8] [] l129_0b
def f129 : DFn := ⟨2, [.t 4],
 .seq (.reg [
 ⟨some 4, .mv (.k (.int .i64 0)), none⟩]) <|
 .seq (.seq (.reg [
 ⟨some 6, .mv (.t 0), none⟩,
 ⟨some 7, .len (.t 6), none⟩,
 ⟨some 8, .mv (.k (.int .i64 0)), none⟩]) <|
 .block 0 <|
 l129_0) <|
 .seq (.reg [
 ⟨some 4, .mv (.k (.int .i64 (-1))), none⟩]) <|
 .ret⟩

def l130_0b : DC :=
 .seq (.reg [
 ⟨some 9, .bin .lss .sc (.t 8) (.t 7), none⟩]) <|
 .seq (.cond (.t 9)
 (.skip)
 (.exit 0)) <|
 .seq (.block 1 <|
 .seq (.reg [
 ⟨some 10, .mv (.t 8), none⟩,
 ⟨some 5, .mv (.t 10), none⟩]) <|
 .seq (.reg [
 ⟨some 11, .mv (.t 1), none⟩,
 ⟨some 12, .mv (.t 0), none⟩,
 ⟨some 13, .mv (.t 5), none⟩,
 ⟨some 14, .idx 2 (.t 12) (.t 13), none⟩,
 ⟨some 15, .ld 2 true (.t 14), none⟩,
 ⟨some 16, .calld .ro (.t 11) [(.t 15)], none⟩]) <|
 .cond (.t 16)
 (.seq (.reg [
 ⟨some 17, .mv (.t 5), none⟩,
 ⟨some 4, .mv (.t 17), none⟩]) <|
 .ret)
 (.skip)) <|
 .reg [
 ⟨some 18, .bin .add .sc (.t 8) (.k (.int .i64 1)), none⟩,
 ⟨some 8, .mv (.t 18), none⟩]
def l130_0 : DC := .loop [0, 1, 7, 8] [] l130_0b
def f130 : DFn := ⟨2, [.t 4],
 .seq (.reg [
 ⟨some 4, .mv (.k (.int .i64 0)), none⟩]) <|
 .seq (.seq (.reg [
 ⟨some 6, .mv (.t 0), none⟩,
 ⟨some 7, .len (.t 6), none⟩,
 ⟨some 8, .mv (.k (.int .i64 0)), none⟩]) <|
 .block 0 <|
 l130_0) <|
 .seq (.reg [
 ⟨some 4, .mv (.k (.int .i64 (-1))), none⟩]) <|
 .ret⟩

def l131_1b : DC :=
 .seq (.reg [
 ⟨some 28, .bin .lss .sc (.t 27) (.t 26), none⟩]) <|
 .seq (.cond (.t 28)
 (.skip)
 (.exit 2)) <|
 .seq (.block 3 <|
 .seq (.reg [
 ⟨some 29, .idx 1 (.t 25) (.t 27), none⟩,
 ⟨some 30, .ld 1 false (.t 29), none⟩,
 ⟨some 8, .mv (.t 30), none⟩]) <|
 .reg [
 ⟨some 31, .mv (.t 6), none⟩,
 ⟨some 32, .mv (.t 8), none⟩,
 ⟨some 33, .app 2 16 (.t 31) (.t 32), none⟩,
 ⟨some 6, .mv (.t 33), none⟩]) <|
 .reg [
 ⟨some 34, .bin .add .sc (.t 27) (.k (.int .i64 1)), none⟩,
 ⟨some 27, .mv (.t 34), none⟩]
def l131_1 : DC := .loop [6, 25, 26, 27] [] l131_1b
def l131_0b : DC :=
 .seq (.reg [
 ⟨some 12, .bin .lss .sc (.t 11) (.t 10), none⟩]) <|
 .seq (.cond (.t 12)
 (.skip)
 (.exit 0)) <|
 .seq (.block 1 <|
 .seq (.reg [
 ⟨some 13, .idx 1 (.t 9) (.t 11), none⟩,
 ⟨some 14, .ld 1 false (.t 13), none⟩,
 ⟨some 5, .mv (.t 14), none⟩]) <|
 .seq (.reg [
 ⟨some 15, .mv (.t 3), none⟩,
 ⟨some 16, .mv (.t 5), none⟩,
 ⟨some 17, .len (.t 16), none⟩,
 ⟨some 18, .bin .add .sc (.t 15) (.t 17), none⟩,
 ⟨some 3, .mv (.t 18), none⟩]) <|
 .seq (.reg [
 ⟨some 19, .mv (.t 3), none⟩,
 ⟨some 20, .bin .lss .sc (.t 19) (.k (.int .i64 0)), none⟩]) <|
 .cond (.t 20)
 (.reg [
 ⟨some 21, .mkI 9 (.k (.str [108, 101, 110, 32, 111, 117, 116, 32, 111, 102, 32, 114, 97, 110, 103, 101])), none⟩,
 ⟨none, .nilck (.k .nilp), none⟩])
 (.skip)) <|
 .reg [
 ⟨some 22, .bin .add .sc (.t 11) (.k (.int .i64 1)), none⟩,
 ⟨some 11, .mv (.t 22), none⟩]
def l131_0 : DC := .loop [0, 3, 9, 10, 11] [] l131_0b
def f131 : DFn := ⟨1, [.t 2],
 .seq (.reg [
 ⟨some 2, .mv (.k (.nils)), none⟩]) <|
 .seq (.reg [
 ⟨some 3, .mv (.k (.int .i64 0)), none⟩]) <|
 .seq (.seq (.reg [
 ⟨some 9, .mv (.t 0), none⟩,
 ⟨some 10, .len (.t 9), none⟩,
 ⟨some 11, .mv (.k (.int .i64 0)), none⟩]) <|
 .block 0 <|
 l131_0) <|
 .seq (.reg [
 ⟨some 23, .mv (.t 3), none⟩,
 ⟨some 24, .call .eff 144 [(.k (.nils)), (.t 23)], none⟩,
 ⟨some 6, .mv (.t 24), none⟩]) <|
 .seq (.seq (.reg [
 ⟨some 25, .mv (.t 0), none⟩,
 ⟨some 26, .len (.t 25), none⟩,
 ⟨some 27, .mv (.k (.int .i64 0)), none⟩]) <|
 .block 2 <|
 l131_1) <|
 .seq (.reg [
 ⟨some 35, .mv (.t 6), none⟩,
 ⟨some 2, .mv (.t 35), none⟩]) <|
 .ret⟩

def l132_0b : DC :=
 .seq (.reg [
 ⟨some 9, .bin .lss .sc (.t 8) (.t 7), none⟩]) <|
 .seq (.cond (.t 9)
 (.skip)
 (.exit 0)) <|
 .seq (.block 1 <|
 .seq (.reg [
 ⟨some 10, .mv (.t 8), none⟩,
 ⟨some 5, .mv (.t 10), none⟩]) <|
 .seq (.drw [
 ⟨some 11, .ld 2 true (.t 3), none⟩,
 ⟨some 12, .mv (.t 0), none⟩,
 ⟨some 13, .mv (.t 5), none⟩,
 ⟨some 14, .idx 2 (.t 12) (.t 13), none⟩,
 ⟨some 15, .ld 2 true (.t 14), none⟩,
 ⟨some 16, .bin .eql (.st [.i, .b]) (.t 11) (.t 15), none⟩] [[], [], [], [], [3], []]) <|
 .cond (.t 16)
 (.seq (.reg [
 ⟨some 17, .mv (.t 5), none⟩,
 ⟨some 4, .mv (.t 17), none⟩]) <|
 .ret)
 (.skip)) <|
 .reg [
 ⟨some 18, .bin .add .sc (.t 8) (.k (.int .i64 1)), none⟩,
 ⟨some 8, .mv (.t 18), none⟩]
def l132_0 : DC := .loop [0, 3, 7, 8] [3] l132_0b
def f132 : DFn := ⟨2, [.t 4],
 .seq (.reg [
 ⟨some 3, .boxL (.t 1), none⟩,
 ⟨some 4, .mv (.k (.int .i64 0)), none⟩]) <|
 .seq (.seq (.reg [
 ⟨some 6, .mv (.t 0), none⟩,
 ⟨some 7, .len (.t 6), none⟩,
 ⟨some 8, .mv (.k (.int .i64 0)), none⟩]) <|
 .block 0 <|
 l132_0) <|
 .seq (.reg [
 ⟨some 4, .mv (.k (.int .i64 (-1))), none⟩]) <|
 .ret⟩

def f133 : DFn := ⟨2, [.t 4],
 .seq (.reg [
 ⟨some 2, .boxL (.t 0), none⟩,
 ⟨some 3, .boxL (.t 1), none⟩,
 ⟨some 4, .mv (.k (.bool false)), none⟩]) <|
 .seq (.reg [
 ⟨some 5, .mv (.f 145), none⟩]) <|
 .seq (.reg [
 ⟨some 6, .fld 0 (.t 3), none⟩,
 ⟨some 7, .ld 1 false (.t 6), none⟩,
 ⟨some 8, .len (.t 7), none⟩,
 ⟨some 9, .fld 0 (.t 2), none⟩,
 ⟨some 10, .ld 1 false (.t 9), none⟩,
 ⟨some 11, .len (.t 10), none⟩,
 ⟨some 12, .bin .eql .sc (.t 8) (.t 11), none⟩,
 ⟨some 13, .mv (.t 12), none⟩,
 ⟨some 14, .fld 1 (.t 3), some (13, true)⟩,
 ⟨some 15, .ld 1 false (.t 14), some (13, true)⟩,
 ⟨some 16, .len (.t 15), some (13, true)⟩,
 ⟨some 17, .fld 1 (.t 2), some (13, true)⟩,
 ⟨some 18, .ld 1 false (.t 17), some (13, true)⟩,
 ⟨some 19, .len (.t 18), some (13, true)⟩,
 ⟨some 20, .bin .eql .sc (.t 16) (.t 19), some (13, true)⟩,
 ⟨some 21, .pick (.t 13) (.t 20) (.k (.bool false)), none⟩,
 ⟨some 22, .mv (.t 21), none⟩,
 ⟨some 23, .fld 1 (.t 3), some (22, true)⟩,
 ⟨some 24, .ld 1 false (.t 23), some (22, true)⟩,
 ⟨some 25, .mv (.t 5), some (22, true)⟩,
 ⟨some 26, .call .ro 109 [(.t 24), (.t 25)], some (22, true)⟩,
 ⟨some 27, .un .not (.t 26), some (22, true)⟩,
 ⟨some 28, .pick (.t 22) (.t 27) (.k (.bool false)), none⟩,
 ⟨some 4, .mv (.t 28), none⟩]) <|
 .ret⟩

def f134 : DFn := ⟨3, [.t 6],
 .seq (.reg [
 ⟨some 4, .boxL (.t 1), none⟩,
 ⟨some 6, .mv (.k (.int .i64 0)), none⟩]) <|
 .seq (.block 0 <|
 .seq (.reg [
 ⟨some 8, .mv (.t 0), none⟩,
 ⟨some 9, .nilck (.t 8), none⟩,
 ⟨some 10, .fld 4 (.t 9), none⟩,
 ⟨some 11, .ld 1 false (.t 10), none⟩,
 ⟨some 12, .mv (.t 2), none⟩,
 ⟨some 13, .idx 4 (.t 11) (.t 12), none⟩,
 ⟨some 14, .fld 0 (.t 13), none⟩,
 ⟨some 15, .ld 1 false (.t 14), none⟩,
 ⟨some 16, .bin .neq .sc (.t 15) (.k (.int .i64 0)), none⟩,
 ⟨some 7, .mv (.t 16), none⟩]) <|
 .cond (.t 7)
 (.seq (.reg [
 ⟨some 6, .mv (.k (.int .i64 7)), none⟩]) <|
 .ret)
 (.seq (.reg [
 ⟨some 18, .mv (.t 0), none⟩,
 ⟨some 19, .ld 2 true (.t 4), none⟩,
 ⟨some 20, .mv (.t 2), none⟩,
 ⟨some 21, .call .ro 146 [(.t 18), (.t 19), (.t 20)], none⟩,
 ⟨some 22, .un .not (.t 21), none⟩,
 ⟨some 17, .mv (.t 22), none⟩]) <|
 .cond (.t 17)
 (.seq (.reg [
 ⟨some 6, .mv (.k (.int .i64 8)), none⟩]) <|
 .ret)
 (.skip))) <|
 .seq (.reg [
 ⟨some 23, .mv (.t 0), none⟩,
 ⟨some 24, .nilck (.t 23), none⟩,
 ⟨some 25, .fld 4 (.t 24), none⟩,
 ⟨some 26, .ld 1 false (.t 25), none⟩,
 ⟨some 27, .mv (.t 2), none⟩,
 ⟨some 28, .build [.int .i64 0, .int .i64 0, .int .i64 0, .bool false] [(0, 1, (.k (.int .i64 1)))], none⟩,
 ⟨some 29, .idx 4 (.t 26) (.t 27), none⟩,
 ⟨none, .st 4 (.t 29) (.t 28), none⟩]) <|
 .seq (.reg [
 ⟨some 6, .mv (.k (.int .i64 0)), none⟩]) <|
 .ret⟩

def f135 : DFn := ⟨2, [.t 4],
 .seq (.reg [
 ⟨some 4, .mv (.k (.int .i64 0)), none⟩]) <|
 .seq (.seq (.reg [
 ⟨some 5, .mv (.t 0), none⟩,
 ⟨some 6, .nilck (.t 5), none⟩,
 ⟨some 7, .fld 4 (.t 6), none⟩,
 ⟨some 8, .ld 1 false (.t 7), none⟩,
 ⟨some 9, .mv (.t 1), none⟩,
 ⟨some 10, .idx 4 (.t 8) (.t 9), none⟩,
 ⟨some 11, .fld 0 (.t 10), none⟩,
 ⟨some 12, .ld 1 false (.t 11), none⟩]) <|
 .block 0 <|
 .seq (.reg [
 ⟨some 14, .bin .eql .sc (.t 12) (.k (.int .i64 1)), none⟩,
 ⟨some 13, .mv (.t 14), none⟩]) <|
 .cond (.t 13)
 (.reg [
 ⟨some 15, .mv (.t 0), none⟩,
 ⟨some 16, .nilck (.t 15), none⟩,
 ⟨some 17, .fld 4 (.t 16), none⟩,
 ⟨some 18, .ld 1 false (.t 17), none⟩,
 ⟨some 19, .mv (.t 1), none⟩,
 ⟨some 20, .build [.int .i64 0, .int .i64 0, .int .i64 0, .bool false] [], none⟩,
 ⟨some 21, .idx 4 (.t 18) (.t 19), none⟩,
 ⟨none, .st 4 (.t 21) (.t 20), none⟩])
 (.seq (.reg [
 ⟨some 23, .bin .eql .sc (.t 12) (.k (.int .i64 2)), none⟩,
 ⟨some 22, .mv (.t 23), none⟩]) <|
 .cond (.t 22)
 (.reg [
 ⟨some 24, .mv (.t 0), none⟩,
 ⟨some 25, .nilck (.t 24), none⟩,
 ⟨some 26, .fld 4 (.t 25), none⟩,
 ⟨some 27, .ld 1 false (.t 26), none⟩,
 ⟨some 28, .mv (.t 1), none⟩,
 ⟨some 29, .build [.int .i64 0, .int .i64 0, .int .i64 0, .bool false] [(0, 1, (.k (.int .i64 4)))], none⟩,
 ⟨some 30, .idx 4 (.t 27) (.t 28), none⟩,
 ⟨none, .st 4 (.t 30) (.t 29), none⟩])
 (.seq (.reg [
 ⟨some 4, .mv (.k (.int .i64 7)), none⟩]) <|
 .ret))) <|
 .seq (.reg [
 ⟨some 4, .mv (.k (.int .i64 0)), none⟩]) <|
 .ret⟩

def f136 : DFn := ⟨3, [.cell 6 4 true],
 .seq (.reg [
 ⟨some 4, .boxL (.t 1), none⟩,
 ⟨some 6, .alL [.int .i64 0, .int .i64 0, .int .i64 0, .bool false], none⟩]) <|
 .seq (.reg [
 ⟨some 9, .mv (.t 0), none⟩,
 ⟨some 10, .nilck (.t 9), none⟩,
 ⟨some 11, .fld 4 (.t 10), none⟩,
 ⟨some 12, .ld 1 false (.t 11), none⟩,
 ⟨some 13, .mv (.t 2), none⟩,
 ⟨some 14, .idx 4 (.t 12) (.t 13), none⟩,
 ⟨some 15, .ld 4 true (.t 14), none⟩,
 ⟨some 7, .alL [.int .i64 0, .int .i64 0, .int .i64 0, .bool false], none⟩,
 ⟨none, .st 4 (.t 7) (.t 15), none⟩]) <|
 .seq (.drw [
 ⟨some 16, .fld 0 (.t 4), none⟩,
 ⟨some 17, .ld 1 false (.t 16), none⟩,
 ⟨some 18, .mv (.t 0), none⟩,
 ⟨some 19, .nilck (.t 18), none⟩,
 ⟨some 20, .fld 0 (.t 19), none⟩,
 ⟨some 21, .fld 3 (.t 20), none⟩,
 ⟨some 22, .ld 1 false (.t 21), none⟩,
 ⟨some 23, .mv (.t 2), none⟩,
 ⟨some 24, .idx 6 (.t 22) (.t 23), none⟩,
 ⟨some 25, .fld 3 (.t 24), none⟩,
 ⟨some 26, .ld 1 false (.t 25), none⟩,
 ⟨some 27, .idx 1 (.t 26) (.k (.int .i64 0)), none⟩,
 ⟨some 28, .ld 1 false (.t 27), none⟩,
 ⟨some 29, .idx 1 (.t 17) (.t 28), none⟩,
 ⟨some 30, .ld 1 false (.t 29), none⟩,
 ⟨some 8, .mv (.t 30), none⟩] [[], [], [], [], [], [], [], [], [6], [], [6, 8], [6, 8, 10], [6, 8, 10, 11], [1, 6, 8, 10, 11, 12], [1, 6, 8, 10, 11, 12, 13], []]) <|
 .seq (.seq (.reg [
 ⟨some 31, .fld 0 (.t 7), none⟩,
 ⟨some 32, .ld 1 false (.t 31), none⟩]) <|
 .block 0 <|
 .seq (.reg [
 ⟨some 34, .bin .eql .sc (.t 32) (.k (.int .i64 1)), none⟩,
 ⟨some 33, .mv (.t 34), none⟩]) <|
 .cond (.t 33)
 (.seq (.seq (.reg [
 ⟨some 35, .mv (.t 0), none⟩,
 ⟨some 36, .ld 2 true (.t 4), none⟩,
 ⟨some 37, .mv (.t 2), none⟩,
 ⟨some 38, .call .ro 139 [(.t 35), (.t 36), (.t 37)], none⟩]) <|
 .cond (.t 38)
 (.seq (.reg [
 ⟨some 39, .build [.int .i64 0, .int .i64 0, .int .i64 0, .bool false] [(0, 1, (.k (.int .i64 2)))], none⟩,
 ⟨none, .st 4 (.t 6) (.t 39), none⟩]) <|
 .ret)
 (.skip)) <|
 .seq (.reg [
 ⟨some 40, .ld 4 true (.t 7), none⟩,
 ⟨some 41, .call .blind 147 [(.t 40), (.k (.int .i64 8))], none⟩,
 ⟨none, .st 4 (.t 6) (.t 41), none⟩]) <|
 .ret)
 (.seq (.seq (.reg [
 ⟨some 43, .bin .eql .sc (.t 32) (.k (.int .i64 2)), none⟩,
 ⟨some 42, .mv (.t 43), none⟩]) <|
 .cond (.t 42)
 (.skip)
 (.reg [
 ⟨some 44, .bin .eql .sc (.t 32) (.k (.int .i64 4)), none⟩,
 ⟨some 42, .mv (.t 44), none⟩])) <|
 .cond (.t 42)
 (.block 1 <|
 .seq (.reg [
 ⟨some 46, .mv (.t 8), none⟩,
 ⟨some 45, .mv (.t 46), none⟩]) <|
 .cond (.t 45)
 (.seq (.reg [
 ⟨some 47, .build [.int .i64 0, .int .i64 0, .int .i64 0, .bool false] [(0, 1, (.k (.int .i64 3))), (3, 1, (.k (.bool true)))], none⟩,
 ⟨none, .st 4 (.t 6) (.t 47), none⟩]) <|
 .ret)
 (.seq (.reg [
 ⟨some 49, .fld 0 (.t 7), none⟩,
 ⟨some 50, .ld 1 false (.t 49), none⟩,
 ⟨some 51, .bin .eql .sc (.t 50) (.k (.int .i64 4)), none⟩,
 ⟨some 48, .mv (.t 51), none⟩]) <|
 .cond (.t 48)
 (.seq (.reg [
 ⟨some 52, .ld 4 true (.t 7), none⟩,
 ⟨some 53, .call .blind 147 [(.t 52), (.k (.int .i64 5))], none⟩,
 ⟨none, .st 4 (.t 6) (.t 53), none⟩]) <|
 .ret)
 (.skip)))
 (.seq (.reg [
 ⟨some 55, .bin .eql .sc (.t 32) (.k (.int .i64 3)), none⟩,
 ⟨some 54, .mv (.t 55), none⟩]) <|
 .cond (.t 54)
 (.seq (.reg [
 ⟨some 56, .mv (.t 0), none⟩,
 ⟨some 57, .ld 2 true (.t 4), none⟩,
 ⟨some 58, .mv (.t 2), none⟩,
 ⟨some 59, .call .ro 148 [(.t 56), (.t 57), (.t 58)], none⟩,
 ⟨none, .st 4 (.t 6) (.t 59), none⟩]) <|
 .ret)
 (.skip)))) <|
 .seq (.reg [
 ⟨some 60, .ld 4 true (.t 7), none⟩,
 ⟨none, .st 4 (.t 6) (.t 60), none⟩]) <|
 .ret⟩

def l137_1b : DC :=
 .seq (.reg [
 ⟨some 33, .bin .lss .sc (.t 32) (.t 31), none⟩]) <|
 .seq (.cond (.t 33)
 (.skip)
 (.exit 2)) <|
 .seq (.block 3 <|
 .seq (.reg [
 ⟨some 34, .idx 2 (.t 30) (.t 32), none⟩,
 ⟨some 35, .ld 2 true (.t 34), none⟩,
 ⟨some 9, .alL [.int .i64 0, .bool false], none⟩,
 ⟨none, .st 2 (.t 9) (.t 35), none⟩]) <|
 .seq (.drw [
 ⟨some 36, .mv (.t 0), none⟩,
 ⟨some 37, .nilck (.t 36), none⟩,
 ⟨some 38, .fld 0 (.t 37), none⟩,
 ⟨some 39, .fld 1 (.t 38), none⟩,
 ⟨some 40, .ld 1 false (.t 39), none⟩,
 ⟨some 41, .fld 0 (.t 9), none⟩,
 ⟨some 42, .ld 1 false (.t 41), none⟩,
 ⟨some 43, .idx 2 (.t 40) (.t 42), none⟩,
 ⟨some 44, .fld 1 (.t 43), none⟩,
 ⟨some 45, .ld 1 false (.t 44), none⟩,
 ⟨some 10, .mv (.t 45), none⟩] [[], [], [], [], [], [], [], [4, 6], [], [4, 6, 7], []]) <|
 .seq (.reg [
 ⟨some 46, .mv (.t 0), none⟩,
 ⟨some 47, .mv (.t 10), none⟩,
 ⟨some 48, .call .ro 149 [(.t 46), (.t 47)], none⟩,
 ⟨some 11, .mv (.t 48), none⟩]) <|
 .seq (.reg [
 ⟨some 49, .ld 2 true (.t 4), none⟩,
 ⟨some 50, .ld 2 true (.t 9), none⟩,
 ⟨some 51, .call .blind 150 [(.t 49), (.t 50)], none⟩,
 ⟨some 52, .un .not (.t 51), none⟩,
 ⟨some 53, .mv (.t 52), none⟩,
 ⟨some 54, .fld 0 (.t 4), some (53, true)⟩,
 ⟨some 55, .ld 1 false (.t 54), some (53, true)⟩,
 ⟨some 56, .mv (.t 10), some (53, true)⟩,
 ⟨some 57, .idx 1 (.t 55) (.t 56), some (53, true)⟩,
 ⟨some 58, .ld 1 false (.t 57), some (53, true)⟩,
 ⟨some 59, .un .not (.t 58), some (53, true)⟩,
 ⟨some 60, .pick (.t 53) (.t 59) (.k (.bool false)), none⟩,
 ⟨some 61, .mv (.t 60), none⟩,
 ⟨some 62, .mv (.t 11), some (61, true)⟩,
 ⟨some 63, .bin .lss .sc (.t 62) (.k (.int .i64 0)), some (61, true)⟩,
 ⟨some 64, .mv (.t 63), some (61, true)⟩,
 ⟨some 65, .mv (.t 11), some (64, false)⟩,
 ⟨some 66, .mv (.t 6), some (64, false)⟩,
 ⟨some 67, .bin .eql .sc (.t 65) (.t 66), some (64, false)⟩,
 ⟨some 68, .pick (.t 64) (.k (.bool true)) (.t 67), some (61, true)⟩,
 ⟨some 69, .pick (.t 61) (.t 68) (.k (.bool false)), none⟩]) <|
 .cond (.t 69)
 (.drw [
 ⟨some 70, .fld 0 (.t 5), none⟩,
 ⟨some 71, .ld 1 false (.t 70), none⟩,
 ⟨some 72, .fld 0 (.t 9), none⟩,
 ⟨some 73, .ld 1 false (.t 72), none⟩,
 ⟨some 74, .ld 2 true (.t 9), none⟩,
 ⟨some 75, .call .blind 151 [(.t 74)], none⟩,
 ⟨some 76, .idx 1 (.t 71) (.t 73), none⟩,
 ⟨none, .st 1 (.t 76) (.t 75), none⟩] [[], [], [], [], [], [4], [1, 3, 4, 5], [1, 3, 4, 5, 6]])
 (.skip)) <|
 .reg [
 ⟨some 77, .bin .add .sc (.t 32) (.k (.int .i64 1)), none⟩,
 ⟨some 32, .mv (.t 77), none⟩]
def l137_1 : DC := .loop [0, 4, 5, 6, 15, 16, 17, 30, 31, 32] [4, 5] l137_1b
def l137_0b : DC :=
 .seq (.reg [
 ⟨some 18, .bin .lss .sc (.t 17) (.t 16), none⟩]) <|
 .seq (.cond (.t 18)
 (.skip)
 (.exit 0)) <|
 .seq (.block 1 <|
 .seq (.reg [
 ⟨some 19, .mv (.t 17), none⟩,
 ⟨some 20, .idx 4 (.t 15) (.t 17), none⟩,
 ⟨some 21, .ld 4 true (.t 20), none⟩,
 ⟨some 7, .alL [.int .i64 0, .int .i64 0, .int .i64 0, .bool false], none⟩,
 ⟨some 6, .mv (.t 19), none⟩,
 ⟨none, .st 4 (.t 7) (.t 21), none⟩]) <|
 .seq (.seq (.reg [
 ⟨some 22, .fld 0 (.t 7), none⟩,
 ⟨some 23, .ld 1 false (.t 22), none⟩,
 ⟨some 24, .bin .neq .sc (.t 23) (.k (.int .i64 1)), none⟩]) <|
 .cond (.t 24)
 (.exit 1)
 (.skip)) <|
 .seq (.reg [
 ⟨some 25, .mv (.t 0), none⟩,
 ⟨some 26, .nilck (.t 25), none⟩,
 ⟨some 27, .fld 0 (.t 26), none⟩,
 ⟨some 28, .ld 4 true (.t 27), none⟩,
 ⟨some 29, .mv (.t 6), none⟩,
 ⟨some 30, .call .blind 113 [(.t 28), (.t 29)], none⟩,
 ⟨some 31, .len (.t 30), none⟩,
 ⟨some 32, .mv (.k (.int .i64 0)), none⟩]) <|
 .block 2 <|
 l137_1) <|
 .reg [
 ⟨some 78, .bin .add .sc (.t 17) (.k (.int .i64 1)), none⟩,
 ⟨some 17, .mv (.t 78), none⟩]
def l137_0 : DC := .loop [0, 4, 5, 15, 16, 17] [4, 5] l137_0b
def f137 : DFn := ⟨3, [],
 .seq (.reg [
 ⟨some 4, .boxL (.t 1), none⟩,
 ⟨some 5, .boxL (.t 2), none⟩]) <|
 .seq (.reg [
 ⟨some 12, .mv (.t 0), none⟩,
 ⟨some 13, .nilck (.t 12), none⟩,
 ⟨some 14, .fld 4 (.t 13), none⟩,
 ⟨some 15, .ld 1 false (.t 14), none⟩,
 ⟨some 16, .len (.t 15), none⟩,
 ⟨some 17, .mv (.k (.int .i64 0)), none⟩]) <|
 .block 0 <|
 l137_0⟩

def f138 : DFn := ⟨2, [.t 4],
 .seq (.reg [
 ⟨some 2, .boxH (.t 0), none⟩,
 ⟨some 4, .mv (.k (.bool false)), none⟩]) <|
 .seq (.reg [
 ⟨some 5, .mv (.t 1), none⟩,
 ⟨some 6, .mkF 152 [(.t 2)], none⟩,
 ⟨some 7, .call .ro 109 [(.t 5), (.t 6)], none⟩,
 ⟨some 4, .mv (.t 7), none⟩]) <|
 .ret⟩

def f139 : DFn := ⟨3, [.t 6],
 .seq (.reg [
 ⟨some 4, .boxH (.t 1), none⟩,
 ⟨some 6, .mv (.k (.bool false)), none⟩]) <|
 .seq (.reg [
 ⟨some 7, .mv (.t 0), none⟩,
 ⟨some 8, .nilck (.t 7), none⟩,
 ⟨some 9, .fld 0 (.t 8), none⟩,
 ⟨some 10, .ld 4 true (.t 9), none⟩,
 ⟨some 11, .mv (.t 2), none⟩,
 ⟨some 12, .call .blind 113 [(.t 10), (.t 11)], none⟩,
 ⟨some 13, .mkF 153 [(.t 4)], none⟩,
 ⟨some 14, .call .ro 112 [(.t 12), (.t 13)], none⟩,
 ⟨some 15, .un .not (.t 14), none⟩,
 ⟨some 6, .mv (.t 15), none⟩]) <|
 .ret⟩

def f140 : DFn := ⟨1, [.t 2],
 .seq (.reg [
 ⟨some 2, .mv (.k (.int .i64 0)), none⟩]) <|
 .seq (.seq (.reg [
 ⟨some 3, .mv (.t 0), none⟩]) <|
 .cond (.t 3)
 (.seq (.reg [
 ⟨some 2, .mv (.k (.int .i64 1)), none⟩]) <|
 .ret)
 (.skip)) <|
 .seq (.reg [
 ⟨some 2, .mv (.k (.int .i64 0)), none⟩]) <|
 .ret⟩

def f141 : DFn := ⟨2, [.t 4],
 .seq (.reg [
 ⟨some 4, .mv (.k (.bool false)), none⟩]) <|
 .seq (.reg [
 ⟨some 8, .mv (.t 0), none⟩,
 ⟨some 9, .mv (.t 1), none⟩,
 ⟨some 10, .slS (.t 8) (some (.t 9)) none, none⟩,
 ⟨some 11, .call .blind 154 [(.t 10)], none⟩,
 ⟨some 7, .mv (.t 11), none⟩,
 ⟨some 12, .ext 0 (.t 7), none⟩,
 ⟨some 13, .ext 1 (.t 7), none⟩,
 ⟨some 5, .mv (.t 12), none⟩,
 ⟨some 6, .mv (.t 13), none⟩]) <|
 .seq (.reg [
 ⟨some 14, .mv (.t 5), none⟩,
 ⟨some 15, .bin .eql .sc (.t 14) (.k (.int .i32 65533)), none⟩,
 ⟨some 16, .mv (.t 15), none⟩,
 ⟨some 17, .mv (.t 6), some (16, true)⟩,
 ⟨some 18, .bin .eql .sc (.t 17) (.k (.int .i64 1)), some (16, true)⟩,
 ⟨some 19, .pick (.t 16) (.t 18) (.k (.bool false)), none⟩,
 ⟨some 4, .mv (.t 19), none⟩]) <|
 .ret⟩

def f142 : DFn := ⟨1, [.t 2],
 .seq (.reg [
 ⟨some 2, .mv (.k (.bool false)), none⟩]) <|
 .seq (.block 0 <|
 .seq (.seq (.reg [
 ⟨some 4, .mv (.t 0), none⟩,
 ⟨some 5, .bin .geq .sc (.t 4) (.k (.int .i32 97)), none⟩,
 ⟨some 6, .mv (.t 5), none⟩,
 ⟨some 7, .mv (.t 0), some (6, true)⟩,
 ⟨some 8, .bin .leq .sc (.t 7) (.k (.int .i32 122)), some (6, true)⟩,
 ⟨some 9, .pick (.t 6) (.t 8) (.k (.bool false)), none⟩,
 ⟨some 3, .mv (.t 9), none⟩]) <|
 .cond (.t 3)
 (.skip)
 (.reg [
 ⟨some 10, .mv (.t 0), none⟩,
 ⟨some 11, .bin .geq .sc (.t 10) (.k (.int .i32 65)), none⟩,
 ⟨some 12, .mv (.t 11), none⟩,
 ⟨some 13, .mv (.t 0), some (12, true)⟩,
 ⟨some 14, .bin .leq .sc (.t 13) (.k (.int .i32 90)), some (12, true)⟩,
 ⟨some 15, .pick (.t 12) (.t 14) (.k (.bool false)), none⟩,
 ⟨some 3, .mv (.t 15), none⟩])) <|
 .cond (.t 3)
 (.seq (.reg [
 ⟨some 2, .mv (.k (.bool true)), none⟩]) <|
 .ret)
 (.skip)) <|
 .seq (.reg [
 ⟨some 16, .mv (.t 0), none⟩,
 ⟨some 17, .bin .geq .sc (.t 16) (.k (.int .i32 192)), none⟩,
 ⟨some 18, .mv (.t 17), none⟩,
 ⟨some 19, .mv (.t 0), some (18, true)⟩,
 ⟨some 20, .bin .leq .sc (.t 19) (.k (.int .i32 591)), some (18, true)⟩,
 ⟨some 21, .pick (.t 18) (.t 20) (.k (.bool false)), none⟩,
 ⟨some 22, .mv (.t 21), none⟩,
 ⟨some 23, .mv (.t 0), some (22, true)⟩,
 ⟨some 24, .bin .neq .sc (.t 23) (.k (.int .i32 215)), some (22, true)⟩,
 ⟨some 25, .pick (.t 22) (.t 24) (.k (.bool false)), none⟩,
 ⟨some 26, .mv (.t 25), none⟩,
 ⟨some 27, .mv (.t 0), some (26, true)⟩,
 ⟨some 28, .bin .neq .sc (.t 27) (.k (.int .i32 247)), some (26, true)⟩,
 ⟨some 29, .pick (.t 26) (.t 28) (.k (.bool false)), none⟩,
 ⟨some 2, .mv (.t 29), none⟩]) <|
 .ret⟩

def l143_0b : DC :=
 .seq (.reg [
 ⟨some 9, .bin .lss .sc (.t 8) (.t 7), none⟩]) <|
 .seq (.cond (.t 9)
 (.skip)
 (.exit 0)) <|
 .seq (.block 1 <|
 .seq (.reg [
 ⟨some 10, .mv (.t 8), none⟩,
 ⟨some 5, .mv (.t 10), none⟩]) <|
 .seq (.reg [
 ⟨some 11, .mv (.t 1), none⟩,
 ⟨some 12, .mv (.t 0), none⟩,
 ⟨some 13, .mv (.t 5), none⟩,
 ⟨some 14, .idx 1 (.t 12) (.t 13), none⟩,
 ⟨some 15, .ld 1 false (.t 14), none⟩,
 ⟨some 16, .bin .eql .sc (.t 11) (.t 15), none⟩]) <|
 .cond (.t 16)
 (.seq (.reg [
 ⟨some 17, .mv (.t 5), none⟩,
 ⟨some 4, .mv (.t 17), none⟩]) <|
 .ret)
 (.skip)) <|
 .reg [
 ⟨some 18, .bin .add .sc (.t 8) (.k (.int .i64 1)), none⟩,
 ⟨some 8, .mv (.t 18), none⟩]
def l143_0 : DC := .loop [0, 1, 7, 8] [] l143_0b
def f143 : DFn := ⟨2, [.t 4],
 .seq (.reg [
 ⟨some 4, .mv (.k (.int .i64 0)), none⟩]) <|
 .seq (.seq (.reg [
 ⟨some 6, .mv (.t 0), none⟩,
 ⟨some 7, .len (.t 6), none⟩,
 ⟨some 8, .mv (.k (.int .i64 0)), none⟩]) <|
 .block 0 <|
 l143_0) <|
 .seq (.reg [
 ⟨some 4, .mv (.k (.int .i64 (-1))), none⟩]) <|
 .ret⟩

def f144 : DFn := ⟨2, [.t 4],
 .seq (.reg [
 ⟨some 4, .mv (.k (.nils)), none⟩]) <|
 .seq (.seq (.reg [
 ⟨some 5, .mv (.t 1), none⟩,
 ⟨some 6, .bin .lss .sc (.t 5) (.k (.int .i64 0)), none⟩]) <|
 .cond (.t 6)
 (.reg [
 ⟨some 7, .mkI 9 (.k (.str [99, 97, 110, 110, 111, 116, 32, 98, 101, 32, 110, 101, 103, 97, 116, 105, 118, 101])), none⟩,
 ⟨none, .nilck (.k .nilp), none⟩])
 (.skip)) <|
 .seq (.seq (.reg [
 ⟨some 8, .mv (.t 1), none⟩,
 ⟨some 9, .mv (.t 0), none⟩,
 ⟨some 10, .cap (.t 9), none⟩,
 ⟨some 11, .mv (.t 0), none⟩,
 ⟨some 12, .len (.t 11), none⟩,
 ⟨some 13, .bin .sub .sc (.t 10) (.t 12), none⟩,
 ⟨some 14, .bin .sub .sc (.t 8) (.t 13), none⟩,
 ⟨some 1, .mv (.t 14), none⟩]) <|
 .seq (.reg [
 ⟨some 15, .mv (.t 1), none⟩,
 ⟨some 16, .bin .gtr .sc (.t 15) (.k (.int .i64 0)), none⟩]) <|
 .cond (.t 16)
 (.reg [
 ⟨some 17, .mv (.t 0), none⟩,
 ⟨some 18, .mv (.t 0), none⟩,
 ⟨some 19, .cap (.t 18), none⟩,
 ⟨some 20, .slc 2 (.t 17) none (some (.t 19)) none, none⟩,
 ⟨some 21, .mv (.t 1), none⟩,
 ⟨some 22, .appZ 2 16 [.int .i64 0, .bool false] (.t 20) (.t 21), none⟩,
 ⟨some 23, .mv (.t 0), none⟩,
 ⟨some 24, .len (.t 23), none⟩,
 ⟨some 25, .slc 2 (.t 22) none (some (.t 24)) none, none⟩,
 ⟨some 0, .mv (.t 25), none⟩])
 (.skip)) <|
 .seq (.reg [
 ⟨some 26, .mv (.t 0), none⟩,
 ⟨some 4, .mv (.t 26), none⟩]) <|
 .ret⟩

def f145 : DFn := ⟨1, [.t 2],
 .seq (.reg [
 ⟨some 2, .mv (.k (.bool false)), none⟩]) <|
 .seq (.reg [
 ⟨some 3, .mv (.t 0), none⟩,
 ⟨some 4, .bin .lss .sc (.t 3) (.k (.int .i64 0)), none⟩,
 ⟨some 5, .mv (.t 4), none⟩,
 ⟨some 6, .mv (.t 0), some (5, false)⟩,
 ⟨some 7, .bin .gtr .sc (.t 6) (.k (.int .i64 2)), some (5, false)⟩,
 ⟨some 8, .pick (.t 5) (.k (.bool true)) (.t 7), none⟩,
 ⟨some 2, .mv (.t 8), none⟩]) <|
 .ret⟩

def l146_1b : DC :=
 .seq (.reg [
 ⟨some 43, .bin .lss .sc (.t 42) (.t 41), none⟩]) <|
 .seq (.cond (.t 43)
 (.skip)
 (.exit 2)) <|
 .seq (.block 3 <|
 .seq (.reg [
 ⟨some 44, .idx 2 (.t 40) (.t 42), none⟩,
 ⟨some 45, .ld 2 true (.t 44), none⟩,
 ⟨some 10, .alL [.int .i64 0, .bool false], none⟩,
 ⟨none, .st 2 (.t 10) (.t 45), none⟩]) <|
 .seq (.drw [
 ⟨some 46, .mv (.t 0), none⟩,
 ⟨some 47, .nilck (.t 46), none⟩,
 ⟨some 48, .fld 0 (.t 47), none⟩,
 ⟨some 49, .fld 1 (.t 48), none⟩,
 ⟨some 50, .ld 1 false (.t 49), none⟩,
 ⟨some 51, .fld 0 (.t 10), none⟩,
 ⟨some 52, .ld 1 false (.t 51), none⟩,
 ⟨some 53, .idx 2 (.t 50) (.t 52), none⟩,
 ⟨some 54, .fld 1 (.t 53), none⟩,
 ⟨some 55, .ld 1 false (.t 54), none⟩,
 ⟨some 11, .mv (.t 55), none⟩] [[], [], [], [], [], [], [], [4, 6], [], [4, 6, 7], []]) <|
 .seq (.reg [
 ⟨some 56, .ld 2 true (.t 4), none⟩,
 ⟨some 57, .ld 2 true (.t 10), none⟩,
 ⟨some 58, .call .blind 150 [(.t 56), (.t 57)], none⟩,
 ⟨some 59, .un .not (.t 58), none⟩,
 ⟨some 60, .mv (.t 59), none⟩,
 ⟨some 61, .fld 0 (.t 4), some (60, true)⟩,
 ⟨some 62, .ld 1 false (.t 61), some (60, true)⟩,
 ⟨some 63, .mv (.t 11), some (60, true)⟩,
 ⟨some 64, .idx 1 (.t 62) (.t 63), some (60, true)⟩,
 ⟨some 65, .ld 1 false (.t 64), some (60, true)⟩,
 ⟨some 66, .mv (.t 65), some (60, true)⟩,
 ⟨some 67, .mv (.t 0), some (66, false)⟩,
 ⟨some 68, .mv (.t 11), some (66, false)⟩,
 ⟨some 69, .call .ro 149 [(.t 67), (.t 68)], some (66, false)⟩,
 ⟨some 70, .bin .geq .sc (.t 69) (.k (.int .i64 0)), some (66, false)⟩,
 ⟨some 71, .pick (.t 66) (.k (.bool true)) (.t 70), some (60, true)⟩,
 ⟨some 72, .pick (.t 60) (.t 71) (.k (.bool false)), none⟩]) <|
 .cond (.t 72)
 (.seq (.reg [
 ⟨some 6, .mv (.k (.bool false)), none⟩]) <|
 .ret)
 (.skip)) <|
 .reg [
 ⟨some 73, .bin .add .sc (.t 42) (.k (.int .i64 1)), none⟩,
 ⟨some 42, .mv (.t 73), none⟩]
def l146_1 : DC := .loop [0, 2, 4, 40, 41, 42] [4] l146_1b
def l146_0b : DC :=
 .seq (.reg [
 ⟨some 18, .bin .lss .sc (.t 17) (.t 16), none⟩]) <|
 .seq (.cond (.t 18)
 (.skip)
 (.exit 0)) <|
 .seq (.block 1 <|
 .seq (.reg [
 ⟨some 19, .mv (.t 17), none⟩,
 ⟨some 20, .idx 4 (.t 15) (.t 17), none⟩,
 ⟨some 21, .ld 4 true (.t 20), none⟩,
 ⟨some 8, .alL [.int .i64 0, .int .i64 0, .int .i64 0, .bool false], none⟩,
 ⟨some 7, .mv (.t 19), none⟩,
 ⟨none, .st 4 (.t 8) (.t 21), none⟩]) <|
 .seq (.reg [
 ⟨some 22, .fld 0 (.t 8), none⟩,
 ⟨some 23, .ld 1 false (.t 22), none⟩,
 ⟨some 24, .bin .neq .sc (.t 23) (.k (.int .i64 0)), none⟩,
 ⟨some 25, .mv (.t 24), none⟩,
 ⟨some 26, .mv (.t 0), some (25, true)⟩,
 ⟨some 27, .nilck (.t 26), some (25, true)⟩,
 ⟨some 28, .fld 0 (.t 27), some (25, true)⟩,
 ⟨some 29, .ld 4 true (.t 28), some (25, true)⟩,
 ⟨some 30, .mv (.t 2), some (25, true)⟩,
 ⟨some 31, .mv (.t 7), some (25, true)⟩,
 ⟨some 32, .call .blind 84 [(.t 29), (.t 30), (.t 31)], some (25, true)⟩,
 ⟨some 33, .pick (.t 25) (.t 32) (.k (.bool false)), none⟩]) <|
 .cond (.t 33)
 (.seq (.reg [
 ⟨some 6, .mv (.k (.bool false)), none⟩]) <|
 .ret)
 (.skip)) <|
 .reg [
 ⟨some 34, .bin .add .sc (.t 17) (.k (.int .i64 1)), none⟩,
 ⟨some 17, .mv (.t 34), none⟩]
def l146_0 : DC := .loop [0, 2, 4, 15, 16, 17] [4] l146_0b
def f146 : DFn := ⟨3, [.t 6],
 .seq (.reg [
 ⟨some 4, .boxL (.t 1), none⟩,
 ⟨some 6, .mv (.k (.bool false)), none⟩]) <|
 .seq (.seq (.reg [
 ⟨some 12, .mv (.t 0), none⟩,
 ⟨some 13, .nilck (.t 12), none⟩,
 ⟨some 14, .fld 4 (.t 13), none⟩,
 ⟨some 15, .ld 1 false (.t 14), none⟩,
 ⟨some 16, .len (.t 15), none⟩,
 ⟨some 17, .mv (.k (.int .i64 0)), none⟩]) <|
 .block 0 <|
 l146_0) <|
 .seq (.seq (.reg [
 ⟨some 35, .mv (.t 0), none⟩,
 ⟨some 36, .nilck (.t 35), none⟩,
 ⟨some 37, .fld 0 (.t 36), none⟩,
 ⟨some 38, .ld 4 true (.t 37), none⟩,
 ⟨some 39, .mv (.t 2), none⟩,
 ⟨some 40, .call .blind 113 [(.t 38), (.t 39)], none⟩,
 ⟨some 41, .len (.t 40), none⟩,
 ⟨some 42, .mv (.k (.int .i64 0)), none⟩]) <|
 .block 2 <|
 l146_1) <|
 .seq (.drw [
 ⟨some 74, .ld 2 true (.t 4), none⟩,
 ⟨some 75, .mv (.t 0), none⟩,
 ⟨some 76, .nilck (.t 75), none⟩,
 ⟨some 77, .fld 0 (.t 76), none⟩,
 ⟨some 78, .fld 3 (.t 77), none⟩,
 ⟨some 79, .ld 1 false (.t 78), none⟩,
 ⟨some 80, .mv (.t 2), none⟩,
 ⟨some 81, .idx 6 (.t 79) (.t 80), none⟩,
 ⟨some 82, .fld 3 (.t 81), none⟩,
 ⟨some 83, .ld 1 false (.t 82), none⟩,
 ⟨some 84, .call .blind 138 [(.t 74), (.t 83)], none⟩,
 ⟨some 85, .un .not (.t 84), none⟩,
 ⟨some 6, .mv (.t 85), none⟩] [[], [], [], [], [], [], [], [5], [], [5, 7], [0, 5, 7, 9], [], []]) <|
 .ret⟩

def f147 : DFn := ⟨2, [.cell 4 4 true],
 .seq (.reg [
 ⟨some 2, .boxL (.t 0), none⟩,
 ⟨some 4, .alL [.int .i64 0, .int .i64 0, .int .i64 0, .bool false], none⟩]) <|
 .seq (.reg [
 ⟨some 5, .fld 1 (.t 2), none⟩,
 ⟨some 6, .ld 1 false (.t 5), none⟩,
 ⟨some 7, .bin .add .sc (.t 6) (.k (.int .i64 1)), none⟩,
 ⟨some 8, .fld 1 (.t 2), none⟩,
 ⟨none, .st 1 (.t 8) (.t 7), none⟩]) <|
 .seq (.seq (.reg [
 ⟨some 9, .fld 1 (.t 2), none⟩,
 ⟨some 10, .ld 1 false (.t 9), none⟩,
 ⟨some 11, .mv (.t 1), none⟩,
 ⟨some 12, .bin .gtr .sc (.t 10) (.t 11), none⟩]) <|
 .cond (.t 12)
 (.seq (.reg [
 ⟨some 13, .build [.int .i64 0, .int .i64 0, .int .i64 0, .bool false] [], none⟩,
 ⟨none, .st 4 (.t 4) (.t 13), none⟩]) <|
 .ret)
 (.skip)) <|
 .seq (.reg [
 ⟨some 14, .ld 4 true (.t 2), none⟩,
 ⟨none, .st 4 (.t 4) (.t 14), none⟩]) <|
 .ret⟩

def f148 : DFn := ⟨3, [.cell 6 4 true],
 .seq (.reg [
 ⟨some 4, .boxL (.t 1), none⟩,
 ⟨some 6, .alL [.int .i64 0, .int .i64 0, .int .i64 0, .bool false], none⟩]) <|
 .seq (.drw [
 ⟨some 9, .mv (.t 0), none⟩,
 ⟨some 10, .nilck (.t 9), none⟩,
 ⟨some 11, .fld 4 (.t 10), none⟩,
 ⟨some 12, .ld 1 false (.t 11), none⟩,
 ⟨some 13, .mv (.t 2), none⟩,
 ⟨some 14, .idx 4 (.t 12) (.t 13), none⟩,
 ⟨some 15, .ld 4 true (.t 14), none⟩,
 ⟨some 16, .mv (.t 0), none⟩,
 ⟨some 17, .nilck (.t 16), none⟩,
 ⟨some 18, .fld 0 (.t 17), none⟩,
 ⟨some 19, .fld 3 (.t 18), none⟩,
 ⟨some 20, .ld 1 false (.t 19), none⟩,
 ⟨some 21, .mv (.t 2), none⟩,
 ⟨some 22, .idx 6 (.t 20) (.t 21), none⟩,
 ⟨some 23, .fld 3 (.t 22), none⟩,
 ⟨some 24, .ld 1 false (.t 23), none⟩,
 ⟨some 7, .alL [.int .i64 0, .int .i64 0, .int .i64 0, .bool false], none⟩,
 ⟨none, .st 4 (.t 7) (.t 15), none⟩,
 ⟨some 8, .mv (.t 24), none⟩] [[], [], [], [], [], [3], [3, 5], [], [], [], [], [], [], [11], [], [11, 13], [], [3, 5, 6, 16], []]) <|
 .seq (.block 0 <|
 .seq (.drw [
 ⟨some 26, .fld 0 (.t 4), none⟩,
 ⟨some 27, .ld 1 false (.t 26), none⟩,
 ⟨some 28, .mv (.t 8), none⟩,
 ⟨some 29, .fld 2 (.t 7), none⟩,
 ⟨some 30, .ld 1 false (.t 29), none⟩,
 ⟨some 31, .idx 1 (.t 28) (.t 30), none⟩,
 ⟨some 32, .ld 1 false (.t 31), none⟩,
 ⟨some 33, .idx 1 (.t 27) (.t 32), none⟩,
 ⟨some 34, .ld 1 false (.t 33), none⟩,
 ⟨some 25, .mv (.t 34), none⟩] [[], [], [], [], [], [4], [4, 5], [1, 4, 5, 6], [1, 4, 5, 6, 7], []]) <|
 .cond (.t 25)
 (.reg [
 ⟨some 35, .fld 3 (.t 7), none⟩,
 ⟨none, .st 1 (.t 35) (.k (.bool true)), none⟩])
 (.seq (.reg [
 ⟨some 37, .fld 3 (.t 7), none⟩,
 ⟨some 38, .ld 1 false (.t 37), none⟩,
 ⟨some 36, .mv (.t 38), none⟩]) <|
 .cond (.t 36)
 (.reg [
 ⟨some 39, .fld 2 (.t 7), none⟩,
 ⟨some 40, .ld 1 false (.t 39), none⟩,
 ⟨some 41, .bin .add .sc (.t 40) (.k (.int .i64 1)), none⟩,
 ⟨some 42, .fld 2 (.t 7), none⟩,
 ⟨none, .st 1 (.t 42) (.t 41), none⟩,
 ⟨some 43, .fld 3 (.t 7), none⟩,
 ⟨none, .st 1 (.t 43) (.k (.bool false)), none⟩])
 (.skip))) <|
 .seq (.seq (.reg [
 ⟨some 44, .fld 2 (.t 7), none⟩,
 ⟨some 45, .ld 1 false (.t 44), none⟩,
 ⟨some 46, .mv (.t 8), none⟩,
 ⟨some 47, .len (.t 46), none⟩,
 ⟨some 48, .bin .geq .sc (.t 45) (.t 47), none⟩]) <|
 .cond (.t 48)
 (.seq (.reg [
 ⟨some 49, .build [.int .i64 0, .int .i64 0, .int .i64 0, .bool false] [], none⟩,
 ⟨none, .st 4 (.t 6) (.t 49), none⟩]) <|
 .ret)
 (.skip)) <|
 .seq (.reg [
 ⟨some 50, .ld 4 true (.t 7), none⟩,
 ⟨none, .st 4 (.t 6) (.t 50), none⟩]) <|
 .ret⟩

def l149_0b : DC :=
 .seq (.reg [
 ⟨some 14, .bin .lss .sc (.t 13) (.t 12), none⟩]) <|
 .seq (.cond (.t 14)
 (.skip)
 (.exit 0)) <|
 .seq (.block 1 <|
 .seq (.reg [
 ⟨some 15, .mv (.t 13), none⟩,
 ⟨some 5, .mv (.t 15), none⟩]) <|
 .seq (.reg [
 ⟨some 16, .mv (.t 0), none⟩,
 ⟨some 17, .mv (.t 5), none⟩,
 ⟨some 18, .call .ro 155 [(.t 16), (.t 17)], none⟩,
 ⟨some 19, .mv (.t 1), none⟩,
 ⟨some 20, .call .blind 111 [(.t 18), (.t 19)], none⟩]) <|
 .cond (.t 20)
 (.seq (.reg [
 ⟨some 21, .mv (.t 5), none⟩,
 ⟨some 4, .mv (.t 21), none⟩]) <|
 .ret)
 (.skip)) <|
 .reg [
 ⟨some 22, .bin .add .sc (.t 13) (.k (.int .i64 1)), none⟩,
 ⟨some 13, .mv (.t 22), none⟩]
def l149_0 : DC := .loop [0, 1, 12, 13] [] l149_0b
def f149 : DFn := ⟨2, [.t 4],
 .seq (.reg [
 ⟨some 4, .mv (.k (.int .i64 0)), none⟩]) <|
 .seq (.seq (.reg [
 ⟨some 6, .mv (.t 0), none⟩,
 ⟨some 7, .bin .eql .np (.t 6) (.k (.nilp)), none⟩]) <|
 .cond (.t 7)
 (.seq (.reg [
 ⟨some 4, .mv (.k (.int .i64 (-1))), none⟩]) <|
 .ret)
 (.skip)) <|
 .seq (.seq (.reg [
 ⟨some 8, .mv (.t 0), none⟩,
 ⟨some 9, .nilck (.t 8), none⟩,
 ⟨some 10, .fld 4 (.t 9), none⟩,
 ⟨some 11, .ld 1 false (.t 10), none⟩,
 ⟨some 12, .len (.t 11), none⟩,
 ⟨some 13, .mv (.k (.int .i64 0)), none⟩]) <|
 .block 0 <|
 l149_0) <|
 .seq (.reg [
 ⟨some 4, .mv (.k (.int .i64 (-1))), none⟩]) <|
 .ret⟩

def f150 : DFn := ⟨2, [.t 4],
 .seq (.reg [
 ⟨some 2, .boxL (.t 0), none⟩,
 ⟨some 3, .boxL (.t 1), none⟩,
 ⟨some 4, .mv (.k (.bool false)), none⟩]) <|
 .seq (.drw [
 ⟨some 5, .fld 1 (.t 2), none⟩,
 ⟨some 6, .ld 1 false (.t 5), none⟩,
 ⟨some 7, .fld 0 (.t 3), none⟩,
 ⟨some 8, .ld 1 false (.t 7), none⟩,
 ⟨some 9, .idx 1 (.t 6) (.t 8), none⟩,
 ⟨some 10, .ld 1 false (.t 9), none⟩,
 ⟨some 11, .ld 2 true (.t 3), none⟩,
 ⟨some 12, .call .blind 151 [(.t 11)], none⟩,
 ⟨some 13, .bin .eql .sc (.t 10) (.t 12), none⟩,
 ⟨some 4, .mv (.t 13), none⟩] [[], [], [], [], [1, 3], [1, 3, 4], [], [6], [], []]) <|
 .ret⟩

def f151 : DFn := ⟨1, [.t 2],
 .seq (.reg [
 ⟨some 1, .boxL (.t 0), none⟩,
 ⟨some 2, .mv (.k (.int .i64 0)), none⟩]) <|
 .seq (.seq (.reg [
 ⟨some 3, .fld 1 (.t 1), none⟩,
 ⟨some 4, .ld 1 false (.t 3), none⟩]) <|
 .cond (.t 4)
 (.seq (.reg [
 ⟨some 2, .mv (.k (.int .i64 2)), none⟩]) <|
 .ret)
 (.skip)) <|
 .seq (.reg [
 ⟨some 2, .mv (.k (.int .i64 1)), none⟩]) <|
 .ret⟩

def f152 : DFn := ⟨2, [.t 3],
 .seq (.reg [
 ⟨some 3, .mv (.k (.bool false)), none⟩]) <|
 .seq (.reg [
 ⟨some 4, .fld 0 (.t 1), none⟩,
 ⟨some 5, .ld 1 false (.t 4), none⟩,
 ⟨some 6, .mv (.t 0), none⟩,
 ⟨some 7, .idx 1 (.t 5) (.t 6), none⟩,
 ⟨some 8, .ld 1 false (.t 7), none⟩,
 ⟨some 3, .mv (.t 8), none⟩]) <|
 .ret⟩

def f153 : DFn := ⟨2, [.t 3],
 .seq (.reg [
 ⟨some 2, .boxL (.t 0), none⟩,
 ⟨some 3, .mv (.k (.bool false)), none⟩]) <|
 .seq (.reg [
 ⟨some 4, .ld 2 true (.t 1), none⟩,
 ⟨some 5, .ld 2 true (.t 2), none⟩,
 ⟨some 6, .call .blind 150 [(.t 4), (.t 5)], none⟩,
 ⟨some 7, .un .not (.t 6), none⟩,
 ⟨some 3, .mv (.t 7), none⟩]) <|
 .ret⟩

def f154 : DFn := ⟨1, [.t 2, .t 3],
 .seq (.reg [
 ⟨some 2, .mv (.k (.int .i32 0)), none⟩,
 ⟨some 3, .mv (.k (.int .i64 0)), none⟩]) <|
 .seq (.seq (.reg [
 ⟨some 4, .mv (.t 0), none⟩,
 ⟨some 5, .bin .neq .sc (.t 4) (.k (.str [])), none⟩,
 ⟨some 6, .mv (.t 5), none⟩,
 ⟨some 7, .mv (.t 0), some (6, true)⟩,
 ⟨some 8, .idxS (.t 7) (.k (.int .i64 0)), some (6, true)⟩,
 ⟨some 9, .bin .lss .sc (.t 8) (.k (.int .u8 128)), some (6, true)⟩,
 ⟨some 10, .pick (.t 6) (.t 9) (.k (.bool false)), none⟩]) <|
 .cond (.t 10)
 (.seq (.reg [
 ⟨some 11, .mv (.t 0), none⟩,
 ⟨some 12, .idxS (.t 11) (.k (.int .i64 0)), none⟩,
 ⟨some 13, .cvI .i32 (.t 12), none⟩,
 ⟨some 2, .mv (.t 13), none⟩,
 ⟨some 3, .mv (.k (.int .i64 1)), none⟩]) <|
 .ret)
 (.reg [
 ⟨some 15, .mv (.t 0), none⟩,
 ⟨some 16, .call .blind 156 [(.t 15)], none⟩,
 ⟨some 14, .mv (.t 16), none⟩,
 ⟨some 17, .ext 0 (.t 14), none⟩,
 ⟨some 18, .ext 1 (.t 14), none⟩,
 ⟨some 2, .mv (.t 17), none⟩,
 ⟨some 3, .mv (.t 18), none⟩])) <|
 .ret⟩

def f155 : DFn := ⟨2, [.t 4],
 .seq (.reg [
 ⟨some 4, .mv (.k (.nils)), none⟩]) <|
 .seq (.drw [
 ⟨some 7, .mv (.t 0), none⟩,
 ⟨some 8, .nilck (.t 7), none⟩,
 ⟨some 9, .fld 4 (.t 8), none⟩,
 ⟨some 10, .ld 1 false (.t 9), none⟩,
 ⟨some 11, .mv (.t 1), none⟩,
 ⟨some 12, .idx 4 (.t 10) (.t 11), none⟩,
 ⟨some 13, .ld 4 true (.t 12), none⟩,
 ⟨some 14, .mv (.t 0), none⟩,
 ⟨some 15, .nilck (.t 14), none⟩,
 ⟨some 16, .fld 0 (.t 15), none⟩,
 ⟨some 17, .fld 3 (.t 16), none⟩,
 ⟨some 18, .ld 1 false (.t 17), none⟩,
 ⟨some 19, .mv (.t 1), none⟩,
 ⟨some 20, .idx 6 (.t 18) (.t 19), none⟩,
 ⟨some 21, .fld 3 (.t 20), none⟩,
 ⟨some 22, .ld 1 false (.t 21), none⟩,
 ⟨some 5, .alL [.int .i64 0, .int .i64 0, .int .i64 0, .bool false], none⟩,
 ⟨none, .st 4 (.t 5) (.t 13), none⟩,
 ⟨some 6, .mv (.t 22), none⟩] [[], [], [], [], [], [3], [3, 5], [], [], [], [], [], [], [11], [], [11, 13], [], [3, 5, 6, 16], []]) <|
 .seq (.seq (.reg [
 ⟨some 23, .fld 0 (.t 5), none⟩,
 ⟨some 24, .ld 1 false (.t 23), none⟩]) <|
 .block 0 <|
 .seq (.seq (.reg [
 ⟨some 26, .bin .eql .sc (.t 24) (.k (.int .i64 1)), none⟩,
 ⟨some 25, .mv (.t 26), none⟩]) <|
 .cond (.t 25)
 (.skip)
 (.seq (.reg [
 ⟨some 27, .bin .eql .sc (.t 24) (.k (.int .i64 2)), none⟩,
 ⟨some 25, .mv (.t 27), none⟩]) <|
 .cond (.t 25)
 (.skip)
 (.reg [
 ⟨some 28, .bin .eql .sc (.t 24) (.k (.int .i64 4)), none⟩,
 ⟨some 25, .mv (.t 28), none⟩]))) <|
 .cond (.t 25)
 (.seq (.reg [
 ⟨some 29, .mv (.t 6), none⟩,
 ⟨some 4, .mv (.t 29), none⟩]) <|
 .ret)
 (.seq (.reg [
 ⟨some 31, .bin .eql .sc (.t 24) (.k (.int .i64 3)), none⟩,
 ⟨some 30, .mv (.t 31), none⟩]) <|
 .cond (.t 30)
 (.seq (.reg [
 ⟨some 32, .mv (.t 6), none⟩,
 ⟨some 33, .fld 2 (.t 5), none⟩,
 ⟨some 34, .ld 1 false (.t 33), none⟩,
 ⟨some 35, .slc 1 (.t 32) (some (.t 34)) none none, none⟩,
 ⟨some 4, .mv (.t 35), none⟩]) <|
 .ret)
 (.skip))) <|
 .seq (.reg [
 ⟨some 4, .mv (.k (.nils)), none⟩]) <|
 .ret⟩

def f156 : DFn := ⟨1, [.t 2, .t 3],
 .seq (.reg [
 ⟨some 2, .mv (.k (.int .i32 0)), none⟩,
 ⟨some 3, .mv (.k (.int .i64 0)), none⟩]) <|
 .seq (.reg [
 ⟨some 13, .mv (.t 0), none⟩,
 ⟨some 14, .lenS (.t 13), none⟩,
 ⟨some 4, .mv (.t 14), none⟩]) <|
 .seq (.seq (.reg [
 ⟨some 15, .mv (.t 4), none⟩,
 ⟨some 16, .bin .lss .sc (.t 15) (.k (.int .i64 1)), none⟩]) <|
 .cond (.t 16)
 (.seq (.reg [
 ⟨some 2, .mv (.k (.int .i32 65533)), none⟩,
 ⟨some 3, .mv (.k (.int .i64 0)), none⟩]) <|
 .ret)
 (.skip)) <|
 .seq (.reg [
 ⟨some 17, .mv (.t 0), none⟩,
 ⟨some 18, .idxS (.t 17) (.k (.int .i64 0)), none⟩,
 ⟨some 5, .mv (.t 18), none⟩]) <|
 .seq (.reg [
 ⟨some 19, .mv (.t 5), none⟩,
 ⟨some 20, .idxA 1 256 (.g 0) (.t 19), none⟩,
 ⟨some 21, .ld 1 false (.t 20), none⟩,
 ⟨some 6, .mv (.t 21), none⟩]) <|
 .seq (.seq (.reg [
 ⟨some 22, .mv (.t 6), none⟩,
 ⟨some 23, .bin .geq .sc (.t 22) (.k (.int .u8 240)), none⟩]) <|
 .cond (.t 23)
 (.seq (.reg [
 ⟨some 24, .mv (.t 6), none⟩,
 ⟨some 25, .cvI .i32 (.t 24), none⟩,
 ⟨some 26, .bin .shl .sc (.t 25) (.k (.int .u64 31)), none⟩,
 ⟨some 27, .bin .shr .sc (.t 26) (.k (.int .u64 31)), none⟩,
 ⟨some 7, .mv (.t 27), none⟩]) <|
 .seq (.reg [
 ⟨some 28, .mv (.t 0), none⟩,
 ⟨some 29, .idxS (.t 28) (.k (.int .i64 0)), none⟩,
 ⟨some 30, .cvI .i32 (.t 29), none⟩,
 ⟨some 31, .mv (.t 7), none⟩,
 ⟨some 32, .bin .andNot .sc (.t 30) (.t 31), none⟩,
 ⟨some 33, .mv (.t 7), none⟩,
 ⟨some 34, .bin .and .sc (.k (.int .i32 65533)) (.t 33), none⟩,
 ⟨some 35, .bin .or .sc (.t 32) (.t 34), none⟩,
 ⟨some 2, .mv (.t 35), none⟩,
 ⟨some 3, .mv (.k (.int .i64 1)), none⟩]) <|
 .ret)
 (.skip)) <|
 .seq (.reg [
 ⟨some 36, .mv (.t 6), none⟩,
 ⟨some 37, .bin .and .sc (.t 36) (.k (.int .u8 7)), none⟩,
 ⟨some 38, .cvI .i64 (.t 37), none⟩,
 ⟨some 8, .mv (.t 38), none⟩]) <|
 .seq (.reg [
 ⟨some 39, .mv (.t 6), none⟩,
 ⟨some 40, .bin .shr .sc (.t 39) (.k (.int .u64 4)), none⟩,
 ⟨some 41, .idxA 2 16 (.g 1) (.t 40), none⟩,
 ⟨some 42, .ld 2 true (.t 41), none⟩,
 ⟨some 9, .alL [.int .u8 0, .int .u8 0], none⟩,
 ⟨none, .st 2 (.t 9) (.t 42), none⟩]) <|
 .seq (.seq (.reg [
 ⟨some 43, .mv (.t 4), none⟩,
 ⟨some 44, .mv (.t 8), none⟩,
 ⟨some 45, .bin .lss .sc (.t 43) (.t 44), none⟩]) <|
 .cond (.t 45)
 (.seq (.reg [
 ⟨some 2, .mv (.k (.int .i32 65533)), none⟩,
 ⟨some 3, .mv (.k (.int .i64 1)), none⟩]) <|
 .ret)
 (.skip)) <|
 .seq (.reg [
 ⟨some 46, .mv (.t 0), none⟩,
 ⟨some 47, .idxS (.t 46) (.k (.int .i64 1)), none⟩,
 ⟨some 10, .mv (.t 47), none⟩]) <|
 .seq (.seq (.reg [
 ⟨some 48, .mv (.t 10), none⟩,
 ⟨some 49, .fld 0 (.t 9), none⟩,
 ⟨some 50, .ld 1 false (.t 49), none⟩,
 ⟨some 51, .bin .lss .sc (.t 48) (.t 50), none⟩,
 ⟨some 52, .mv (.t 51), none⟩,
 ⟨some 53, .fld 1 (.t 9), some (52, false)⟩,
 ⟨some 54, .ld 1 false (.t 53), some (52, false)⟩,
 ⟨some 55, .mv (.t 10), some (52, false)⟩,
 ⟨some 56, .bin .lss .sc (.t 54) (.t 55), some (52, false)⟩,
 ⟨some 57, .pick (.t 52) (.k (.bool true)) (.t 56), none⟩]) <|
 .cond (.t 57)
 (.seq (.reg [
 ⟨some 2, .mv (.k (.int .i32 65533)), none⟩,
 ⟨some 3, .mv (.k (.int .i64 1)), none⟩]) <|
 .ret)
 (.skip)) <|
 .seq (.seq (.reg [
 ⟨some 58, .mv (.t 8), none⟩,
 ⟨some 59, .bin .leq .sc (.t 58) (.k (.int .i64 2)), none⟩]) <|
 .cond (.t 59)
 (.seq (.reg [
 ⟨some 60, .mv (.t 5), none⟩,
 ⟨some 61, .bin .and .sc (.t 60) (.k (.int .u8 31)), none⟩,
 ⟨some 62, .cvI .i32 (.t 61), none⟩,
 ⟨some 63, .bin .shl .sc (.t 62) (.k (.int .u64 6)), none⟩,
 ⟨some 64, .mv (.t 10), none⟩,
 ⟨some 65, .bin .and .sc (.t 64) (.k (.int .u8 63)), none⟩,
 ⟨some 66, .cvI .i32 (.t 65), none⟩,
 ⟨some 67, .bin .or .sc (.t 63) (.t 66), none⟩,
 ⟨some 2, .mv (.t 67), none⟩,
 ⟨some 3, .mv (.k (.int .i64 2)), none⟩]) <|
 .ret)
 (.skip)) <|
 .seq (.reg [
 ⟨some 68, .mv (.t 0), none⟩,
 ⟨some 69, .idxS (.t 68) (.k (.int .i64 2)), none⟩,
 ⟨some 11, .mv (.t 69), none⟩]) <|
 .seq (.seq (.reg [
 ⟨some 70, .mv (.t 11), none⟩,
 ⟨some 71, .bin .lss .sc (.t 70) (.k (.int .u8 128)), none⟩,
 ⟨some 72, .mv (.t 71), none⟩,
 ⟨some 73, .mv (.t 11), some (72, false)⟩,
 ⟨some 74, .bin .lss .sc (.k (.int .u8 191)) (.t 73), some (72, false)⟩,
 ⟨some 75, .pick (.t 72) (.k (.bool true)) (.t 74), none⟩]) <|
 .cond (.t 75)
 (.seq (.reg [
 ⟨some 2, .mv (.k (.int .i32 65533)), none⟩,
 ⟨some 3, .mv (.k (.int .i64 1)), none⟩]) <|
 .ret)
 (.skip)) <|
 .seq (.seq (.reg [
 ⟨some 76, .mv (.t 8), none⟩,
 ⟨some 77, .bin .leq .sc (.t 76) (.k (.int .i64 3)), none⟩]) <|
 .cond (.t 77)
 (.seq (.reg [
 ⟨some 78, .mv (.t 5), none⟩,
 ⟨some 79, .bin .and .sc (.t 78) (.k (.int .u8 15)), none⟩,
 ⟨some 80, .cvI .i32 (.t 79), none⟩,
 ⟨some 81, .bin .shl .sc (.t 80) (.k (.int .u64 12)), none⟩,
 ⟨some 82, .mv (.t 10), none⟩,
 ⟨some 83, .bin .and .sc (.t 82) (.k (.int .u8 63)), none⟩,
 ⟨some 84, .cvI .i32 (.t 83), none⟩,
 ⟨some 85, .bin .shl .sc (.t 84) (.k (.int .u64 6)), none⟩,
 ⟨some 86, .bin .or .sc (.t 81) (.t 85), none⟩,
 ⟨some 87, .mv (.t 11), none⟩,
 ⟨some 88, .bin .and .sc (.t 87) (.k (.int .u8 63)), none⟩,
 ⟨some 89, .cvI .i32 (.t 88), none⟩,
 ⟨some 90, .bin .or .sc (.t 86) (.t 89), none⟩,
 ⟨some 2, .mv (.t 90), none⟩,
 ⟨some 3, .mv (.k (.int .i64 3)), none⟩]) <|
 .ret)
 (.skip)) <|
 .seq (.reg [
 ⟨some 91, .mv (.t 0), none⟩,
 ⟨some 92, .idxS (.t 91) (.k (.int .i64 3)), none⟩,
 ⟨some 12, .mv (.t 92), none⟩]) <|
 .seq (.seq (.reg [
 ⟨some 93, .mv (.t 12), none⟩,
 ⟨some 94, .bin .lss .sc (.t 93) (.k (.int .u8 128)), none⟩,
 ⟨some 95, .mv (.t 94), none⟩,
 ⟨some 96, .mv (.t 12), some (95, false)⟩,
 ⟨some 97, .bin .lss .sc (.k (.int .u8 191)) (.t 96), some (95, false)⟩,
 ⟨some 98, .pick (.t 95) (.k (.bool true)) (.t 97), none⟩]) <|
 .cond (.t 98)
 (.seq (.reg [
 ⟨some 2, .mv (.k (.int .i32 65533)), none⟩,
 ⟨some 3, .mv (.k (.int .i64 1)), none⟩]) <|
 .ret)
 (.skip)) <|
 .seq (.reg [
 ⟨some 99, .mv (.t 5), none⟩,
 ⟨some 100, .bin .and .sc (.t 99) (.k (.int .u8 7)), none⟩,
 ⟨some 101, .cvI .i32 (.t 100), none⟩,
 ⟨some 102, .bin .shl .sc (.t 101) (.k (.int .u64 18)), none⟩,
 ⟨some 103, .mv (.t 10), none⟩,
 ⟨some 104, .bin .and .sc (.t 103) (.k (.int .u8 63)), none⟩,
 ⟨some 105, .cvI .i32 (.t 104), none⟩,
 ⟨some 106, .bin .shl .sc (.t 105) (.k (.int .u64 12)), none⟩,
 ⟨some 107, .bin .or .sc (.t 102) (.t 106), none⟩,
 ⟨some 108, .mv (.t 11), none⟩,
 ⟨some 109, .bin .and .sc (.t 108) (.k (.int .u8 63)), none⟩,
 ⟨some 110, .cvI .i32 (.t 109), none⟩,
 ⟨some 111, .bin .shl .sc (.t 110) (.k (.int .u64 6)), none⟩,
 ⟨some 112, .bin .or .sc (.t 107) (.t 111), none⟩,
 ⟨some 113, .mv (.t 12), none⟩,
 ⟨some 114, .bin .and .sc (.t 113) (.k (.int .u8 63)), none⟩,
 ⟨some 115, .cvI .i32 (.t 114), none⟩,
 ⟨some 116, .bin .or .sc (.t 112) (.t 115), none⟩,
 ⟨some 2, .mv (.t 116), none⟩,
 ⟨some 3, .mv (.k (.int .i64 4)), none⟩]) <|
 .ret⟩


noncomputable def tab : PT Entry := (.nd (.nd (.nd (.nd (.nd (.nd (.nd (.nd .lf (some (.fn f127)) .lf) (some (.fn f63)) .lf) (some (.fn f31)) (.nd .lf (some (.fn f95)) .lf)) (some (.fn f15)) (.nd (.nd (.nd .lf (some (.fn f143)) .lf) (some (.fn f79)) .lf) (some (.fn f47)) (.nd .lf (some (.fn f111)) .lf))) (some (.fn f7)) (.nd (.nd (.nd (.nd .lf (some (.fn f135)) .lf) (some (.fn f71)) .lf) (some (.fn f39)) (.nd .lf (some (.fn f103)) .lf)) (some (.fn f23)) (.nd (.nd (.nd .lf (some (.fn f151)) .lf) (some (.fn f87)) .lf) (some (.fn f55)) (.nd .lf (some (.fn f119)) .lf)))) (some (.fn f3)) (.nd (.nd (.nd (.nd (.nd .lf (some (.fn f131)) .lf) (some (.fn f67)) .lf) (some (.fn f35)) (.nd .lf (some (.fn f99)) .lf)) (some (.fn f19)) (.nd (.nd (.nd .lf (some (.fn f147)) .lf) (some (.fn f83)) .lf) (some (.fn f51)) (.nd .lf (some (.fn f115)) .lf))) (some (.fn f11)) (.nd (.nd (.nd (.nd .lf (some (.fn f139)) .lf) (some (.fn f75)) .lf) (some (.fn f43)) (.nd .lf (some (.fn f107)) .lf)) (some (.fn f27)) (.nd (.nd (.nd .lf (some (.fn f155)) .lf) (some (.fn f91)) .lf) (some (.fn f59)) (.nd .lf (some (.fn f123)) .lf))))) none (.nd (.nd (.nd (.nd (.nd (.nd .lf (some (.fn f129)) .lf) (some (.fn f65)) .lf) (some (.fn f33)) (.nd .lf (some (.fn f97)) .lf)) (some (.fn f17)) (.nd (.nd (.nd .lf (some (.fn f145)) .lf) (some (.prim primTake)) .lf) (some (.fn f49)) (.nd .lf (some (.fn f113)) .lf))) (some (.fn f9)) (.nd (.nd (.nd (.nd .lf (some (.fn f137)) .lf) (some (.fn f73)) .lf) (some (.fn f41)) (.nd .lf (some (.prim primSum)) .lf)) (some (.fn f25)) (.nd (.nd (.nd .lf (some (.fn f153)) .lf) (some (.fn f89)) .lf) (some (.fn f57)) (.nd .lf (some (.fn f121)) .lf)))) (some (.fn f5)) (.nd (.nd (.nd (.nd (.nd .lf (some (.fn f133)) .lf) (some (.fn f69)) .lf) (some (.fn f37)) (.nd .lf (some (.fn f101)) .lf)) (some (.fn f21)) (.nd (.nd (.nd .lf (some (.fn f149)) .lf) (some (.fn f85)) .lf) (some (.fn f53)) (.nd .lf (some (.fn f117)) .lf))) (some (.fn f13)) (.nd (.nd (.nd (.nd .lf (some (.fn f141)) .lf) (some (.fn f77)) .lf) (some (.fn f45)) (.nd .lf (some (.fn f109)) .lf)) (some (.fn f29)) (.nd (.nd .lf (some (.fn f93)) .lf) (some (.fn f61)) (.nd .lf (some (.fn f125)) .lf)))))) none (.nd (.nd (.nd (.nd (.nd (.nd (.nd .lf (some (.fn f128)) .lf) (some (.fn f64)) .lf) (some (.fn f32)) (.nd .lf (some (.fn f96)) .lf)) (some (.fn f16)) (.nd (.nd (.nd .lf (some (.fn f144)) .lf) (some (.fn f80)) .lf) (some (.fn f48)) (.nd .lf (some (.fn f112)) .lf))) (some (.fn f8)) (.nd (.nd (.nd (.nd .lf (some (.fn f136)) .lf) (some (.fn f72)) .lf) (some (.fn f40)) (.nd .lf (some (.prim primNumber)) .lf)) (some (.fn f24)) (.nd (.nd (.nd .lf (some (.fn f152)) .lf) (some (.fn f88)) .lf) (some (.fn f56)) (.nd .lf (some (.fn f120)) .lf)))) (some (.fn f4)) (.nd (.nd (.nd (.nd (.nd .lf (some (.fn f132)) .lf) (some (.fn f68)) .lf) (some (.fn f36)) (.nd .lf (some (.fn f100)) .lf)) (some (.fn f20)) (.nd (.nd (.nd .lf (some (.fn f148)) .lf) (some (.fn f84)) .lf) (some (.fn f52)) (.nd .lf (some (.fn f116)) .lf))) (some (.fn f12)) (.nd (.nd (.nd (.nd .lf (some (.fn f140)) .lf) (some (.fn f76)) .lf) (some (.fn f44)) (.nd .lf (some (.fn f108)) .lf)) (some (.fn f28)) (.nd (.nd (.nd .lf (some (.fn f156)) .lf) (some (.fn f92)) .lf) (some (.fn f60)) (.nd .lf (some (.fn f124)) .lf))))) none (.nd (.nd (.nd (.nd (.nd (.nd .lf (some (.fn f130)) .lf) (some (.fn f66)) .lf) (some (.fn f34)) (.nd .lf (some (.fn f98)) .lf)) (some (.fn f18)) (.nd (.nd (.nd .lf (some (.fn f146)) .lf) (some (.fn f82)) .lf) (some (.fn f50)) (.nd .lf (some (.fn f114)) .lf))) (some (.fn f10)) (.nd (.nd (.nd (.nd .lf (some (.fn f138)) .lf) (some (.prim primTaken)) .lf) (some (.fn f42)) (.nd .lf (some (.fn f106)) .lf)) (some (.fn f26)) (.nd (.nd (.nd .lf (some (.fn f154)) .lf) (some (.fn f90)) .lf) (some (.fn f58)) (.nd .lf (some (.fn f122)) .lf)))) (some (.fn f6)) (.nd (.nd (.nd (.nd (.nd .lf (some (.fn f134)) .lf) (some (.fn f70)) .lf) (some (.fn f38)) (.nd .lf (some (.fn f102)) .lf)) (some (.fn f22)) (.nd (.nd (.nd .lf (some (.fn f150)) .lf) (some (.fn f86)) .lf) (some (.fn f54)) (.nd .lf (some (.fn f118)) .lf))) (some (.fn f14)) (.nd (.nd (.nd (.nd .lf (some (.fn f142)) .lf) (some (.fn f78)) .lf) (some (.fn f46)) (.nd .lf (some (.fn f110)) .lf)) (some (.fn f30)) (.nd (.nd .lf (some (.fn f94)) .lf) (some (.fn f62)) (.nd .lf (some (.prim primCrc)) .lf)))))))
noncomputable abbrev K (G : Nat → Option (List IV)) (d : Nat) : Go.PM.Callee := dcall G (fun f => tab.get f) d
theorem k3 {G : Nat → Option (List IV)} {d : Nat} {args : List DV} {H : PT HB} {n lo : Nat} : K G (d + 1) 3 args H n lo = f3.run G (K G d) args H n lo := dcall_fn rfl
theorem k4 {G : Nat → Option (List IV)} {d : Nat} {args : List DV} {H : PT HB} {n lo : Nat} : K G (d + 1) 4 args H n lo = f4.run G (K G d) args H n lo := dcall_fn rfl
theorem k5 {G : Nat → Option (List IV)} {d : Nat} {args : List DV} {H : PT HB} {n lo : Nat} : K G (d + 1) 5 args H n lo = f5.run G (K G d) args H n lo := dcall_fn rfl
theorem k6 {G : Nat → Option (List IV)} {d : Nat} {args : List DV} {H : PT HB} {n lo : Nat} : K G (d + 1) 6 args H n lo = f6.run G (K G d) args H n lo := dcall_fn rfl
theorem k7 {G : Nat → Option (List IV)} {d : Nat} {args : List DV} {H : PT HB} {n lo : Nat} : K G (d + 1) 7 args H n lo = f7.run G (K G d) args H n lo := dcall_fn rfl
theorem k8 {G : Nat → Option (List IV)} {d : Nat} {args : List DV} {H : PT HB} {n lo : Nat} : K G (d + 1) 8 args H n lo = f8.run G (K G d) args H n lo := dcall_fn rfl
theorem k9 {G : Nat → Option (List IV)} {d : Nat} {args : List DV} {H : PT HB} {n lo : Nat} : K G (d + 1) 9 args H n lo = f9.run G (K G d) args H n lo := dcall_fn rfl
theorem k10 {G : Nat → Option (List IV)} {d : Nat} {args : List DV} {H : PT HB} {n lo : Nat} : K G (d + 1) 10 args H n lo = f10.run G (K G d) args H n lo := dcall_fn rfl
theorem k11 {G : Nat → Option (List IV)} {d : Nat} {args : List DV} {H : PT HB} {n lo : Nat} : K G (d + 1) 11 args H n lo = f11.run G (K G d) args H n lo := dcall_fn rfl
theorem k12 {G : Nat → Option (List IV)} {d : Nat} {args : List DV} {H : PT HB} {n lo : Nat} : K G (d + 1) 12 args H n lo = f12.run G (K G d) args H n lo := dcall_fn rfl
theorem k13 {G : Nat → Option (List IV)} {d : Nat} {args : List DV} {H : PT HB} {n lo : Nat} : K G (d + 1) 13 args H n lo = f13.run G (K G d) args H n lo := dcall_fn rfl
theorem k14 {G : Nat → Option (List IV)} {d : Nat} {args : List DV} {H : PT HB} {n lo : Nat} : K G (d + 1) 14 args H n lo = f14.run G (K G d) args H n lo := dcall_fn rfl
theorem k15 {G : Nat → Option (List IV)} {d : Nat} {args : List DV} {H : PT HB} {n lo : Nat} : K G (d + 1) 15 args H n lo = f15.run G (K G d) args H n lo := dcall_fn rfl
theorem k16 {G : Nat → Option (List IV)} {d : Nat} {args : List DV} {H : PT HB} {n lo : Nat} : K G (d + 1) 16 args H n lo = f16.run G (K G d) args H n lo := dcall_fn rfl
theorem k17 {G : Nat → Option (List IV)} {d : Nat} {args : List DV} {H : PT HB} {n lo : Nat} : K G (d + 1) 17 args H n lo = f17.run G (K G d) args H n lo := dcall_fn rfl
theorem k18 {G : Nat → Option (List IV)} {d : Nat} {args : List DV} {H : PT HB} {n lo : Nat} : K G (d + 1) 18 args H n lo = f18.run G (K G d) args H n lo := dcall_fn rfl
theorem k19 {G : Nat → Option (List IV)} {d : Nat} {args : List DV} {H : PT HB} {n lo : Nat} : K G (d + 1) 19 args H n lo = f19.run G (K G d) args H n lo := dcall_fn rfl
theorem k20 {G : Nat → Option (List IV)} {d : Nat} {args : List DV} {H : PT HB} {n lo : Nat} : K G (d + 1) 20 args H n lo = f20.run G (K G d) args H n lo := dcall_fn rfl
theorem k21 {G : Nat → Option (List IV)} {d : Nat} {args : List DV} {H : PT HB} {n lo : Nat} : K G (d + 1) 21 args H n lo = f21.run G (K G d) args H n lo := dcall_fn rfl
theorem k22 {G : Nat → Option (List IV)} {d : Nat} {args : List DV} {H : PT HB} {n lo : Nat} : K G (d + 1) 22 args H n lo = f22.run G (K G d) args H n lo := dcall_fn rfl
theorem k23 {G : Nat → Option (List IV)} {d : Nat} {args : List DV} {H : PT HB} {n lo : Nat} : K G (d + 1) 23 args H n lo = f23.run G (K G d) args H n lo := dcall_fn rfl
theorem k24 {G : Nat → Option (List IV)} {d : Nat} {args : List DV} {H : PT HB} {n lo : Nat} : K G (d + 1) 24 args H n lo = f24.run G (K G d) args H n lo := dcall_fn rfl
theorem k25 {G : Nat → Option (List IV)} {d : Nat} {args : List DV} {H : PT HB} {n lo : Nat} : K G (d + 1) 25 args H n lo = f25.run G (K G d) args H n lo := dcall_fn rfl
theorem k26 {G : Nat → Option (List IV)} {d : Nat} {args : List DV} {H : PT HB} {n lo : Nat} : K G (d + 1) 26 args H n lo = f26.run G (K G d) args H n lo := dcall_fn rfl
theorem k27 {G : Nat → Option (List IV)} {d : Nat} {args : List DV} {H : PT HB} {n lo : Nat} : K G (d + 1) 27 args H n lo = f27.run G (K G d) args H n lo := dcall_fn rfl
theorem k28 {G : Nat → Option (List IV)} {d : Nat} {args : List DV} {H : PT HB} {n lo : Nat} : K G (d + 1) 28 args H n lo = f28.run G (K G d) args H n lo := dcall_fn rfl
theorem k29 {G : Nat → Option (List IV)} {d : Nat} {args : List DV} {H : PT HB} {n lo : Nat} : K G (d + 1) 29 args H n lo = f29.run G (K G d) args H n lo := dcall_fn rfl
theorem k30 {G : Nat → Option (List IV)} {d : Nat} {args : List DV} {H : PT HB} {n lo : Nat} : K G (d + 1) 30 args H n lo = f30.run G (K G d) args H n lo := dcall_fn rfl
theorem k31 {G : Nat → Option (List IV)} {d : Nat} {args : List DV} {H : PT HB} {n lo : Nat} : K G (d + 1) 31 args H n lo = f31.run G (K G d) args H n lo := dcall_fn rfl
theorem k32 {G : Nat → Option (List IV)} {d : Nat} {args : List DV} {H : PT HB} {n lo : Nat} : K G (d + 1) 32 args H n lo = f32.run G (K G d) args H n lo := dcall_fn rfl
theorem k33 {G : Nat → Option (List IV)} {d : Nat} {args : List DV} {H : PT HB} {n lo : Nat} : K G (d + 1) 33 args H n lo = f33.run G (K G d) args H n lo := dcall_fn rfl
theorem k34 {G : Nat → Option (List IV)} {d : Nat} {args : List DV} {H : PT HB} {n lo : Nat} : K G (d + 1) 34 args H n lo = f34.run G (K G d) args H n lo := dcall_fn rfl
theorem k35 {G : Nat → Option (List IV)} {d : Nat} {args : List DV} {H : PT HB} {n lo : Nat} : K G (d + 1) 35 args H n lo = f35.run G (K G d) args H n lo := dcall_fn rfl
theorem k36 {G : Nat → Option (List IV)} {d : Nat} {args : List DV} {H : PT HB} {n lo : Nat} : K G (d + 1) 36 args H n lo = f36.run G (K G d) args H n lo := dcall_fn rfl
theorem k37 {G : Nat → Option (List IV)} {d : Nat} {args : List DV} {H : PT HB} {n lo : Nat} : K G (d + 1) 37 args H n lo = f37.run G (K G d) args H n lo := dcall_fn rfl
theorem k38 {G : Nat → Option (List IV)} {d : Nat} {args : List DV} {H : PT HB} {n lo : Nat} : K G (d + 1) 38 args H n lo = f38.run G (K G d) args H n lo := dcall_fn rfl
theorem k39 {G : Nat → Option (List IV)} {d : Nat} {args : List DV} {H : PT HB} {n lo : Nat} : K G (d + 1) 39 args H n lo = f39.run G (K G d) args H n lo := dcall_fn rfl
theorem k40 {G : Nat → Option (List IV)} {d : Nat} {args : List DV} {H : PT HB} {n lo : Nat} : K G (d + 1) 40 args H n lo = f40.run G (K G d) args H n lo := dcall_fn rfl
theorem k41 {G : Nat → Option (List IV)} {d : Nat} {args : List DV} {H : PT HB} {n lo : Nat} : K G (d + 1) 41 args H n lo = f41.run G (K G d) args H n lo := dcall_fn rfl
theorem k42 {G : Nat → Option (List IV)} {d : Nat} {args : List DV} {H : PT HB} {n lo : Nat} : K G (d + 1) 42 args H n lo = f42.run G (K G d) args H n lo := dcall_fn rfl
theorem k43 {G : Nat → Option (List IV)} {d : Nat} {args : List DV} {H : PT HB} {n lo : Nat} : K G (d + 1) 43 args H n lo = f43.run G (K G d) args H n lo := dcall_fn rfl
theorem k44 {G : Nat → Option (List IV)} {d : Nat} {args : List DV} {H : PT HB} {n lo : Nat} : K G (d + 1) 44 args H n lo = f44.run G (K G d) args H n lo := dcall_fn rfl
theorem k45 {G : Nat → Option (List IV)} {d : Nat} {args : List DV} {H : PT HB} {n lo : Nat} : K G (d + 1) 45 args H n lo = f45.run G (K G d) args H n lo := dcall_fn rfl
theorem k46 {G : Nat → Option (List IV)} {d : Nat} {args : List DV} {H : PT HB} {n lo : Nat} : K G (d + 1) 46 args H n lo = f46.run G (K G d) args H n lo := dcall_fn rfl
theorem k47 {G : Nat → Option (List IV)} {d : Nat} {args : List DV} {H : PT HB} {n lo : Nat} : K G (d + 1) 47 args H n lo = f47.run G (K G d) args H n lo := dcall_fn rfl
theorem k48 {G : Nat → Option (List IV)} {d : Nat} {args : List DV} {H : PT HB} {n lo : Nat} : K G (d + 1) 48 args H n lo = f48.run G (K G d) args H n lo := dcall_fn rfl
theorem k49 {G : Nat → Option (List IV)} {d : Nat} {args : List DV} {H : PT HB} {n lo : Nat} : K G (d + 1) 49 args H n lo = f49.run G (K G d) args H n lo := dcall_fn rfl
theorem k50 {G : Nat → Option (List IV)} {d : Nat} {args : List DV} {H : PT HB} {n lo : Nat} : K G (d + 1) 50 args H n lo = f50.run G (K G d) args H n lo := dcall_fn rfl
theorem k51 {G : Nat → Option (List IV)} {d : Nat} {args : List DV} {H : PT HB} {n lo : Nat} : K G (d + 1) 51 args H n lo = f51.run G (K G d) args H n lo := dcall_fn rfl
theorem k52 {G : Nat → Option (List IV)} {d : Nat} {args : List DV} {H : PT HB} {n lo : Nat} : K G (d + 1) 52 args H n lo = f52.run G (K G d) args H n lo := dcall_fn rfl
theorem k53 {G : Nat → Option (List IV)} {d : Nat} {args : List DV} {H : PT HB} {n lo : Nat} : K G (d + 1) 53 args H n lo = f53.run G (K G d) args H n lo := dcall_fn rfl
theorem k54 {G : Nat → Option (List IV)} {d : Nat} {args : List DV} {H : PT HB} {n lo : Nat} : K G (d + 1) 54 args H n lo = f54.run G (K G d) args H n lo := dcall_fn rfl
theorem k55 {G : Nat → Option (List IV)} {d : Nat} {args : List DV} {H : PT HB} {n lo : Nat} : K G (d + 1) 55 args H n lo = f55.run G (K G d) args H n lo := dcall_fn rfl
theorem k56 {G : Nat → Option (List IV)} {d : Nat} {args : List DV} {H : PT HB} {n lo : Nat} : K G (d + 1) 56 args H n lo = f56.run G (K G d) args H n lo := dcall_fn rfl
theorem k57 {G : Nat → Option (List IV)} {d : Nat} {args : List DV} {H : PT HB} {n lo : Nat} : K G (d + 1) 57 args H n lo = f57.run G (K G d) args H n lo := dcall_fn rfl
theorem k58 {G : Nat → Option (List IV)} {d : Nat} {args : List DV} {H : PT HB} {n lo : Nat} : K G (d + 1) 58 args H n lo = f58.run G (K G d) args H n lo := dcall_fn rfl
theorem k59 {G : Nat → Option (List IV)} {d : Nat} {args : List DV} {H : PT HB} {n lo : Nat} : K G (d + 1) 59 args H n lo = f59.run G (K G d) args H n lo := dcall_fn rfl
theorem k60 {G : Nat → Option (List IV)} {d : Nat} {args : List DV} {H : PT HB} {n lo : Nat} : K G (d + 1) 60 args H n lo = f60.run G (K G d) args H n lo := dcall_fn rfl
theorem k61 {G : Nat → Option (List IV)} {d : Nat} {args : List DV} {H : PT HB} {n lo : Nat} : K G (d + 1) 61 args H n lo = f61.run G (K G d) args H n lo := dcall_fn rfl
theorem k62 {G : Nat → Option (List IV)} {d : Nat} {args : List DV} {H : PT HB} {n lo : Nat} : K G (d + 1) 62 args H n lo = f62.run G (K G d) args H n lo := dcall_fn rfl
theorem k63 {G : Nat → Option (List IV)} {d : Nat} {args : List DV} {H : PT HB} {n lo : Nat} : K G (d + 1) 63 args H n lo = f63.run G (K G d) args H n lo := dcall_fn rfl
theorem k64 {G : Nat → Option (List IV)} {d : Nat} {args : List DV} {H : PT HB} {n lo : Nat} : K G (d + 1) 64 args H n lo = f64.run G (K G d) args H n lo := dcall_fn rfl
theorem k65 {G : Nat → Option (List IV)} {d : Nat} {args : List DV} {H : PT HB} {n lo : Nat} : K G (d + 1) 65 args H n lo = f65.run G (K G d) args H n lo := dcall_fn rfl
theorem k66 {G : Nat → Option (List IV)} {d : Nat} {args : List DV} {H : PT HB} {n lo : Nat} : K G (d + 1) 66 args H n lo = f66.run G (K G d) args H n lo := dcall_fn rfl
theorem k67 {G : Nat → Option (List IV)} {d : Nat} {args : List DV} {H : PT HB} {n lo : Nat} : K G (d + 1) 67 args H n lo = f67.run G (K G d) args H n lo := dcall_fn rfl
theorem k68 {G : Nat → Option (List IV)} {d : Nat} {args : List DV} {H : PT HB} {n lo : Nat} : K G (d + 1) 68 args H n lo = f68.run G (K G d) args H n lo := dcall_fn rfl
theorem k69 {G : Nat → Option (List IV)} {d : Nat} {args : List DV} {H : PT HB} {n lo : Nat} : K G (d + 1) 69 args H n lo = f69.run G (K G d) args H n lo := dcall_fn rfl
theorem k70 {G : Nat → Option (List IV)} {d : Nat} {args : List DV} {H : PT HB} {n lo : Nat} : K G (d + 1) 70 args H n lo = f70.run G (K G d) args H n lo := dcall_fn rfl
theorem k71 {G : Nat → Option (List IV)} {d : Nat} {args : List DV} {H : PT HB} {n lo : Nat} : K G (d + 1) 71 args H n lo = f71.run G (K G d) args H n lo := dcall_fn rfl
theorem k72 {G : Nat → Option (List IV)} {d : Nat} {args : List DV} {H : PT HB} {n lo : Nat} : K G (d + 1) 72 args H n lo = f72.run G (K G d) args H n lo := dcall_fn rfl
theorem k73 {G : Nat → Option (List IV)} {d : Nat} {args : List DV} {H : PT HB} {n lo : Nat} : K G (d + 1) 73 args H n lo = f73.run G (K G d) args H n lo := dcall_fn rfl
theorem k74 {G : Nat → Option (List IV)} {d : Nat} {args : List DV} {H : PT HB} {n lo : Nat} : K G (d + 1) 74 args H n lo = primTaken args H n lo := rfl
theorem k75 {G : Nat → Option (List IV)} {d : Nat} {args : List DV} {H : PT HB} {n lo : Nat} : K G (d + 1) 75 args H n lo = f75.run G (K G d) args H n lo := dcall_fn rfl
theorem k76 {G : Nat → Option (List IV)} {d : Nat} {args : List DV} {H : PT HB} {n lo : Nat} : K G (d + 1) 76 args H n lo = f76.run G (K G d) args H n lo := dcall_fn rfl
theorem k77 {G : Nat → Option (List IV)} {d : Nat} {args : List DV} {H : PT HB} {n lo : Nat} : K G (d + 1) 77 args H n lo = f77.run G (K G d) args H n lo := dcall_fn rfl
theorem k78 {G : Nat → Option (List IV)} {d : Nat} {args : List DV} {H : PT HB} {n lo : Nat} : K G (d + 1) 78 args H n lo = f78.run G (K G d) args H n lo := dcall_fn rfl
theorem k79 {G : Nat → Option (List IV)} {d : Nat} {args : List DV} {H : PT HB} {n lo : Nat} : K G (d + 1) 79 args H n lo = f79.run G (K G d) args H n lo := dcall_fn rfl
theorem k80 {G : Nat → Option (List IV)} {d : Nat} {args : List DV} {H : PT HB} {n lo : Nat} : K G (d + 1) 80 args H n lo = f80.run G (K G d) args H n lo := dcall_fn rfl
theorem k81 {G : Nat → Option (List IV)} {d : Nat} {args : List DV} {H : PT HB} {n lo : Nat} : K G (d + 1) 81 args H n lo = primTake args H n lo := rfl
theorem k82 {G : Nat → Option (List IV)} {d : Nat} {args : List DV} {H : PT HB} {n lo : Nat} : K G (d + 1) 82 args H n lo = f82.run G (K G d) args H n lo := dcall_fn rfl
theorem k83 {G : Nat → Option (List IV)} {d : Nat} {args : List DV} {H : PT HB} {n lo : Nat} : K G (d + 1) 83 args H n lo = f83.run G (K G d) args H n lo := dcall_fn rfl
theorem k84 {G : Nat → Option (List IV)} {d : Nat} {args : List DV} {H : PT HB} {n lo : Nat} : K G (d + 1) 84 args H n lo = f84.run G (K G d) args H n lo := dcall_fn rfl
theorem k85 {G : Nat → Option (List IV)} {d : Nat} {args : List DV} {H : PT HB} {n lo : Nat} : K G (d + 1) 85 args H n lo = f85.run G (K G d) args H n lo := dcall_fn rfl
theorem k86 {G : Nat → Option (List IV)} {d : Nat} {args : List DV} {H : PT HB} {n lo : Nat} : K G (d + 1) 86 args H n lo = f86.run G (K G d) args H n lo := dcall_fn rfl
theorem k87 {G : Nat → Option (List IV)} {d : Nat} {args : List DV} {H : PT HB} {n lo : Nat} : K G (d + 1) 87 args H n lo = f87.run G (K G d) args H n lo := dcall_fn rfl
theorem k88 {G : Nat → Option (List IV)} {d : Nat} {args : List DV} {H : PT HB} {n lo : Nat} : K G (d + 1) 88 args H n lo = f88.run G (K G d) args H n lo := dcall_fn rfl
theorem k89 {G : Nat → Option (List IV)} {d : Nat} {args : List DV} {H : PT HB} {n lo : Nat} : K G (d + 1) 89 args H n lo = f89.run G (K G d) args H n lo := dcall_fn rfl
theorem k90 {G : Nat → Option (List IV)} {d : Nat} {args : List DV} {H : PT HB} {n lo : Nat} : K G (d + 1) 90 args H n lo = f90.run G (K G d) args H n lo := dcall_fn rfl
theorem k91 {G : Nat → Option (List IV)} {d : Nat} {args : List DV} {H : PT HB} {n lo : Nat} : K G (d + 1) 91 args H n lo = f91.run G (K G d) args H n lo := dcall_fn rfl
theorem k92 {G : Nat → Option (List IV)} {d : Nat} {args : List DV} {H : PT HB} {n lo : Nat} : K G (d + 1) 92 args H n lo = f92.run G (K G d) args H n lo := dcall_fn rfl
theorem k93 {G : Nat → Option (List IV)} {d : Nat} {args : List DV} {H : PT HB} {n lo : Nat} : K G (d + 1) 93 args H n lo = f93.run G (K G d) args H n lo := dcall_fn rfl
theorem k94 {G : Nat → Option (List IV)} {d : Nat} {args : List DV} {H : PT HB} {n lo : Nat} : K G (d + 1) 94 args H n lo = f94.run G (K G d) args H n lo := dcall_fn rfl
theorem k95 {G : Nat → Option (List IV)} {d : Nat} {args : List DV} {H : PT HB} {n lo : Nat} : K G (d + 1) 95 args H n lo = f95.run G (K G d) args H n lo := dcall_fn rfl
theorem k96 {G : Nat → Option (List IV)} {d : Nat} {args : List DV} {H : PT HB} {n lo : Nat} : K G (d + 1) 96 args H n lo = f96.run G (K G d) args H n lo := dcall_fn rfl
theorem k97 {G : Nat → Option (List IV)} {d : Nat} {args : List DV} {H : PT HB} {n lo : Nat} : K G (d + 1) 97 args H n lo = f97.run G (K G d) args H n lo := dcall_fn rfl
theorem k98 {G : Nat → Option (List IV)} {d : Nat} {args : List DV} {H : PT HB} {n lo : Nat} : K G (d + 1) 98 args H n lo = f98.run G (K G d) args H n lo := dcall_fn rfl
theorem k99 {G : Nat → Option (List IV)} {d : Nat} {args : List DV} {H : PT HB} {n lo : Nat} : K G (d + 1) 99 args H n lo = f99.run G (K G d) args H n lo := dcall_fn rfl
theorem k100 {G : Nat → Option (List IV)} {d : Nat} {args : List DV} {H : PT HB} {n lo : Nat} : K G (d + 1) 100 args H n lo = f100.run G (K G d) args H n lo := dcall_fn rfl
theorem k101 {G : Nat → Option (List IV)} {d : Nat} {args : List DV} {H : PT HB} {n lo : Nat} : K G (d + 1) 101 args H n lo = f101.run G (K G d) args H n lo := dcall_fn rfl
theorem k102 {G : Nat → Option (List IV)} {d : Nat} {args : List DV} {H : PT HB} {n lo : Nat} : K G (d + 1) 102 args H n lo = f102.run G (K G d) args H n lo := dcall_fn rfl
theorem k103 {G : Nat → Option (List IV)} {d : Nat} {args : List DV} {H : PT HB} {n lo : Nat} : K G (d + 1) 103 args H n lo = f103.run G (K G d) args H n lo := dcall_fn rfl
theorem k104 {G : Nat → Option (List IV)} {d : Nat} {args : List DV} {H : PT HB} {n lo : Nat} : K G (d + 1) 104 args H n lo = primNumber args H n lo := rfl
theorem k105 {G : Nat → Option (List IV)} {d : Nat} {args : List DV} {H : PT HB} {n lo : Nat} : K G (d + 1) 105 args H n lo = primSum args H n lo := rfl
theorem k106 {G : Nat → Option (List IV)} {d : Nat} {args : List DV} {H : PT HB} {n lo : Nat} : K G (d + 1) 106 args H n lo = f106.run G (K G d) args H n lo := dcall_fn rfl
theorem k107 {G : Nat → Option (List IV)} {d : Nat} {args : List DV} {H : PT HB} {n lo : Nat} : K G (d + 1) 107 args H n lo = f107.run G (K G d) args H n lo := dcall_fn rfl
theorem k108 {G : Nat → Option (List IV)} {d : Nat} {args : List DV} {H : PT HB} {n lo : Nat} : K G (d + 1) 108 args H n lo = f108.run G (K G d) args H n lo := dcall_fn rfl
theorem k109 {G : Nat → Option (List IV)} {d : Nat} {args : List DV} {H : PT HB} {n lo : Nat} : K G (d + 1) 109 args H n lo = f109.run G (K G d) args H n lo := dcall_fn rfl
theorem k110 {G : Nat → Option (List IV)} {d : Nat} {args : List DV} {H : PT HB} {n lo : Nat} : K G (d + 1) 110 args H n lo = f110.run G (K G d) args H n lo := dcall_fn rfl
theorem k111 {G : Nat → Option (List IV)} {d : Nat} {args : List DV} {H : PT HB} {n lo : Nat} : K G (d + 1) 111 args H n lo = f111.run G (K G d) args H n lo := dcall_fn rfl
theorem k112 {G : Nat → Option (List IV)} {d : Nat} {args : List DV} {H : PT HB} {n lo : Nat} : K G (d + 1) 112 args H n lo = f112.run G (K G d) args H n lo := dcall_fn rfl
theorem k113 {G : Nat → Option (List IV)} {d : Nat} {args : List DV} {H : PT HB} {n lo : Nat} : K G (d + 1) 113 args H n lo = f113.run G (K G d) args H n lo := dcall_fn rfl
theorem k114 {G : Nat → Option (List IV)} {d : Nat} {args : List DV} {H : PT HB} {n lo : Nat} : K G (d + 1) 114 args H n lo = f114.run G (K G d) args H n lo := dcall_fn rfl
theorem k115 {G : Nat → Option (List IV)} {d : Nat} {args : List DV} {H : PT HB} {n lo : Nat} : K G (d + 1) 115 args H n lo = f115.run G (K G d) args H n lo := dcall_fn rfl
theorem k116 {G : Nat → Option (List IV)} {d : Nat} {args : List DV} {H : PT HB} {n lo : Nat} : K G (d + 1) 116 args H n lo = f116.run G (K G d) args H n lo := dcall_fn rfl
theorem k117 {G : Nat → Option (List IV)} {d : Nat} {args : List DV} {H : PT HB} {n lo : Nat} : K G (d + 1) 117 args H n lo = f117.run G (K G d) args H n lo := dcall_fn rfl
theorem k118 {G : Nat → Option (List IV)} {d : Nat} {args : List DV} {H : PT HB} {n lo : Nat} : K G (d + 1) 118 args H n lo = f118.run G (K G d) args H n lo := dcall_fn rfl
theorem k119 {G : Nat → Option (List IV)} {d : Nat} {args : List DV} {H : PT HB} {n lo : Nat} : K G (d + 1) 119 args H n lo = f119.run G (K G d) args H n lo := dcall_fn rfl
theorem k120 {G : Nat → Option (List IV)} {d : Nat} {args : List DV} {H : PT HB} {n lo : Nat} : K G (d + 1) 120 args H n lo = f120.run G (K G d) args H n lo := dcall_fn rfl
theorem k121 {G : Nat → Option (List IV)} {d : Nat} {args : List DV} {H : PT HB} {n lo : Nat} : K G (d + 1) 121 args H n lo = f121.run G (K G d) args H n lo := dcall_fn rfl
theorem k122 {G : Nat → Option (List IV)} {d : Nat} {args : List DV} {H : PT HB} {n lo : Nat} : K G (d + 1) 122 args H n lo = f122.run G (K G d) args H n lo := dcall_fn rfl
theorem k123 {G : Nat → Option (List IV)} {d : Nat} {args : List DV} {H : PT HB} {n lo : Nat} : K G (d + 1) 123 args H n lo = f123.run G (K G d) args H n lo := dcall_fn rfl
theorem k124 {G : Nat → Option (List IV)} {d : Nat} {args : List DV} {H : PT HB} {n lo : Nat} : K G (d + 1) 124 args H n lo = f124.run G (K G d) args H n lo := dcall_fn rfl
theorem k125 {G : Nat → Option (List IV)} {d : Nat} {args : List DV} {H : PT HB} {n lo : Nat} : K G (d + 1) 125 args H n lo = f125.run G (K G d) args H n lo := dcall_fn rfl
theorem k126 {G : Nat → Option (List IV)} {d : Nat} {args : List DV} {H : PT HB} {n lo : Nat} : K G (d + 1) 126 args H n lo = primCrc args H n lo := rfl
theorem k127 {G : Nat → Option (List IV)} {d : Nat} {args : List DV} {H : PT HB} {n lo : Nat} : K G (d + 1) 127 args H n lo = f127.run G (K G d) args H n lo := dcall_fn rfl
theorem k128 {G : Nat → Option (List IV)} {d : Nat} {args : List DV} {H : PT HB} {n lo : Nat} : K G (d + 1) 128 args H n lo = f128.run G (K G d) args H n lo := dcall_fn rfl
theorem k129 {G : Nat → Option (List IV)} {d : Nat} {args : List DV} {H : PT HB} {n lo : Nat} : K G (d + 1) 129 args H n lo = f129.run G (K G d) args H n lo := dcall_fn rfl
theorem k130 {G : Nat → Option (List IV)} {d : Nat} {args : List DV} {H : PT HB} {n lo : Nat} : K G (d + 1) 130 args H n lo = f130.run G (K G d) args H n lo := dcall_fn rfl
theorem k131 {G : Nat → Option (List IV)} {d : Nat} {args : List DV} {H : PT HB} {n lo : Nat} : K G (d + 1) 131 args H n lo = f131.run G (K G d) args H n lo := dcall_fn rfl
theorem k132 {G : Nat → Option (List IV)} {d : Nat} {args : List DV} {H : PT HB} {n lo : Nat} : K G (d + 1) 132 args H n lo = f132.run G (K G d) args H n lo := dcall_fn rfl
theorem k133 {G : Nat → Option (List IV)} {d : Nat} {args : List DV} {H : PT HB} {n lo : Nat} : K G (d + 1) 133 args H n lo = f133.run G (K G d) args H n lo := dcall_fn rfl
theorem k134 {G : Nat → Option (List IV)} {d : Nat} {args : List DV} {H : PT HB} {n lo : Nat} : K G (d + 1) 134 args H n lo = f134.run G (K G d) args H n lo := dcall_fn rfl
theorem k135 {G : Nat → Option (List IV)} {d : Nat} {args : List DV} {H : PT HB} {n lo : Nat} : K G (d + 1) 135 args H n lo = f135.run G (K G d) args H n lo := dcall_fn rfl
theorem k136 {G : Nat → Option (List IV)} {d : Nat} {args : List DV} {H : PT HB} {n lo : Nat} : K G (d + 1) 136 args H n lo = f136.run G (K G d) args H n lo := dcall_fn rfl
theorem k137 {G : Nat → Option (List IV)} {d : Nat} {args : List DV} {H : PT HB} {n lo : Nat} : K G (d + 1) 137 args H n lo = f137.run G (K G d) args H n lo := dcall_fn rfl
theorem k138 {G : Nat → Option (List IV)} {d : Nat} {args : List DV} {H : PT HB} {n lo : Nat} : K G (d + 1) 138 args H n lo = f138.run G (K G d) args H n lo := dcall_fn rfl
theorem k139 {G : Nat → Option (List IV)} {d : Nat} {args : List DV} {H : PT HB} {n lo : Nat} : K G (d + 1) 139 args H n lo = f139.run G (K G d) args H n lo := dcall_fn rfl
theorem k140 {G : Nat → Option (List IV)} {d : Nat} {args : List DV} {H : PT HB} {n lo : Nat} : K G (d + 1) 140 args H n lo = f140.run G (K G d) args H n lo := dcall_fn rfl
theorem k141 {G : Nat → Option (List IV)} {d : Nat} {args : List DV} {H : PT HB} {n lo : Nat} : K G (d + 1) 141 args H n lo = f141.run G (K G d) args H n lo := dcall_fn rfl
theorem k142 {G : Nat → Option (List IV)} {d : Nat} {args : List DV} {H : PT HB} {n lo : Nat} : K G (d + 1) 142 args H n lo = f142.run G (K G d) args H n lo := dcall_fn rfl
theorem k143 {G : Nat → Option (List IV)} {d : Nat} {args : List DV} {H : PT HB} {n lo : Nat} : K G (d + 1) 143 args H n lo = f143.run G (K G d) args H n lo := dcall_fn rfl
theorem k144 {G : Nat → Option (List IV)} {d : Nat} {args : List DV} {H : PT HB} {n lo : Nat} : K G (d + 1) 144 args H n lo = f144.run G (K G d) args H n lo := dcall_fn rfl
theorem k145 {G : Nat → Option (List IV)} {d : Nat} {args : List DV} {H : PT HB} {n lo : Nat} : K G (d + 1) 145 args H n lo = f145.run G (K G d) args H n lo := dcall_fn rfl
theorem k146 {G : Nat → Option (List IV)} {d : Nat} {args : List DV} {H : PT HB} {n lo : Nat} : K G (d + 1) 146 args H n lo = f146.run G (K G d) args H n lo := dcall_fn rfl
theorem k147 {G : Nat → Option (List IV)} {d : Nat} {args : List DV} {H : PT HB} {n lo : Nat} : K G (d + 1) 147 args H n lo = f147.run G (K G d) args H n lo := dcall_fn rfl
theorem k148 {G : Nat → Option (List IV)} {d : Nat} {args : List DV} {H : PT HB} {n lo : Nat} : K G (d + 1) 148 args H n lo = f148.run G (K G d) args H n lo := dcall_fn rfl
theorem k149 {G : Nat → Option (List IV)} {d : Nat} {args : List DV} {H : PT HB} {n lo : Nat} : K G (d + 1) 149 args H n lo = f149.run G (K G d) args H n lo := dcall_fn rfl
theorem k150 {G : Nat → Option (List IV)} {d : Nat} {args : List DV} {H : PT HB} {n lo : Nat} : K G (d + 1) 150 args H n lo = f150.run G (K G d) args H n lo := dcall_fn rfl
theorem k151 {G : Nat → Option (List IV)} {d : Nat} {args : List DV} {H : PT HB} {n lo : Nat} : K G (d + 1) 151 args H n lo = f151.run G (K G d) args H n lo := dcall_fn rfl
theorem k152 {G : Nat → Option (List IV)} {d : Nat} {args : List DV} {H : PT HB} {n lo : Nat} : K G (d + 1) 152 args H n lo = f152.run G (K G d) args H n lo := dcall_fn rfl
theorem k153 {G : Nat → Option (List IV)} {d : Nat} {args : List DV} {H : PT HB} {n lo : Nat} : K G (d + 1) 153 args H n lo = f153.run G (K G d) args H n lo := dcall_fn rfl
theorem k154 {G : Nat → Option (List IV)} {d : Nat} {args : List DV} {H : PT HB} {n lo : Nat} : K G (d + 1) 154 args H n lo = f154.run G (K G d) args H n lo := dcall_fn rfl
theorem k155 {G : Nat → Option (List IV)} {d : Nat} {args : List DV} {H : PT HB} {n lo : Nat} : K G (d + 1) 155 args H n lo = f155.run G (K G d) args H n lo := dcall_fn rfl
theorem k156 {G : Nat → Option (List IV)} {d : Nat} {args : List DV} {H : PT HB} {n lo : Nat} : K G (d + 1) 156 args H n lo = f156.run G (K G d) args H n lo := dcall_fn rfl
end Go.Proofs.YtlknjgmhfimhbabGreatDoor.D
