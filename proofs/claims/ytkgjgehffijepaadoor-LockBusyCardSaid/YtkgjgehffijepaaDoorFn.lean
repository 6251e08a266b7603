/-
  D's functions of this seat, printed by program out of the translation.
-/
import Derived.Test.YtkgjgehffijepaaDoorRun
set_option maxRecDepth 100000
namespace Go.Proofs.YtkgjgehffijepaaDoor.D
open Go Go.PM

def l3_0b : DC :=
 .seq (.seq (.reg [
 ⟨some 34, .mv (.t 7), none⟩,
 ⟨some 35, .mv (.t 1), none⟩,
 ⟨some 36, .len (.t 35), none⟩,
 ⟨some 37, .bin .lss .sc (.t 34) (.t 36), none⟩,
 ⟨some 38, .mv (.t 37), none⟩,
 ⟨some 39, .mv (.t 7), some (38, true)⟩,
 ⟨some 40, .bin .lss .sc (.t 39) (.k (.int .i64 60)), some (38, true)⟩,
 ⟨some 41, .pick (.t 38) (.t 40) (.k (.bool false)), none⟩]) <|
 .cond (.t 41)
 (.skip)
 (.exit 0)) <|
 .seq (.block 1 <|
 .seq (.reg [
 ⟨some 44, .mv (.t 1), none⟩,
 ⟨some 45, .mv (.t 7), none⟩,
 ⟨some 46, .idx 6 (.t 44) (.t 45), none⟩,
 ⟨some 47, .fld 1 (.t 46), none⟩,
 ⟨some 48, .ld 2 true (.t 47), none⟩,
 ⟨some 8, .alL [.nils, .nils], none⟩,
 ⟨none, .st 2 (.t 8) (.t 48), none⟩]) <|
 .seq (.seq (.reg [
 ⟨some 49, .mv (.t 1), none⟩,
 ⟨some 50, .mv (.t 7), none⟩,
 ⟨some 51, .idx 6 (.t 49) (.t 50), none⟩,
 ⟨some 52, .fld 0 (.t 51), none⟩,
 ⟨some 53, .ld 1 false (.t 52), none⟩,
 ⟨some 54, .bin .eql .sc (.t 53) (.k (.int .i64 1)), none⟩]) <|
 .cond (.t 54)
 (.drw [
 ⟨some 55, .mv (.t 5), none⟩,
 ⟨some 56, .ld 2 true (.t 8), none⟩,
 ⟨some 57, .mv (.t 1), none⟩,
 ⟨some 58, .mv (.t 7), none⟩,
 ⟨some 59, .idx 6 (.t 57) (.t 58), none⟩,
 ⟨some 60, .fld 3 (.t 59), none⟩,
 ⟨some 61, .ld 2 true (.t 60), none⟩,
 ⟨some 62, .call .eff 14 [(.t 55), (.t 56), (.t 61)], none⟩] [[], [], [], [], [], [], [4], [1, 4, 6]])
 (.skip)) <|
 .seq (.reg [
 ⟨some 63, .mv (.t 5), none⟩,
 ⟨some 64, .ld 2 true (.t 8), none⟩,
 ⟨some 65, .call .eff 15 [(.t 63), (.t 64)], none⟩,
 ⟨some 9, .alL [.nils, .nils], none⟩,
 ⟨none, .st 2 (.t 9) (.t 65), none⟩]) <|
 .seq (.reg [
 ⟨some 66, .mv (.t 5), none⟩,
 ⟨some 67, .call .ro 16 [(.t 66)], none⟩,
 ⟨some 10, .mv (.t 67), none⟩]) <|
 .seq (.seq (.reg [
 ⟨some 68, .fld 0 (.t 9), none⟩,
 ⟨some 69, .ld 1 false (.t 68), none⟩,
 ⟨some 70, .len (.t 69), none⟩,
 ⟨some 71, .fld 1 (.t 2), none⟩,
 ⟨some 72, .ld 1 false (.t 71), none⟩,
 ⟨some 73, .len (.t 72), none⟩,
 ⟨some 74, .bin .neq .sc (.t 70) (.t 73), none⟩,
 ⟨some 75, .mv (.t 74), none⟩,
 ⟨some 76, .fld 1 (.t 9), some (75, false)⟩,
 ⟨some 77, .ld 1 false (.t 76), some (75, false)⟩,
 ⟨some 78, .len (.t 77), some (75, false)⟩,
 ⟨some 79, .fld 2 (.t 2), some (75, false)⟩,
 ⟨some 80, .ld 1 false (.t 79), some (75, false)⟩,
 ⟨some 81, .len (.t 80), some (75, false)⟩,
 ⟨some 82, .bin .neq .sc (.t 78) (.t 81), some (75, false)⟩,
 ⟨some 83, .pick (.t 75) (.k (.bool true)) (.t 82), none⟩,
 ⟨some 84, .mv (.t 83), none⟩,
 ⟨some 85, .mv (.t 10), some (84, false)⟩,
 ⟨some 86, .len (.t 85), some (84, false)⟩,
 ⟨some 87, .fld 3 (.t 2), some (84, false)⟩,
 ⟨some 88, .ld 1 false (.t 87), some (84, false)⟩,
 ⟨some 89, .len (.t 88), some (84, false)⟩,
 ⟨some 90, .bin .neq .sc (.t 86) (.t 89), some (84, false)⟩,
 ⟨some 91, .pick (.t 84) (.k (.bool true)) (.t 90), none⟩]) <|
 .cond (.t 91)
 (.seq (.reg [
 ⟨some 4, .mv (.k (.bool false)), none⟩]) <|
 .ret)
 (.skip)) <|
 .seq (.seq (.reg [
 ⟨some 92, .ld 4 true (.t 2), none⟩,
 ⟨some 93, .ld 2 true (.t 8), none⟩,
 ⟨some 94, .call .blind 17 [(.t 92), (.t 93)], none⟩,
 ⟨some 95, .un .not (.t 94), none⟩]) <|
 .cond (.t 95)
 (.seq (.seq (.drw [
 ⟨some 96, .ld 2 true (.t 9), none⟩,
 ⟨some 97, .mv (.t 5), none⟩,
 ⟨some 98, .call .ro 19 [(.t 97)], none⟩,
 ⟨some 99, .call .blind 18 [(.t 96), (.t 98)], none⟩,
 ⟨some 100, .un .not (.t 99), none⟩] [[], [], [], [0, 2], []]) <|
 .cond (.t 100)
 (.seq (.reg [
 ⟨some 4, .mv (.k (.bool false)), none⟩]) <|
 .ret)
 (.skip)) <|
 .exit 1)
 (.skip)) <|
 .seq (.reg [
 ⟨some 101, .ld 4 true (.t 2), none⟩,
 ⟨some 102, .mv (.t 10), none⟩,
 ⟨some 103, .call .blind 20 [(.t 101), (.t 102)], none⟩,
 ⟨some 104, .un .not (.t 103), none⟩,
 ⟨some 105, .mv (.t 104), none⟩,
 ⟨some 106, .ld 4 true (.t 2), some (105, false)⟩,
 ⟨some 107, .ld 2 true (.t 8), some (105, false)⟩,
 ⟨some 108, .ld 2 true (.t 9), some (105, false)⟩,
 ⟨some 109, .mv (.t 10), some (105, false)⟩,
 ⟨some 110, .call .blind 21 [(.t 106), (.t 107), (.t 108), (.t 109)], some (105, false)⟩,
 ⟨some 111, .un .not (.t 110), some (105, false)⟩,
 ⟨some 112, .pick (.t 105) (.k (.bool true)) (.t 111), none⟩]) <|
 .cond (.t 112)
 (.seq (.reg [
 ⟨some 4, .mv (.k (.bool false)), none⟩]) <|
 .ret)
 (.skip)) <|
 .reg [
 ⟨some 42, .mv (.t 7), none⟩,
 ⟨some 43, .bin .add .sc (.t 42) (.k (.int .i64 1)), none⟩,
 ⟨some 7, .mv (.t 43), none⟩]
def l3_0 : DC := .loop [1, 2, 5, 7] [2] l3_0b
def f3 : DFn := ⟨2, [.t 4],
 .seq (.reg [
 ⟨some 2, .boxL (.t 0), none⟩,
 ⟨some 4, .mv (.k (.bool false)), none⟩]) <|
 .seq (.seq (.reg [
 ⟨some 11, .ld 4 true (.t 2), none⟩,
 ⟨some 12, .call .blind 10 [(.t 11)], none⟩,
 ⟨some 13, .bin .geq .sc (.t 12) (.k (.int .i64 3000)), none⟩,
 ⟨some 14, .mv (.t 13), none⟩,
 ⟨some 15, .mv (.t 1), some (14, false)⟩,
 ⟨some 16, .call .blind 11 [(.t 15)], some (14, false)⟩,
 ⟨some 17, .pick (.t 14) (.k (.bool true)) (.t 16), none⟩,
 ⟨some 18, .mv (.t 17), none⟩,
 ⟨some 19, .ld 4 true (.t 2), some (18, false)⟩,
 ⟨some 20, .call .blind 12 [(.t 19)], some (18, false)⟩,
 ⟨some 21, .un .not (.t 20), some (18, false)⟩,
 ⟨some 22, .pick (.t 18) (.k (.bool true)) (.t 21), none⟩]) <|
 .cond (.t 22)
 (.seq (.reg [
 ⟨some 4, .mv (.k (.bool true)), none⟩]) <|
 .ret)
 (.skip)) <|
 .seq (.reg [
 ⟨some 24, .ld 4 true (.t 2), none⟩,
 ⟨some 25, .call .eff 13 [(.t 24)], none⟩,
 ⟨some 23, .mv (.t 25), none⟩,
 ⟨some 26, .ext 0 (.t 23), none⟩,
 ⟨some 27, .ext 1 (.t 23), none⟩,
 ⟨some 5, .mv (.t 26), none⟩,
 ⟨some 6, .mv (.t 27), none⟩]) <|
 .seq (.seq (.reg [
 ⟨some 28, .mv (.t 6), none⟩,
 ⟨some 29, .bin .neq .sc (.t 28) (.k (.int .i64 0)), none⟩,
 ⟨some 30, .mv (.t 29), none⟩,
 ⟨some 31, .mv (.t 5), some (30, false)⟩,
 ⟨some 32, .bin .eql .np (.t 31) (.k (.nilp)), some (30, false)⟩,
 ⟨some 33, .pick (.t 30) (.k (.bool true)) (.t 32), none⟩]) <|
 .cond (.t 33)
 (.seq (.reg [
 ⟨some 4, .mv (.k (.bool false)), none⟩]) <|
 .ret)
 (.skip)) <|
 .seq (.seq (.reg [
 ⟨some 7, .mv (.k (.int .i64 0)), none⟩]) <|
 .block 0 <|
 l3_0) <|
 .seq (.reg [
 ⟨some 113, .call .blind 22 [], none⟩,
 ⟨some 4, .mv (.t 113), none⟩]) <|
 .ret⟩

def l4_0b : DC :=
 .seq (.seq (.reg [
 ⟨some 45, .mv (.t 11), none⟩,
 ⟨some 46, .mv (.t 1), none⟩,
 ⟨some 47, .len (.t 46), none⟩,
 ⟨some 48, .bin .lss .sc (.t 45) (.t 47), none⟩,
 ⟨some 49, .mv (.t 48), none⟩,
 ⟨some 50, .mv (.t 11), some (49, true)⟩,
 ⟨some 51, .bin .lss .sc (.t 50) (.k (.int .i64 60)), some (49, true)⟩,
 ⟨some 52, .pick (.t 49) (.t 51) (.k (.bool false)), none⟩]) <|
 .cond (.t 52)
 (.skip)
 (.exit 0)) <|
 .seq (.block 1 <|
 .seq (.reg [
 ⟨some 55, .mv (.t 1), none⟩,
 ⟨some 56, .mv (.t 11), none⟩,
 ⟨some 57, .idx 6 (.t 55) (.t 56), none⟩,
 ⟨some 58, .fld 0 (.t 57), none⟩,
 ⟨some 59, .ld 1 false (.t 58), none⟩,
 ⟨some 60, .bin .eql .sc (.t 59) (.k (.int .i64 1)), none⟩]) <|
 .cond (.t 60)
 (.seq (.drw [
 ⟨some 61, .mv (.t 7), none⟩,
 ⟨some 62, .mv (.t 1), none⟩,
 ⟨some 63, .mv (.t 11), none⟩,
 ⟨some 64, .idx 6 (.t 62) (.t 63), none⟩,
 ⟨some 65, .fld 1 (.t 64), none⟩,
 ⟨some 66, .ld 2 true (.t 65), none⟩,
 ⟨some 67, .mv (.t 1), none⟩,
 ⟨some 68, .mv (.t 11), none⟩,
 ⟨some 69, .idx 6 (.t 67) (.t 68), none⟩,
 ⟨some 70, .fld 3 (.t 69), none⟩,
 ⟨some 71, .ld 2 true (.t 70), none⟩,
 ⟨some 72, .call .eff 14 [(.t 61), (.t 66), (.t 71)], none⟩] [[], [], [], [], [], [3], [], [], [], [], [8], [3, 5, 8, 10]]) <|
 .drw [
 ⟨some 73, .mv (.t 9), none⟩,
 ⟨some 74, .mv (.t 1), none⟩,
 ⟨some 75, .mv (.t 11), none⟩,
 ⟨some 76, .idx 6 (.t 74) (.t 75), none⟩,
 ⟨some 77, .fld 1 (.t 76), none⟩,
 ⟨some 78, .ld 2 true (.t 77), none⟩,
 ⟨some 79, .mv (.t 1), none⟩,
 ⟨some 80, .mv (.t 11), none⟩,
 ⟨some 81, .idx 6 (.t 79) (.t 80), none⟩,
 ⟨some 82, .fld 3 (.t 81), none⟩,
 ⟨some 83, .ld 2 true (.t 82), none⟩,
 ⟨some 84, .call .eff 24 [(.t 73), (.t 78), (.t 83)], none⟩] [[], [], [], [], [], [3], [], [], [], [], [8], [3, 5, 8, 10]])
 (.seq (.reg [
 ⟨some 85, .mv (.t 7), none⟩,
 ⟨some 86, .mv (.t 1), none⟩,
 ⟨some 87, .mv (.t 11), none⟩,
 ⟨some 88, .idx 6 (.t 86) (.t 87), none⟩,
 ⟨some 89, .fld 1 (.t 88), none⟩,
 ⟨some 90, .ld 2 true (.t 89), none⟩,
 ⟨some 91, .call .eff 15 [(.t 85), (.t 90)], none⟩]) <|
 .reg [
 ⟨some 92, .mv (.t 9), none⟩,
 ⟨some 93, .mv (.t 1), none⟩,
 ⟨some 94, .mv (.t 11), none⟩,
 ⟨some 95, .idx 6 (.t 93) (.t 94), none⟩,
 ⟨some 96, .fld 1 (.t 95), none⟩,
 ⟨some 97, .ld 2 true (.t 96), none⟩,
 ⟨some 98, .call .eff 25 [(.t 92), (.t 97)], none⟩])) <|
 .reg [
 ⟨some 53, .mv (.t 11), none⟩,
 ⟨some 54, .bin .add .sc (.t 53) (.k (.int .i64 1)), none⟩,
 ⟨some 11, .mv (.t 54), none⟩]
def l4_0 : DC := .loop [1, 5, 7, 9, 11] [5] l4_0b
def f4 : DFn := ⟨3, [.t 6],
 .seq (.reg [
 ⟨some 3, .boxL (.t 0), none⟩,
 ⟨some 5, .boxL (.t 2), none⟩,
 ⟨some 6, .mv (.k (.bool false)), none⟩]) <|
 .seq (.seq (.reg [
 ⟨some 12, .ld 4 true (.t 3), none⟩,
 ⟨some 13, .call .blind 10 [(.t 12)], none⟩,
 ⟨some 14, .bin .geq .sc (.t 13) (.k (.int .i64 3000)), none⟩,
 ⟨some 15, .mv (.t 14), none⟩,
 ⟨some 16, .mv (.t 1), some (15, false)⟩,
 ⟨some 17, .call .blind 11 [(.t 16)], some (15, false)⟩,
 ⟨some 18, .pick (.t 15) (.k (.bool true)) (.t 17), none⟩,
 ⟨some 19, .mv (.t 18), none⟩,
 ⟨some 20, .ld 6 true (.t 5), some (19, false)⟩,
 ⟨some 21, .bsl false 6 [.int .i64 0, .nils, .nils, .int .i64 0, .int .i64 0, .nils] 1 [(0, (.t 20))], some (19, false)⟩,
 ⟨some 22, .call .blind 11 [(.t 21)], some (19, false)⟩,
 ⟨some 23, .pick (.t 19) (.k (.bool true)) (.t 22), none⟩,
 ⟨some 24, .mv (.t 23), none⟩,
 ⟨some 25, .ld 4 true (.t 3), some (24, false)⟩,
 ⟨some 26, .call .blind 12 [(.t 25)], some (24, false)⟩,
 ⟨some 27, .un .not (.t 26), some (24, false)⟩,
 ⟨some 28, .pick (.t 24) (.k (.bool true)) (.t 27), none⟩]) <|
 .cond (.t 28)
 (.seq (.reg [
 ⟨some 6, .mv (.k (.bool true)), none⟩]) <|
 .ret)
 (.skip)) <|
 .seq (.reg [
 ⟨some 30, .ld 4 true (.t 3), none⟩,
 ⟨some 31, .call .eff 13 [(.t 30)], none⟩,
 ⟨some 29, .mv (.t 31), none⟩,
 ⟨some 32, .ext 0 (.t 29), none⟩,
 ⟨some 33, .ext 1 (.t 29), none⟩,
 ⟨some 7, .mv (.t 32), none⟩,
 ⟨some 8, .mv (.t 33), none⟩]) <|
 .seq (.reg [
 ⟨some 35, .ld 4 true (.t 3), none⟩,
 ⟨some 36, .call .eff 23 [(.t 35)], none⟩,
 ⟨some 34, .mv (.t 36), none⟩,
 ⟨some 37, .ext 0 (.t 34), none⟩,
 ⟨some 38, .ext 1 (.t 34), none⟩,
 ⟨some 9, .mv (.t 37), none⟩,
 ⟨some 10, .mv (.t 38), none⟩]) <|
 .seq (.seq (.reg [
 ⟨some 39, .mv (.t 8), none⟩,
 ⟨some 40, .bin .neq .sc (.t 39) (.k (.int .i64 0)), none⟩,
 ⟨some 41, .mv (.t 40), none⟩,
 ⟨some 42, .mv (.t 7), some (41, false)⟩,
 ⟨some 43, .bin .eql .np (.t 42) (.k (.nilp)), some (41, false)⟩,
 ⟨some 44, .pick (.t 41) (.k (.bool true)) (.t 43), none⟩]) <|
 .cond (.t 44)
 (.seq (.reg [
 ⟨some 6, .mv (.k (.bool false)), none⟩]) <|
 .ret)
 (.skip)) <|
 .seq (.seq (.reg [
 ⟨some 11, .mv (.k (.int .i64 0)), none⟩]) <|
 .block 0 <|
 l4_0) <|
 .seq (.reg [
 ⟨some 99, .mv (.t 7), none⟩,
 ⟨some 100, .fld 1 (.t 5), none⟩,
 ⟨some 101, .ld 2 true (.t 100), none⟩,
 ⟨some 102, .fld 3 (.t 5), none⟩,
 ⟨some 103, .ld 2 true (.t 102), none⟩,
 ⟨some 104, .call .eff 14 [(.t 99), (.t 101), (.t 103)], none⟩,
 ⟨some 105, .bin .eql .sc (.t 104) (.k (.int .i64 0)), none⟩,
 ⟨some 106, .mv (.t 105), none⟩,
 ⟨some 107, .mv (.t 7), some (106, false)⟩,
 ⟨some 108, .mv (.t 9), some (106, false)⟩,
 ⟨some 109, .call .ro 26 [(.t 107), (.t 108)], some (106, false)⟩,
 ⟨some 110, .pick (.t 106) (.k (.bool true)) (.t 109), none⟩,
 ⟨some 111, .mv (.t 110), none⟩,
 ⟨some 112, .call .blind 22 [], some (111, true)⟩,
 ⟨some 113, .pick (.t 111) (.t 112) (.k (.bool false)), none⟩,
 ⟨some 6, .mv (.t 113), none⟩]) <|
 .ret⟩

def l5_1b : DC :=
 .seq (.seq (.reg [
 ⟨some 64, .mv (.t 9), none⟩,
 ⟨some 65, .mv (.t 7), none⟩,
 ⟨some 66, .len (.t 65), none⟩,
 ⟨some 67, .bin .lss .sc (.t 64) (.t 66), none⟩]) <|
 .cond (.t 67)
 (.skip)
 (.exit 2)) <|
 .seq (.block 3 <|
 .seq (.reg [
 ⟨some 70, .mv (.t 3), none⟩,
 ⟨some 71, .mv (.t 7), none⟩,
 ⟨some 72, .mv (.t 9), none⟩,
 ⟨some 73, .idx 1 (.t 71) (.t 72), none⟩,
 ⟨some 74, .ld 1 false (.t 73), none⟩,
 ⟨some 75, .call .blind 28 [(.t 74), (.k (.int .i64 1))], none⟩,
 ⟨some 76, .call .eff 15 [(.t 70), (.t 75)], none⟩,
 ⟨some 10, .alL [.nils, .nils], none⟩,
 ⟨none, .st 2 (.t 10) (.t 76), none⟩]) <|
 .seq (.drw [
 ⟨some 77, .fld 1 (.t 10), none⟩,
 ⟨some 78, .ld 1 false (.t 77), none⟩,
 ⟨some 79, .len (.t 78), none⟩,
 ⟨some 80, .bin .neq .sc (.t 79) (.k (.int .i64 3)), none⟩,
 ⟨some 81, .mv (.t 80), none⟩,
 ⟨some 82, .fld 1 (.t 10), some (81, false)⟩,
 ⟨some 83, .ld 1 false (.t 82), some (81, false)⟩,
 ⟨some 84, .idx 1 (.t 83) (.k (.int .i64 0)), some (81, false)⟩,
 ⟨some 85, .ld 1 false (.t 84), some (81, false)⟩,
 ⟨some 86, .pick (.t 81) (.k (.bool true)) (.t 85), none⟩,
 ⟨some 87, .mv (.t 86), none⟩,
 ⟨some 88, .mv (.t 3), some (87, false)⟩,
 ⟨some 89, .call .ro 29 [(.t 88), (.k (.int .i64 0))], some (87, false)⟩,
 ⟨some 90, .mv (.t 8), some (87, false)⟩,
 ⟨some 91, .mv (.t 9), some (87, false)⟩,
 ⟨some 92, .idx 1 (.t 90) (.t 91), some (87, false)⟩,
 ⟨some 93, .ld 1 false (.t 92), some (87, false)⟩,
 ⟨some 94, .idx 1 (.t 93) (.k (.int .i64 0)), some (87, false)⟩,
 ⟨some 95, .ld 1 false (.t 94), some (87, false)⟩,
 ⟨some 96, .bin .neq .sc (.t 89) (.t 95), some (87, false)⟩,
 ⟨some 97, .pick (.t 87) (.k (.bool true)) (.t 96), none⟩,
 ⟨some 98, .mv (.t 97), none⟩,
 ⟨some 99, .mv (.t 3), some (98, false)⟩,
 ⟨some 100, .call .ro 29 [(.t 99), (.k (.int .i64 1))], some (98, false)⟩,
 ⟨some 101, .mv (.t 8), some (98, false)⟩,
 ⟨some 102, .mv (.t 9), some (98, false)⟩,
 ⟨some 103, .idx 1 (.t 101) (.t 102), some (98, false)⟩,
 ⟨some 104, .ld 1 false (.t 103), some (98, false)⟩,
 ⟨some 105, .idx 1 (.t 104) (.k (.int .i64 1)), some (98, false)⟩,
 ⟨some 106, .ld 1 false (.t 105), some (98, false)⟩,
 ⟨some 107, .bin .neq .sc (.t 100) (.t 106), some (98, false)⟩,
 ⟨some 108, .pick (.t 98) (.k (.bool true)) (.t 107), none⟩] [[], [], [], [], [], [], [1], [1, 6], [1, 6, 7], [], [], [], [1, 6, 7, 8], [], [], [1, 6, 7, 8], [1, 6, 7, 8, 15], [1, 6, 7, 8, 15, 16], [1, 6, 7, 8, 15, 16, 17], [], [], [], [], [1, 6, 7, 8, 12, 15, 16, 17, 18], [], [], [1, 6, 7, 8, 12, 15, 16, 17, 18], [1, 6, 7, 8, 12, 15, 16, 17, 18, 26], [1, 6, 7, 8, 12, 15, 16, 17, 18, 26, 27], [1, 6, 7, 8, 12, 15, 16, 17, 18, 26, 27, 28], [], []]) <|
 .cond (.t 108)
 (.seq (.reg [
 ⟨some 2, .mv (.k (.bool false)), none⟩]) <|
 .ret)
 (.skip)) <|
 .reg [
 ⟨some 68, .mv (.t 9), none⟩,
 ⟨some 69, .bin .add .sc (.t 68) (.k (.int .i64 1)), none⟩,
 ⟨some 9, .mv (.t 69), none⟩]
def l5_1 : DC := .loop [3, 7, 8, 9] [] l5_1b
def l5_0b : DC :=
 .seq (.seq (.reg [
 ⟨some 36, .mv (.t 5), none⟩,
 ⟨some 37, .mv (.t 0), none⟩,
 ⟨some 38, .bin .leq .sc (.t 36) (.t 37), none⟩]) <|
 .cond (.t 38)
 (.skip)
 (.exit 0)) <|
 .seq (.block 1 <|
 .seq (.reg [
 ⟨some 41, .mv (.t 3), none⟩,
 ⟨some 42, .call .blind 28 [(.k (.int .i64 0)), (.k (.int .i64 1))], none⟩,
 ⟨some 43, .call .eff 15 [(.t 41), (.t 42)], none⟩,
 ⟨some 6, .alL [.nils, .nils], none⟩,
 ⟨none, .st 2 (.t 6) (.t 43), none⟩]) <|
 .seq (.reg [
 ⟨some 44, .fld 1 (.t 6), none⟩,
 ⟨some 45, .ld 1 false (.t 44), none⟩,
 ⟨some 46, .len (.t 45), none⟩,
 ⟨some 47, .bin .neq .sc (.t 46) (.k (.int .i64 3)), none⟩,
 ⟨some 48, .mv (.t 47), none⟩,
 ⟨some 49, .fld 1 (.t 6), some (48, false)⟩,
 ⟨some 50, .ld 1 false (.t 49), some (48, false)⟩,
 ⟨some 51, .idx 1 (.t 50) (.k (.int .i64 0)), some (48, false)⟩,
 ⟨some 52, .ld 1 false (.t 51), some (48, false)⟩,
 ⟨some 53, .un .not (.t 52), some (48, false)⟩,
 ⟨some 54, .pick (.t 48) (.k (.bool true)) (.t 53), none⟩]) <|
 .cond (.t 54)
 (.seq (.reg [
 ⟨some 2, .mv (.k (.bool false)), none⟩]) <|
 .ret)
 (.skip)) <|
 .reg [
 ⟨some 39, .mv (.t 5), none⟩,
 ⟨some 40, .bin .add .sc (.t 39) (.k (.int .i64 1)), none⟩,
 ⟨some 5, .mv (.t 40), none⟩]
def l5_0 : DC := .loop [0, 3, 5] [] l5_0b
def f5 : DFn := ⟨1, [.t 2],
 .seq (.reg [
 ⟨some 2, .mv (.k (.bool false)), none⟩]) <|
 .seq (.seq (.reg [
 ⟨some 12, .mv (.t 0), none⟩,
 ⟨some 13, .bin .lss .sc (.t 12) (.k (.int .i64 0)), none⟩,
 ⟨some 14, .mv (.t 13), none⟩,
 ⟨some 15, .mv (.t 0), some (14, false)⟩,
 ⟨some 16, .bin .gtr .sc (.t 15) (.k (.int .i64 10)), some (14, false)⟩,
 ⟨some 17, .pick (.t 14) (.k (.bool true)) (.t 16), none⟩]) <|
 .cond (.t 17)
 (.seq (.reg [
 ⟨some 2, .mv (.k (.bool true)), none⟩]) <|
 .ret)
 (.skip)) <|
 .seq (.reg [
 ⟨some 19, .call .blind 27 [], none⟩,
 ⟨some 20, .call .eff 13 [(.t 19)], none⟩,
 ⟨some 18, .mv (.t 20), none⟩,
 ⟨some 21, .ext 0 (.t 18), none⟩,
 ⟨some 22, .ext 1 (.t 18), none⟩,
 ⟨some 3, .mv (.t 21), none⟩,
 ⟨some 4, .mv (.t 22), none⟩]) <|
 .seq (.seq (.reg [
 ⟨some 23, .mv (.t 4), none⟩,
 ⟨some 24, .bin .neq .sc (.t 23) (.k (.int .i64 0)), none⟩,
 ⟨some 25, .mv (.t 24), none⟩,
 ⟨some 26, .mv (.t 3), some (25, false)⟩,
 ⟨some 27, .bin .eql .np (.t 26) (.k (.nilp)), some (25, false)⟩,
 ⟨some 28, .pick (.t 25) (.k (.bool true)) (.t 27), none⟩,
 ⟨some 29, .mv (.t 28), none⟩,
 ⟨some 30, .mv (.t 3), some (29, false)⟩,
 ⟨some 31, .call .blind 28 [(.k (.int .i64 0)), (.k (.int .i64 1))], some (29, false)⟩,
 ⟨some 32, .build [.int .i64 0, .int .i64 0] [(0, 1, (.k (.int .i64 1)))], some (29, false)⟩,
 ⟨some 33, .call .eff 14 [(.t 30), (.t 31), (.t 32)], some (29, false)⟩,
 ⟨some 34, .bin .neq .sc (.t 33) (.k (.int .i64 0)), some (29, false)⟩,
 ⟨some 35, .pick (.t 29) (.k (.bool true)) (.t 34), none⟩]) <|
 .cond (.t 35)
 (.seq (.reg [
 ⟨some 2, .mv (.k (.bool false)), none⟩]) <|
 .ret)
 (.skip)) <|
 .seq (.seq (.reg [
 ⟨some 5, .mv (.k (.int .i64 0)), none⟩]) <|
 .block 0 <|
 l5_0) <|
 .seq (.reg [
 ⟨some 55, .bsl false 1 [.int .i64 0] 7 [(0, (.k (.int .i64 1))), (1, (.k (.int .i64 1))), (2, (.k (.int .i64 3))), (3, (.k (.int .i64 2))), (4, (.k (.int .i64 2))), (5, (.k (.int .i64 0))), (6, (.k (.int .i64 0)))], none⟩,
 ⟨some 7, .mv (.t 55), none⟩]) <|
 .seq (.reg [
 ⟨some 56, .bsl false 1 [.int .i64 0] 2 [(0, (.k (.int .i64 0))), (1, (.k (.int .i64 0)))], none⟩,
 ⟨some 57, .bsl false 1 [.int .i64 0] 2 [(0, (.k (.int .i64 0))), (1, (.k (.int .i64 0)))], none⟩,
 ⟨some 58, .bsl false 1 [.int .i64 0] 2 [(0, (.k (.int .i64 0))), (1, (.k (.int .i64 0)))], none⟩,
 ⟨some 59, .bsl false 1 [.int .i64 0] 2 [(0, (.k (.int .i64 (-1)))), (1, (.k (.int .i64 0)))], none⟩,
 ⟨some 60, .bsl false 1 [.int .i64 0] 2 [(0, (.k (.int .i64 (-1)))), (1, (.k (.int .i64 0)))], none⟩,
 ⟨some 61, .bsl false 1 [.int .i64 0] 2 [(0, (.k (.int .i64 (-1)))), (1, (.k (.int .i64 (-1))))], none⟩,
 ⟨some 62, .bsl false 1 [.int .i64 0] 2 [(0, (.k (.int .i64 (-1)))), (1, (.k (.int .i64 (-1))))], none⟩,
 ⟨some 63, .bsl false 1 [.nils] 7 [(0, (.t 56)), (1, (.t 57)), (2, (.t 58)), (3, (.t 59)), (4, (.t 60)), (5, (.t 61)), (6, (.t 62))], none⟩,
 ⟨some 8, .mv (.t 63), none⟩]) <|
 .seq (.seq (.reg [
 ⟨some 9, .mv (.k (.int .i64 0)), none⟩]) <|
 .block 2 <|
 l5_1) <|
 .seq (.reg [
 ⟨some 109, .mv (.t 3), none⟩,
 ⟨some 110, .call .ro 16 [(.t 109)], none⟩,
 ⟨some 11, .mv (.t 110), none⟩]) <|
 .seq (.reg [
 ⟨some 111, .mv (.t 11), none⟩,
 ⟨some 112, .len (.t 111), none⟩,
 ⟨some 113, .bin .eql .sc (.t 112) (.k (.int .i64 2)), none⟩,
 ⟨some 114, .mv (.t 113), none⟩,
 ⟨some 115, .mv (.t 11), some (114, true)⟩,
 ⟨some 116, .idx 4 (.t 115) (.k (.int .i64 0)), some (114, true)⟩,
 ⟨some 117, .fld 0 (.t 116), some (114, true)⟩,
 ⟨some 118, .ld 1 false (.t 117), some (114, true)⟩,
 ⟨some 119, .bin .eql .sc (.t 118) (.k (.int .i64 0)), some (114, true)⟩,
 ⟨some 120, .pick (.t 114) (.t 119) (.k (.bool false)), none⟩,
 ⟨some 121, .mv (.t 120), none⟩,
 ⟨some 122, .call .blind 22 [], some (121, true)⟩,
 ⟨some 123, .pick (.t 121) (.t 122) (.k (.bool false)), none⟩,
 ⟨some 2, .mv (.t 123), none⟩]) <|
 .ret⟩

def l6_0b : DC :=
 .seq (.seq (.reg [
 ⟨some 34, .mv (.t 5), none⟩,
 ⟨some 35, .mv (.t 0), none⟩,
 ⟨some 36, .bin .lss .sc (.t 34) (.t 35), none⟩]) <|
 .cond (.t 36)
 (.skip)
 (.exit 0)) <|
 .seq (.block 1 <|
 .seq (.reg [
 ⟨some 39, .mv (.t 3), none⟩,
 ⟨some 40, .call .blind 28 [(.k (.int .i64 0)), (.k (.int .i64 2))], none⟩,
 ⟨some 41, .call .eff 15 [(.t 39), (.t 40)], none⟩,
 ⟨some 6, .alL [.nils, .nils], none⟩,
 ⟨none, .st 2 (.t 6) (.t 41), none⟩]) <|
 .seq (.reg [
 ⟨some 42, .mv (.t 3), none⟩,
 ⟨some 43, .call .ro 16 [(.t 42)], none⟩,
 ⟨some 7, .mv (.t 43), none⟩]) <|
 .seq (.reg [
 ⟨some 44, .mv (.t 5), none⟩,
 ⟨some 45, .bin .lss .sc (.t 44) (.k (.int .i64 8)), none⟩,
 ⟨some 8, .mv (.t 45), none⟩]) <|
 .seq (.reg [
 ⟨some 46, .fld 0 (.t 6), none⟩,
 ⟨some 47, .ld 1 false (.t 46), none⟩,
 ⟨some 48, .len (.t 47), none⟩,
 ⟨some 49, .bin .neq .sc (.t 48) (.k (.int .i64 1)), none⟩,
 ⟨some 50, .mv (.t 49), none⟩,
 ⟨some 51, .mv (.t 7), some (50, false)⟩,
 ⟨some 52, .len (.t 51), some (50, false)⟩,
 ⟨some 53, .bin .neq .sc (.t 52) (.k (.int .i64 2)), some (50, false)⟩,
 ⟨some 54, .pick (.t 50) (.k (.bool true)) (.t 53), none⟩,
 ⟨some 55, .mv (.t 54), none⟩,
 ⟨some 56, .fld 0 (.t 6), some (55, false)⟩,
 ⟨some 57, .ld 1 false (.t 56), some (55, false)⟩,
 ⟨some 58, .idx 1 (.t 57) (.k (.int .i64 0)), some (55, false)⟩,
 ⟨some 59, .ld 1 false (.t 58), some (55, false)⟩,
 ⟨some 60, .bin .eql .sc (.t 59) (.k (.int .i64 1)), some (55, false)⟩,
 ⟨some 61, .mv (.t 8), some (55, false)⟩,
 ⟨some 62, .bin .neq .bl (.t 60) (.t 61), some (55, false)⟩,
 ⟨some 63, .pick (.t 55) (.k (.bool true)) (.t 62), none⟩,
 ⟨some 64, .mv (.t 63), none⟩,
 ⟨some 65, .mv (.t 7), some (64, false)⟩,
 ⟨some 66, .idx 4 (.t 65) (.k (.int .i64 0)), some (64, false)⟩,
 ⟨some 67, .fld 0 (.t 66), some (64, false)⟩,
 ⟨some 68, .ld 1 false (.t 67), some (64, false)⟩,
 ⟨some 69, .bin .eql .sc (.t 68) (.k (.int .i64 1)), some (64, false)⟩,
 ⟨some 70, .mv (.t 8), some (64, false)⟩,
 ⟨some 71, .bin .neq .bl (.t 69) (.t 70), some (64, false)⟩,
 ⟨some 72, .pick (.t 64) (.k (.bool true)) (.t 71), none⟩]) <|
 .cond (.t 72)
 (.seq (.reg [
 ⟨some 2, .mv (.k (.bool false)), none⟩]) <|
 .ret)
 (.skip)) <|
 .reg [
 ⟨some 37, .mv (.t 5), none⟩,
 ⟨some 38, .bin .add .sc (.t 37) (.k (.int .i64 1)), none⟩,
 ⟨some 5, .mv (.t 38), none⟩]
def l6_0 : DC := .loop [0, 3, 5] [] l6_0b
def f6 : DFn := ⟨1, [.t 2],
 .seq (.reg [
 ⟨some 2, .mv (.k (.bool false)), none⟩]) <|
 .seq (.seq (.reg [
 ⟨some 10, .mv (.t 0), none⟩,
 ⟨some 11, .bin .lss .sc (.t 10) (.k (.int .i64 0)), none⟩,
 ⟨some 12, .mv (.t 11), none⟩,
 ⟨some 13, .mv (.t 0), some (12, false)⟩,
 ⟨some 14, .bin .gtr .sc (.t 13) (.k (.int .i64 15)), some (12, false)⟩,
 ⟨some 15, .pick (.t 12) (.k (.bool true)) (.t 14), none⟩]) <|
 .cond (.t 15)
 (.seq (.reg [
 ⟨some 2, .mv (.k (.bool true)), none⟩]) <|
 .ret)
 (.skip)) <|
 .seq (.reg [
 ⟨some 17, .call .blind 27 [], none⟩,
 ⟨some 18, .call .eff 13 [(.t 17)], none⟩,
 ⟨some 16, .mv (.t 18), none⟩,
 ⟨some 19, .ext 0 (.t 16), none⟩,
 ⟨some 20, .ext 1 (.t 16), none⟩,
 ⟨some 3, .mv (.t 19), none⟩,
 ⟨some 4, .mv (.t 20), none⟩]) <|
 .seq (.seq (.reg [
 ⟨some 21, .mv (.t 4), none⟩,
 ⟨some 22, .bin .neq .sc (.t 21) (.k (.int .i64 0)), none⟩,
 ⟨some 23, .mv (.t 22), none⟩,
 ⟨some 24, .mv (.t 3), some (23, false)⟩,
 ⟨some 25, .bin .eql .np (.t 24) (.k (.nilp)), some (23, false)⟩,
 ⟨some 26, .pick (.t 23) (.k (.bool true)) (.t 25), none⟩,
 ⟨some 27, .mv (.t 26), none⟩,
 ⟨some 28, .mv (.t 3), some (27, false)⟩,
 ⟨some 29, .call .blind 28 [(.k (.int .i64 0)), (.k (.int .i64 2))], some (27, false)⟩,
 ⟨some 30, .build [.int .i64 0, .int .i64 0] [(0, 1, (.k (.int .i64 1)))], some (27, false)⟩,
 ⟨some 31, .call .eff 14 [(.t 28), (.t 29), (.t 30)], some (27, false)⟩,
 ⟨some 32, .bin .neq .sc (.t 31) (.k (.int .i64 0)), some (27, false)⟩,
 ⟨some 33, .pick (.t 27) (.k (.bool true)) (.t 32), none⟩]) <|
 .cond (.t 33)
 (.seq (.reg [
 ⟨some 2, .mv (.k (.bool false)), none⟩]) <|
 .ret)
 (.skip)) <|
 .seq (.seq (.reg [
 ⟨some 5, .mv (.k (.int .i64 0)), none⟩]) <|
 .block 0 <|
 l6_0) <|
 .seq (.reg [
 ⟨some 73, .mv (.t 3), none⟩,
 ⟨some 74, .call .blind 28 [(.k (.int .i64 0)), (.k (.int .i64 1))], none⟩,
 ⟨some 75, .call .eff 15 [(.t 73), (.t 74)], none⟩,
 ⟨some 9, .alL [.nils, .nils], none⟩,
 ⟨none, .st 2 (.t 9) (.t 75), none⟩]) <|
 .seq (.reg [
 ⟨some 76, .fld 1 (.t 9), none⟩,
 ⟨some 77, .ld 1 false (.t 76), none⟩,
 ⟨some 78, .len (.t 77), none⟩,
 ⟨some 79, .bin .eql .sc (.t 78) (.k (.int .i64 3)), none⟩,
 ⟨some 80, .mv (.t 79), none⟩,
 ⟨some 81, .fld 1 (.t 9), some (80, true)⟩,
 ⟨some 82, .ld 1 false (.t 81), some (80, true)⟩,
 ⟨some 83, .idx 1 (.t 82) (.k (.int .i64 0)), some (80, true)⟩,
 ⟨some 84, .ld 1 false (.t 83), some (80, true)⟩,
 ⟨some 85, .mv (.t 0), some (80, true)⟩,
 ⟨some 86, .bin .leq .sc (.t 85) (.k (.int .i64 8)), some (80, true)⟩,
 ⟨some 87, .bin .eql .bl (.t 84) (.t 86), some (80, true)⟩,
 ⟨some 88, .pick (.t 80) (.t 87) (.k (.bool false)), none⟩,
 ⟨some 89, .mv (.t 88), none⟩,
 ⟨some 90, .call .blind 22 [], some (89, true)⟩,
 ⟨some 91, .pick (.t 89) (.t 90) (.k (.bool false)), none⟩,
 ⟨some 2, .mv (.t 91), none⟩]) <|
 .ret⟩

def l7_0b : DC :=
 .seq (.seq (.reg [
 ⟨some 51, .mv (.t 9), none⟩,
 ⟨some 52, .mv (.t 0), none⟩,
 ⟨some 53, .bin .lss .sc (.t 51) (.t 52), none⟩]) <|
 .cond (.t 53)
 (.skip)
 (.exit 0)) <|
 .seq (.block 1 <|
 .seq (.reg [
 ⟨some 56, .mv (.t 5), none⟩,
 ⟨some 57, .call .blind 28 [(.k (.int .i64 0)), (.k (.int .i64 1))], none⟩,
 ⟨some 58, .call .eff 15 [(.t 56), (.t 57)], none⟩,
 ⟨some 10, .alL [.nils, .nils], none⟩,
 ⟨none, .st 2 (.t 10) (.t 58), none⟩]) <|
 .seq (.reg [
 ⟨some 59, .fld 1 (.t 10), none⟩,
 ⟨some 60, .ld 1 false (.t 59), none⟩,
 ⟨some 61, .len (.t 60), none⟩,
 ⟨some 62, .bin .neq .sc (.t 61) (.k (.int .i64 3)), none⟩,
 ⟨some 63, .mv (.t 62), none⟩,
 ⟨some 64, .fld 1 (.t 10), some (63, false)⟩,
 ⟨some 65, .ld 1 false (.t 64), some (63, false)⟩,
 ⟨some 66, .idx 1 (.t 65) (.k (.int .i64 0)), some (63, false)⟩,
 ⟨some 67, .ld 1 false (.t 66), some (63, false)⟩,
 ⟨some 68, .pick (.t 63) (.k (.bool true)) (.t 67), none⟩]) <|
 .cond (.t 68)
 (.seq (.reg [
 ⟨some 4, .mv (.k (.bool false)), none⟩]) <|
 .ret)
 (.skip)) <|
 .reg [
 ⟨some 54, .mv (.t 9), none⟩,
 ⟨some 55, .bin .add .sc (.t 54) (.k (.int .i64 1)), none⟩,
 ⟨some 9, .mv (.t 55), none⟩]
def l7_0 : DC := .loop [0, 1, 5, 9] [] l7_0b
def f7 : DFn := ⟨2, [.t 4],
 .seq (.reg [
 ⟨some 4, .mv (.k (.bool false)), none⟩]) <|
 .seq (.seq (.reg [
 ⟨some 13, .mv (.t 0), none⟩,
 ⟨some 14, .bin .lss .sc (.t 13) (.k (.int .i64 0)), none⟩,
 ⟨some 15, .mv (.t 14), none⟩,
 ⟨some 16, .mv (.t 0), some (15, false)⟩,
 ⟨some 17, .bin .gtr .sc (.t 16) (.k (.int .i64 12)), some (15, false)⟩,
 ⟨some 18, .pick (.t 15) (.k (.bool true)) (.t 17), none⟩]) <|
 .cond (.t 18)
 (.seq (.reg [
 ⟨some 4, .mv (.k (.bool true)), none⟩]) <|
 .ret)
 (.skip)) <|
 .seq (.reg [
 ⟨some 20, .call .blind 27 [], none⟩,
 ⟨some 21, .call .eff 13 [(.t 20)], none⟩,
 ⟨some 19, .mv (.t 21), none⟩,
 ⟨some 22, .ext 0 (.t 19), none⟩,
 ⟨some 23, .ext 1 (.t 19), none⟩,
 ⟨some 5, .mv (.t 22), none⟩,
 ⟨some 6, .mv (.t 23), none⟩]) <|
 .seq (.seq (.reg [
 ⟨some 24, .mv (.t 6), none⟩,
 ⟨some 25, .bin .neq .sc (.t 24) (.k (.int .i64 0)), none⟩,
 ⟨some 26, .mv (.t 25), none⟩,
 ⟨some 27, .mv (.t 5), some (26, false)⟩,
 ⟨some 28, .bin .eql .np (.t 27) (.k (.nilp)), some (26, false)⟩,
 ⟨some 29, .pick (.t 26) (.k (.bool true)) (.t 28), none⟩]) <|
 .cond (.t 29)
 (.seq (.reg [
 ⟨some 4, .mv (.k (.bool false)), none⟩]) <|
 .ret)
 (.skip)) <|
 .seq (.reg [
 ⟨some 30, .mv (.t 5), none⟩,
 ⟨some 31, .call .blind 28 [(.k (.int .i64 0)), (.k (.int .i64 1))], none⟩,
 ⟨some 32, .build [.int .i64 0, .int .i64 0] [(0, 1, (.k (.int .i64 1)))], none⟩,
 ⟨some 33, .call .eff 14 [(.t 30), (.t 31), (.t 32)], none⟩]) <|
 .seq (.reg [
 ⟨some 34, .mv (.t 5), none⟩,
 ⟨some 35, .call .blind 28 [(.k (.int .i64 0)), (.k (.int .i64 1))], none⟩,
 ⟨some 36, .call .eff 15 [(.t 34), (.t 35)], none⟩]) <|
 .seq (.reg [
 ⟨some 37, .mv (.t 5), none⟩,
 ⟨some 38, .call .blind 28 [(.k (.int .i64 0)), (.k (.int .i64 1))], none⟩,
 ⟨some 39, .build [.int .i64 0, .int .i64 0] [(0, 1, (.k (.int .i64 2)))], none⟩,
 ⟨some 40, .call .eff 14 [(.t 37), (.t 38), (.t 39)], none⟩,
 ⟨some 7, .mv (.t 40), none⟩]) <|
 .seq (.reg [
 ⟨some 41, .mv (.t 5), none⟩,
 ⟨some 42, .call .blind 28 [(.k (.int .i64 0)), (.k (.int .i64 1))], none⟩,
 ⟨some 43, .build [.int .i64 0, .int .i64 0] [(0, 1, (.k (.int .i64 2)))], none⟩,
 ⟨some 44, .call .eff 14 [(.t 41), (.t 42), (.t 43)], none⟩,
 ⟨some 8, .mv (.t 44), none⟩]) <|
 .seq (.seq (.reg [
 ⟨some 45, .mv (.t 7), none⟩,
 ⟨some 46, .bin .neq .sc (.t 45) (.k (.int .i64 0)), none⟩,
 ⟨some 47, .mv (.t 46), none⟩,
 ⟨some 48, .mv (.t 8), some (47, false)⟩,
 ⟨some 49, .bin .neq .sc (.t 48) (.k (.int .i64 7)), some (47, false)⟩,
 ⟨some 50, .pick (.t 47) (.k (.bool true)) (.t 49), none⟩]) <|
 .cond (.t 50)
 (.seq (.reg [
 ⟨some 4, .mv (.k (.bool false)), none⟩]) <|
 .ret)
 (.skip)) <|
 .seq (.seq (.reg [
 ⟨some 9, .mv (.k (.int .i64 0)), none⟩]) <|
 .block 0 <|
 l7_0) <|
 .seq (.seq (.reg [
 ⟨some 69, .mv (.t 1), none⟩]) <|
 .cond (.t 69)
 (.reg [
 ⟨some 70, .mv (.t 5), none⟩,
 ⟨some 71, .call .blind 28 [(.k (.int .i64 1)), (.k (.int .i64 1))], none⟩,
 ⟨some 72, .call .eff 15 [(.t 70), (.t 71)], none⟩])
 (.skip)) <|
 .seq (.reg [
 ⟨some 73, .mv (.t 5), none⟩,
 ⟨some 74, .call .ro 16 [(.t 73)], none⟩,
 ⟨some 11, .mv (.t 74), none⟩]) <|
 .seq (.reg [
 ⟨some 12, .mv (.k (.int .i64 4)), none⟩]) <|
 .seq (.seq (.reg [
 ⟨some 75, .mv (.t 0), none⟩,
 ⟨some 76, .bin .geq .sc (.t 75) (.k (.int .i64 6)), none⟩]) <|
 .cond (.t 76)
 (.reg [
 ⟨some 12, .mv (.k (.int .i64 0)), none⟩])
 (.seq (.reg [
 ⟨some 77, .mv (.t 1), none⟩]) <|
 .cond (.t 77)
 (.reg [
 ⟨some 12, .mv (.k (.int .i64 3)), none⟩])
 (.skip))) <|
 .seq (.reg [
 ⟨some 78, .mv (.t 11), none⟩,
 ⟨some 79, .len (.t 78), none⟩,
 ⟨some 80, .bin .eql .sc (.t 79) (.k (.int .i64 2)), none⟩,
 ⟨some 81, .mv (.t 80), none⟩,
 ⟨some 82, .mv (.t 11), some (81, true)⟩,
 ⟨some 83, .idx 4 (.t 82) (.k (.int .i64 0)), some (81, true)⟩,
 ⟨some 84, .fld 0 (.t 83), some (81, true)⟩,
 ⟨some 85, .ld 1 false (.t 84), some (81, true)⟩,
 ⟨some 86, .mv (.t 12), some (81, true)⟩,
 ⟨some 87, .bin .eql .sc (.t 85) (.t 86), some (81, true)⟩,
 ⟨some 88, .pick (.t 81) (.t 87) (.k (.bool false)), none⟩,
 ⟨some 89, .mv (.t 88), none⟩,
 ⟨some 90, .call .blind 22 [], some (89, true)⟩,
 ⟨some 91, .pick (.t 89) (.t 90) (.k (.bool false)), none⟩,
 ⟨some 4, .mv (.t 91), none⟩]) <|
 .ret⟩

def f8 : DFn := ⟨2, [.t 4],
 .seq (.reg [
 ⟨some 4, .mv (.k (.bool false)), none⟩]) <|
 .seq (.seq (.reg [
 ⟨some 11, .mv (.t 0), none⟩,
 ⟨some 12, .bin .lss .sc (.t 11) (.k (.int .i64 0)), none⟩,
 ⟨some 13, .mv (.t 12), none⟩,
 ⟨some 14, .mv (.t 0), some (13, false)⟩,
 ⟨some 15, .bin .gtr .sc (.t 14) (.k (.int .i64 7)), some (13, false)⟩,
 ⟨some 16, .pick (.t 13) (.k (.bool true)) (.t 15), none⟩,
 ⟨some 17, .mv (.t 16), none⟩,
 ⟨some 18, .mv (.t 1), some (17, false)⟩,
 ⟨some 19, .bin .lss .sc (.t 18) (.k (.int .i64 0)), some (17, false)⟩,
 ⟨some 20, .pick (.t 17) (.k (.bool true)) (.t 19), none⟩,
 ⟨some 21, .mv (.t 20), none⟩,
 ⟨some 22, .mv (.t 1), some (21, false)⟩,
 ⟨some 23, .bin .gtr .sc (.t 22) (.k (.int .i64 2)), some (21, false)⟩,
 ⟨some 24, .pick (.t 21) (.k (.bool true)) (.t 23), none⟩]) <|
 .cond (.t 24)
 (.seq (.reg [
 ⟨some 4, .mv (.k (.bool true)), none⟩]) <|
 .ret)
 (.skip)) <|
 .seq (.reg [
 ⟨some 26, .call .blind 27 [], none⟩,
 ⟨some 27, .call .eff 13 [(.t 26)], none⟩,
 ⟨some 25, .mv (.t 27), none⟩,
 ⟨some 28, .ext 0 (.t 25), none⟩,
 ⟨some 29, .ext 1 (.t 25), none⟩,
 ⟨some 5, .mv (.t 28), none⟩,
 ⟨some 6, .mv (.t 29), none⟩]) <|
 .seq (.seq (.reg [
 ⟨some 30, .mv (.t 6), none⟩,
 ⟨some 31, .bin .neq .sc (.t 30) (.k (.int .i64 0)), none⟩,
 ⟨some 32, .mv (.t 31), none⟩,
 ⟨some 33, .mv (.t 5), some (32, false)⟩,
 ⟨some 34, .bin .eql .np (.t 33) (.k (.nilp)), some (32, false)⟩,
 ⟨some 35, .pick (.t 32) (.k (.bool true)) (.t 34), none⟩]) <|
 .cond (.t 35)
 (.seq (.reg [
 ⟨some 4, .mv (.k (.bool false)), none⟩]) <|
 .ret)
 (.skip)) <|
 .seq (.reg [
 ⟨some 36, .mv (.t 0), none⟩,
 ⟨some 37, .mv (.t 1), none⟩,
 ⟨some 38, .call .blind 28 [(.t 36), (.t 37)], none⟩,
 ⟨some 7, .alL [.nils, .nils], none⟩,
 ⟨none, .st 2 (.t 7) (.t 38), none⟩]) <|
 .seq (.reg [
 ⟨some 39, .mv (.t 5), none⟩,
 ⟨some 40, .ld 2 true (.t 7), none⟩,
 ⟨some 41, .build [.int .i64 0, .int .i64 0] [(0, 1, (.k (.int .i64 1)))], none⟩,
 ⟨some 42, .call .eff 14 [(.t 39), (.t 40), (.t 41)], none⟩,
 ⟨some 8, .mv (.t 42), none⟩]) <|
 .seq (.seq (.reg [
 ⟨some 43, .mv (.t 8), none⟩,
 ⟨some 44, .bin .eql .sc (.t 43) (.k (.int .i64 0)), none⟩,
 ⟨some 45, .mv (.t 0), none⟩,
 ⟨some 46, .bin .and .sc (.t 45) (.k (.int .i64 3)), none⟩,
 ⟨some 47, .bin .eql .sc (.t 46) (.k (.int .i64 0)), none⟩,
 ⟨some 48, .bin .neq .bl (.t 44) (.t 47), none⟩,
 ⟨some 49, .mv (.t 48), none⟩,
 ⟨some 50, .mv (.t 8), some (49, false)⟩,
 ⟨some 51, .bin .neq .sc (.t 50) (.k (.int .i64 0)), some (49, false)⟩,
 ⟨some 52, .mv (.t 51), some (49, false)⟩,
 ⟨some 53, .mv (.t 8), some (52, true)⟩,
 ⟨some 54, .bin .neq .sc (.t 53) (.k (.int .i64 8)), some (52, true)⟩,
 ⟨some 55, .pick (.t 52) (.t 54) (.k (.bool false)), some (49, false)⟩,
 ⟨some 56, .pick (.t 49) (.k (.bool true)) (.t 55), none⟩]) <|
 .cond (.t 56)
 (.seq (.reg [
 ⟨some 4, .mv (.k (.bool false)), none⟩]) <|
 .ret)
 (.skip)) <|
 .seq (.reg [
 ⟨some 57, .mv (.t 5), none⟩,
 ⟨some 58, .ld 2 true (.t 7), none⟩,
 ⟨some 59, .build [.int .i64 0, .int .i64 0] [(0, 1, (.k (.int .i64 1))), (1, 1, (.k (.int .i64 1)))], none⟩,
 ⟨some 60, .call .eff 14 [(.t 57), (.t 58), (.t 59)], none⟩,
 ⟨some 9, .mv (.t 60), none⟩]) <|
 .seq (.reg [
 ⟨some 61, .mv (.t 5), none⟩,
 ⟨some 62, .ld 2 true (.t 7), none⟩,
 ⟨some 63, .build [.int .i64 0, .int .i64 0] [(0, 1, (.k (.int .i64 1))), (1, 1, (.k (.int .i64 1)))], none⟩,
 ⟨some 64, .call .eff 14 [(.t 61), (.t 62), (.t 63)], none⟩,
 ⟨some 10, .mv (.t 64), none⟩]) <|
 .seq (.seq (.reg [
 ⟨some 65, .mv (.t 9), none⟩,
 ⟨some 66, .bin .eql .sc (.t 65) (.k (.int .i64 0)), none⟩,
 ⟨some 67, .mv (.t 0), none⟩,
 ⟨some 68, .bin .and .sc (.t 67) (.k (.int .i64 4)), none⟩,
 ⟨some 69, .bin .eql .sc (.t 68) (.k (.int .i64 0)), none⟩,
 ⟨some 70, .bin .neq .bl (.t 66) (.t 69), none⟩,
 ⟨some 71, .mv (.t 70), none⟩,
 ⟨some 72, .mv (.t 10), some (71, false)⟩,
 ⟨some 73, .bin .eql .sc (.t 72) (.k (.int .i64 0)), some (71, false)⟩,
 ⟨some 74, .pick (.t 71) (.k (.bool true)) (.t 73), none⟩]) <|
 .cond (.t 74)
 (.seq (.reg [
 ⟨some 4, .mv (.k (.bool false)), none⟩]) <|
 .ret)
 (.skip)) <|
 .seq (.reg [
 ⟨some 75, .mv (.t 5), none⟩,
 ⟨some 76, .ld 2 true (.t 7), none⟩,
 ⟨some 77, .build [.int .i64 0, .int .i64 0] [(0, 1, (.k (.int .i64 3)))], none⟩,
 ⟨some 78, .call .eff 14 [(.t 75), (.t 76), (.t 77)], none⟩,
 ⟨some 79, .bin .eql .sc (.t 78) (.k (.int .i64 1)), none⟩,
 ⟨some 80, .mv (.t 79), none⟩,
 ⟨some 81, .mv (.t 5), some (80, true)⟩,
 ⟨some 82, .ld 2 true (.t 7), some (80, true)⟩,
 ⟨some 83, .build [.int .i64 0, .int .i64 0] [(0, 1, (.k (.int .i64 1))), (1, 1, (.k (.int .i64 2)))], some (80, true)⟩,
 ⟨some 84, .call .eff 14 [(.t 81), (.t 82), (.t 83)], some (80, true)⟩,
 ⟨some 85, .bin .eql .sc (.t 84) (.k (.int .i64 5)), some (80, true)⟩,
 ⟨some 86, .pick (.t 80) (.t 85) (.k (.bool false)), none⟩,
 ⟨some 87, .mv (.t 86), none⟩,
 ⟨some 88, .mv (.t 5), some (87, true)⟩,
 ⟨some 89, .ld 2 true (.t 7), some (87, true)⟩,
 ⟨some 90, .build [.int .i64 0, .int .i64 0] [(0, 1, (.k (.int .i64 1))), (1, 1, (.k (.int .i64 (-1))))], some (87, true)⟩,
 ⟨some 91, .call .eff 14 [(.t 88), (.t 89), (.t 90)], some (87, true)⟩,
 ⟨some 92, .bin .eql .sc (.t 91) (.k (.int .i64 5)), some (87, true)⟩,
 ⟨some 93, .pick (.t 87) (.t 92) (.k (.bool false)), none⟩,
 ⟨some 94, .mv (.t 93), none⟩,
 ⟨some 95, .call .blind 22 [], some (94, true)⟩,
 ⟨some 96, .pick (.t 94) (.t 95) (.k (.bool false)), none⟩,
 ⟨some 4, .mv (.t 96), none⟩]) <|
 .ret⟩

def f9 : DFn := ⟨3, [.t 6],
 .seq (.reg [
 ⟨some 3, .boxL (.t 0), none⟩,
 ⟨some 6, .mv (.k (.bool false)), none⟩]) <|
 .seq (.seq (.reg [
 ⟨some 14, .ld 4 true (.t 3), none⟩,
 ⟨some 15, .call .blind 10 [(.t 14)], none⟩,
 ⟨some 16, .bin .geq .sc (.t 15) (.k (.int .i64 3000)), none⟩,
 ⟨some 17, .mv (.t 16), none⟩,
 ⟨some 18, .ld 4 true (.t 3), some (17, false)⟩,
 ⟨some 19, .call .blind 12 [(.t 18)], some (17, false)⟩,
 ⟨some 20, .un .not (.t 19), some (17, false)⟩,
 ⟨some 21, .pick (.t 17) (.k (.bool true)) (.t 20), none⟩,
 ⟨some 22, .mv (.t 21), none⟩,
 ⟨some 23, .mv (.t 1), some (22, false)⟩,
 ⟨some 24, .bin .lss .sc (.t 23) (.k (.int .i64 0)), some (22, false)⟩,
 ⟨some 25, .pick (.t 22) (.k (.bool true)) (.t 24), none⟩,
 ⟨some 26, .mv (.t 25), none⟩,
 ⟨some 27, .mv (.t 1), some (26, false)⟩,
 ⟨some 28, .fld 3 (.t 3), some (26, false)⟩,
 ⟨some 29, .ld 1 false (.t 28), some (26, false)⟩,
 ⟨some 30, .len (.t 29), some (26, false)⟩,
 ⟨some 31, .bin .geq .sc (.t 27) (.t 30), some (26, false)⟩,
 ⟨some 32, .pick (.t 26) (.k (.bool true)) (.t 31), none⟩,
 ⟨some 33, .mv (.t 32), none⟩,
 ⟨some 34, .mv (.t 2), some (33, false)⟩,
 ⟨some 35, .bin .lss .sc (.t 34) (.k (.int .i64 0)), some (33, false)⟩,
 ⟨some 36, .pick (.t 33) (.k (.bool true)) (.t 35), none⟩,
 ⟨some 37, .mv (.t 36), none⟩,
 ⟨some 38, .mv (.t 2), some (37, false)⟩,
 ⟨some 39, .fld 3 (.t 3), some (37, false)⟩,
 ⟨some 40, .ld 1 false (.t 39), some (37, false)⟩,
 ⟨some 41, .len (.t 40), some (37, false)⟩,
 ⟨some 42, .bin .geq .sc (.t 38) (.t 41), some (37, false)⟩,
 ⟨some 43, .pick (.t 37) (.k (.bool true)) (.t 42), none⟩,
 ⟨some 44, .mv (.t 43), none⟩,
 ⟨some 45, .mv (.t 1), some (44, false)⟩,
 ⟨some 46, .mv (.t 2), some (44, false)⟩,
 ⟨some 47, .bin .eql .sc (.t 45) (.t 46), some (44, false)⟩,
 ⟨some 48, .pick (.t 44) (.k (.bool true)) (.t 47), none⟩]) <|
 .cond (.t 48)
 (.seq (.reg [
 ⟨some 6, .mv (.k (.bool true)), none⟩]) <|
 .ret)
 (.skip)) <|
 .seq (.reg [
 ⟨some 50, .ld 4 true (.t 3), none⟩,
 ⟨some 51, .call .eff 13 [(.t 50)], none⟩,
 ⟨some 49, .mv (.t 51), none⟩,
 ⟨some 52, .ext 0 (.t 49), none⟩,
 ⟨some 53, .ext 1 (.t 49), none⟩,
 ⟨some 7, .mv (.t 52), none⟩,
 ⟨some 8, .mv (.t 53), none⟩]) <|
 .seq (.seq (.reg [
 ⟨some 54, .mv (.t 8), none⟩,
 ⟨some 55, .bin .neq .sc (.t 54) (.k (.int .i64 0)), none⟩,
 ⟨some 56, .mv (.t 55), none⟩,
 ⟨some 57, .mv (.t 7), some (56, false)⟩,
 ⟨some 58, .bin .eql .np (.t 57) (.k (.nilp)), some (56, false)⟩,
 ⟨some 59, .pick (.t 56) (.k (.bool true)) (.t 58), none⟩]) <|
 .cond (.t 59)
 (.seq (.reg [
 ⟨some 6, .mv (.k (.bool false)), none⟩]) <|
 .ret)
 (.skip)) <|
 .seq (.drw [
 ⟨some 60, .fld 0 (.t 3), none⟩,
 ⟨some 61, .ld 1 false (.t 60), none⟩,
 ⟨some 62, .len (.t 61), none⟩,
 ⟨some 63, .mks false 1 1 [.bool false] (.t 62), none⟩,
 ⟨some 64, .fld 1 (.t 3), none⟩,
 ⟨some 65, .ld 1 false (.t 64), none⟩,
 ⟨some 66, .len (.t 65), none⟩,
 ⟨some 67, .mks false 1 8 [.int .i64 0] (.t 66), none⟩,
 ⟨some 68, .build [.nils, .nils] [(0, 1, (.t 63)), (1, 1, (.t 67))], none⟩,
 ⟨some 9, .alL [.nils, .nils], none⟩,
 ⟨none, .st 2 (.t 9) (.t 68), none⟩] [[], [], [], [1], [], [], [], [5], [], [], [1, 3, 5, 7, 9]]) <|
 .seq (.reg [
 ⟨some 69, .mv (.t 7), none⟩,
 ⟨some 70, .ld 2 true (.t 9), none⟩,
 ⟨some 71, .mv (.t 1), none⟩,
 ⟨some 72, .build [.int .i64 0, .int .i64 0] [(0, 1, (.k (.int .i64 1))), (1, 1, (.t 71))], none⟩,
 ⟨some 73, .call .eff 14 [(.t 69), (.t 70), (.t 72)], none⟩,
 ⟨some 10, .mv (.t 73), none⟩]) <|
 .seq (.reg [
 ⟨some 74, .mv (.t 7), none⟩,
 ⟨some 75, .ld 2 true (.t 9), none⟩,
 ⟨some 76, .mv (.t 2), none⟩,
 ⟨some 77, .build [.int .i64 0, .int .i64 0] [(0, 1, (.k (.int .i64 1))), (1, 1, (.t 76))], none⟩,
 ⟨some 78, .call .eff 14 [(.t 74), (.t 75), (.t 77)], none⟩,
 ⟨some 11, .mv (.t 78), none⟩]) <|
 .seq (.seq (.reg [
 ⟨some 79, .mv (.t 10), none⟩,
 ⟨some 80, .bin .neq .sc (.t 79) (.k (.int .i64 0)), none⟩]) <|
 .cond (.t 80)
 (.seq (.reg [
 ⟨some 6, .mv (.k (.bool false)), none⟩]) <|
 .ret)
 (.skip)) <|
 .seq (.seq (.reg [
 ⟨some 81, .ld 4 true (.t 3), none⟩,
 ⟨some 82, .mv (.t 1), none⟩,
 ⟨some 83, .mv (.t 2), none⟩,
 ⟨some 84, .call .blind 30 [(.t 81), (.t 82), (.t 83)], none⟩]) <|
 .cond (.t 84)
 (.seq (.reg [
 ⟨some 85, .mv (.t 7), none⟩,
 ⟨some 86, .ld 2 true (.t 9), none⟩,
 ⟨some 87, .mv (.t 1), none⟩,
 ⟨some 88, .build [.int .i64 0, .int .i64 0] [(0, 1, (.k (.int .i64 2))), (1, 1, (.t 87))], none⟩,
 ⟨some 89, .call .eff 14 [(.t 85), (.t 86), (.t 88)], none⟩,
 ⟨some 12, .mv (.t 89), none⟩]) <|
 .seq (.reg [
 ⟨some 90, .mv (.t 7), none⟩,
 ⟨some 91, .ld 2 true (.t 9), none⟩,
 ⟨some 92, .mv (.t 2), none⟩,
 ⟨some 93, .build [.int .i64 0, .int .i64 0] [(0, 1, (.k (.int .i64 1))), (1, 1, (.t 92))], none⟩,
 ⟨some 94, .call .eff 14 [(.t 90), (.t 91), (.t 93)], none⟩,
 ⟨some 13, .mv (.t 94), none⟩]) <|
 .seq (.reg [
 ⟨some 95, .mv (.t 11), none⟩,
 ⟨some 96, .bin .eql .sc (.t 95) (.k (.int .i64 8)), none⟩,
 ⟨some 97, .mv (.t 96), none⟩,
 ⟨some 98, .mv (.t 12), some (97, true)⟩,
 ⟨some 99, .bin .eql .sc (.t 98) (.k (.int .i64 0)), some (97, true)⟩,
 ⟨some 100, .pick (.t 97) (.t 99) (.k (.bool false)), none⟩,
 ⟨some 101, .mv (.t 100), none⟩,
 ⟨some 102, .mv (.t 13), some (101, true)⟩,
 ⟨some 103, .bin .eql .sc (.t 102) (.k (.int .i64 0)), some (101, true)⟩,
 ⟨some 104, .pick (.t 101) (.t 103) (.k (.bool false)), none⟩,
 ⟨some 105, .mv (.t 104), none⟩,
 ⟨some 106, .call .blind 22 [], some (105, true)⟩,
 ⟨some 107, .pick (.t 105) (.t 106) (.k (.bool false)), none⟩,
 ⟨some 6, .mv (.t 107), none⟩]) <|
 .ret)
 (.skip)) <|
 .seq (.reg [
 ⟨some 108, .mv (.t 11), none⟩,
 ⟨some 109, .bin .eql .sc (.t 108) (.k (.int .i64 0)), none⟩,
 ⟨some 110, .mv (.t 109), none⟩,
 ⟨some 111, .mv (.t 11), some (110, false)⟩,
 ⟨some 112, .bin .eql .sc (.t 111) (.k (.int .i64 8)), some (110, false)⟩,
 ⟨some 113, .pick (.t 110) (.k (.bool true)) (.t 112), none⟩,
 ⟨some 114, .mv (.t 113), none⟩,
 ⟨some 115, .call .blind 22 [], some (114, true)⟩,
 ⟨some 116, .pick (.t 114) (.t 115) (.k (.bool false)), none⟩,
 ⟨some 6, .mv (.t 116), none⟩]) <|
 .ret⟩

def l10_3b : DC :=
 .seq (.seq (.reg [
 ⟨some 82, .mv (.t 7), none⟩,
 ⟨some 83, .fld 3 (.t 1), none⟩,
 ⟨some 84, .ld 1 false (.t 83), none⟩,
 ⟨some 85, .len (.t 84), none⟩,
 ⟨some 86, .bin .lss .sc (.t 82) (.t 85), none⟩,
 ⟨some 87, .mv (.t 86), none⟩,
 ⟨some 88, .mv (.t 3), some (87, true)⟩,
 ⟨some 89, .bin .lss .sc (.t 88) (.k (.int .i64 3000)), some (87, true)⟩,
 ⟨some 90, .pick (.t 87) (.t 89) (.k (.bool false)), none⟩]) <|
 .cond (.t 90)
 (.skip)
 (.exit 6)) <|
 .seq (.block 7 <|
 .seq (.reg [
 ⟨some 93, .fld 3 (.t 1), none⟩,
 ⟨some 94, .ld 1 false (.t 93), none⟩,
 ⟨some 95, .mv (.t 7), none⟩,
 ⟨some 96, .idx 6 (.t 94) (.t 95), none⟩,
 ⟨some 97, .ld 6 true (.t 96), none⟩,
 ⟨some 8, .alL [.str [], .int .i64 0, .int .i64 0, .nils, .nils, .nils], none⟩,
 ⟨none, .st 6 (.t 8) (.t 97), none⟩]) <|
 .reg [
 ⟨some 98, .mv (.t 3), none⟩,
 ⟨some 99, .fld 0 (.t 8), none⟩,
 ⟨some 100, .ld 1 false (.t 99), none⟩,
 ⟨some 101, .lenS (.t 100), none⟩,
 ⟨some 102, .bin .add .sc (.t 98) (.t 101), none⟩,
 ⟨some 103, .fld 3 (.t 8), none⟩,
 ⟨some 104, .ld 1 false (.t 103), none⟩,
 ⟨some 105, .len (.t 104), none⟩,
 ⟨some 106, .bin .add .sc (.t 102) (.t 105), none⟩,
 ⟨some 107, .fld 4 (.t 8), none⟩,
 ⟨some 108, .ld 1 false (.t 107), none⟩,
 ⟨some 109, .len (.t 108), none⟩,
 ⟨some 110, .bin .add .sc (.t 106) (.t 109), none⟩,
 ⟨some 111, .fld 5 (.t 8), none⟩,
 ⟨some 112, .ld 1 false (.t 111), none⟩,
 ⟨some 113, .len (.t 112), none⟩,
 ⟨some 114, .bin .add .sc (.t 110) (.t 113), none⟩,
 ⟨some 3, .mv (.t 114), none⟩]) <|
 .reg [
 ⟨some 91, .mv (.t 7), none⟩,
 ⟨some 92, .bin .add .sc (.t 91) (.k (.int .i64 1)), none⟩,
 ⟨some 7, .mv (.t 92), none⟩]
def l10_3 : DC := .loop [1, 3, 7] [1] l10_3b
def l10_2b : DC :=
 .seq (.seq (.reg [
 ⟨some 63, .mv (.t 6), none⟩,
 ⟨some 64, .fld 2 (.t 1), none⟩,
 ⟨some 65, .ld 1 false (.t 64), none⟩,
 ⟨some 66, .len (.t 65), none⟩,
 ⟨some 67, .bin .lss .sc (.t 63) (.t 66), none⟩,
 ⟨some 68, .mv (.t 67), none⟩,
 ⟨some 69, .mv (.t 3), some (68, true)⟩,
 ⟨some 70, .bin .lss .sc (.t 69) (.k (.int .i64 3000)), some (68, true)⟩,
 ⟨some 71, .pick (.t 68) (.t 70) (.k (.bool false)), none⟩]) <|
 .cond (.t 71)
 (.skip)
 (.exit 4)) <|
 .seq (.block 5 <|
 .reg [
 ⟨some 74, .mv (.t 3), none⟩,
 ⟨some 75, .fld 2 (.t 1), none⟩,
 ⟨some 76, .ld 1 false (.t 75), none⟩,
 ⟨some 77, .mv (.t 6), none⟩,
 ⟨some 78, .idx 1 (.t 76) (.t 77), none⟩,
 ⟨some 79, .ld 1 false (.t 78), none⟩,
 ⟨some 80, .lenS (.t 79), none⟩,
 ⟨some 81, .bin .add .sc (.t 74) (.t 80), none⟩,
 ⟨some 3, .mv (.t 81), none⟩]) <|
 .reg [
 ⟨some 72, .mv (.t 6), none⟩,
 ⟨some 73, .bin .add .sc (.t 72) (.k (.int .i64 1)), none⟩,
 ⟨some 6, .mv (.t 73), none⟩]
def l10_2 : DC := .loop [1, 3, 6] [1] l10_2b
def l10_1b : DC :=
 .seq (.seq (.reg [
 ⟨some 43, .mv (.t 5), none⟩,
 ⟨some 44, .fld 1 (.t 1), none⟩,
 ⟨some 45, .ld 1 false (.t 44), none⟩,
 ⟨some 46, .len (.t 45), none⟩,
 ⟨some 47, .bin .lss .sc (.t 43) (.t 46), none⟩,
 ⟨some 48, .mv (.t 47), none⟩,
 ⟨some 49, .mv (.t 3), some (48, true)⟩,
 ⟨some 50, .bin .lss .sc (.t 49) (.k (.int .i64 3000)), some (48, true)⟩,
 ⟨some 51, .pick (.t 48) (.t 50) (.k (.bool false)), none⟩]) <|
 .cond (.t 51)
 (.skip)
 (.exit 2)) <|
 .seq (.block 3 <|
 .reg [
 ⟨some 54, .mv (.t 3), none⟩,
 ⟨some 55, .fld 1 (.t 1), none⟩,
 ⟨some 56, .ld 1 false (.t 55), none⟩,
 ⟨some 57, .mv (.t 5), none⟩,
 ⟨some 58, .idx 2 (.t 56) (.t 57), none⟩,
 ⟨some 59, .fld 0 (.t 58), none⟩,
 ⟨some 60, .ld 1 false (.t 59), none⟩,
 ⟨some 61, .lenS (.t 60), none⟩,
 ⟨some 62, .bin .add .sc (.t 54) (.t 61), none⟩,
 ⟨some 3, .mv (.t 62), none⟩]) <|
 .reg [
 ⟨some 52, .mv (.t 5), none⟩,
 ⟨some 53, .bin .add .sc (.t 52) (.k (.int .i64 1)), none⟩,
 ⟨some 5, .mv (.t 53), none⟩]
def l10_1 : DC := .loop [1, 3, 5] [1] l10_1b
def l10_0b : DC :=
 .seq (.seq (.reg [
 ⟨some 24, .mv (.t 4), none⟩,
 ⟨some 25, .fld 0 (.t 1), none⟩,
 ⟨some 26, .ld 1 false (.t 25), none⟩,
 ⟨some 27, .len (.t 26), none⟩,
 ⟨some 28, .bin .lss .sc (.t 24) (.t 27), none⟩,
 ⟨some 29, .mv (.t 28), none⟩,
 ⟨some 30, .mv (.t 3), some (29, true)⟩,
 ⟨some 31, .bin .lss .sc (.t 30) (.k (.int .i64 3000)), some (29, true)⟩,
 ⟨some 32, .pick (.t 29) (.t 31) (.k (.bool false)), none⟩]) <|
 .cond (.t 32)
 (.skip)
 (.exit 0)) <|
 .seq (.block 1 <|
 .reg [
 ⟨some 35, .mv (.t 3), none⟩,
 ⟨some 36, .fld 0 (.t 1), none⟩,
 ⟨some 37, .ld 1 false (.t 36), none⟩,
 ⟨some 38, .mv (.t 4), none⟩,
 ⟨some 39, .idx 1 (.t 37) (.t 38), none⟩,
 ⟨some 40, .ld 1 false (.t 39), none⟩,
 ⟨some 41, .lenS (.t 40), none⟩,
 ⟨some 42, .bin .add .sc (.t 35) (.t 41), none⟩,
 ⟨some 3, .mv (.t 42), none⟩]) <|
 .reg [
 ⟨some 33, .mv (.t 4), none⟩,
 ⟨some 34, .bin .add .sc (.t 33) (.k (.int .i64 1)), none⟩,
 ⟨some 4, .mv (.t 34), none⟩]
def l10_0 : DC := .loop [1, 3, 4] [1] l10_0b
def f10 : DFn := ⟨1, [.t 2],
 .seq (.reg [
 ⟨some 1, .boxL (.t 0), none⟩,
 ⟨some 2, .mv (.k (.int .i64 0)), none⟩]) <|
 .seq (.reg [
 ⟨some 9, .fld 0 (.t 1), none⟩,
 ⟨some 10, .ld 1 false (.t 9), none⟩,
 ⟨some 11, .len (.t 10), none⟩,
 ⟨some 12, .fld 1 (.t 1), none⟩,
 ⟨some 13, .ld 1 false (.t 12), none⟩,
 ⟨some 14, .len (.t 13), none⟩,
 ⟨some 15, .bin .add .sc (.t 11) (.t 14), none⟩,
 ⟨some 16, .fld 2 (.t 1), none⟩,
 ⟨some 17, .ld 1 false (.t 16), none⟩,
 ⟨some 18, .len (.t 17), none⟩,
 ⟨some 19, .bin .add .sc (.t 15) (.t 18), none⟩,
 ⟨some 20, .fld 3 (.t 1), none⟩,
 ⟨some 21, .ld 1 false (.t 20), none⟩,
 ⟨some 22, .len (.t 21), none⟩,
 ⟨some 23, .bin .add .sc (.t 19) (.t 22), none⟩,
 ⟨some 3, .mv (.t 23), none⟩]) <|
 .seq (.seq (.reg [
 ⟨some 4, .mv (.k (.int .i64 0)), none⟩]) <|
 .block 0 <|
 l10_0) <|
 .seq (.seq (.reg [
 ⟨some 5, .mv (.k (.int .i64 0)), none⟩]) <|
 .block 2 <|
 l10_1) <|
 .seq (.seq (.reg [
 ⟨some 6, .mv (.k (.int .i64 0)), none⟩]) <|
 .block 4 <|
 l10_2) <|
 .seq (.seq (.reg [
 ⟨some 7, .mv (.k (.int .i64 0)), none⟩]) <|
 .block 6 <|
 l10_3) <|
 .seq (.reg [
 ⟨some 115, .mv (.t 3), none⟩,
 ⟨some 2, .mv (.t 115), none⟩]) <|
 .ret⟩

def l11_0b : DC :=
 .seq (.seq (.reg [
 ⟨some 4, .mv (.t 3), none⟩,
 ⟨some 5, .mv (.t 0), none⟩,
 ⟨some 6, .len (.t 5), none⟩,
 ⟨some 7, .bin .lss .sc (.t 4) (.t 6), none⟩,
 ⟨some 8, .mv (.t 7), none⟩,
 ⟨some 9, .mv (.t 3), some (8, true)⟩,
 ⟨some 10, .bin .lss .sc (.t 9) (.k (.int .i64 60)), some (8, true)⟩,
 ⟨some 11, .pick (.t 8) (.t 10) (.k (.bool false)), none⟩]) <|
 .cond (.t 11)
 (.skip)
 (.exit 0)) <|
 .seq (.block 1 <|
 .seq (.reg [
 ⟨some 14, .mv (.t 0), none⟩,
 ⟨some 15, .mv (.t 3), none⟩,
 ⟨some 16, .idx 6 (.t 14) (.t 15), none⟩,
 ⟨some 17, .fld 1 (.t 16), none⟩,
 ⟨some 18, .ld 2 true (.t 17), none⟩,
 ⟨some 19, .call .blind 31 [(.t 18)], none⟩,
 ⟨some 20, .mv (.t 19), none⟩,
 ⟨some 21, .mv (.t 0), some (20, false)⟩,
 ⟨some 22, .mv (.t 3), some (20, false)⟩,
 ⟨some 23, .idx 6 (.t 21) (.t 22), some (20, false)⟩,
 ⟨some 24, .fld 5 (.t 23), some (20, false)⟩,
 ⟨some 25, .ld 1 false (.t 24), some (20, false)⟩,
 ⟨some 26, .len (.t 25), some (20, false)⟩,
 ⟨some 27, .bin .gtr .sc (.t 26) (.k (.int .i64 50)), some (20, false)⟩,
 ⟨some 28, .pick (.t 20) (.k (.bool true)) (.t 27), none⟩]) <|
 .cond (.t 28)
 (.seq (.reg [
 ⟨some 2, .mv (.k (.bool true)), none⟩]) <|
 .ret)
 (.skip)) <|
 .reg [
 ⟨some 12, .mv (.t 3), none⟩,
 ⟨some 13, .bin .add .sc (.t 12) (.k (.int .i64 1)), none⟩,
 ⟨some 3, .mv (.t 13), none⟩]
def l11_0 : DC := .loop [0, 3] [] l11_0b
def f11 : DFn := ⟨1, [.t 2],
 .seq (.reg [
 ⟨some 2, .mv (.k (.bool false)), none⟩]) <|
 .seq (.seq (.reg [
 ⟨some 3, .mv (.k (.int .i64 0)), none⟩]) <|
 .block 0 <|
 l11_0) <|
 .seq (.reg [
 ⟨some 2, .mv (.k (.bool false)), none⟩]) <|
 .ret⟩

def l12_2b : DC :=
 .seq (.seq (.reg [
 ⟨some 113, .mv (.t 7), none⟩,
 ⟨some 114, .fld 3 (.t 1), none⟩,
 ⟨some 115, .ld 1 false (.t 114), none⟩,
 ⟨some 116, .len (.t 115), none⟩,
 ⟨some 117, .bin .lss .sc (.t 113) (.t 116), none⟩]) <|
 .cond (.t 117)
 (.skip)
 (.exit 4)) <|
 .seq (.block 5 <|
 .seq (.drw [
 ⟨some 120, .ld 4 true (.t 1), none⟩,
 ⟨some 121, .fld 3 (.t 1), none⟩,
 ⟨some 122, .ld 1 false (.t 121), none⟩,
 ⟨some 123, .mv (.t 7), none⟩,
 ⟨some 124, .idx 6 (.t 122) (.t 123), none⟩,
 ⟨some 125, .ld 6 true (.t 124), none⟩,
 ⟨some 126, .call .blind 33 [(.t 120), (.t 125)], none⟩,
 ⟨some 127, .un .not (.t 126), none⟩] [[], [], [], [], [2], [2, 4], [0, 2, 4, 5], []]) <|
 .cond (.t 127)
 (.seq (.reg [
 ⟨some 2, .mv (.k (.bool false)), none⟩]) <|
 .ret)
 (.skip)) <|
 .reg [
 ⟨some 118, .mv (.t 7), none⟩,
 ⟨some 119, .bin .add .sc (.t 118) (.k (.int .i64 1)), none⟩,
 ⟨some 7, .mv (.t 119), none⟩]
def l12_2 : DC := .loop [1, 7] [1] l12_2b
def l12_1b : DC :=
 .seq (.seq (.reg [
 ⟨some 77, .mv (.t 6), none⟩,
 ⟨some 78, .fld 3 (.t 1), none⟩,
 ⟨some 79, .ld 1 false (.t 78), none⟩,
 ⟨some 80, .len (.t 79), none⟩,
 ⟨some 81, .bin .lss .sc (.t 77) (.t 80), none⟩]) <|
 .cond (.t 81)
 (.skip)
 (.exit 2)) <|
 .seq (.block 3 <|
 .reg [
 ⟨some 84, .mv (.t 4), none⟩,
 ⟨some 85, .fld 3 (.t 1), none⟩,
 ⟨some 86, .ld 1 false (.t 85), none⟩,
 ⟨some 87, .mv (.t 6), none⟩,
 ⟨some 88, .idx 6 (.t 86) (.t 87), none⟩,
 ⟨some 89, .fld 0 (.t 88), none⟩,
 ⟨some 90, .ld 1 false (.t 89), none⟩,
 ⟨some 91, .bsl false 1 [.str []] 1 [(0, (.t 90))], none⟩,
 ⟨some 92, .app 1 16 (.t 84) (.t 91), none⟩,
 ⟨some 4, .mv (.t 92), none⟩]) <|
 .reg [
 ⟨some 82, .mv (.t 6), none⟩,
 ⟨some 83, .bin .add .sc (.t 82) (.k (.int .i64 1)), none⟩,
 ⟨some 6, .mv (.t 83), none⟩]
def l12_1 : DC := .loop [1, 3, 4, 6] [1] l12_1b
def l12_0b : DC :=
 .seq (.seq (.reg [
 ⟨some 42, .mv (.t 5), none⟩,
 ⟨some 43, .fld 1 (.t 1), none⟩,
 ⟨some 44, .ld 1 false (.t 43), none⟩,
 ⟨some 45, .len (.t 44), none⟩,
 ⟨some 46, .bin .lss .sc (.t 42) (.t 45), none⟩]) <|
 .cond (.t 46)
 (.skip)
 (.exit 0)) <|
 .seq (.block 1 <|
 .seq (.reg [
 ⟨some 49, .mv (.t 3), none⟩,
 ⟨some 50, .fld 1 (.t 1), none⟩,
 ⟨some 51, .ld 1 false (.t 50), none⟩,
 ⟨some 52, .mv (.t 5), none⟩,
 ⟨some 53, .idx 2 (.t 51) (.t 52), none⟩,
 ⟨some 54, .fld 0 (.t 53), none⟩,
 ⟨some 55, .ld 1 false (.t 54), none⟩,
 ⟨some 56, .bsl false 1 [.str []] 1 [(0, (.t 55))], none⟩,
 ⟨some 57, .app 1 16 (.t 49) (.t 56), none⟩,
 ⟨some 3, .mv (.t 57), none⟩]) <|
 .seq (.drw [
 ⟨some 58, .fld 1 (.t 1), none⟩,
 ⟨some 59, .ld 1 false (.t 58), none⟩,
 ⟨some 60, .mv (.t 5), none⟩,
 ⟨some 61, .idx 2 (.t 59) (.t 60), none⟩,
 ⟨some 62, .fld 1 (.t 61), none⟩,
 ⟨some 63, .ld 1 false (.t 62), none⟩,
 ⟨some 64, .bin .lss .sc (.t 63) (.k (.int .i64 0)), none⟩,
 ⟨some 65, .mv (.t 64), none⟩,
 ⟨some 66, .fld 1 (.t 1), some (65, false)⟩,
 ⟨some 67, .ld 1 false (.t 66), some (65, false)⟩,
 ⟨some 68, .mv (.t 5), some (65, false)⟩,
 ⟨some 69, .idx 2 (.t 67) (.t 68), some (65, false)⟩,
 ⟨some 70, .fld 1 (.t 69), some (65, false)⟩,
 ⟨some 71, .ld 1 false (.t 70), some (65, false)⟩,
 ⟨some 72, .fld 0 (.t 1), some (65, false)⟩,
 ⟨some 73, .ld 1 false (.t 72), some (65, false)⟩,
 ⟨some 74, .len (.t 73), some (65, false)⟩,
 ⟨some 75, .bin .geq .sc (.t 71) (.t 74), some (65, false)⟩,
 ⟨some 76, .pick (.t 65) (.k (.bool true)) (.t 75), none⟩] [[], [], [], [1], [], [1, 3], [], [], [], [1, 3, 5], [], [1, 3, 5, 9], [], [1, 3, 5, 9, 11], [], [1, 3, 5], [], [], []]) <|
 .cond (.t 76)
 (.seq (.reg [
 ⟨some 2, .mv (.k (.bool false)), none⟩]) <|
 .ret)
 (.skip)) <|
 .reg [
 ⟨some 47, .mv (.t 5), none⟩,
 ⟨some 48, .bin .add .sc (.t 47) (.k (.int .i64 1)), none⟩,
 ⟨some 5, .mv (.t 48), none⟩]
def l12_0 : DC := .loop [1, 3, 4, 5] [1] l12_0b
def f12 : DFn := ⟨1, [.t 2],
 .seq (.reg [
 ⟨some 1, .boxL (.t 0), none⟩,
 ⟨some 2, .mv (.k (.bool false)), none⟩]) <|
 .seq (.seq (.reg [
 ⟨some 8, .fld 0 (.t 1), none⟩,
 ⟨some 9, .ld 1 false (.t 8), none⟩,
 ⟨some 10, .len (.t 9), none⟩,
 ⟨some 11, .bin .lss .sc (.t 10) (.k (.int .i64 1)), none⟩,
 ⟨some 12, .mv (.t 11), none⟩,
 ⟨some 13, .fld 0 (.t 1), some (12, false)⟩,
 ⟨some 14, .ld 1 false (.t 13), some (12, false)⟩,
 ⟨some 15, .len (.t 14), some (12, false)⟩,
 ⟨some 16, .bin .gtr .sc (.t 15) (.k (.int .i64 10)), some (12, false)⟩,
 ⟨some 17, .pick (.t 12) (.k (.bool true)) (.t 16), none⟩,
 ⟨some 18, .mv (.t 17), none⟩,
 ⟨some 19, .fld 2 (.t 1), some (18, false)⟩,
 ⟨some 20, .ld 1 false (.t 19), some (18, false)⟩,
 ⟨some 21, .len (.t 20), some (18, false)⟩,
 ⟨some 22, .bin .lss .sc (.t 21) (.k (.int .i64 1)), some (18, false)⟩,
 ⟨some 23, .pick (.t 18) (.k (.bool true)) (.t 22), none⟩,
 ⟨some 24, .mv (.t 23), none⟩,
 ⟨some 25, .fld 2 (.t 1), some (24, false)⟩,
 ⟨some 26, .ld 1 false (.t 25), some (24, false)⟩,
 ⟨some 27, .len (.t 26), some (24, false)⟩,
 ⟨some 28, .bin .gtr .sc (.t 27) (.k (.int .i64 6)), some (24, false)⟩,
 ⟨some 29, .pick (.t 24) (.k (.bool true)) (.t 28), none⟩,
 ⟨some 30, .mv (.t 29), none⟩,
 ⟨some 31, .fld 1 (.t 1), some (30, false)⟩,
 ⟨some 32, .ld 1 false (.t 31), some (30, false)⟩,
 ⟨some 33, .len (.t 32), some (30, false)⟩,
 ⟨some 34, .bin .gtr .sc (.t 33) (.k (.int .i64 5)), some (30, false)⟩,
 ⟨some 35, .pick (.t 30) (.k (.bool true)) (.t 34), none⟩,
 ⟨some 36, .mv (.t 35), none⟩,
 ⟨some 37, .fld 3 (.t 1), some (36, false)⟩,
 ⟨some 38, .ld 1 false (.t 37), some (36, false)⟩,
 ⟨some 39, .len (.t 38), some (36, false)⟩,
 ⟨some 40, .bin .gtr .sc (.t 39) (.k (.int .i64 6)), some (36, false)⟩,
 ⟨some 41, .pick (.t 36) (.k (.bool true)) (.t 40), none⟩]) <|
 .cond (.t 41)
 (.seq (.reg [
 ⟨some 2, .mv (.k (.bool false)), none⟩]) <|
 .ret)
 (.skip)) <|
 .seq (.reg [
 ⟨some 3, .mv (.k (.nils)), none⟩,
 ⟨some 4, .mv (.k (.nils)), none⟩]) <|
 .seq (.seq (.reg [
 ⟨some 5, .mv (.k (.int .i64 0)), none⟩]) <|
 .block 0 <|
 l12_0) <|
 .seq (.seq (.reg [
 ⟨some 6, .mv (.k (.int .i64 0)), none⟩]) <|
 .block 2 <|
 l12_1) <|
 .seq (.seq (.reg [
 ⟨some 93, .fld 0 (.t 1), none⟩,
 ⟨some 94, .ld 1 false (.t 93), none⟩,
 ⟨some 95, .call .blind 32 [(.t 94)], none⟩,
 ⟨some 96, .un .not (.t 95), none⟩,
 ⟨some 97, .mv (.t 96), none⟩,
 ⟨some 98, .fld 2 (.t 1), some (97, false)⟩,
 ⟨some 99, .ld 1 false (.t 98), some (97, false)⟩,
 ⟨some 100, .call .blind 32 [(.t 99)], some (97, false)⟩,
 ⟨some 101, .un .not (.t 100), some (97, false)⟩,
 ⟨some 102, .pick (.t 97) (.k (.bool true)) (.t 101), none⟩,
 ⟨some 103, .mv (.t 102), none⟩,
 ⟨some 104, .mv (.t 3), some (103, false)⟩,
 ⟨some 105, .call .blind 32 [(.t 104)], some (103, false)⟩,
 ⟨some 106, .un .not (.t 105), some (103, false)⟩,
 ⟨some 107, .pick (.t 103) (.k (.bool true)) (.t 106), none⟩,
 ⟨some 108, .mv (.t 107), none⟩,
 ⟨some 109, .mv (.t 4), some (108, false)⟩,
 ⟨some 110, .call .blind 32 [(.t 109)], some (108, false)⟩,
 ⟨some 111, .un .not (.t 110), some (108, false)⟩,
 ⟨some 112, .pick (.t 108) (.k (.bool true)) (.t 111), none⟩]) <|
 .cond (.t 112)
 (.seq (.reg [
 ⟨some 2, .mv (.k (.bool false)), none⟩]) <|
 .ret)
 (.skip)) <|
 .seq (.seq (.reg [
 ⟨some 7, .mv (.k (.int .i64 0)), none⟩]) <|
 .block 4 <|
 l12_2) <|
 .seq (.reg [
 ⟨some 2, .mv (.k (.bool true)), none⟩]) <|
 .ret⟩

def f13 : DFn := ⟨1, [.t 2, .t 3],
 .seq (.reg [
 ⟨some 1, .boxL (.t 0), none⟩,
 ⟨some 2, .mv (.k (.nilp)), none⟩,
 ⟨some 3, .mv (.k (.int .i64 0)), none⟩]) <|
 .seq (.seq (.reg [
 ⟨some 4, .ld 4 true (.t 1), none⟩,
 ⟨some 5, .call .blind 34 [(.t 4)], none⟩,
 ⟨some 6, .un .not (.t 5), none⟩]) <|
 .cond (.t 6)
 (.seq (.reg [
 ⟨some 2, .mv (.k (.nilp)), none⟩,
 ⟨some 3, .mv (.k (.int .i64 9)), none⟩]) <|
 .ret)
 (.skip)) <|
 .seq (.drw [
 ⟨some 7, .ld 4 true (.t 1), none⟩,
 ⟨some 8, .call .blind 35 [(.t 7)], none⟩,
 ⟨some 9, .fld 3 (.t 1), none⟩,
 ⟨some 10, .ld 1 false (.t 9), none⟩,
 ⟨some 11, .len (.t 10), none⟩,
 ⟨some 12, .mks true 4 32 [.int .i64 0, .int .i64 0, .int .i64 0, .bool false] (.t 11), none⟩,
 ⟨some 13, .build [.nils, .nils, .nils, .nils, .nils] [(0, 4, (.t 8)), (4, 1, (.t 12))], none⟩,
 ⟨some 14, .boxH (.t 13), none⟩,
 ⟨some 2, .mv (.t 14), none⟩,
 ⟨some 3, .mv (.k (.int .i64 0)), none⟩] [[], [0], [], [], [], [3], [], [0, 1, 3, 5], [], []]) <|
 .ret⟩

def f14 : DFn := ⟨3, [.t 6],
 .seq (.reg [
 ⟨some 4, .boxL (.t 1), none⟩,
 ⟨some 5, .boxL (.t 2), none⟩,
 ⟨some 6, .mv (.k (.int .i64 0)), none⟩]) <|
 .seq (.block 0 <|
 .seq (.drw [
 ⟨some 8, .mv (.t 0), none⟩,
 ⟨some 9, .bin .eql .np (.t 8) (.k (.nilp)), none⟩,
 ⟨some 10, .mv (.t 9), none⟩,
 ⟨some 11, .mv (.t 0), some (10, false)⟩,
 ⟨some 12, .nilck (.t 11), some (10, false)⟩,
 ⟨some 13, .fld 0 (.t 12), some (10, false)⟩,
 ⟨some 14, .ld 4 true (.t 13), some (10, false)⟩,
 ⟨some 15, .ld 2 true (.t 4), some (10, false)⟩,
 ⟨some 16, .call .blind 36 [(.t 14), (.t 15)], some (10, false)⟩,
 ⟨some 17, .un .not (.t 16), some (10, false)⟩,
 ⟨some 18, .pick (.t 10) (.k (.bool true)) (.t 17), none⟩,
 ⟨some 19, .mv (.t 18), none⟩,
 ⟨some 20, .fld 0 (.t 5), some (19, false)⟩,
 ⟨some 21, .ld 1 false (.t 20), some (19, false)⟩,
 ⟨some 22, .bin .neq .sc (.t 21) (.k (.int .i64 1)), some (19, false)⟩,
 ⟨some 23, .mv (.t 22), some (19, false)⟩,
 ⟨some 24, .fld 0 (.t 5), some (23, true)⟩,
 ⟨some 25, .ld 1 false (.t 24), some (23, true)⟩,
 ⟨some 26, .bin .neq .sc (.t 25) (.k (.int .i64 2)), some (23, true)⟩,
 ⟨some 27, .pick (.t 23) (.t 26) (.k (.bool false)), some (19, false)⟩,
 ⟨some 28, .pick (.t 19) (.k (.bool true)) (.t 27), none⟩,
 ⟨some 7, .mv (.t 28), none⟩] [[], [], [], [], [], [], [], [], [6, 7], [], [], [], [], [6, 7, 8], [], [], [], [6, 7, 8, 13], [], [], [], []]) <|
 .cond (.t 7)
 (.seq (.reg [
 ⟨some 6, .mv (.k (.int .i64 1)), none⟩]) <|
 .ret)
 (.seq (.drw [
 ⟨some 30, .fld 1 (.t 5), none⟩,
 ⟨some 31, .ld 1 false (.t 30), none⟩,
 ⟨some 32, .bin .lss .sc (.t 31) (.k (.int .i64 0)), none⟩,
 ⟨some 33, .mv (.t 32), none⟩,
 ⟨some 34, .fld 1 (.t 5), some (33, false)⟩,
 ⟨some 35, .ld 1 false (.t 34), some (33, false)⟩,
 ⟨some 36, .mv (.t 0), some (33, false)⟩,
 ⟨some 37, .nilck (.t 36), some (33, false)⟩,
 ⟨some 38, .fld 4 (.t 37), some (33, false)⟩,
 ⟨some 39, .ld 1 false (.t 38), some (33, false)⟩,
 ⟨some 40, .len (.t 39), some (33, false)⟩,
 ⟨some 41, .bin .geq .sc (.t 35) (.t 40), some (33, false)⟩,
 ⟨some 42, .pick (.t 33) (.k (.bool true)) (.t 41), none⟩,
 ⟨some 29, .mv (.t 42), none⟩] [[], [], [], [], [], [1], [], [], [], [1], [], [], [], []]) <|
 .cond (.t 29)
 (.seq (.reg [
 ⟨some 6, .mv (.k (.int .i64 5)), none⟩]) <|
 .ret)
 (.seq (.reg [
 ⟨some 44, .fld 0 (.t 5), none⟩,
 ⟨some 45, .ld 1 false (.t 44), none⟩,
 ⟨some 46, .bin .eql .sc (.t 45) (.k (.int .i64 1)), none⟩,
 ⟨some 43, .mv (.t 46), none⟩]) <|
 .cond (.t 43)
 (.seq (.reg [
 ⟨some 47, .mv (.t 0), none⟩,
 ⟨some 48, .ld 2 true (.t 4), none⟩,
 ⟨some 49, .fld 1 (.t 5), none⟩,
 ⟨some 50, .ld 1 false (.t 49), none⟩,
 ⟨some 51, .call .eff 37 [(.t 47), (.t 48), (.t 50)], none⟩,
 ⟨some 6, .mv (.t 51), none⟩]) <|
 .ret)
 (.skip)))) <|
 .seq (.reg [
 ⟨some 52, .mv (.t 0), none⟩,
 ⟨some 53, .fld 1 (.t 5), none⟩,
 ⟨some 54, .ld 1 false (.t 53), none⟩,
 ⟨some 55, .call .eff 38 [(.t 52), (.t 54)], none⟩,
 ⟨some 6, .mv (.t 55), none⟩]) <|
 .ret⟩

def l15_1b : DC :=
 .seq (.reg [
 ⟨some 53, .bin .lss .sc (.t 52) (.t 51), none⟩]) <|
 .seq (.cond (.t 53)
 (.skip)
 (.exit 2)) <|
 .seq (.block 3 <|
 .seq (.reg [
 ⟨some 54, .mv (.t 52), none⟩,
 ⟨some 55, .idx 4 (.t 50) (.t 52), none⟩,
 ⟨some 56, .ld 4 true (.t 55), none⟩,
 ⟨some 8, .alL [.int .i64 0, .int .i64 0, .int .i64 0, .bool false], none⟩,
 ⟨some 7, .mv (.t 54), none⟩,
 ⟨none, .st 4 (.t 8) (.t 56), none⟩]) <|
 .seq (.reg [
 ⟨some 57, .mv (.t 0), none⟩,
 ⟨some 58, .nilck (.t 57), none⟩,
 ⟨some 59, .fld 0 (.t 58), none⟩,
 ⟨some 60, .fld 3 (.t 59), none⟩,
 ⟨some 61, .ld 1 false (.t 60), none⟩,
 ⟨some 62, .mv (.t 7), none⟩,
 ⟨some 63, .idx 6 (.t 61) (.t 62), none⟩,
 ⟨some 64, .ld 6 true (.t 63), none⟩,
 ⟨some 9, .alL [.str [], .int .i64 0, .int .i64 0, .nils, .nils, .nils], none⟩,
 ⟨none, .st 6 (.t 9) (.t 64), none⟩]) <|
 .seq (.reg [
 ⟨some 65, .fld 0 (.t 8), none⟩,
 ⟨some 66, .ld 1 false (.t 65), none⟩,
 ⟨some 67, .bin .eql .sc (.t 66) (.k (.int .i64 2)), none⟩,
 ⟨some 68, .mv (.t 67), none⟩,
 ⟨some 69, .ld 2 true (.t 3), some (68, true)⟩,
 ⟨some 70, .fld 3 (.t 9), some (68, true)⟩,
 ⟨some 71, .ld 1 false (.t 70), some (68, true)⟩,
 ⟨some 72, .call .blind 41 [(.t 69), (.t 71)], some (68, true)⟩,
 ⟨some 73, .un .not (.t 72), some (68, true)⟩,
 ⟨some 74, .pick (.t 68) (.t 73) (.k (.bool false)), none⟩,
 ⟨some 75, .mv (.t 74), none⟩,
 ⟨some 76, .mv (.t 0), some (75, true)⟩,
 ⟨some 77, .ld 2 true (.t 3), some (75, true)⟩,
 ⟨some 78, .mv (.t 7), some (75, true)⟩,
 ⟨some 79, .call .ro 42 [(.t 76), (.t 77), (.t 78)], some (75, true)⟩,
 ⟨some 80, .pick (.t 75) (.t 79) (.k (.bool false)), none⟩]) <|
 .cond (.t 80)
 (.reg [
 ⟨some 81, .fld 1 (.t 5), none⟩,
 ⟨some 82, .ld 1 false (.t 81), none⟩,
 ⟨some 83, .fld 1 (.t 9), none⟩,
 ⟨some 84, .ld 1 false (.t 83), none⟩,
 ⟨some 85, .idx 1 (.t 82) (.t 84), none⟩,
 ⟨none, .st 1 (.t 85) (.k (.bool true)), none⟩])
 (.skip)) <|
 .reg [
 ⟨some 86, .bin .add .sc (.t 52) (.k (.int .i64 1)), none⟩,
 ⟨some 52, .mv (.t 86), none⟩]
def l15_1 : DC := .loop [0, 3, 4, 5, 50, 51, 52] [3, 4, 5] l15_1b
def l15_0b : DC :=
 .seq (.reg [
 ⟨some 30, .bin .lss .sc (.t 29) (.t 28), none⟩]) <|
 .seq (.cond (.t 30)
 (.skip)
 (.exit 0)) <|
 .seq (.block 1 <|
 .seq (.reg [
 ⟨some 31, .mv (.t 29), none⟩,
 ⟨some 6, .mv (.t 31), none⟩]) <|
 .drw [
 ⟨some 32, .mv (.t 0), none⟩,
 ⟨some 33, .nilck (.t 32), none⟩,
 ⟨some 34, .fld 4 (.t 33), none⟩,
 ⟨some 35, .ld 1 false (.t 34), none⟩,
 ⟨some 36, .mv (.t 6), none⟩,
 ⟨some 37, .mv (.t 0), none⟩,
 ⟨some 38, .ld 2 true (.t 3), none⟩,
 ⟨some 39, .mv (.t 6), none⟩,
 ⟨some 40, .call .ro 39 [(.t 37), (.t 38), (.t 39)], none⟩,
 ⟨some 41, .idx 4 (.t 35) (.t 36), none⟩,
 ⟨none, .st 4 (.t 41) (.t 40), none⟩] [[], [], [], [], [], [], [], [], [6], [3, 6, 8], [3, 6, 8, 9]]) <|
 .reg [
 ⟨some 42, .bin .add .sc (.t 29) (.k (.int .i64 1)), none⟩,
 ⟨some 29, .mv (.t 42), none⟩]
def l15_0 : DC := .loop [0, 3, 4, 5, 28, 29] [3, 4, 5] l15_0b
def f15 : DFn := ⟨2, [.cell 4 2 true],
 .seq (.reg [
 ⟨some 3, .boxL (.t 1), none⟩,
 ⟨some 4, .alL [.nils, .nils], none⟩]) <|
 .seq (.reg [
 ⟨some 10, .mv (.t 0), none⟩,
 ⟨some 11, .call .eff 19 [(.t 10)], none⟩,
 ⟨some 5, .alL [.nils, .nils], none⟩,
 ⟨none, .st 2 (.t 5) (.t 11), none⟩]) <|
 .seq (.seq (.drw [
 ⟨some 12, .mv (.t 0), none⟩,
 ⟨some 13, .bin .eql .np (.t 12) (.k (.nilp)), none⟩,
 ⟨some 14, .mv (.t 13), none⟩,
 ⟨some 15, .mv (.t 0), some (14, false)⟩,
 ⟨some 16, .nilck (.t 15), some (14, false)⟩,
 ⟨some 17, .fld 0 (.t 16), some (14, false)⟩,
 ⟨some 18, .ld 4 true (.t 17), some (14, false)⟩,
 ⟨some 19, .ld 2 true (.t 3), some (14, false)⟩,
 ⟨some 20, .call .blind 36 [(.t 18), (.t 19)], some (14, false)⟩,
 ⟨some 21, .un .not (.t 20), some (14, false)⟩,
 ⟨some 22, .pick (.t 14) (.k (.bool true)) (.t 21), none⟩] [[], [], [], [], [], [], [], [], [6, 7], [], []]) <|
 .cond (.t 22)
 (.seq (.reg [
 ⟨some 23, .ld 2 true (.t 5), none⟩,
 ⟨none, .st 2 (.t 4) (.t 23), none⟩]) <|
 .ret)
 (.skip)) <|
 .seq (.seq (.reg [
 ⟨some 24, .mv (.t 0), none⟩,
 ⟨some 25, .nilck (.t 24), none⟩,
 ⟨some 26, .fld 4 (.t 25), none⟩,
 ⟨some 27, .ld 1 false (.t 26), none⟩,
 ⟨some 28, .len (.t 27), none⟩,
 ⟨some 29, .mv (.k (.int .i64 0)), none⟩]) <|
 .block 0 <|
 l15_0) <|
 .seq (.reg [
 ⟨some 43, .mv (.t 0), none⟩,
 ⟨some 44, .ld 2 true (.t 3), none⟩,
 ⟨some 45, .ld 2 true (.t 5), none⟩,
 ⟨some 46, .call .eff 40 [(.t 43), (.t 44), (.t 45)], none⟩]) <|
 .seq (.seq (.reg [
 ⟨some 47, .mv (.t 0), none⟩,
 ⟨some 48, .nilck (.t 47), none⟩,
 ⟨some 49, .fld 4 (.t 48), none⟩,
 ⟨some 50, .ld 1 false (.t 49), none⟩,
 ⟨some 51, .len (.t 50), none⟩,
 ⟨some 52, .mv (.k (.int .i64 0)), none⟩]) <|
 .block 2 <|
 l15_1) <|
 .seq (.reg [
 ⟨some 87, .ld 2 true (.t 5), none⟩,
 ⟨none, .st 2 (.t 4) (.t 87), none⟩]) <|
 .ret⟩

def f16 : DFn := ⟨1, [.t 2],
 .seq (.reg [
 ⟨some 2, .mv (.k (.nils)), none⟩]) <|
 .seq (.seq (.reg [
 ⟨some 3, .mv (.t 0), none⟩,
 ⟨some 4, .bin .eql .np (.t 3) (.k (.nilp)), none⟩]) <|
 .cond (.t 4)
 (.seq (.reg [
 ⟨some 2, .mv (.k (.nils)), none⟩]) <|
 .ret)
 (.skip)) <|
 .seq (.reg [
 ⟨some 5, .mv (.t 0), none⟩,
 ⟨some 6, .nilck (.t 5), none⟩,
 ⟨some 7, .fld 4 (.t 6), none⟩,
 ⟨some 8, .ld 1 false (.t 7), none⟩,
 ⟨some 9, .call .eff 43 [(.t 8)], none⟩,
 ⟨some 2, .mv (.t 9), none⟩]) <|
 .ret⟩

def l17_0b : DC :=
 .seq (.seq (.reg [
 ⟨some 6, .mv (.t 5), none⟩,
 ⟨some 7, .fld 1 (.t 3), none⟩,
 ⟨some 8, .ld 1 false (.t 7), none⟩,
 ⟨some 9, .len (.t 8), none⟩,
 ⟨some 10, .bin .lss .sc (.t 6) (.t 9), none⟩]) <|
 .cond (.t 10)
 (.skip)
 (.exit 0)) <|
 .seq (.block 1 <|
 .seq (.reg [
 ⟨some 13, .fld 1 (.t 3), none⟩,
 ⟨some 14, .ld 1 false (.t 13), none⟩,
 ⟨some 15, .mv (.t 5), none⟩,
 ⟨some 16, .idx 1 (.t 14) (.t 15), none⟩,
 ⟨some 17, .ld 1 false (.t 16), none⟩,
 ⟨some 18, .bin .lss .sc (.t 17) (.k (.int .i64 0)), none⟩,
 ⟨some 19, .mv (.t 18), none⟩,
 ⟨some 20, .fld 1 (.t 3), some (19, false)⟩,
 ⟨some 21, .ld 1 false (.t 20), some (19, false)⟩,
 ⟨some 22, .mv (.t 5), some (19, false)⟩,
 ⟨some 23, .idx 1 (.t 21) (.t 22), some (19, false)⟩,
 ⟨some 24, .ld 1 false (.t 23), some (19, false)⟩,
 ⟨some 25, .bin .gtr .sc (.t 24) (.k (.int .i64 2)), some (19, false)⟩,
 ⟨some 26, .pick (.t 19) (.k (.bool true)) (.t 25), none⟩]) <|
 .cond (.t 26)
 (.seq (.reg [
 ⟨some 4, .mv (.k (.bool false)), none⟩]) <|
 .ret)
 (.skip)) <|
 .reg [
 ⟨some 11, .mv (.t 5), none⟩,
 ⟨some 12, .bin .add .sc (.t 11) (.k (.int .i64 1)), none⟩,
 ⟨some 5, .mv (.t 12), none⟩]
def l17_0 : DC := .loop [2, 3, 5] [2, 3] l17_0b
def f17 : DFn := ⟨2, [.t 4],
 .seq (.reg [
 ⟨some 2, .boxL (.t 0), none⟩,
 ⟨some 3, .boxL (.t 1), none⟩,
 ⟨some 4, .mv (.k (.bool false)), none⟩]) <|
 .seq (.seq (.reg [
 ⟨some 5, .mv (.k (.int .i64 0)), none⟩]) <|
 .block 0 <|
 l17_0) <|
 .seq (.reg [
 ⟨some 27, .fld 0 (.t 3), none⟩,
 ⟨some 28, .ld 1 false (.t 27), none⟩,
 ⟨some 29, .len (.t 28), none⟩,
 ⟨some 30, .fld 0 (.t 2), none⟩,
 ⟨some 31, .ld 1 false (.t 30), none⟩,
 ⟨some 32, .len (.t 31), none⟩,
 ⟨some 33, .bin .eql .sc (.t 29) (.t 32), none⟩,
 ⟨some 34, .mv (.t 33), none⟩,
 ⟨some 35, .fld 1 (.t 3), some (34, true)⟩,
 ⟨some 36, .ld 1 false (.t 35), some (34, true)⟩,
 ⟨some 37, .len (.t 36), some (34, true)⟩,
 ⟨some 38, .fld 1 (.t 2), some (34, true)⟩,
 ⟨some 39, .ld 1 false (.t 38), some (34, true)⟩,
 ⟨some 40, .len (.t 39), some (34, true)⟩,
 ⟨some 41, .bin .eql .sc (.t 37) (.t 40), some (34, true)⟩,
 ⟨some 42, .pick (.t 34) (.t 41) (.k (.bool false)), none⟩,
 ⟨some 4, .mv (.t 42), none⟩]) <|
 .ret⟩

def l18_1b : DC :=
 .seq (.seq (.reg [
 ⟨some 41, .mv (.t 6), none⟩,
 ⟨some 42, .fld 1 (.t 2), none⟩,
 ⟨some 43, .ld 1 false (.t 42), none⟩,
 ⟨some 44, .len (.t 43), none⟩,
 ⟨some 45, .bin .lss .sc (.t 41) (.t 44), none⟩]) <|
 .cond (.t 45)
 (.skip)
 (.exit 2)) <|
 .seq (.block 3 <|
 .seq (.drw [
 ⟨some 48, .fld 1 (.t 2), none⟩,
 ⟨some 49, .ld 1 false (.t 48), none⟩,
 ⟨some 50, .mv (.t 6), none⟩,
 ⟨some 51, .idx 1 (.t 49) (.t 50), none⟩,
 ⟨some 52, .ld 1 false (.t 51), none⟩,
 ⟨some 53, .fld 1 (.t 3), none⟩,
 ⟨some 54, .ld 1 false (.t 53), none⟩,
 ⟨some 55, .mv (.t 6), none⟩,
 ⟨some 56, .idx 1 (.t 54) (.t 55), none⟩,
 ⟨some 57, .ld 1 false (.t 56), none⟩,
 ⟨some 58, .bin .neq .bl (.t 52) (.t 57), none⟩] [[], [], [], [1], [1, 3], [], [], [], [6], [6, 8], []]) <|
 .cond (.t 58)
 (.seq (.reg [
 ⟨some 4, .mv (.k (.bool false)), none⟩]) <|
 .ret)
 (.skip)) <|
 .reg [
 ⟨some 46, .mv (.t 6), none⟩,
 ⟨some 47, .bin .add .sc (.t 46) (.k (.int .i64 1)), none⟩,
 ⟨some 6, .mv (.t 47), none⟩]
def l18_1 : DC := .loop [2, 3, 6] [2, 3] l18_1b
def l18_0b : DC :=
 .seq (.seq (.reg [
 ⟨some 23, .mv (.t 5), none⟩,
 ⟨some 24, .fld 0 (.t 2), none⟩,
 ⟨some 25, .ld 1 false (.t 24), none⟩,
 ⟨some 26, .len (.t 25), none⟩,
 ⟨some 27, .bin .lss .sc (.t 23) (.t 26), none⟩]) <|
 .cond (.t 27)
 (.skip)
 (.exit 0)) <|
 .seq (.block 1 <|
 .seq (.drw [
 ⟨some 30, .fld 0 (.t 2), none⟩,
 ⟨some 31, .ld 1 false (.t 30), none⟩,
 ⟨some 32, .mv (.t 5), none⟩,
 ⟨some 33, .idx 1 (.t 31) (.t 32), none⟩,
 ⟨some 34, .ld 1 false (.t 33), none⟩,
 ⟨some 35, .fld 0 (.t 3), none⟩,
 ⟨some 36, .ld 1 false (.t 35), none⟩,
 ⟨some 37, .mv (.t 5), none⟩,
 ⟨some 38, .idx 1 (.t 36) (.t 37), none⟩,
 ⟨some 39, .ld 1 false (.t 38), none⟩,
 ⟨some 40, .bin .neq .sc (.t 34) (.t 39), none⟩] [[], [], [], [1], [1, 3], [], [], [], [6], [6, 8], []]) <|
 .cond (.t 40)
 (.seq (.reg [
 ⟨some 4, .mv (.k (.bool false)), none⟩]) <|
 .ret)
 (.skip)) <|
 .reg [
 ⟨some 28, .mv (.t 5), none⟩,
 ⟨some 29, .bin .add .sc (.t 28) (.k (.int .i64 1)), none⟩,
 ⟨some 5, .mv (.t 29), none⟩]
def l18_0 : DC := .loop [2, 3, 5] [2, 3] l18_0b
def f18 : DFn := ⟨2, [.t 4],
 .seq (.reg [
 ⟨some 2, .boxL (.t 0), none⟩,
 ⟨some 3, .boxL (.t 1), none⟩,
 ⟨some 4, .mv (.k (.bool false)), none⟩]) <|
 .seq (.seq (.reg [
 ⟨some 7, .fld 0 (.t 2), none⟩,
 ⟨some 8, .ld 1 false (.t 7), none⟩,
 ⟨some 9, .len (.t 8), none⟩,
 ⟨some 10, .fld 0 (.t 3), none⟩,
 ⟨some 11, .ld 1 false (.t 10), none⟩,
 ⟨some 12, .len (.t 11), none⟩,
 ⟨some 13, .bin .neq .sc (.t 9) (.t 12), none⟩,
 ⟨some 14, .mv (.t 13), none⟩,
 ⟨some 15, .fld 1 (.t 2), some (14, false)⟩,
 ⟨some 16, .ld 1 false (.t 15), some (14, false)⟩,
 ⟨some 17, .len (.t 16), some (14, false)⟩,
 ⟨some 18, .fld 1 (.t 3), some (14, false)⟩,
 ⟨some 19, .ld 1 false (.t 18), some (14, false)⟩,
 ⟨some 20, .len (.t 19), some (14, false)⟩,
 ⟨some 21, .bin .neq .sc (.t 17) (.t 20), some (14, false)⟩,
 ⟨some 22, .pick (.t 14) (.k (.bool true)) (.t 21), none⟩]) <|
 .cond (.t 22)
 (.seq (.reg [
 ⟨some 4, .mv (.k (.bool false)), none⟩]) <|
 .ret)
 (.skip)) <|
 .seq (.seq (.reg [
 ⟨some 5, .mv (.k (.int .i64 0)), none⟩]) <|
 .block 0 <|
 l18_0) <|
 .seq (.seq (.reg [
 ⟨some 6, .mv (.k (.int .i64 0)), none⟩]) <|
 .block 2 <|
 l18_1) <|
 .seq (.reg [
 ⟨some 4, .mv (.k (.bool true)), none⟩]) <|
 .ret⟩

def f19 : DFn := ⟨1, [.cell 2 2 true],
 .seq (.reg [
 ⟨some 2, .alL [.nils, .nils], none⟩]) <|
 .seq (.seq (.reg [
 ⟨some 3, .mv (.t 0), none⟩,
 ⟨some 4, .bin .eql .np (.t 3) (.k (.nilp)), none⟩]) <|
 .cond (.t 4)
 (.seq (.reg [
 ⟨some 5, .build [.nils, .nils] [], none⟩,
 ⟨none, .st 2 (.t 2) (.t 5), none⟩]) <|
 .ret)
 (.skip)) <|
 .seq (.drw [
 ⟨some 6, .mv (.t 0), none⟩,
 ⟨some 7, .nilck (.t 6), none⟩,
 ⟨some 8, .fld 0 (.t 7), none⟩,
 ⟨some 9, .fld 1 (.t 8), none⟩,
 ⟨some 10, .ld 1 false (.t 9), none⟩,
 ⟨some 11, .len (.t 10), none⟩,
 ⟨some 12, .mks true 1 8 [.int .i64 0] (.t 11), none⟩,
 ⟨some 13, .mv (.t 0), none⟩,
 ⟨some 14, .nilck (.t 13), none⟩,
 ⟨some 15, .fld 0 (.t 14), none⟩,
 ⟨some 16, .fld 2 (.t 15), none⟩,
 ⟨some 17, .ld 1 false (.t 16), none⟩,
 ⟨some 18, .len (.t 17), none⟩,
 ⟨some 19, .mks true 1 1 [.bool false] (.t 18), none⟩,
 ⟨some 20, .build [.nils, .nils] [(0, 1, (.t 12)), (1, 1, (.t 19))], none⟩,
 ⟨none, .st 2 (.t 2) (.t 20), none⟩] [[], [], [], [], [], [], [4], [], [], [], [], [], [], [11], [], [4, 6, 11, 13]]) <|
 .ret⟩

def l20_1b : DC :=
 .seq (.seq (.reg [
 ⟨some 31, .mv (.t 6), none⟩,
 ⟨some 32, .mv (.t 5), none⟩,
 ⟨some 33, .bin .lss .sc (.t 31) (.t 32), none⟩]) <|
 .cond (.t 33)
 (.skip)
 (.exit 2)) <|
 .seq (.block 3 <|
 .seq (.reg [
 ⟨some 36, .mv (.t 1), none⟩,
 ⟨some 37, .mv (.t 5), none⟩,
 ⟨some 38, .idx 4 (.t 36) (.t 37), none⟩,
 ⟨some 39, .fld 0 (.t 38), none⟩,
 ⟨some 40, .ld 1 false (.t 39), none⟩,
 ⟨some 41, .bin .neq .sc (.t 40) (.k (.int .i64 0)), none⟩,
 ⟨some 42, .mv (.t 41), none⟩,
 ⟨some 43, .mv (.t 1), some (42, true)⟩,
 ⟨some 44, .mv (.t 6), some (42, true)⟩,
 ⟨some 45, .idx 4 (.t 43) (.t 44), some (42, true)⟩,
 ⟨some 46, .fld 0 (.t 45), some (42, true)⟩,
 ⟨some 47, .ld 1 false (.t 46), some (42, true)⟩,
 ⟨some 48, .bin .neq .sc (.t 47) (.k (.int .i64 0)), some (42, true)⟩,
 ⟨some 49, .pick (.t 42) (.t 48) (.k (.bool false)), none⟩,
 ⟨some 50, .mv (.t 49), none⟩,
 ⟨some 51, .ld 4 true (.t 2), some (50, true)⟩,
 ⟨some 52, .mv (.t 5), some (50, true)⟩,
 ⟨some 53, .mv (.t 6), some (50, true)⟩,
 ⟨some 54, .call .blind 30 [(.t 51), (.t 52), (.t 53)], some (50, true)⟩,
 ⟨some 55, .pick (.t 50) (.t 54) (.k (.bool false)), none⟩]) <|
 .cond (.t 55)
 (.seq (.reg [
 ⟨some 4, .mv (.k (.bool false)), none⟩]) <|
 .ret)
 (.skip)) <|
 .reg [
 ⟨some 34, .mv (.t 6), none⟩,
 ⟨some 35, .bin .add .sc (.t 34) (.k (.int .i64 1)), none⟩,
 ⟨some 6, .mv (.t 35), none⟩]
def l20_1 : DC := .loop [1, 2, 5, 6] [2] l20_1b
def l20_0b : DC :=
 .seq (.seq (.reg [
 ⟨some 13, .mv (.t 5), none⟩,
 ⟨some 14, .mv (.t 1), none⟩,
 ⟨some 15, .len (.t 14), none⟩,
 ⟨some 16, .bin .lss .sc (.t 13) (.t 15), none⟩]) <|
 .cond (.t 16)
 (.skip)
 (.exit 0)) <|
 .seq (.block 1 <|
 .seq (.seq (.drw [
 ⟨some 19, .mv (.t 1), none⟩,
 ⟨some 20, .mv (.t 5), none⟩,
 ⟨some 21, .idx 4 (.t 19) (.t 20), none⟩,
 ⟨some 22, .ld 4 true (.t 21), none⟩,
 ⟨some 23, .fld 3 (.t 2), none⟩,
 ⟨some 24, .ld 1 false (.t 23), none⟩,
 ⟨some 25, .mv (.t 5), none⟩,
 ⟨some 26, .idx 6 (.t 24) (.t 25), none⟩,
 ⟨some 27, .fld 3 (.t 26), none⟩,
 ⟨some 28, .ld 1 false (.t 27), none⟩,
 ⟨some 29, .call .blind 44 [(.t 22), (.t 28)], none⟩,
 ⟨some 30, .un .not (.t 29), none⟩] [[], [], [], [2], [], [], [], [5], [], [5, 7], [2, 3, 5, 7, 9], []]) <|
 .cond (.t 30)
 (.seq (.reg [
 ⟨some 4, .mv (.k (.bool false)), none⟩]) <|
 .ret)
 (.skip)) <|
 .seq (.reg [
 ⟨some 6, .mv (.k (.int .i64 0)), none⟩]) <|
 .block 2 <|
 l20_1) <|
 .reg [
 ⟨some 17, .mv (.t 5), none⟩,
 ⟨some 18, .bin .add .sc (.t 17) (.k (.int .i64 1)), none⟩,
 ⟨some 5, .mv (.t 18), none⟩]
def l20_0 : DC := .loop [1, 2, 5] [2] l20_0b
def f20 : DFn := ⟨2, [.t 4],
 .seq (.reg [
 ⟨some 2, .boxL (.t 0), none⟩,
 ⟨some 4, .mv (.k (.bool false)), none⟩]) <|
 .seq (.seq (.reg [
 ⟨some 7, .mv (.t 1), none⟩,
 ⟨some 8, .len (.t 7), none⟩,
 ⟨some 9, .fld 3 (.t 2), none⟩,
 ⟨some 10, .ld 1 false (.t 9), none⟩,
 ⟨some 11, .len (.t 10), none⟩,
 ⟨some 12, .bin .neq .sc (.t 8) (.t 11), none⟩]) <|
 .cond (.t 12)
 (.seq (.reg [
 ⟨some 4, .mv (.k (.bool false)), none⟩]) <|
 .ret)
 (.skip)) <|
 .seq (.seq (.reg [
 ⟨some 5, .mv (.k (.int .i64 0)), none⟩]) <|
 .block 0 <|
 l20_0) <|
 .seq (.reg [
 ⟨some 4, .mv (.k (.bool true)), none⟩]) <|
 .ret⟩

def l21_3b : DC :=
 .seq (.seq (.reg [
 ⟨some 102, .mv (.t 13), none⟩,
 ⟨some 103, .mv (.t 3), none⟩,
 ⟨some 104, .len (.t 103), none⟩,
 ⟨some 105, .bin .lss .sc (.t 102) (.t 104), none⟩]) <|
 .cond (.t 105)
 (.skip)
 (.exit 6)) <|
 .seq (.block 7 <|
 .seq (.drw [
 ⟨some 108, .ld 4 true (.t 4), none⟩,
 ⟨some 109, .mv (.t 13), none⟩,
 ⟨some 110, .mv (.t 3), none⟩,
 ⟨some 111, .mv (.t 13), none⟩,
 ⟨some 112, .idx 4 (.t 110) (.t 111), none⟩,
 ⟨some 113, .ld 4 true (.t 112), none⟩,
 ⟨some 114, .fld 1 (.t 4), none⟩,
 ⟨some 115, .ld 1 false (.t 114), none⟩,
 ⟨some 116, .mv (.t 12), none⟩,
 ⟨some 117, .idx 2 (.t 115) (.t 116), none⟩,
 ⟨some 118, .fld 1 (.t 117), none⟩,
 ⟨some 119, .ld 1 false (.t 118), none⟩,
 ⟨some 120, .call .blind 47 [(.t 108), (.t 109), (.t 113), (.t 119)], none⟩,
 ⟨some 121, .mv (.t 120), none⟩,
 ⟨some 122, .mv (.t 3), some (121, true)⟩,
 ⟨some 123, .mv (.t 13), some (121, true)⟩,
 ⟨some 124, .idx 4 (.t 122) (.t 123), some (121, true)⟩,
 ⟨some 125, .fld 0 (.t 124), some (121, true)⟩,
 ⟨some 126, .ld 1 false (.t 125), some (121, true)⟩,
 ⟨some 127, .bin .neq .sc (.t 126) (.k (.int .i64 1)), some (121, true)⟩,
 ⟨some 128, .pick (.t 121) (.t 127) (.k (.bool false)), none⟩] [[], [], [], [], [], [4], [], [], [], [7], [], [7, 9], [0, 4, 5, 7, 9, 11], [], [], [], [0, 4, 5, 7, 9, 11, 12], [], [0, 4, 5, 7, 9, 11, 12, 16], [], []]) <|
 .cond (.t 128)
 (.seq (.reg [
 ⟨some 8, .mv (.k (.bool false)), none⟩]) <|
 .ret)
 (.skip)) <|
 .reg [
 ⟨some 106, .mv (.t 13), none⟩,
 ⟨some 107, .bin .add .sc (.t 106) (.k (.int .i64 1)), none⟩,
 ⟨some 13, .mv (.t 107), none⟩]
def l21_3 : DC := .loop [3, 4, 5, 6, 12, 13] [4, 5, 6] l21_3b
def l21_2b : DC :=
 .seq (.seq (.reg [
 ⟨some 66, .mv (.t 12), none⟩,
 ⟨some 67, .fld 1 (.t 4), none⟩,
 ⟨some 68, .ld 1 false (.t 67), none⟩,
 ⟨some 69, .len (.t 68), none⟩,
 ⟨some 70, .bin .lss .sc (.t 66) (.t 69), none⟩]) <|
 .cond (.t 70)
 (.skip)
 (.exit 4)) <|
 .seq (.block 5 <|
 .seq (.seq (.reg [
 ⟨some 73, .fld 0 (.t 6), none⟩,
 ⟨some 74, .ld 1 false (.t 73), none⟩,
 ⟨some 75, .mv (.t 12), none⟩,
 ⟨some 76, .idx 1 (.t 74) (.t 75), none⟩,
 ⟨some 77, .ld 1 false (.t 76), none⟩,
 ⟨some 78, .bin .eql .sc (.t 77) (.k (.int .i64 0)), none⟩]) <|
 .cond (.t 78)
 (.exit 5)
 (.skip)) <|
 .seq (.seq (.drw [
 ⟨some 79, .fld 0 (.t 5), none⟩,
 ⟨some 80, .ld 1 false (.t 79), none⟩,
 ⟨some 81, .fld 1 (.t 4), none⟩,
 ⟨some 82, .ld 1 false (.t 81), none⟩,
 ⟨some 83, .mv (.t 12), none⟩,
 ⟨some 84, .idx 2 (.t 82) (.t 83), none⟩,
 ⟨some 85, .fld 1 (.t 84), none⟩,
 ⟨some 86, .ld 1 false (.t 85), none⟩,
 ⟨some 87, .idx 1 (.t 80) (.t 86), none⟩,
 ⟨some 88, .ld 1 false (.t 87), none⟩,
 ⟨some 89, .mv (.t 88), none⟩,
 ⟨some 90, .fld 0 (.t 6), some (89, false)⟩,
 ⟨some 91, .ld 1 false (.t 90), some (89, false)⟩,
 ⟨some 92, .mv (.t 12), some (89, false)⟩,
 ⟨some 93, .idx 1 (.t 91) (.t 92), some (89, false)⟩,
 ⟨some 94, .ld 1 false (.t 93), some (89, false)⟩,
 ⟨some 95, .fld 1 (.t 5), some (89, false)⟩,
 ⟨some 96, .ld 1 false (.t 95), some (89, false)⟩,
 ⟨some 97, .mv (.t 12), some (89, false)⟩,
 ⟨some 98, .idx 1 (.t 96) (.t 97), some (89, false)⟩,
 ⟨some 99, .ld 1 false (.t 98), some (89, false)⟩,
 ⟨some 100, .bin .eql .sc (.t 94) (.t 99), some (89, false)⟩,
 ⟨some 101, .pick (.t 89) (.k (.bool true)) (.t 100), none⟩] [[], [], [], [], [], [3], [], [3, 5], [1, 3, 5, 7], [1, 3, 5, 7, 8], [], [], [1, 3, 5, 7, 8, 9], [], [1, 3, 5, 7, 8, 9, 12], [1, 3, 5, 7, 8, 9, 12, 14], [], [1, 3, 5, 7, 8, 9], [], [1, 3, 5, 7, 8, 9, 17], [1, 3, 5, 7, 8, 9, 17, 19], [], []]) <|
 .cond (.t 101)
 (.seq (.reg [
 ⟨some 8, .mv (.k (.bool false)), none⟩]) <|
 .ret)
 (.skip)) <|
 .seq (.reg [
 ⟨some 13, .mv (.k (.int .i64 0)), none⟩]) <|
 .block 6 <|
 l21_3) <|
 .reg [
 ⟨some 71, .mv (.t 12), none⟩,
 ⟨some 72, .bin .add .sc (.t 71) (.k (.int .i64 1)), none⟩,
 ⟨some 12, .mv (.t 72), none⟩]
def l21_2 : DC := .loop [3, 4, 5, 6, 12] [4, 5, 6] l21_2b
def l21_1b : DC :=
 .seq (.seq (.reg [
 ⟨some 27, .mv (.t 11), none⟩,
 ⟨some 28, .mv (.t 3), none⟩,
 ⟨some 29, .len (.t 28), none⟩,
 ⟨some 30, .bin .lss .sc (.t 27) (.t 29), none⟩]) <|
 .cond (.t 30)
 (.skip)
 (.exit 2)) <|
 .seq (.block 3 <|
 .reg [
 ⟨some 33, .mv (.t 10), none⟩,
 ⟨some 34, .mv (.t 33), none⟩,
 ⟨some 35, .mv (.t 3), some (34, false)⟩,
 ⟨some 36, .mv (.t 11), some (34, false)⟩,
 ⟨some 37, .idx 4 (.t 35) (.t 36), some (34, false)⟩,
 ⟨some 38, .fld 0 (.t 37), some (34, false)⟩,
 ⟨some 39, .ld 1 false (.t 38), some (34, false)⟩,
 ⟨some 40, .bin .eql .sc (.t 39) (.k (.int .i64 2)), some (34, false)⟩,
 ⟨some 41, .mv (.t 40), some (34, false)⟩,
 ⟨some 42, .fld 3 (.t 4), some (41, true)⟩,
 ⟨some 43, .ld 1 false (.t 42), some (41, true)⟩,
 ⟨some 44, .mv (.t 11), some (41, true)⟩,
 ⟨some 45, .idx 6 (.t 43) (.t 44), some (41, true)⟩,
 ⟨some 46, .fld 1 (.t 45), some (41, true)⟩,
 ⟨some 47, .ld 1 false (.t 46), some (41, true)⟩,
 ⟨some 48, .mv (.t 9), some (41, true)⟩,
 ⟨some 49, .bin .eql .sc (.t 47) (.t 48), some (41, true)⟩,
 ⟨some 50, .pick (.t 41) (.t 49) (.k (.bool false)), some (34, false)⟩,
 ⟨some 51, .mv (.t 50), some (34, false)⟩,
 ⟨some 52, .ld 4 true (.t 4), some (51, true)⟩,
 ⟨some 53, .mv (.t 11), some (51, true)⟩,
 ⟨some 54, .ld 2 true (.t 5), some (51, true)⟩,
 ⟨some 55, .call .blind 45 [(.t 52), (.t 53), (.t 54)], some (51, true)⟩,
 ⟨some 56, .pick (.t 51) (.t 55) (.k (.bool false)), some (34, false)⟩,
 ⟨some 57, .mv (.t 56), some (34, false)⟩,
 ⟨some 58, .ld 4 true (.t 4), some (57, true)⟩,
 ⟨some 59, .mv (.t 11), some (57, true)⟩,
 ⟨some 60, .ld 2 true (.t 5), some (57, true)⟩,
 ⟨some 61, .call .blind 46 [(.t 58), (.t 59), (.t 60)], some (57, true)⟩,
 ⟨some 62, .pick (.t 57) (.t 61) (.k (.bool false)), some (34, false)⟩,
 ⟨some 63, .pick (.t 34) (.k (.bool true)) (.t 62), none⟩,
 ⟨some 10, .mv (.t 63), none⟩]) <|
 .reg [
 ⟨some 31, .mv (.t 11), none⟩,
 ⟨some 32, .bin .add .sc (.t 31) (.k (.int .i64 1)), none⟩,
 ⟨some 11, .mv (.t 32), none⟩]
def l21_1 : DC := .loop [3, 4, 5, 6, 9, 10, 11] [4, 5, 6] l21_1b
def l21_0b : DC :=
 .seq (.seq (.reg [
 ⟨some 14, .mv (.t 9), none⟩,
 ⟨some 15, .fld 2 (.t 4), none⟩,
 ⟨some 16, .ld 1 false (.t 15), none⟩,
 ⟨some 17, .len (.t 16), none⟩,
 ⟨some 18, .bin .lss .sc (.t 14) (.t 17), none⟩]) <|
 .cond (.t 18)
 (.skip)
 (.exit 0)) <|
 .seq (.block 1 <|
 .seq (.reg [
 ⟨some 21, .fld 1 (.t 6), none⟩,
 ⟨some 22, .ld 1 false (.t 21), none⟩,
 ⟨some 23, .mv (.t 9), none⟩,
 ⟨some 24, .idx 1 (.t 22) (.t 23), none⟩,
 ⟨some 25, .ld 1 false (.t 24), none⟩,
 ⟨some 26, .un .not (.t 25), none⟩,
 ⟨some 10, .mv (.t 26), none⟩]) <|
 .seq (.seq (.reg [
 ⟨some 11, .mv (.k (.int .i64 0)), none⟩]) <|
 .block 2 <|
 l21_1) <|
 .seq (.reg [
 ⟨some 64, .mv (.t 10), none⟩,
 ⟨some 65, .un .not (.t 64), none⟩]) <|
 .cond (.t 65)
 (.seq (.reg [
 ⟨some 8, .mv (.k (.bool false)), none⟩]) <|
 .ret)
 (.skip)) <|
 .reg [
 ⟨some 19, .mv (.t 9), none⟩,
 ⟨some 20, .bin .add .sc (.t 19) (.k (.int .i64 1)), none⟩,
 ⟨some 9, .mv (.t 20), none⟩]
def l21_0 : DC := .loop [3, 4, 5, 6, 9] [4, 5, 6] l21_0b
def f21 : DFn := ⟨4, [.t 8],
 .seq (.reg [
 ⟨some 4, .boxL (.t 0), none⟩,
 ⟨some 5, .boxL (.t 1), none⟩,
 ⟨some 6, .boxL (.t 2), none⟩,
 ⟨some 8, .mv (.k (.bool false)), none⟩]) <|
 .seq (.seq (.reg [
 ⟨some 9, .mv (.k (.int .i64 0)), none⟩]) <|
 .block 0 <|
 l21_0) <|
 .seq (.seq (.reg [
 ⟨some 12, .mv (.k (.int .i64 0)), none⟩]) <|
 .block 4 <|
 l21_2) <|
 .seq (.reg [
 ⟨some 8, .mv (.k (.bool true)), none⟩]) <|
 .ret⟩

def f22 : DFn := ⟨0, [.t 0],
 .seq (.reg [
 ⟨some 0, .mv (.k (.bool false)), none⟩]) <|
 .seq (.reg [
 ⟨some 7, .call .blind 27 [], none⟩,
 ⟨some 8, .call .eff 13 [(.t 7)], none⟩,
 ⟨some 6, .mv (.t 8), none⟩,
 ⟨some 9, .ext 0 (.t 6), none⟩,
 ⟨some 10, .ext 1 (.t 6), none⟩,
 ⟨some 1, .mv (.t 9), none⟩,
 ⟨some 2, .mv (.t 10), none⟩]) <|
 .seq (.reg [
 ⟨some 11, .mks false 1 1 [.bool false] (.k (.int .i64 3)), none⟩,
 ⟨some 12, .bsl false 1 [.int .i64 0] 1 [(0, (.k (.int .i64 1)))], none⟩,
 ⟨some 13, .build [.nils, .nils] [(0, 1, (.t 11)), (1, 1, (.t 12))], none⟩,
 ⟨some 3, .alL [.nils, .nils], none⟩,
 ⟨none, .st 2 (.t 3) (.t 13), none⟩]) <|
 .seq (.seq (.reg [
 ⟨some 14, .mv (.t 2), none⟩,
 ⟨some 15, .bin .neq .sc (.t 14) (.k (.int .i64 0)), none⟩,
 ⟨some 16, .mv (.t 15), none⟩,
 ⟨some 17, .mv (.t 1), some (16, false)⟩,
 ⟨some 18, .bin .eql .np (.t 17) (.k (.nilp)), some (16, false)⟩,
 ⟨some 19, .pick (.t 16) (.k (.bool true)) (.t 18), none⟩,
 ⟨some 20, .mv (.t 19), none⟩,
 ⟨some 21, .mv (.t 1), some (20, false)⟩,
 ⟨some 22, .ld 2 true (.t 3), some (20, false)⟩,
 ⟨some 23, .build [.int .i64 0, .int .i64 0] [(0, 1, (.k (.int .i64 1)))], some (20, false)⟩,
 ⟨some 24, .call .eff 14 [(.t 21), (.t 22), (.t 23)], some (20, false)⟩,
 ⟨some 25, .bin .neq .sc (.t 24) (.k (.int .i64 0)), some (20, false)⟩,
 ⟨some 26, .pick (.t 20) (.k (.bool true)) (.t 25), none⟩,
 ⟨some 27, .mv (.t 26), none⟩,
 ⟨some 28, .mv (.t 1), some (27, false)⟩,
 ⟨some 29, .call .ro 29 [(.t 28), (.k (.int .i64 1))], some (27, false)⟩,
 ⟨some 30, .bin .neq .sc (.t 29) (.k (.int .i64 0)), some (27, false)⟩,
 ⟨some 31, .pick (.t 27) (.k (.bool true)) (.t 30), none⟩]) <|
 .cond (.t 31)
 (.seq (.reg [
 ⟨some 0, .mv (.k (.bool false)), none⟩]) <|
 .ret)
 (.skip)) <|
 .seq (.reg [
 ⟨some 32, .mv (.t 1), none⟩,
 ⟨some 33, .ld 2 true (.t 3), none⟩,
 ⟨some 34, .call .eff 15 [(.t 32), (.t 33)], none⟩,
 ⟨some 4, .alL [.nils, .nils], none⟩,
 ⟨none, .st 2 (.t 4) (.t 34), none⟩]) <|
 .seq (.reg [
 ⟨some 35, .mv (.t 1), none⟩,
 ⟨some 36, .call .ro 16 [(.t 35)], none⟩,
 ⟨some 5, .mv (.t 36), none⟩]) <|
 .seq (.reg [
 ⟨some 37, .mv (.t 5), none⟩,
 ⟨some 38, .len (.t 37), none⟩,
 ⟨some 39, .bin .eql .sc (.t 38) (.k (.int .i64 2)), none⟩,
 ⟨some 40, .mv (.t 39), none⟩,
 ⟨some 41, .mv (.t 5), some (40, true)⟩,
 ⟨some 42, .idx 4 (.t 41) (.k (.int .i64 0)), some (40, true)⟩,
 ⟨some 43, .fld 0 (.t 42), some (40, true)⟩,
 ⟨some 44, .ld 1 false (.t 43), some (40, true)⟩,
 ⟨some 45, .bin .eql .sc (.t 44) (.k (.int .i64 2)), some (40, true)⟩,
 ⟨some 46, .pick (.t 40) (.t 45) (.k (.bool false)), none⟩,
 ⟨some 47, .mv (.t 46), none⟩,
 ⟨some 48, .fld 1 (.t 4), some (47, true)⟩,
 ⟨some 49, .ld 1 false (.t 48), some (47, true)⟩,
 ⟨some 50, .len (.t 49), some (47, true)⟩,
 ⟨some 51, .bin .eql .sc (.t 50) (.k (.int .i64 3)), some (47, true)⟩,
 ⟨some 52, .pick (.t 47) (.t 51) (.k (.bool false)), none⟩,
 ⟨some 53, .mv (.t 52), none⟩,
 ⟨some 54, .fld 1 (.t 4), some (53, true)⟩,
 ⟨some 55, .ld 1 false (.t 54), some (53, true)⟩,
 ⟨some 56, .idx 1 (.t 55) (.k (.int .i64 0)), some (53, true)⟩,
 ⟨some 57, .ld 1 false (.t 56), some (53, true)⟩,
 ⟨some 58, .pick (.t 53) (.t 57) (.k (.bool false)), none⟩,
 ⟨some 59, .mv (.t 58), none⟩,
 ⟨some 60, .fld 1 (.t 4), some (59, true)⟩,
 ⟨some 61, .ld 1 false (.t 60), some (59, true)⟩,
 ⟨some 62, .idx 1 (.t 61) (.k (.int .i64 1)), some (59, true)⟩,
 ⟨some 63, .ld 1 false (.t 62), some (59, true)⟩,
 ⟨some 64, .un .not (.t 63), some (59, true)⟩,
 ⟨some 65, .pick (.t 59) (.t 64) (.k (.bool false)), none⟩,
 ⟨some 66, .mv (.t 65), none⟩,
 ⟨some 67, .fld 0 (.t 4), some (66, true)⟩,
 ⟨some 68, .ld 1 false (.t 67), some (66, true)⟩,
 ⟨some 69, .len (.t 68), some (66, true)⟩,
 ⟨some 70, .bin .eql .sc (.t 69) (.k (.int .i64 1)), some (66, true)⟩,
 ⟨some 71, .pick (.t 66) (.t 70) (.k (.bool false)), none⟩,
 ⟨some 72, .mv (.t 71), none⟩,
 ⟨some 73, .fld 0 (.t 4), some (72, true)⟩,
 ⟨some 74, .ld 1 false (.t 73), some (72, true)⟩,
 ⟨some 75, .idx 1 (.t 74) (.k (.int .i64 0)), some (72, true)⟩,
 ⟨some 76, .ld 1 false (.t 75), some (72, true)⟩,
 ⟨some 77, .bin .eql .sc (.t 76) (.k (.int .i64 0)), some (72, true)⟩,
 ⟨some 78, .pick (.t 72) (.t 77) (.k (.bool false)), none⟩,
 ⟨some 0, .mv (.t 78), none⟩]) <|
 .ret⟩

def f23 : DFn := ⟨1, [.t 2, .t 3],
 .seq (.reg [
 ⟨some 1, .boxL (.t 0), none⟩,
 ⟨some 2, .mv (.k (.nilp)), none⟩,
 ⟨some 3, .mv (.k (.int .i64 0)), none⟩]) <|
 .seq (.seq (.reg [
 ⟨some 4, .ld 4 true (.t 1), none⟩,
 ⟨some 5, .call .blind 12 [(.t 4)], none⟩,
 ⟨some 6, .un .not (.t 5), none⟩]) <|
 .cond (.t 6)
 (.seq (.reg [
 ⟨some 2, .mv (.k (.nilp)), none⟩,
 ⟨some 3, .mv (.k (.int .i64 9)), none⟩]) <|
 .ret)
 (.skip)) <|
 .seq (.drw [
 ⟨some 7, .ld 4 true (.t 1), none⟩,
 ⟨some 8, .fld 3 (.t 1), none⟩,
 ⟨some 9, .ld 1 false (.t 8), none⟩,
 ⟨some 10, .len (.t 9), none⟩,
 ⟨some 11, .mks true 4 32 [.int .i64 0, .int .i64 0, .int .i64 0, .bool false] (.t 10), none⟩,
 ⟨some 12, .build [.nils, .nils, .nils, .nils, .nils] [(0, 4, (.t 7)), (4, 1, (.t 11))], none⟩,
 ⟨some 13, .boxH (.t 12), none⟩,
 ⟨some 2, .mv (.t 13), none⟩,
 ⟨some 3, .mv (.k (.int .i64 0)), none⟩] [[], [], [], [], [2], [], [0, 2, 4], [], []]) <|
 .ret⟩

def f24 : DFn := ⟨3, [.t 6],
 .seq (.reg [
 ⟨some 4, .boxL (.t 1), none⟩,
 ⟨some 5, .boxL (.t 2), none⟩,
 ⟨some 6, .mv (.k (.int .i64 0)), none⟩]) <|
 .seq (.block 0 <|
 .seq (.drw [
 ⟨some 8, .mv (.t 0), none⟩,
 ⟨some 9, .nilck (.t 8), none⟩,
 ⟨some 10, .fld 0 (.t 9), none⟩,
 ⟨some 11, .ld 4 true (.t 10), none⟩,
 ⟨some 12, .ld 2 true (.t 4), none⟩,
 ⟨some 13, .call .blind 17 [(.t 11), (.t 12)], none⟩,
 ⟨some 14, .un .not (.t 13), none⟩,
 ⟨some 15, .mv (.t 14), none⟩,
 ⟨some 16, .fld 0 (.t 5), some (15, false)⟩,
 ⟨some 17, .ld 1 false (.t 16), some (15, false)⟩,
 ⟨some 18, .bin .neq .sc (.t 17) (.k (.int .i64 1)), some (15, false)⟩,
 ⟨some 19, .mv (.t 18), some (15, false)⟩,
 ⟨some 20, .fld 0 (.t 5), some (19, true)⟩,
 ⟨some 21, .ld 1 false (.t 20), some (19, true)⟩,
 ⟨some 22, .bin .neq .sc (.t 21) (.k (.int .i64 2)), some (19, true)⟩,
 ⟨some 23, .pick (.t 19) (.t 22) (.k (.bool false)), some (15, false)⟩,
 ⟨some 24, .pick (.t 15) (.k (.bool true)) (.t 23), none⟩,
 ⟨some 7, .mv (.t 24), none⟩] [[], [], [], [], [], [3, 4], [], [], [], [3, 4, 5], [], [], [], [3, 4, 5, 9], [], [], [], []]) <|
 .cond (.t 7)
 (.seq (.reg [
 ⟨some 6, .mv (.k (.int .i64 1)), none⟩]) <|
 .ret)
 (.seq (.drw [
 ⟨some 26, .fld 1 (.t 5), none⟩,
 ⟨some 27, .ld 1 false (.t 26), none⟩,
 ⟨some 28, .bin .lss .sc (.t 27) (.k (.int .i64 0)), none⟩,
 ⟨some 29, .mv (.t 28), none⟩,
 ⟨some 30, .fld 1 (.t 5), some (29, false)⟩,
 ⟨some 31, .ld 1 false (.t 30), some (29, false)⟩,
 ⟨some 32, .mv (.t 0), some (29, false)⟩,
 ⟨some 33, .nilck (.t 32), some (29, false)⟩,
 ⟨some 34, .fld 4 (.t 33), some (29, false)⟩,
 ⟨some 35, .ld 1 false (.t 34), some (29, false)⟩,
 ⟨some 36, .len (.t 35), some (29, false)⟩,
 ⟨some 37, .bin .geq .sc (.t 31) (.t 36), some (29, false)⟩,
 ⟨some 38, .pick (.t 29) (.k (.bool true)) (.t 37), none⟩,
 ⟨some 25, .mv (.t 38), none⟩] [[], [], [], [], [], [1], [], [], [], [1], [], [], [], []]) <|
 .cond (.t 25)
 (.seq (.reg [
 ⟨some 6, .mv (.k (.int .i64 5)), none⟩]) <|
 .ret)
 (.seq (.reg [
 ⟨some 40, .fld 0 (.t 5), none⟩,
 ⟨some 41, .ld 1 false (.t 40), none⟩,
 ⟨some 42, .bin .eql .sc (.t 41) (.k (.int .i64 1)), none⟩,
 ⟨some 39, .mv (.t 42), none⟩]) <|
 .cond (.t 39)
 (.seq (.reg [
 ⟨some 43, .mv (.t 0), none⟩,
 ⟨some 44, .ld 2 true (.t 4), none⟩,
 ⟨some 45, .fld 1 (.t 5), none⟩,
 ⟨some 46, .ld 1 false (.t 45), none⟩,
 ⟨some 47, .call .eff 48 [(.t 43), (.t 44), (.t 46)], none⟩,
 ⟨some 6, .mv (.t 47), none⟩]) <|
 .ret)
 (.seq (.drw [
 ⟨some 49, .mv (.t 0), none⟩,
 ⟨some 50, .nilck (.t 49), none⟩,
 ⟨some 51, .fld 4 (.t 50), none⟩,
 ⟨some 52, .ld 1 false (.t 51), none⟩,
 ⟨some 53, .fld 1 (.t 5), none⟩,
 ⟨some 54, .ld 1 false (.t 53), none⟩,
 ⟨some 55, .idx 4 (.t 52) (.t 54), none⟩,
 ⟨some 56, .fld 0 (.t 55), none⟩,
 ⟨some 57, .ld 1 false (.t 56), none⟩,
 ⟨some 58, .bin .eql .sc (.t 57) (.k (.int .i64 1)), none⟩,
 ⟨some 48, .mv (.t 58), none⟩] [[], [], [], [], [], [], [3, 5], [], [3, 5, 6], [], []]) <|
 .cond (.t 48)
 (.seq (.drw [
 ⟨some 59, .mv (.t 0), none⟩,
 ⟨some 60, .nilck (.t 59), none⟩,
 ⟨some 61, .fld 4 (.t 60), none⟩,
 ⟨some 62, .ld 1 false (.t 61), none⟩,
 ⟨some 63, .fld 1 (.t 5), none⟩,
 ⟨some 64, .ld 1 false (.t 63), none⟩,
 ⟨some 65, .build [.int .i64 0, .int .i64 0, .int .i64 0, .bool false] [], none⟩,
 ⟨some 66, .idx 4 (.t 62) (.t 64), none⟩,
 ⟨none, .st 4 (.t 66) (.t 65), none⟩] [[], [], [], [], [], [], [], [3, 5], [3, 5, 7]]) <|
 .seq (.reg [
 ⟨some 6, .mv (.k (.int .i64 0)), none⟩]) <|
 .ret)
 (.seq (.drw [
 ⟨some 68, .mv (.t 0), none⟩,
 ⟨some 69, .nilck (.t 68), none⟩,
 ⟨some 70, .fld 4 (.t 69), none⟩,
 ⟨some 71, .ld 1 false (.t 70), none⟩,
 ⟨some 72, .fld 1 (.t 5), none⟩,
 ⟨some 73, .ld 1 false (.t 72), none⟩,
 ⟨some 74, .idx 4 (.t 71) (.t 73), none⟩,
 ⟨some 75, .fld 0 (.t 74), none⟩,
 ⟨some 76, .ld 1 false (.t 75), none⟩,
 ⟨some 77, .bin .eql .sc (.t 76) (.k (.int .i64 2)), none⟩,
 ⟨some 67, .mv (.t 77), none⟩] [[], [], [], [], [], [], [3, 5], [], [3, 5, 6], [], []]) <|
 .cond (.t 67)
 (.seq (.drw [
 ⟨some 78, .mv (.t 0), none⟩,
 ⟨some 79, .nilck (.t 78), none⟩,
 ⟨some 80, .fld 4 (.t 79), none⟩,
 ⟨some 81, .ld 1 false (.t 80), none⟩,
 ⟨some 82, .fld 1 (.t 5), none⟩,
 ⟨some 83, .ld 1 false (.t 82), none⟩,
 ⟨some 84, .build [.int .i64 0, .int .i64 0, .int .i64 0, .bool false] [(0, 1, (.k (.int .i64 4)))], none⟩,
 ⟨some 85, .idx 4 (.t 81) (.t 83), none⟩,
 ⟨none, .st 4 (.t 85) (.t 84), none⟩] [[], [], [], [], [], [], [], [3, 5], [3, 5, 7]]) <|
 .seq (.reg [
 ⟨some 6, .mv (.k (.int .i64 0)), none⟩]) <|
 .ret)
 (.skip)))))) <|
 .seq (.reg [
 ⟨some 6, .mv (.k (.int .i64 7)), none⟩]) <|
 .ret⟩

def l25_2b : DC :=
 .seq (.seq (.reg [
 ⟨some 59, .mv (.t 9), none⟩,
 ⟨some 60, .mv (.t 8), none⟩,
 ⟨some 61, .len (.t 60), none⟩,
 ⟨some 62, .bin .lss .sc (.t 59) (.t 61), none⟩]) <|
 .cond (.t 62)
 (.skip)
 (.exit 4)) <|
 .seq (.block 5 <|
 .seq (.drw [
 ⟨some 65, .mv (.t 0), none⟩,
 ⟨some 66, .nilck (.t 65), none⟩,
 ⟨some 67, .fld 0 (.t 66), none⟩,
 ⟨some 68, .fld 1 (.t 67), none⟩,
 ⟨some 69, .ld 1 false (.t 68), none⟩,
 ⟨some 70, .mv (.t 8), none⟩,
 ⟨some 71, .mv (.t 9), none⟩,
 ⟨some 72, .idx 2 (.t 70) (.t 71), none⟩,
 ⟨some 73, .fld 0 (.t 72), none⟩,
 ⟨some 74, .ld 1 false (.t 73), none⟩,
 ⟨some 75, .idx 2 (.t 69) (.t 74), none⟩,
 ⟨some 76, .fld 1 (.t 75), none⟩,
 ⟨some 77, .ld 1 false (.t 76), none⟩,
 ⟨some 10, .mv (.t 77), none⟩] [[], [], [], [], [], [], [], [], [], [7], [4, 7, 9], [], [4, 7, 9, 10], []]) <|
 .seq (.reg [
 ⟨some 78, .mv (.t 0), none⟩,
 ⟨some 79, .mv (.t 10), none⟩,
 ⟨some 80, .call .ro 52 [(.t 78), (.t 79)], none⟩,
 ⟨some 11, .mv (.t 80), none⟩]) <|
 .seq (.drw [
 ⟨some 81, .fld 1 (.t 3), none⟩,
 ⟨some 82, .ld 1 false (.t 81), none⟩,
 ⟨some 83, .mv (.t 8), none⟩,
 ⟨some 84, .mv (.t 9), none⟩,
 ⟨some 85, .idx 2 (.t 83) (.t 84), none⟩,
 ⟨some 86, .fld 0 (.t 85), none⟩,
 ⟨some 87, .ld 1 false (.t 86), none⟩,
 ⟨some 88, .idx 1 (.t 82) (.t 87), none⟩,
 ⟨some 89, .ld 1 false (.t 88), none⟩,
 ⟨some 90, .mv (.t 8), none⟩,
 ⟨some 91, .mv (.t 9), none⟩,
 ⟨some 92, .idx 2 (.t 90) (.t 91), none⟩,
 ⟨some 93, .ld 2 true (.t 92), none⟩,
 ⟨some 94, .call .blind 53 [(.t 93)], none⟩,
 ⟨some 95, .bin .neq .sc (.t 89) (.t 94), none⟩,
 ⟨some 96, .mv (.t 95), none⟩,
 ⟨some 97, .fld 0 (.t 3), some (96, true)⟩,
 ⟨some 98, .ld 1 false (.t 97), some (96, true)⟩,
 ⟨some 99, .mv (.t 10), some (96, true)⟩,
 ⟨some 100, .idx 1 (.t 98) (.t 99), some (96, true)⟩,
 ⟨some 101, .ld 1 false (.t 100), some (96, true)⟩,
 ⟨some 102, .un .not (.t 101), some (96, true)⟩,
 ⟨some 103, .pick (.t 96) (.t 102) (.k (.bool false)), none⟩,
 ⟨some 104, .mv (.t 103), none⟩,
 ⟨some 105, .mv (.t 11), some (104, true)⟩,
 ⟨some 106, .bin .lss .sc (.t 105) (.k (.int .i64 0)), some (104, true)⟩,
 ⟨some 107, .mv (.t 106), some (104, true)⟩,
 ⟨some 108, .mv (.t 11), some (107, false)⟩,
 ⟨some 109, .mv (.t 7), some (107, false)⟩,
 ⟨some 110, .bin .eql .sc (.t 108) (.t 109), some (107, false)⟩,
 ⟨some 111, .pick (.t 107) (.k (.bool true)) (.t 110), some (104, true)⟩,
 ⟨some 112, .pick (.t 104) (.t 111) (.k (.bool false)), none⟩] [[], [], [], [], [], [], [4], [1, 4, 6], [1, 4, 6, 7], [], [], [], [11], [11, 12], [], [], [], [1, 4, 6, 7, 8, 11, 12, 13], [], [1, 4, 6, 7, 8, 11, 12, 13, 17], [1, 4, 6, 7, 8, 11, 12, 13, 17, 19], [], [], [], [], [], [], [], [], [], [], []]) <|
 .cond (.t 112)
 (.drw [
 ⟨some 113, .fld 0 (.t 5), none⟩,
 ⟨some 114, .ld 1 false (.t 113), none⟩,
 ⟨some 115, .mv (.t 8), none⟩,
 ⟨some 116, .mv (.t 9), none⟩,
 ⟨some 117, .idx 2 (.t 115) (.t 116), none⟩,
 ⟨some 118, .fld 0 (.t 117), none⟩,
 ⟨some 119, .ld 1 false (.t 118), none⟩,
 ⟨some 120, .mv (.t 8), none⟩,
 ⟨some 121, .mv (.t 9), none⟩,
 ⟨some 122, .idx 2 (.t 120) (.t 121), none⟩,
 ⟨some 123, .ld 2 true (.t 122), none⟩,
 ⟨some 124, .call .blind 53 [(.t 123)], none⟩,
 ⟨some 125, .idx 1 (.t 114) (.t 119), none⟩,
 ⟨none, .st 1 (.t 125) (.t 124), none⟩] [[], [], [], [], [], [], [4], [], [], [], [9], [9, 10], [1, 4, 6, 9, 10, 11], [1, 4, 6, 9, 10, 11, 12]])
 (.skip)) <|
 .reg [
 ⟨some 63, .mv (.t 9), none⟩,
 ⟨some 64, .bin .add .sc (.t 63) (.k (.int .i64 1)), none⟩,
 ⟨some 9, .mv (.t 64), none⟩]
def l25_2 : DC := .loop [0, 3, 4, 5, 7, 8, 9] [3, 4, 5] l25_2b
def l25_1b : DC :=
 .seq (.seq (.reg [
 ⟨some 35, .mv (.t 7), none⟩,
 ⟨some 36, .mv (.t 0), none⟩,
 ⟨some 37, .nilck (.t 36), none⟩,
 ⟨some 38, .fld 4 (.t 37), none⟩,
 ⟨some 39, .ld 1 false (.t 38), none⟩,
 ⟨some 40, .len (.t 39), none⟩,
 ⟨some 41, .bin .lss .sc (.t 35) (.t 40), none⟩]) <|
 .cond (.t 41)
 (.skip)
 (.exit 2)) <|
 .seq (.block 3 <|
 .seq (.seq (.reg [
 ⟨some 44, .mv (.t 0), none⟩,
 ⟨some 45, .nilck (.t 44), none⟩,
 ⟨some 46, .fld 4 (.t 45), none⟩,
 ⟨some 47, .ld 1 false (.t 46), none⟩,
 ⟨some 48, .mv (.t 7), none⟩,
 ⟨some 49, .idx 4 (.t 47) (.t 48), none⟩,
 ⟨some 50, .fld 0 (.t 49), none⟩,
 ⟨some 51, .ld 1 false (.t 50), none⟩,
 ⟨some 52, .bin .eql .sc (.t 51) (.k (.int .i64 1)), none⟩]) <|
 .cond (.t 52)
 (.seq (.reg [
 ⟨some 53, .mv (.t 0), none⟩,
 ⟨some 54, .nilck (.t 53), none⟩,
 ⟨some 55, .fld 0 (.t 54), none⟩,
 ⟨some 56, .ld 4 true (.t 55), none⟩,
 ⟨some 57, .mv (.t 7), none⟩,
 ⟨some 58, .call .blind 51 [(.t 56), (.t 57)], none⟩,
 ⟨some 8, .mv (.t 58), none⟩]) <|
 .seq (.reg [
 ⟨some 9, .mv (.k (.int .i64 0)), none⟩]) <|
 .block 4 <|
 l25_2)
 (.skip)) <|
 .seq (.drw [
 ⟨some 126, .mv (.t 0), none⟩,
 ⟨some 127, .nilck (.t 126), none⟩,
 ⟨some 128, .fld 4 (.t 127), none⟩,
 ⟨some 129, .ld 1 false (.t 128), none⟩,
 ⟨some 130, .mv (.t 7), none⟩,
 ⟨some 131, .idx 4 (.t 129) (.t 130), none⟩,
 ⟨some 132, .fld 0 (.t 131), none⟩,
 ⟨some 133, .ld 1 false (.t 132), none⟩,
 ⟨some 134, .bin .eql .sc (.t 133) (.k (.int .i64 2)), none⟩,
 ⟨some 135, .mv (.t 134), none⟩,
 ⟨some 136, .mv (.t 0), some (135, true)⟩,
 ⟨some 137, .nilck (.t 136), some (135, true)⟩,
 ⟨some 138, .fld 0 (.t 137), some (135, true)⟩,
 ⟨some 139, .ld 4 true (.t 138), some (135, true)⟩,
 ⟨some 140, .mv (.t 7), some (135, true)⟩,
 ⟨some 141, .ld 2 true (.t 3), some (135, true)⟩,
 ⟨some 142, .call .blind 45 [(.t 139), (.t 140), (.t 141)], some (135, true)⟩,
 ⟨some 143, .pick (.t 135) (.t 142) (.k (.bool false)), none⟩,
 ⟨some 144, .mv (.t 143), none⟩,
 ⟨some 145, .mv (.t 0), some (144, true)⟩,
 ⟨some 146, .nilck (.t 145), some (144, true)⟩,
 ⟨some 147, .fld 0 (.t 146), some (144, true)⟩,
 ⟨some 148, .ld 4 true (.t 147), some (144, true)⟩,
 ⟨some 149, .mv (.t 7), some (144, true)⟩,
 ⟨some 150, .ld 2 true (.t 3), some (144, true)⟩,
 ⟨some 151, .call .blind 46 [(.t 148), (.t 149), (.t 150)], some (144, true)⟩,
 ⟨some 152, .pick (.t 144) (.t 151) (.k (.bool false)), none⟩] [[], [], [], [], [], [3], [], [3, 5], [], [], [], [], [], [3, 5, 7], [], [3, 5, 7], [3, 5, 7, 13, 15], [], [], [], [], [], [3, 5, 7, 13, 15, 16], [], [3, 5, 7, 13, 15, 16], [3, 5, 7, 13, 15, 16, 22, 24], []]) <|
 .cond (.t 152)
 (.drw [
 ⟨some 153, .fld 1 (.t 5), none⟩,
 ⟨some 154, .ld 1 false (.t 153), none⟩,
 ⟨some 155, .mv (.t 0), none⟩,
 ⟨some 156, .nilck (.t 155), none⟩,
 ⟨some 157, .fld 0 (.t 156), none⟩,
 ⟨some 158, .fld 3 (.t 157), none⟩,
 ⟨some 159, .ld 1 false (.t 158), none⟩,
 ⟨some 160, .mv (.t 7), none⟩,
 ⟨some 161, .idx 6 (.t 159) (.t 160), none⟩,
 ⟨some 162, .fld 1 (.t 161), none⟩,
 ⟨some 163, .ld 1 false (.t 162), none⟩,
 ⟨some 164, .idx 1 (.t 154) (.t 163), none⟩,
 ⟨none, .st 1 (.t 164) (.k (.bool true)), none⟩] [[], [], [], [], [], [], [], [], [6], [], [6, 8], [1, 6, 8, 10], [1, 6, 8, 10, 11]])
 (.skip)) <|
 .reg [
 ⟨some 42, .mv (.t 7), none⟩,
 ⟨some 43, .bin .add .sc (.t 42) (.k (.int .i64 1)), none⟩,
 ⟨some 7, .mv (.t 43), none⟩]
def l25_1 : DC := .loop [0, 3, 4, 5, 7] [3, 4, 5] l25_1b
def l25_0b : DC :=
 .seq (.seq (.reg [
 ⟨some 22, .mv (.t 6), none⟩,
 ⟨some 23, .mv (.t 0), none⟩,
 ⟨some 24, .nilck (.t 23), none⟩,
 ⟨some 25, .fld 4 (.t 24), none⟩,
 ⟨some 26, .ld 1 false (.t 25), none⟩,
 ⟨some 27, .len (.t 26), none⟩,
 ⟨some 28, .bin .lss .sc (.t 22) (.t 27), none⟩]) <|
 .cond (.t 28)
 (.skip)
 (.exit 0)) <|
 .seq (.block 1 <|
 .reg [
 ⟨some 31, .mv (.t 0), none⟩,
 ⟨some 32, .ld 2 true (.t 3), none⟩,
 ⟨some 33, .mv (.t 6), none⟩,
 ⟨some 34, .call .eff 50 [(.t 31), (.t 32), (.t 33)], none⟩]) <|
 .reg [
 ⟨some 29, .mv (.t 6), none⟩,
 ⟨some 30, .bin .add .sc (.t 29) (.k (.int .i64 1)), none⟩,
 ⟨some 6, .mv (.t 30), none⟩]
def l25_0 : DC := .loop [0, 3, 4, 5, 6] [3, 4, 5] l25_0b
def f25 : DFn := ⟨2, [.cell 4 2 true],
 .seq (.reg [
 ⟨some 3, .boxL (.t 1), none⟩,
 ⟨some 4, .alL [.nils, .nils], none⟩]) <|
 .seq (.reg [
 ⟨some 12, .mv (.t 0), none⟩,
 ⟨some 13, .call .eff 49 [(.t 12)], none⟩,
 ⟨some 5, .alL [.nils, .nils], none⟩,
 ⟨none, .st 2 (.t 5) (.t 13), none⟩]) <|
 .seq (.seq (.drw [
 ⟨some 14, .mv (.t 0), none⟩,
 ⟨some 15, .nilck (.t 14), none⟩,
 ⟨some 16, .fld 0 (.t 15), none⟩,
 ⟨some 17, .ld 4 true (.t 16), none⟩,
 ⟨some 18, .ld 2 true (.t 3), none⟩,
 ⟨some 19, .call .blind 17 [(.t 17), (.t 18)], none⟩,
 ⟨some 20, .un .not (.t 19), none⟩] [[], [], [], [], [], [3, 4], []]) <|
 .cond (.t 20)
 (.seq (.reg [
 ⟨some 21, .ld 2 true (.t 5), none⟩,
 ⟨none, .st 2 (.t 4) (.t 21), none⟩]) <|
 .ret)
 (.skip)) <|
 .seq (.seq (.reg [
 ⟨some 6, .mv (.k (.int .i64 0)), none⟩]) <|
 .block 0 <|
 l25_0) <|
 .seq (.seq (.reg [
 ⟨some 7, .mv (.k (.int .i64 0)), none⟩]) <|
 .block 2 <|
 l25_1) <|
 .seq (.reg [
 ⟨some 165, .ld 2 true (.t 5), none⟩,
 ⟨none, .st 2 (.t 4) (.t 165), none⟩]) <|
 .ret⟩

def l26_0b : DC :=
 .seq (.seq (.reg [
 ⟨some 22, .mv (.t 5), none⟩,
 ⟨some 23, .mv (.t 1), none⟩,
 ⟨some 24, .nilck (.t 23), none⟩,
 ⟨some 25, .fld 0 (.t 24), none⟩,
 ⟨some 26, .fld 0 (.t 25), none⟩,
 ⟨some 27, .ld 1 false (.t 26), none⟩,
 ⟨some 28, .len (.t 27), none⟩,
 ⟨some 29, .bin .leq .sc (.t 22) (.t 28), none⟩]) <|
 .cond (.t 29)
 (.skip)
 (.exit 0)) <|
 .seq (.block 1 <|
 .seq (.reg [
 ⟨some 32, .mv (.t 0), none⟩,
 ⟨some 33, .mv (.t 5), none⟩,
 ⟨some 34, .call .ro 29 [(.t 32), (.t 33)], none⟩,
 ⟨some 35, .mv (.t 1), none⟩,
 ⟨some 36, .mv (.t 5), none⟩,
 ⟨some 37, .call .ro 52 [(.t 35), (.t 36)], none⟩,
 ⟨some 38, .bin .neq .sc (.t 34) (.t 37), none⟩]) <|
 .cond (.t 38)
 (.seq (.reg [
 ⟨some 4, .mv (.k (.bool false)), none⟩]) <|
 .ret)
 (.skip)) <|
 .reg [
 ⟨some 30, .mv (.t 5), none⟩,
 ⟨some 31, .bin .add .sc (.t 30) (.k (.int .i64 1)), none⟩,
 ⟨some 5, .mv (.t 31), none⟩]
def l26_0 : DC := .loop [0, 1, 5] [] l26_0b
def f26 : DFn := ⟨2, [.t 4],
 .seq (.reg [
 ⟨some 4, .mv (.k (.bool false)), none⟩]) <|
 .seq (.seq (.drw [
 ⟨some 6, .mv (.t 0), none⟩,
 ⟨some 7, .call .ro 16 [(.t 6)], none⟩,
 ⟨some 8, .mv (.t 1), none⟩,
 ⟨some 9, .nilck (.t 8), none⟩,
 ⟨some 10, .fld 4 (.t 9), none⟩,
 ⟨some 11, .ld 1 false (.t 10), none⟩,
 ⟨some 12, .call .blind 54 [(.t 7), (.t 11)], none⟩,
 ⟨some 13, .un .not (.t 12), none⟩,
 ⟨some 14, .mv (.t 13), none⟩,
 ⟨some 15, .mv (.t 0), some (14, false)⟩,
 ⟨some 16, .call .ro 19 [(.t 15)], some (14, false)⟩,
 ⟨some 17, .mv (.t 1), some (14, false)⟩,
 ⟨some 18, .call .ro 49 [(.t 17)], some (14, false)⟩,
 ⟨some 19, .call .blind 18 [(.t 16), (.t 18)], some (14, false)⟩,
 ⟨some 20, .un .not (.t 19), some (14, false)⟩,
 ⟨some 21, .pick (.t 14) (.k (.bool true)) (.t 20), none⟩] [[], [], [], [], [], [], [1, 5], [], [], [], [1, 5, 6], [], [1, 5, 6, 10], [1, 5, 6, 10, 12], [], []]) <|
 .cond (.t 21)
 (.seq (.reg [
 ⟨some 4, .mv (.k (.bool false)), none⟩]) <|
 .ret)
 (.skip)) <|
 .seq (.seq (.reg [
 ⟨some 5, .mv (.k (.int .i64 (-1))), none⟩]) <|
 .block 0 <|
 l26_0) <|
 .seq (.reg [
 ⟨some 4, .mv (.k (.bool true)), none⟩]) <|
 .ret⟩

def f27 : DFn := ⟨0, [.cell 0 4 true],
 .seq (.reg [
 ⟨some 0, .alL [.nils, .nils, .nils, .nils], none⟩]) <|
 .seq (.reg [
 ⟨some 1, .bsl false 1 [.str []] 3 [(0, (.k (.str [97]))), (1, (.k (.str [98]))), (2, (.k (.str [99])))], none⟩,
 ⟨some 2, .build [.str [], .int .i64 0] [(0, 1, (.k (.str [112]))), (1, 1, (.k (.int .i64 1)))], none⟩,
 ⟨some 3, .bsl false 2 [.str [], .int .i64 0] 1 [(0, (.t 2))], none⟩,
 ⟨some 4, .bsl false 1 [.str []] 3 [(0, (.k (.str [115]))), (1, (.k (.str [116]))), (2, (.k (.str [117])))], none⟩,
 ⟨some 5, .bsl false 1 [.int .i64 0] 2 [(0, (.k (.int .i64 0))), (1, (.k (.int .i64 1)))], none⟩,
 ⟨some 6, .build [.int .i64 0, .bool false] [(0, 1, (.k (.int .i64 0)))], none⟩,
 ⟨some 7, .bsl false 2 [.int .i64 0, .bool false] 1 [(0, (.t 6))], none⟩,
 ⟨some 8, .build [.str [], .int .i64 0, .int .i64 0, .nils, .nils, .nils] [(0, 1, (.k (.str [114]))), (1, 1, (.k (.int .i64 0))), (2, 1, (.k (.int .i64 1))), (3, 1, (.t 5)), (4, 1, (.t 7))], none⟩,
 ⟨some 9, .bsl false 1 [.int .i64 0] 1 [(0, (.k (.int .i64 2)))], none⟩,
 ⟨some 10, .build [.str [], .int .i64 0, .int .i64 0, .nils, .nils, .nils] [(0, 1, (.k (.str [113]))), (1, 1, (.k (.int .i64 1))), (2, 1, (.k (.int .i64 2))), (3, 1, (.t 9))], none⟩,
 ⟨some 11, .bsl false 6 [.str [], .int .i64 0, .int .i64 0, .nils, .nils, .nils] 2 [(0, (.t 8)), (1, (.t 10))], none⟩,
 ⟨some 12, .build [.nils, .nils, .nils, .nils] [(0, 1, (.t 1)), (1, 1, (.t 3)), (2, 1, (.t 4)), (3, 1, (.t 11))], none⟩,
 ⟨none, .st 4 (.t 0) (.t 12), none⟩]) <|
 .ret⟩

def l28_0b : DC :=
 .seq (.seq (.reg [
 ⟨some 10, .mv (.t 6), none⟩,
 ⟨some 11, .bin .lss .sc (.t 10) (.k (.int .i64 3)), none⟩]) <|
 .cond (.t 11)
 (.skip)
 (.exit 0)) <|
 .seq (.block 1 <|
 .reg [
 ⟨some 14, .fld 0 (.t 5), none⟩,
 ⟨some 15, .ld 1 false (.t 14), none⟩,
 ⟨some 16, .mv (.t 0), none⟩,
 ⟨some 17, .mv (.t 6), none⟩,
 ⟨some 18, .cvI .u64 (.t 17), none⟩,
 ⟨some 19, .bin .shr .sc (.t 16) (.t 18), none⟩,
 ⟨some 20, .bin .and .sc (.t 19) (.k (.int .i64 1)), none⟩,
 ⟨some 21, .bin .eql .sc (.t 20) (.k (.int .i64 1)), none⟩,
 ⟨some 22, .bsl false 1 [.bool false] 1 [(0, (.t 21))], none⟩,
 ⟨some 23, .app 1 1 (.t 15) (.t 22), none⟩,
 ⟨some 24, .fld 0 (.t 5), none⟩,
 ⟨none, .st 1 (.t 24) (.t 23), none⟩]) <|
 .reg [
 ⟨some 12, .mv (.t 6), none⟩,
 ⟨some 13, .bin .add .sc (.t 12) (.k (.int .i64 1)), none⟩,
 ⟨some 6, .mv (.t 13), none⟩]
def l28_0 : DC := .loop [0, 4, 5, 6] [4, 5] l28_0b
def f28 : DFn := ⟨2, [.cell 4 2 true],
 .seq (.reg [
 ⟨some 4, .alL [.nils, .nils], none⟩]) <|
 .seq (.reg [
 ⟨some 7, .mv (.t 1), none⟩,
 ⟨some 8, .bsl false 1 [.int .i64 0] 1 [(0, (.t 7))], none⟩,
 ⟨some 9, .build [.nils, .nils] [(1, 1, (.t 8))], none⟩,
 ⟨some 5, .alL [.nils, .nils], none⟩,
 ⟨none, .st 2 (.t 5) (.t 9), none⟩]) <|
 .seq (.seq (.reg [
 ⟨some 6, .mv (.k (.int .i64 0)), none⟩]) <|
 .block 0 <|
 l28_0) <|
 .seq (.reg [
 ⟨some 25, .ld 2 true (.t 5), none⟩,
 ⟨none, .st 2 (.t 4) (.t 25), none⟩]) <|
 .ret⟩

def l29_0b : DC :=
 .seq (.reg [
 ⟨some 14, .bin .lss .sc (.t 13) (.t 12), none⟩]) <|
 .seq (.cond (.t 14)
 (.skip)
 (.exit 0)) <|
 .seq (.block 1 <|
 .seq (.reg [
 ⟨some 15, .mv (.t 13), none⟩,
 ⟨some 5, .mv (.t 15), none⟩]) <|
 .seq (.reg [
 ⟨some 16, .mv (.t 0), none⟩,
 ⟨some 17, .mv (.t 5), none⟩,
 ⟨some 18, .call .ro 56 [(.t 16), (.t 17)], none⟩,
 ⟨some 19, .mv (.t 1), none⟩,
 ⟨some 20, .call .blind 55 [(.t 18), (.t 19)], none⟩]) <|
 .cond (.t 20)
 (.seq (.reg [
 ⟨some 21, .mv (.t 5), none⟩,
 ⟨some 4, .mv (.t 21), none⟩]) <|
 .ret)
 (.skip)) <|
 .reg [
 ⟨some 22, .bin .add .sc (.t 13) (.k (.int .i64 1)), none⟩,
 ⟨some 13, .mv (.t 22), none⟩]
def l29_0 : DC := .loop [0, 1, 12, 13] [] l29_0b
def f29 : DFn := ⟨2, [.t 4],
 .seq (.reg [
 ⟨some 4, .mv (.k (.int .i64 0)), none⟩]) <|
 .seq (.seq (.reg [
 ⟨some 6, .mv (.t 0), none⟩,
 ⟨some 7, .bin .eql .np (.t 6) (.k (.nilp)), none⟩]) <|
 .cond (.t 7)
 (.seq (.reg [
 ⟨some 4, .mv (.k (.int .i64 (-1))), none⟩]) <|
 .ret)
 (.skip)) <|
 .seq (.seq (.reg [
 ⟨some 8, .mv (.t 0), none⟩,
 ⟨some 9, .nilck (.t 8), none⟩,
 ⟨some 10, .fld 4 (.t 9), none⟩,
 ⟨some 11, .ld 1 false (.t 10), none⟩,
 ⟨some 12, .len (.t 11), none⟩,
 ⟨some 13, .mv (.k (.int .i64 0)), none⟩]) <|
 .block 0 <|
 l29_0) <|
 .seq (.reg [
 ⟨some 4, .mv (.k (.int .i64 (-1))), none⟩]) <|
 .ret⟩

def l30_2b : DC :=
 .seq (.seq (.reg [
 ⟨some 61, .mv (.t 13), none⟩,
 ⟨some 62, .mv (.t 11), none⟩,
 ⟨some 63, .len (.t 62), none⟩,
 ⟨some 64, .bin .lss .sc (.t 61) (.t 63), none⟩]) <|
 .cond (.t 64)
 (.skip)
 (.exit 4)) <|
 .seq (.block 5 <|
 .seq (.drw [
 ⟨some 67, .mv (.t 10), none⟩,
 ⟨some 68, .mv (.t 12), none⟩,
 ⟨some 69, .idx 2 (.t 67) (.t 68), none⟩,
 ⟨some 70, .fld 0 (.t 69), none⟩,
 ⟨some 71, .ld 1 false (.t 70), none⟩,
 ⟨some 72, .mv (.t 11), none⟩,
 ⟨some 73, .mv (.t 13), none⟩,
 ⟨some 74, .idx 2 (.t 72) (.t 73), none⟩,
 ⟨some 75, .fld 0 (.t 74), none⟩,
 ⟨some 76, .ld 1 false (.t 75), none⟩,
 ⟨some 77, .bin .eql .sc (.t 71) (.t 76), none⟩,
 ⟨some 78, .mv (.t 77), none⟩,
 ⟨some 79, .mv (.t 10), some (78, true)⟩,
 ⟨some 80, .mv (.t 12), some (78, true)⟩,
 ⟨some 81, .idx 2 (.t 79) (.t 80), some (78, true)⟩,
 ⟨some 82, .fld 1 (.t 81), some (78, true)⟩,
 ⟨some 83, .ld 1 false (.t 82), some (78, true)⟩,
 ⟨some 84, .mv (.t 11), some (78, true)⟩,
 ⟨some 85, .mv (.t 13), some (78, true)⟩,
 ⟨some 86, .idx 2 (.t 84) (.t 85), some (78, true)⟩,
 ⟨some 87, .fld 1 (.t 86), some (78, true)⟩,
 ⟨some 88, .ld 1 false (.t 87), some (78, true)⟩,
 ⟨some 89, .bin .neq .bl (.t 83) (.t 88), some (78, true)⟩,
 ⟨some 90, .pick (.t 78) (.t 89) (.k (.bool false)), none⟩] [[], [], [], [], [2], [], [], [], [], [7], [], [], [], [], [2, 4, 7, 9], [], [2, 4, 7, 9, 14], [], [], [2, 4, 7, 9], [], [2, 4, 7, 9, 19], [], []]) <|
 .cond (.t 90)
 (.seq (.reg [
 ⟨some 6, .mv (.k (.bool true)), none⟩]) <|
 .ret)
 (.skip)) <|
 .reg [
 ⟨some 65, .mv (.t 13), none⟩,
 ⟨some 66, .bin .add .sc (.t 65) (.k (.int .i64 1)), none⟩,
 ⟨some 13, .mv (.t 66), none⟩]
def l30_2 : DC := .loop [10, 11, 12, 13] [] l30_2b
def l30_1b : DC :=
 .seq (.seq (.reg [
 ⟨some 55, .mv (.t 12), none⟩,
 ⟨some 56, .mv (.t 10), none⟩,
 ⟨some 57, .len (.t 56), none⟩,
 ⟨some 58, .bin .lss .sc (.t 55) (.t 57), none⟩]) <|
 .cond (.t 58)
 (.skip)
 (.exit 2)) <|
 .seq (.block 3 <|
 .seq (.reg [
 ⟨some 13, .mv (.k (.int .i64 0)), none⟩]) <|
 .block 4 <|
 l30_2) <|
 .reg [
 ⟨some 59, .mv (.t 12), none⟩,
 ⟨some 60, .bin .add .sc (.t 59) (.k (.int .i64 1)), none⟩,
 ⟨some 12, .mv (.t 60), none⟩]
def l30_1 : DC := .loop [10, 11, 12] [] l30_1b
def l30_0b : DC :=
 .seq (.seq (.reg [
 ⟨some 34, .mv (.t 9), none⟩,
 ⟨some 35, .fld 3 (.t 7), none⟩,
 ⟨some 36, .ld 1 false (.t 35), none⟩,
 ⟨some 37, .len (.t 36), none⟩,
 ⟨some 38, .bin .lss .sc (.t 34) (.t 37), none⟩]) <|
 .cond (.t 38)
 (.skip)
 (.exit 0)) <|
 .seq (.block 1 <|
 .seq (.drw [
 ⟨some 41, .fld 3 (.t 8), none⟩,
 ⟨some 42, .ld 1 false (.t 41), none⟩,
 ⟨some 43, .fld 3 (.t 7), none⟩,
 ⟨some 44, .ld 1 false (.t 43), none⟩,
 ⟨some 45, .mv (.t 9), none⟩,
 ⟨some 46, .idx 1 (.t 44) (.t 45), none⟩,
 ⟨some 47, .ld 1 false (.t 46), none⟩,
 ⟨some 48, .call .blind 57 [(.t 42), (.t 47)], none⟩] [[], [], [], [], [], [3], [3, 5], [1, 3, 5, 6]]) <|
 .cond (.t 48)
 (.seq (.reg [
 ⟨some 6, .mv (.k (.bool true)), none⟩]) <|
 .ret)
 (.skip)) <|
 .reg [
 ⟨some 39, .mv (.t 9), none⟩,
 ⟨some 40, .bin .add .sc (.t 39) (.k (.int .i64 1)), none⟩,
 ⟨some 9, .mv (.t 40), none⟩]
def l30_0 : DC := .loop [1, 2, 3, 7, 8, 9] [3, 7, 8] l30_0b
def f30 : DFn := ⟨3, [.t 6],
 .seq (.reg [
 ⟨some 3, .boxL (.t 0), none⟩,
 ⟨some 6, .mv (.k (.bool false)), none⟩]) <|
 .seq (.drw [
 ⟨some 14, .fld 3 (.t 3), none⟩,
 ⟨some 15, .ld 1 false (.t 14), none⟩,
 ⟨some 16, .mv (.t 1), none⟩,
 ⟨some 17, .idx 6 (.t 15) (.t 16), none⟩,
 ⟨some 18, .ld 6 true (.t 17), none⟩,
 ⟨some 19, .fld 3 (.t 3), none⟩,
 ⟨some 20, .ld 1 false (.t 19), none⟩,
 ⟨some 21, .mv (.t 2), none⟩,
 ⟨some 22, .idx 6 (.t 20) (.t 21), none⟩,
 ⟨some 23, .ld 6 true (.t 22), none⟩,
 ⟨some 7, .alL [.str [], .int .i64 0, .int .i64 0, .nils, .nils, .nils], none⟩,
 ⟨some 8, .alL [.str [], .int .i64 0, .int .i64 0, .nils, .nils, .nils], none⟩,
 ⟨none, .st 6 (.t 7) (.t 18), none⟩,
 ⟨none, .st 6 (.t 8) (.t 23), none⟩] [[], [], [], [1], [1, 3], [], [], [], [6], [6, 8], [], [], [1, 3, 4, 10, 11], [1, 3, 4, 6, 8, 9, 10, 11, 12]]) <|
 .seq (.seq (.reg [
 ⟨some 24, .mv (.t 1), none⟩,
 ⟨some 25, .mv (.t 2), none⟩,
 ⟨some 26, .bin .eql .sc (.t 24) (.t 25), none⟩,
 ⟨some 27, .mv (.t 26), none⟩,
 ⟨some 28, .fld 1 (.t 7), some (27, false)⟩,
 ⟨some 29, .ld 1 false (.t 28), some (27, false)⟩,
 ⟨some 30, .fld 1 (.t 8), some (27, false)⟩,
 ⟨some 31, .ld 1 false (.t 30), some (27, false)⟩,
 ⟨some 32, .bin .eql .sc (.t 29) (.t 31), some (27, false)⟩,
 ⟨some 33, .pick (.t 27) (.k (.bool true)) (.t 32), none⟩]) <|
 .cond (.t 33)
 (.seq (.reg [
 ⟨some 6, .mv (.k (.bool true)), none⟩]) <|
 .ret)
 (.skip)) <|
 .seq (.seq (.reg [
 ⟨some 9, .mv (.k (.int .i64 0)), none⟩]) <|
 .block 0 <|
 l30_0) <|
 .seq (.drw [
 ⟨some 49, .ld 4 true (.t 3), none⟩,
 ⟨some 50, .mv (.t 1), none⟩,
 ⟨some 51, .call .blind 51 [(.t 49), (.t 50)], none⟩,
 ⟨some 52, .ld 4 true (.t 3), none⟩,
 ⟨some 53, .mv (.t 2), none⟩,
 ⟨some 54, .call .blind 51 [(.t 52), (.t 53)], none⟩,
 ⟨some 10, .mv (.t 51), none⟩,
 ⟨some 11, .mv (.t 54), none⟩] [[], [], [0], [], [], [0, 2, 3], [], []]) <|
 .seq (.seq (.reg [
 ⟨some 12, .mv (.k (.int .i64 0)), none⟩]) <|
 .block 2 <|
 l30_1) <|
 .seq (.reg [
 ⟨some 6, .mv (.k (.bool false)), none⟩]) <|
 .ret⟩

def f31 : DFn := ⟨1, [.t 2],
 .seq (.reg [
 ⟨some 1, .boxL (.t 0), none⟩,
 ⟨some 2, .mv (.k (.bool false)), none⟩]) <|
 .seq (.reg [
 ⟨some 3, .fld 0 (.t 1), none⟩,
 ⟨some 4, .ld 1 false (.t 3), none⟩,
 ⟨some 5, .len (.t 4), none⟩,
 ⟨some 6, .bin .gtr .sc (.t 5) (.k (.int .i64 50)), none⟩,
 ⟨some 7, .mv (.t 6), none⟩,
 ⟨some 8, .fld 1 (.t 1), some (7, false)⟩,
 ⟨some 9, .ld 1 false (.t 8), some (7, false)⟩,
 ⟨some 10, .len (.t 9), some (7, false)⟩,
 ⟨some 11, .bin .gtr .sc (.t 10) (.k (.int .i64 50)), some (7, false)⟩,
 ⟨some 12, .pick (.t 7) (.k (.bool true)) (.t 11), none⟩,
 ⟨some 2, .mv (.t 12), none⟩]) <|
 .ret⟩

def l32_1b : DC :=
 .seq (.seq (.reg [
 ⟨some 17, .mv (.t 4), none⟩,
 ⟨some 18, .mv (.t 3), none⟩,
 ⟨some 19, .bin .lss .sc (.t 17) (.t 18), none⟩]) <|
 .cond (.t 19)
 (.skip)
 (.exit 2)) <|
 .seq (.block 3 <|
 .seq (.drw [
 ⟨some 22, .mv (.t 0), none⟩,
 ⟨some 23, .mv (.t 4), none⟩,
 ⟨some 24, .idx 1 (.t 22) (.t 23), none⟩,
 ⟨some 25, .ld 1 false (.t 24), none⟩,
 ⟨some 26, .mv (.t 0), none⟩,
 ⟨some 27, .mv (.t 3), none⟩,
 ⟨some 28, .idx 1 (.t 26) (.t 27), none⟩,
 ⟨some 29, .ld 1 false (.t 28), none⟩,
 ⟨some 30, .bin .eql .sc (.t 25) (.t 29), none⟩] [[], [], [], [2], [], [], [], [6], []]) <|
 .cond (.t 30)
 (.seq (.reg [
 ⟨some 2, .mv (.k (.bool false)), none⟩]) <|
 .ret)
 (.skip)) <|
 .reg [
 ⟨some 20, .mv (.t 4), none⟩,
 ⟨some 21, .bin .add .sc (.t 20) (.k (.int .i64 1)), none⟩,
 ⟨some 4, .mv (.t 21), none⟩]
def l32_1 : DC := .loop [0, 3, 4] [] l32_1b
def l32_0b : DC :=
 .seq (.seq (.reg [
 ⟨some 5, .mv (.t 3), none⟩,
 ⟨some 6, .mv (.t 0), none⟩,
 ⟨some 7, .len (.t 6), none⟩,
 ⟨some 8, .bin .lss .sc (.t 5) (.t 7), none⟩]) <|
 .cond (.t 8)
 (.skip)
 (.exit 0)) <|
 .seq (.block 1 <|
 .seq (.seq (.reg [
 ⟨some 11, .mv (.t 0), none⟩,
 ⟨some 12, .mv (.t 3), none⟩,
 ⟨some 13, .idx 1 (.t 11) (.t 12), none⟩,
 ⟨some 14, .ld 1 false (.t 13), none⟩,
 ⟨some 15, .call .blind 58 [(.t 14)], none⟩,
 ⟨some 16, .un .not (.t 15), none⟩]) <|
 .cond (.t 16)
 (.seq (.reg [
 ⟨some 2, .mv (.k (.bool false)), none⟩]) <|
 .ret)
 (.skip)) <|
 .seq (.reg [
 ⟨some 4, .mv (.k (.int .i64 0)), none⟩]) <|
 .block 2 <|
 l32_1) <|
 .reg [
 ⟨some 9, .mv (.t 3), none⟩,
 ⟨some 10, .bin .add .sc (.t 9) (.k (.int .i64 1)), none⟩,
 ⟨some 3, .mv (.t 10), none⟩]
def l32_0 : DC := .loop [0, 3] [] l32_0b
def f32 : DFn := ⟨1, [.t 2],
 .seq (.reg [
 ⟨some 2, .mv (.k (.bool false)), none⟩]) <|
 .seq (.seq (.reg [
 ⟨some 3, .mv (.k (.int .i64 0)), none⟩]) <|
 .block 0 <|
 l32_0) <|
 .seq (.reg [
 ⟨some 2, .mv (.k (.bool true)), none⟩]) <|
 .ret⟩

def l33_1b : DC :=
 .seq (.seq (.reg [
 ⟨some 87, .mv (.t 7), none⟩,
 ⟨some 88, .fld 1 (.t 2), none⟩,
 ⟨some 89, .ld 1 false (.t 88), none⟩,
 ⟨some 90, .len (.t 89), none⟩,
 ⟨some 91, .bin .lss .sc (.t 87) (.t 90), none⟩]) <|
 .cond (.t 91)
 (.skip)
 (.exit 2)) <|
 .seq (.block 3 <|
 .seq (.drw [
 ⟨some 94, .fld 3 (.t 3), none⟩,
 ⟨some 95, .ld 1 false (.t 94), none⟩,
 ⟨some 96, .fld 1 (.t 2), none⟩,
 ⟨some 97, .ld 1 false (.t 96), none⟩,
 ⟨some 98, .mv (.t 7), none⟩,
 ⟨some 99, .idx 2 (.t 97) (.t 98), none⟩,
 ⟨some 100, .fld 1 (.t 99), none⟩,
 ⟨some 101, .ld 1 false (.t 100), none⟩,
 ⟨some 102, .call .blind 57 [(.t 95), (.t 101)], none⟩] [[], [], [], [], [], [3], [], [3, 5], [1, 3, 5, 7]]) <|
 .cond (.t 102)
 (.reg [
 ⟨some 103, .mv (.t 6), none⟩,
 ⟨some 104, .bin .add .sc (.t 103) (.k (.int .i64 1)), none⟩,
 ⟨some 6, .mv (.t 104), none⟩])
 (.skip)) <|
 .reg [
 ⟨some 92, .mv (.t 7), none⟩,
 ⟨some 93, .bin .add .sc (.t 92) (.k (.int .i64 1)), none⟩,
 ⟨some 7, .mv (.t 93), none⟩]
def l33_1 : DC := .loop [2, 3, 6, 7] [2, 3] l33_1b
def l33_0b : DC :=
 .seq (.seq (.reg [
 ⟨some 51, .mv (.t 5), none⟩,
 ⟨some 52, .fld 3 (.t 3), none⟩,
 ⟨some 53, .ld 1 false (.t 52), none⟩,
 ⟨some 54, .len (.t 53), none⟩,
 ⟨some 55, .bin .lss .sc (.t 51) (.t 54), none⟩]) <|
 .cond (.t 55)
 (.skip)
 (.exit 0)) <|
 .seq (.block 1 <|
 .seq (.drw [
 ⟨some 58, .fld 3 (.t 3), none⟩,
 ⟨some 59, .ld 1 false (.t 58), none⟩,
 ⟨some 60, .mv (.t 5), none⟩,
 ⟨some 61, .idx 1 (.t 59) (.t 60), none⟩,
 ⟨some 62, .ld 1 false (.t 61), none⟩,
 ⟨some 63, .bin .lss .sc (.t 62) (.k (.int .i64 0)), none⟩,
 ⟨some 64, .mv (.t 63), none⟩,
 ⟨some 65, .fld 3 (.t 3), some (64, false)⟩,
 ⟨some 66, .ld 1 false (.t 65), some (64, false)⟩,
 ⟨some 67, .mv (.t 5), some (64, false)⟩,
 ⟨some 68, .idx 1 (.t 66) (.t 67), some (64, false)⟩,
 ⟨some 69, .ld 1 false (.t 68), some (64, false)⟩,
 ⟨some 70, .fld 0 (.t 2), some (64, false)⟩,
 ⟨some 71, .ld 1 false (.t 70), some (64, false)⟩,
 ⟨some 72, .len (.t 71), some (64, false)⟩,
 ⟨some 73, .bin .geq .sc (.t 69) (.t 72), some (64, false)⟩,
 ⟨some 74, .pick (.t 64) (.k (.bool true)) (.t 73), none⟩,
 ⟨some 75, .mv (.t 74), none⟩,
 ⟨some 76, .fld 3 (.t 3), some (75, false)⟩,
 ⟨some 77, .ld 1 false (.t 76), some (75, false)⟩,
 ⟨some 78, .mv (.t 5), some (75, false)⟩,
 ⟨some 79, .slc 1 (.t 77) none (some (.t 78)) none, some (75, false)⟩,
 ⟨some 80, .fld 3 (.t 3), some (75, false)⟩,
 ⟨some 81, .ld 1 false (.t 80), some (75, false)⟩,
 ⟨some 82, .mv (.t 5), some (75, false)⟩,
 ⟨some 83, .idx 1 (.t 81) (.t 82), some (75, false)⟩,
 ⟨some 84, .ld 1 false (.t 83), some (75, false)⟩,
 ⟨some 85, .call .blind 57 [(.t 79), (.t 84)], some (75, false)⟩,
 ⟨some 86, .pick (.t 75) (.k (.bool true)) (.t 85), none⟩] [[], [], [], [1], [1, 3], [], [], [], [1, 3, 4], [], [1, 3, 4, 8], [1, 3, 4, 8, 10], [], [1, 3, 4], [], [], [], [], [], [1, 3, 4, 8, 10, 11, 13], [], [], [], [1, 3, 4, 8, 10, 11, 13], [], [1, 3, 4, 8, 10, 11, 13, 23], [1, 3, 4, 8, 10, 11, 13, 23, 25], [1, 3, 4, 8, 10, 11, 13, 19, 23, 25, 26], []]) <|
 .cond (.t 86)
 (.seq (.reg [
 ⟨some 4, .mv (.k (.bool false)), none⟩]) <|
 .ret)
 (.skip)) <|
 .reg [
 ⟨some 56, .mv (.t 5), none⟩,
 ⟨some 57, .bin .add .sc (.t 56) (.k (.int .i64 1)), none⟩,
 ⟨some 5, .mv (.t 57), none⟩]
def l33_0 : DC := .loop [2, 3, 5] [2, 3] l33_0b
def f33 : DFn := ⟨2, [.t 4],
 .seq (.reg [
 ⟨some 2, .boxL (.t 0), none⟩,
 ⟨some 3, .boxL (.t 1), none⟩,
 ⟨some 4, .mv (.k (.bool false)), none⟩]) <|
 .seq (.seq (.reg [
 ⟨some 8, .fld 1 (.t 3), none⟩,
 ⟨some 9, .ld 1 false (.t 8), none⟩,
 ⟨some 10, .bin .lss .sc (.t 9) (.k (.int .i64 0)), none⟩,
 ⟨some 11, .mv (.t 10), none⟩,
 ⟨some 12, .fld 1 (.t 3), some (11, false)⟩,
 ⟨some 13, .ld 1 false (.t 12), some (11, false)⟩,
 ⟨some 14, .fld 2 (.t 2), some (11, false)⟩,
 ⟨some 15, .ld 1 false (.t 14), some (11, false)⟩,
 ⟨some 16, .len (.t 15), some (11, false)⟩,
 ⟨some 17, .bin .geq .sc (.t 13) (.t 16), some (11, false)⟩,
 ⟨some 18, .pick (.t 11) (.k (.bool true)) (.t 17), none⟩,
 ⟨some 19, .mv (.t 18), none⟩,
 ⟨some 20, .fld 2 (.t 3), some (19, false)⟩,
 ⟨some 21, .ld 1 false (.t 20), some (19, false)⟩,
 ⟨some 22, .bin .lss .sc (.t 21) (.k (.int .i64 0)), some (19, false)⟩,
 ⟨some 23, .pick (.t 19) (.k (.bool true)) (.t 22), none⟩,
 ⟨some 24, .mv (.t 23), none⟩,
 ⟨some 25, .fld 2 (.t 3), some (24, false)⟩,
 ⟨some 26, .ld 1 false (.t 25), some (24, false)⟩,
 ⟨some 27, .fld 2 (.t 2), some (24, false)⟩,
 ⟨some 28, .ld 1 false (.t 27), some (24, false)⟩,
 ⟨some 29, .len (.t 28), some (24, false)⟩,
 ⟨some 30, .bin .geq .sc (.t 26) (.t 29), some (24, false)⟩,
 ⟨some 31, .pick (.t 24) (.k (.bool true)) (.t 30), none⟩,
 ⟨some 32, .mv (.t 31), none⟩,
 ⟨some 33, .fld 1 (.t 3), some (32, false)⟩,
 ⟨some 34, .ld 1 false (.t 33), some (32, false)⟩,
 ⟨some 35, .fld 2 (.t 3), some (32, false)⟩,
 ⟨some 36, .ld 1 false (.t 35), some (32, false)⟩,
 ⟨some 37, .bin .eql .sc (.t 34) (.t 36), some (32, false)⟩,
 ⟨some 38, .pick (.t 32) (.k (.bool true)) (.t 37), none⟩,
 ⟨some 39, .mv (.t 38), none⟩,
 ⟨some 40, .fld 3 (.t 3), some (39, false)⟩,
 ⟨some 41, .ld 1 false (.t 40), some (39, false)⟩,
 ⟨some 42, .len (.t 41), some (39, false)⟩,
 ⟨some 43, .bin .lss .sc (.t 42) (.k (.int .i64 1)), some (39, false)⟩,
 ⟨some 44, .pick (.t 39) (.k (.bool true)) (.t 43), none⟩,
 ⟨some 45, .mv (.t 44), none⟩,
 ⟨some 46, .fld 3 (.t 3), some (45, false)⟩,
 ⟨some 47, .ld 1 false (.t 46), some (45, false)⟩,
 ⟨some 48, .len (.t 47), some (45, false)⟩,
 ⟨some 49, .bin .gtr .sc (.t 48) (.k (.int .i64 5)), some (45, false)⟩,
 ⟨some 50, .pick (.t 45) (.k (.bool true)) (.t 49), none⟩]) <|
 .cond (.t 50)
 (.seq (.reg [
 ⟨some 4, .mv (.k (.bool false)), none⟩]) <|
 .ret)
 (.skip)) <|
 .seq (.seq (.reg [
 ⟨some 5, .mv (.k (.int .i64 0)), none⟩]) <|
 .block 0 <|
 l33_0) <|
 .seq (.reg [
 ⟨some 6, .mv (.k (.int .i64 0)), none⟩]) <|
 .seq (.seq (.reg [
 ⟨some 7, .mv (.k (.int .i64 0)), none⟩]) <|
 .block 2 <|
 l33_1) <|
 .seq (.reg [
 ⟨some 105, .fld 4 (.t 3), none⟩,
 ⟨some 106, .ld 1 false (.t 105), none⟩,
 ⟨some 107, .len (.t 106), none⟩,
 ⟨some 108, .mv (.t 6), none⟩,
 ⟨some 109, .bin .eql .sc (.t 107) (.t 108), none⟩,
 ⟨some 110, .mv (.t 109), none⟩,
 ⟨some 111, .ld 4 true (.t 2), some (110, true)⟩,
 ⟨some 112, .fld 4 (.t 3), some (110, true)⟩,
 ⟨some 113, .ld 1 false (.t 112), some (110, true)⟩,
 ⟨some 114, .fld 3 (.t 3), some (110, true)⟩,
 ⟨some 115, .ld 1 false (.t 114), some (110, true)⟩,
 ⟨some 116, .call .blind 59 [(.t 111), (.t 113), (.t 115), (.k (.bool true))], some (110, true)⟩,
 ⟨some 117, .pick (.t 110) (.t 116) (.k (.bool false)), none⟩,
 ⟨some 118, .mv (.t 117), none⟩,
 ⟨some 119, .ld 4 true (.t 2), some (118, true)⟩,
 ⟨some 120, .fld 5 (.t 3), some (118, true)⟩,
 ⟨some 121, .ld 1 false (.t 120), some (118, true)⟩,
 ⟨some 122, .fld 3 (.t 3), some (118, true)⟩,
 ⟨some 123, .ld 1 false (.t 122), some (118, true)⟩,
 ⟨some 124, .call .blind 59 [(.t 119), (.t 121), (.t 123), (.k (.bool false))], some (118, true)⟩,
 ⟨some 125, .pick (.t 118) (.t 124) (.k (.bool false)), none⟩,
 ⟨some 4, .mv (.t 125), none⟩]) <|
 .ret⟩

def l34_1b : DC :=
 .seq (.reg [
 ⟨some 58, .bin .lss .sc (.t 57) (.t 56), none⟩]) <|
 .seq (.cond (.t 58)
 (.skip)
 (.exit 2)) <|
 .seq (.block 3 <|
 .seq (.reg [
 ⟨some 59, .idx 6 (.t 55) (.t 57), none⟩,
 ⟨some 60, .ld 6 true (.t 59), none⟩,
 ⟨some 8, .alL [.str [], .int .i64 0, .int .i64 0, .nils, .nils, .nils], none⟩,
 ⟨none, .st 6 (.t 8) (.t 60), none⟩]) <|
 .seq (.reg [
 ⟨some 61, .mv (.t 4), none⟩,
 ⟨some 62, .fld 0 (.t 8), none⟩,
 ⟨some 63, .ld 1 false (.t 62), none⟩,
 ⟨some 64, .bsl false 1 [.str []] 1 [(0, (.t 63))], none⟩,
 ⟨some 65, .app 1 16 (.t 61) (.t 64), none⟩,
 ⟨some 4, .mv (.t 65), none⟩]) <|
 .seq (.reg [
 ⟨some 66, .ld 4 true (.t 1), none⟩,
 ⟨some 67, .ld 6 true (.t 8), none⟩,
 ⟨some 68, .call .blind 61 [(.t 66), (.t 67)], none⟩,
 ⟨some 69, .un .not (.t 68), none⟩]) <|
 .cond (.t 69)
 (.seq (.reg [
 ⟨some 2, .mv (.k (.bool false)), none⟩]) <|
 .ret)
 (.skip)) <|
 .reg [
 ⟨some 70, .bin .add .sc (.t 57) (.k (.int .i64 1)), none⟩,
 ⟨some 57, .mv (.t 70), none⟩]
def l34_1 : DC := .loop [1, 3, 4, 55, 56, 57] [1] l34_1b
def l34_0b : DC :=
 .seq (.reg [
 ⟨some 37, .bin .lss .sc (.t 36) (.t 35), none⟩]) <|
 .seq (.cond (.t 37)
 (.skip)
 (.exit 0)) <|
 .seq (.block 1 <|
 .seq (.reg [
 ⟨some 38, .idx 2 (.t 34) (.t 36), none⟩,
 ⟨some 39, .ld 2 true (.t 38), none⟩,
 ⟨some 6, .alL [.str [], .int .i64 0], none⟩,
 ⟨none, .st 2 (.t 6) (.t 39), none⟩]) <|
 .seq (.reg [
 ⟨some 40, .mv (.t 3), none⟩,
 ⟨some 41, .fld 0 (.t 6), none⟩,
 ⟨some 42, .ld 1 false (.t 41), none⟩,
 ⟨some 43, .bsl false 1 [.str []] 1 [(0, (.t 42))], none⟩,
 ⟨some 44, .app 1 16 (.t 40) (.t 43), none⟩,
 ⟨some 3, .mv (.t 44), none⟩]) <|
 .seq (.reg [
 ⟨some 45, .fld 1 (.t 6), none⟩,
 ⟨some 46, .ld 1 false (.t 45), none⟩,
 ⟨some 47, .fld 0 (.t 1), none⟩,
 ⟨some 48, .ld 1 false (.t 47), none⟩,
 ⟨some 49, .len (.t 48), none⟩,
 ⟨some 50, .bin .sub .sc (.t 49) (.k (.int .i64 1)), none⟩,
 ⟨some 51, .call .blind 60 [(.t 46), (.k (.int .i64 0)), (.t 50)], none⟩,
 ⟨some 52, .un .not (.t 51), none⟩]) <|
 .cond (.t 52)
 (.seq (.reg [
 ⟨some 2, .mv (.k (.bool false)), none⟩]) <|
 .ret)
 (.skip)) <|
 .reg [
 ⟨some 53, .bin .add .sc (.t 36) (.k (.int .i64 1)), none⟩,
 ⟨some 36, .mv (.t 53), none⟩]
def l34_0 : DC := .loop [1, 3, 4, 34, 35, 36] [1] l34_0b
def f34 : DFn := ⟨1, [.t 2],
 .seq (.reg [
 ⟨some 1, .boxL (.t 0), none⟩,
 ⟨some 2, .mv (.k (.bool false)), none⟩]) <|
 .seq (.reg [
 ⟨some 3, .mv (.k (.nils)), none⟩,
 ⟨some 4, .mv (.k (.nils)), none⟩]) <|
 .seq (.seq (.reg [
 ⟨some 9, .fld 0 (.t 1), none⟩,
 ⟨some 10, .ld 1 false (.t 9), none⟩,
 ⟨some 11, .len (.t 10), none⟩,
 ⟨some 12, .call .blind 60 [(.t 11), (.k (.int .i64 1)), (.k (.int .i64 10))], none⟩,
 ⟨some 13, .un .not (.t 12), none⟩,
 ⟨some 14, .mv (.t 13), none⟩,
 ⟨some 15, .fld 2 (.t 1), some (14, false)⟩,
 ⟨some 16, .ld 1 false (.t 15), some (14, false)⟩,
 ⟨some 17, .len (.t 16), some (14, false)⟩,
 ⟨some 18, .call .blind 60 [(.t 17), (.k (.int .i64 1)), (.k (.int .i64 6))], some (14, false)⟩,
 ⟨some 19, .un .not (.t 18), some (14, false)⟩,
 ⟨some 20, .pick (.t 14) (.k (.bool true)) (.t 19), none⟩,
 ⟨some 21, .mv (.t 20), none⟩,
 ⟨some 22, .fld 1 (.t 1), some (21, false)⟩,
 ⟨some 23, .ld 1 false (.t 22), some (21, false)⟩,
 ⟨some 24, .len (.t 23), some (21, false)⟩,
 ⟨some 25, .bin .gtr .sc (.t 24) (.k (.int .i64 5)), some (21, false)⟩,
 ⟨some 26, .pick (.t 21) (.k (.bool true)) (.t 25), none⟩,
 ⟨some 27, .mv (.t 26), none⟩,
 ⟨some 28, .fld 3 (.t 1), some (27, false)⟩,
 ⟨some 29, .ld 1 false (.t 28), some (27, false)⟩,
 ⟨some 30, .len (.t 29), some (27, false)⟩,
 ⟨some 31, .bin .gtr .sc (.t 30) (.k (.int .i64 6)), some (27, false)⟩,
 ⟨some 32, .pick (.t 27) (.k (.bool true)) (.t 31), none⟩]) <|
 .cond (.t 32)
 (.seq (.reg [
 ⟨some 2, .mv (.k (.bool false)), none⟩]) <|
 .ret)
 (.skip)) <|
 .seq (.seq (.reg [
 ⟨some 33, .fld 1 (.t 1), none⟩,
 ⟨some 34, .ld 1 false (.t 33), none⟩,
 ⟨some 35, .len (.t 34), none⟩,
 ⟨some 36, .mv (.k (.int .i64 0)), none⟩]) <|
 .block 0 <|
 l34_0) <|
 .seq (.seq (.reg [
 ⟨some 54, .fld 3 (.t 1), none⟩,
 ⟨some 55, .ld 1 false (.t 54), none⟩,
 ⟨some 56, .len (.t 55), none⟩,
 ⟨some 57, .mv (.k (.int .i64 0)), none⟩]) <|
 .block 2 <|
 l34_1) <|
 .seq (.reg [
 ⟨some 71, .fld 0 (.t 1), none⟩,
 ⟨some 72, .ld 1 false (.t 71), none⟩,
 ⟨some 73, .call .blind 62 [(.t 72)], none⟩,
 ⟨some 74, .mv (.t 73), none⟩,
 ⟨some 75, .fld 2 (.t 1), some (74, true)⟩,
 ⟨some 76, .ld 1 false (.t 75), some (74, true)⟩,
 ⟨some 77, .call .blind 62 [(.t 76)], some (74, true)⟩,
 ⟨some 78, .pick (.t 74) (.t 77) (.k (.bool false)), none⟩,
 ⟨some 79, .mv (.t 78), none⟩,
 ⟨some 80, .mv (.t 3), some (79, true)⟩,
 ⟨some 81, .call .blind 62 [(.t 80)], some (79, true)⟩,
 ⟨some 82, .pick (.t 79) (.t 81) (.k (.bool false)), none⟩,
 ⟨some 83, .mv (.t 82), none⟩,
 ⟨some 84, .mv (.t 4), some (83, true)⟩,
 ⟨some 85, .call .blind 62 [(.t 84)], some (83, true)⟩,
 ⟨some 86, .pick (.t 83) (.t 85) (.k (.bool false)), none⟩,
 ⟨some 2, .mv (.t 86), none⟩]) <|
 .ret⟩

def l35_0b : DC :=
 .seq (.reg [
 ⟨some 25, .bin .lss .sc (.t 24) (.t 23), none⟩]) <|
 .seq (.cond (.t 25)
 (.skip)
 (.exit 0)) <|
 .seq (.block 1 <|
 .seq (.reg [
 ⟨some 26, .mv (.t 24), none⟩,
 ⟨some 27, .idx 6 (.t 22) (.t 24), none⟩,
 ⟨some 28, .ld 6 true (.t 27), none⟩,
 ⟨some 4, .alL [.str [], .int .i64 0, .int .i64 0, .nils, .nils, .nils], none⟩,
 ⟨some 3, .mv (.t 26), none⟩,
 ⟨none, .st 6 (.t 4) (.t 28), none⟩]) <|
 .seq (.drw [
 ⟨some 29, .fld 3 (.t 4), none⟩,
 ⟨some 30, .ld 1 false (.t 29), none⟩,
 ⟨some 31, .call .blind 66 [(.t 30)], none⟩,
 ⟨some 32, .fld 4 (.t 4), none⟩,
 ⟨some 33, .ld 1 false (.t 32), none⟩,
 ⟨some 34, .call .blind 67 [(.t 33)], none⟩,
 ⟨some 35, .fld 5 (.t 4), none⟩,
 ⟨some 36, .ld 1 false (.t 35), none⟩,
 ⟨some 37, .call .blind 67 [(.t 36)], none⟩,
 ⟨some 38, .fld 3 (.t 4), none⟩,
 ⟨none, .st 1 (.t 38) (.t 31), none⟩,
 ⟨some 39, .fld 4 (.t 4), none⟩,
 ⟨none, .st 1 (.t 39) (.t 34), none⟩,
 ⟨some 40, .fld 5 (.t 4), none⟩,
 ⟨none, .st 1 (.t 40) (.t 37), none⟩] [[], [], [1], [], [], [1, 2, 4], [], [], [1, 2, 4, 5, 7], [], [1, 2, 4, 5, 7, 8], [], [1, 2, 4, 5, 7, 8, 10], [], [1, 2, 4, 5, 7, 8, 10, 12]]) <|
 .reg [
 ⟨some 41, .fld 3 (.t 1), none⟩,
 ⟨some 42, .ld 1 false (.t 41), none⟩,
 ⟨some 43, .mv (.t 3), none⟩,
 ⟨some 44, .ld 6 true (.t 4), none⟩,
 ⟨some 45, .idx 6 (.t 42) (.t 43), none⟩,
 ⟨none, .st 6 (.t 45) (.t 44), none⟩]) <|
 .reg [
 ⟨some 46, .bin .add .sc (.t 24) (.k (.int .i64 1)), none⟩,
 ⟨some 24, .mv (.t 46), none⟩]
def l35_0 : DC := .loop [1, 2, 22, 23, 24] [1, 2] l35_0b
def f35 : DFn := ⟨1, [.cell 2 4 true],
 .seq (.reg [
 ⟨some 1, .boxL (.t 0), none⟩,
 ⟨some 2, .alL [.nils, .nils, .nils, .nils], none⟩]) <|
 .seq (.drw [
 ⟨some 5, .fld 0 (.t 1), none⟩,
 ⟨some 6, .ld 1 false (.t 5), none⟩,
 ⟨some 7, .call .blind 63 [(.t 6)], none⟩,
 ⟨some 8, .fld 1 (.t 1), none⟩,
 ⟨some 9, .ld 1 false (.t 8), none⟩,
 ⟨some 10, .call .blind 64 [(.t 9)], none⟩,
 ⟨some 11, .fld 2 (.t 1), none⟩,
 ⟨some 12, .ld 1 false (.t 11), none⟩,
 ⟨some 13, .call .blind 63 [(.t 12)], none⟩,
 ⟨some 14, .fld 3 (.t 1), none⟩,
 ⟨some 15, .ld 1 false (.t 14), none⟩,
 ⟨some 16, .call .eff 65 [(.t 15)], none⟩,
 ⟨some 17, .fld 0 (.t 1), none⟩,
 ⟨none, .st 1 (.t 17) (.t 7), none⟩,
 ⟨some 18, .fld 1 (.t 1), none⟩,
 ⟨none, .st 1 (.t 18) (.t 10), none⟩,
 ⟨some 19, .fld 2 (.t 1), none⟩,
 ⟨none, .st 1 (.t 19) (.t 13), none⟩,
 ⟨some 20, .fld 3 (.t 1), none⟩,
 ⟨none, .st 1 (.t 20) (.t 16), none⟩] [[], [], [1], [], [], [1, 2, 4], [], [], [1, 2, 4, 5, 7], [], [], [1, 2, 4, 5, 7, 8, 10], [], [1, 2, 4, 5, 7, 8, 10, 11], [], [1, 2, 4, 5, 7, 8, 10, 11, 13], [], [1, 2, 4, 5, 7, 8, 10, 11, 13, 15], [], [1, 2, 4, 5, 7, 8, 10, 11, 13, 15, 17]]) <|
 .seq (.seq (.reg [
 ⟨some 21, .fld 3 (.t 1), none⟩,
 ⟨some 22, .ld 1 false (.t 21), none⟩,
 ⟨some 23, .len (.t 22), none⟩,
 ⟨some 24, .mv (.k (.int .i64 0)), none⟩]) <|
 .block 0 <|
 l35_0) <|
 .seq (.reg [
 ⟨some 47, .ld 4 true (.t 1), none⟩,
 ⟨none, .st 4 (.t 2) (.t 47), none⟩]) <|
 .ret⟩

def f36 : DFn := ⟨2, [.t 4],
 .seq (.reg [
 ⟨some 2, .boxL (.t 0), none⟩,
 ⟨some 3, .boxL (.t 1), none⟩,
 ⟨some 4, .mv (.k (.bool false)), none⟩]) <|
 .seq (.reg [
 ⟨some 5, .mv (.f 68), none⟩]) <|
 .seq (.reg [
 ⟨some 6, .fld 0 (.t 3), none⟩,
 ⟨some 7, .ld 1 false (.t 6), none⟩,
 ⟨some 8, .len (.t 7), none⟩,
 ⟨some 9, .fld 0 (.t 2), none⟩,
 ⟨some 10, .ld 1 false (.t 9), none⟩,
 ⟨some 11, .len (.t 10), none⟩,
 ⟨some 12, .bin .eql .sc (.t 8) (.t 11), none⟩,
 ⟨some 13, .mv (.t 12), none⟩,
 ⟨some 14, .fld 1 (.t 3), some (13, true)⟩,
 ⟨some 15, .ld 1 false (.t 14), some (13, true)⟩,
 ⟨some 16, .len (.t 15), some (13, true)⟩,
 ⟨some 17, .fld 1 (.t 2), some (13, true)⟩,
 ⟨some 18, .ld 1 false (.t 17), some (13, true)⟩,
 ⟨some 19, .len (.t 18), some (13, true)⟩,
 ⟨some 20, .bin .eql .sc (.t 16) (.t 19), some (13, true)⟩,
 ⟨some 21, .pick (.t 13) (.t 20) (.k (.bool false)), none⟩,
 ⟨some 22, .mv (.t 21), none⟩,
 ⟨some 23, .fld 1 (.t 3), some (22, true)⟩,
 ⟨some 24, .ld 1 false (.t 23), some (22, true)⟩,
 ⟨some 25, .mv (.t 5), some (22, true)⟩,
 ⟨some 26, .call .ro 69 [(.t 24), (.t 25)], some (22, true)⟩,
 ⟨some 27, .un .not (.t 26), some (22, true)⟩,
 ⟨some 28, .pick (.t 22) (.t 27) (.k (.bool false)), none⟩,
 ⟨some 4, .mv (.t 28), none⟩]) <|
 .ret⟩

def f37 : DFn := ⟨3, [.t 6],
 .seq (.reg [
 ⟨some 4, .boxL (.t 1), none⟩,
 ⟨some 6, .mv (.k (.int .i64 0)), none⟩]) <|
 .seq (.block 0 <|
 .seq (.reg [
 ⟨some 8, .mv (.t 0), none⟩,
 ⟨some 9, .nilck (.t 8), none⟩,
 ⟨some 10, .fld 4 (.t 9), none⟩,
 ⟨some 11, .ld 1 false (.t 10), none⟩,
 ⟨some 12, .mv (.t 2), none⟩,
 ⟨some 13, .idx 4 (.t 11) (.t 12), none⟩,
 ⟨some 14, .fld 0 (.t 13), none⟩,
 ⟨some 15, .ld 1 false (.t 14), none⟩,
 ⟨some 16, .bin .neq .sc (.t 15) (.k (.int .i64 0)), none⟩,
 ⟨some 7, .mv (.t 16), none⟩]) <|
 .cond (.t 7)
 (.seq (.reg [
 ⟨some 6, .mv (.k (.int .i64 7)), none⟩]) <|
 .ret)
 (.seq (.reg [
 ⟨some 18, .mv (.t 0), none⟩,
 ⟨some 19, .ld 2 true (.t 4), none⟩,
 ⟨some 20, .mv (.t 2), none⟩,
 ⟨some 21, .call .ro 70 [(.t 18), (.t 19), (.t 20)], none⟩,
 ⟨some 22, .un .not (.t 21), none⟩,
 ⟨some 17, .mv (.t 22), none⟩]) <|
 .cond (.t 17)
 (.seq (.reg [
 ⟨some 6, .mv (.k (.int .i64 8)), none⟩]) <|
 .ret)
 (.skip))) <|
 .seq (.reg [
 ⟨some 23, .mv (.t 0), none⟩,
 ⟨some 24, .nilck (.t 23), none⟩,
 ⟨some 25, .fld 4 (.t 24), none⟩,
 ⟨some 26, .ld 1 false (.t 25), none⟩,
 ⟨some 27, .mv (.t 2), none⟩,
 ⟨some 28, .build [.int .i64 0, .int .i64 0, .int .i64 0, .bool false] [(0, 1, (.k (.int .i64 1)))], none⟩,
 ⟨some 29, .idx 4 (.t 26) (.t 27), none⟩,
 ⟨none, .st 4 (.t 29) (.t 28), none⟩]) <|
 .seq (.reg [
 ⟨some 6, .mv (.k (.int .i64 0)), none⟩]) <|
 .ret⟩

def f38 : DFn := ⟨2, [.t 4],
 .seq (.reg [
 ⟨some 4, .mv (.k (.int .i64 0)), none⟩]) <|
 .seq (.seq (.reg [
 ⟨some 5, .mv (.t 0), none⟩,
 ⟨some 6, .nilck (.t 5), none⟩,
 ⟨some 7, .fld 4 (.t 6), none⟩,
 ⟨some 8, .ld 1 false (.t 7), none⟩,
 ⟨some 9, .mv (.t 1), none⟩,
 ⟨some 10, .idx 4 (.t 8) (.t 9), none⟩,
 ⟨some 11, .fld 0 (.t 10), none⟩,
 ⟨some 12, .ld 1 false (.t 11), none⟩]) <|
 .block 0 <|
 .seq (.reg [
 ⟨some 14, .bin .eql .sc (.t 12) (.k (.int .i64 1)), none⟩,
 ⟨some 13, .mv (.t 14), none⟩]) <|
 .cond (.t 13)
 (.reg [
 ⟨some 15, .mv (.t 0), none⟩,
 ⟨some 16, .nilck (.t 15), none⟩,
 ⟨some 17, .fld 4 (.t 16), none⟩,
 ⟨some 18, .ld 1 false (.t 17), none⟩,
 ⟨some 19, .mv (.t 1), none⟩,
 ⟨some 20, .build [.int .i64 0, .int .i64 0, .int .i64 0, .bool false] [], none⟩,
 ⟨some 21, .idx 4 (.t 18) (.t 19), none⟩,
 ⟨none, .st 4 (.t 21) (.t 20), none⟩])
 (.seq (.reg [
 ⟨some 23, .bin .eql .sc (.t 12) (.k (.int .i64 2)), none⟩,
 ⟨some 22, .mv (.t 23), none⟩]) <|
 .cond (.t 22)
 (.reg [
 ⟨some 24, .mv (.t 0), none⟩,
 ⟨some 25, .nilck (.t 24), none⟩,
 ⟨some 26, .fld 4 (.t 25), none⟩,
 ⟨some 27, .ld 1 false (.t 26), none⟩,
 ⟨some 28, .mv (.t 1), none⟩,
 ⟨some 29, .build [.int .i64 0, .int .i64 0, .int .i64 0, .bool false] [(0, 1, (.k (.int .i64 4)))], none⟩,
 ⟨some 30, .idx 4 (.t 27) (.t 28), none⟩,
 ⟨none, .st 4 (.t 30) (.t 29), none⟩])
 (.seq (.reg [
 ⟨some 4, .mv (.k (.int .i64 7)), none⟩]) <|
 .ret))) <|
 .seq (.reg [
 ⟨some 4, .mv (.k (.int .i64 0)), none⟩]) <|
 .ret⟩

def f39 : DFn := ⟨3, [.cell 6 4 true],
 .seq (.reg [
 ⟨some 4, .boxL (.t 1), none⟩,
 ⟨some 6, .alL [.int .i64 0, .int .i64 0, .int .i64 0, .bool false], none⟩]) <|
 .seq (.reg [
 ⟨some 9, .mv (.t 0), none⟩,
 ⟨some 10, .nilck (.t 9), none⟩,
 ⟨some 11, .fld 4 (.t 10), none⟩,
 ⟨some 12, .ld 1 false (.t 11), none⟩,
 ⟨some 13, .mv (.t 2), none⟩,
 ⟨some 14, .idx 4 (.t 12) (.t 13), none⟩,
 ⟨some 15, .ld 4 true (.t 14), none⟩,
 ⟨some 7, .alL [.int .i64 0, .int .i64 0, .int .i64 0, .bool false], none⟩,
 ⟨none, .st 4 (.t 7) (.t 15), none⟩]) <|
 .seq (.drw [
 ⟨some 16, .fld 0 (.t 4), none⟩,
 ⟨some 17, .ld 1 false (.t 16), none⟩,
 ⟨some 18, .mv (.t 0), none⟩,
 ⟨some 19, .nilck (.t 18), none⟩,
 ⟨some 20, .fld 0 (.t 19), none⟩,
 ⟨some 21, .fld 3 (.t 20), none⟩,
 ⟨some 22, .ld 1 false (.t 21), none⟩,
 ⟨some 23, .mv (.t 2), none⟩,
 ⟨some 24, .idx 6 (.t 22) (.t 23), none⟩,
 ⟨some 25, .fld 3 (.t 24), none⟩,
 ⟨some 26, .ld 1 false (.t 25), none⟩,
 ⟨some 27, .idx 1 (.t 26) (.k (.int .i64 0)), none⟩,
 ⟨some 28, .ld 1 false (.t 27), none⟩,
 ⟨some 29, .idx 1 (.t 17) (.t 28), none⟩,
 ⟨some 30, .ld 1 false (.t 29), none⟩,
 ⟨some 8, .mv (.t 30), none⟩] [[], [], [], [], [], [], [], [], [6], [], [6, 8], [6, 8, 10], [6, 8, 10, 11], [1, 6, 8, 10, 11, 12], [1, 6, 8, 10, 11, 12, 13], []]) <|
 .seq (.seq (.reg [
 ⟨some 31, .fld 0 (.t 7), none⟩,
 ⟨some 32, .ld 1 false (.t 31), none⟩]) <|
 .block 0 <|
 .seq (.reg [
 ⟨some 34, .bin .eql .sc (.t 32) (.k (.int .i64 1)), none⟩,
 ⟨some 33, .mv (.t 34), none⟩]) <|
 .cond (.t 33)
 (.seq (.seq (.reg [
 ⟨some 35, .mv (.t 0), none⟩,
 ⟨some 36, .ld 2 true (.t 4), none⟩,
 ⟨some 37, .mv (.t 2), none⟩,
 ⟨some 38, .call .ro 42 [(.t 35), (.t 36), (.t 37)], none⟩]) <|
 .cond (.t 38)
 (.seq (.reg [
 ⟨some 39, .build [.int .i64 0, .int .i64 0, .int .i64 0, .bool false] [(0, 1, (.k (.int .i64 2)))], none⟩,
 ⟨none, .st 4 (.t 6) (.t 39), none⟩]) <|
 .ret)
 (.skip)) <|
 .seq (.reg [
 ⟨some 40, .ld 4 true (.t 7), none⟩,
 ⟨some 41, .call .blind 71 [(.t 40), (.k (.int .i64 8))], none⟩,
 ⟨none, .st 4 (.t 6) (.t 41), none⟩]) <|
 .ret)
 (.seq (.seq (.reg [
 ⟨some 43, .bin .eql .sc (.t 32) (.k (.int .i64 2)), none⟩,
 ⟨some 42, .mv (.t 43), none⟩]) <|
 .cond (.t 42)
 (.skip)
 (.reg [
 ⟨some 44, .bin .eql .sc (.t 32) (.k (.int .i64 4)), none⟩,
 ⟨some 42, .mv (.t 44), none⟩])) <|
 .cond (.t 42)
 (.block 1 <|
 .seq (.reg [
 ⟨some 46, .mv (.t 8), none⟩,
 ⟨some 45, .mv (.t 46), none⟩]) <|
 .cond (.t 45)
 (.seq (.reg [
 ⟨some 47, .build [.int .i64 0, .int .i64 0, .int .i64 0, .bool false] [(0, 1, (.k (.int .i64 3))), (3, 1, (.k (.bool true)))], none⟩,
 ⟨none, .st 4 (.t 6) (.t 47), none⟩]) <|
 .ret)
 (.seq (.reg [
 ⟨some 49, .fld 0 (.t 7), none⟩,
 ⟨some 50, .ld 1 false (.t 49), none⟩,
 ⟨some 51, .bin .eql .sc (.t 50) (.k (.int .i64 4)), none⟩,
 ⟨some 48, .mv (.t 51), none⟩]) <|
 .cond (.t 48)
 (.seq (.reg [
 ⟨some 52, .ld 4 true (.t 7), none⟩,
 ⟨some 53, .call .blind 71 [(.t 52), (.k (.int .i64 5))], none⟩,
 ⟨none, .st 4 (.t 6) (.t 53), none⟩]) <|
 .ret)
 (.skip)))
 (.seq (.reg [
 ⟨some 55, .bin .eql .sc (.t 32) (.k (.int .i64 3)), none⟩,
 ⟨some 54, .mv (.t 55), none⟩]) <|
 .cond (.t 54)
 (.seq (.reg [
 ⟨some 56, .mv (.t 0), none⟩,
 ⟨some 57, .ld 2 true (.t 4), none⟩,
 ⟨some 58, .mv (.t 2), none⟩,
 ⟨some 59, .call .ro 72 [(.t 56), (.t 57), (.t 58)], none⟩,
 ⟨none, .st 4 (.t 6) (.t 59), none⟩]) <|
 .ret)
 (.skip)))) <|
 .seq (.reg [
 ⟨some 60, .ld 4 true (.t 7), none⟩,
 ⟨none, .st 4 (.t 6) (.t 60), none⟩]) <|
 .ret⟩

def l40_1b : DC :=
 .seq (.reg [
 ⟨some 33, .bin .lss .sc (.t 32) (.t 31), none⟩]) <|
 .seq (.cond (.t 33)
 (.skip)
 (.exit 2)) <|
 .seq (.block 3 <|
 .seq (.reg [
 ⟨some 34, .idx 2 (.t 30) (.t 32), none⟩,
 ⟨some 35, .ld 2 true (.t 34), none⟩,
 ⟨some 9, .alL [.int .i64 0, .bool false], none⟩,
 ⟨none, .st 2 (.t 9) (.t 35), none⟩]) <|
 .seq (.drw [
 ⟨some 36, .mv (.t 0), none⟩,
 ⟨some 37, .nilck (.t 36), none⟩,
 ⟨some 38, .fld 0 (.t 37), none⟩,
 ⟨some 39, .fld 1 (.t 38), none⟩,
 ⟨some 40, .ld 1 false (.t 39), none⟩,
 ⟨some 41, .fld 0 (.t 9), none⟩,
 ⟨some 42, .ld 1 false (.t 41), none⟩,
 ⟨some 43, .idx 2 (.t 40) (.t 42), none⟩,
 ⟨some 44, .fld 1 (.t 43), none⟩,
 ⟨some 45, .ld 1 false (.t 44), none⟩,
 ⟨some 10, .mv (.t 45), none⟩] [[], [], [], [], [], [], [], [4, 6], [], [4, 6, 7], []]) <|
 .seq (.reg [
 ⟨some 46, .mv (.t 0), none⟩,
 ⟨some 47, .mv (.t 10), none⟩,
 ⟨some 48, .call .ro 29 [(.t 46), (.t 47)], none⟩,
 ⟨some 11, .mv (.t 48), none⟩]) <|
 .seq (.reg [
 ⟨some 49, .ld 2 true (.t 4), none⟩,
 ⟨some 50, .ld 2 true (.t 9), none⟩,
 ⟨some 51, .call .blind 74 [(.t 49), (.t 50)], none⟩,
 ⟨some 52, .un .not (.t 51), none⟩,
 ⟨some 53, .mv (.t 52), none⟩,
 ⟨some 54, .fld 0 (.t 4), some (53, true)⟩,
 ⟨some 55, .ld 1 false (.t 54), some (53, true)⟩,
 ⟨some 56, .mv (.t 10), some (53, true)⟩,
 ⟨some 57, .idx 1 (.t 55) (.t 56), some (53, true)⟩,
 ⟨some 58, .ld 1 false (.t 57), some (53, true)⟩,
 ⟨some 59, .un .not (.t 58), some (53, true)⟩,
 ⟨some 60, .pick (.t 53) (.t 59) (.k (.bool false)), none⟩,
 ⟨some 61, .mv (.t 60), none⟩,
 ⟨some 62, .mv (.t 11), some (61, true)⟩,
 ⟨some 63, .bin .lss .sc (.t 62) (.k (.int .i64 0)), some (61, true)⟩,
 ⟨some 64, .mv (.t 63), some (61, true)⟩,
 ⟨some 65, .mv (.t 11), some (64, false)⟩,
 ⟨some 66, .mv (.t 6), some (64, false)⟩,
 ⟨some 67, .bin .eql .sc (.t 65) (.t 66), some (64, false)⟩,
 ⟨some 68, .pick (.t 64) (.k (.bool true)) (.t 67), some (61, true)⟩,
 ⟨some 69, .pick (.t 61) (.t 68) (.k (.bool false)), none⟩]) <|
 .cond (.t 69)
 (.drw [
 ⟨some 70, .fld 0 (.t 5), none⟩,
 ⟨some 71, .ld 1 false (.t 70), none⟩,
 ⟨some 72, .fld 0 (.t 9), none⟩,
 ⟨some 73, .ld 1 false (.t 72), none⟩,
 ⟨some 74, .ld 2 true (.t 9), none⟩,
 ⟨some 75, .call .blind 75 [(.t 74)], none⟩,
 ⟨some 76, .idx 1 (.t 71) (.t 73), none⟩,
 ⟨none, .st 1 (.t 76) (.t 75), none⟩] [[], [], [], [], [], [4], [1, 3, 4, 5], [1, 3, 4, 5, 6]])
 (.skip)) <|
 .reg [
 ⟨some 77, .bin .add .sc (.t 32) (.k (.int .i64 1)), none⟩,
 ⟨some 32, .mv (.t 77), none⟩]
def l40_1 : DC := .loop [0, 4, 5, 6, 15, 16, 17, 30, 31, 32] [4, 5] l40_1b
def l40_0b : DC :=
 .seq (.reg [
 ⟨some 18, .bin .lss .sc (.t 17) (.t 16), none⟩]) <|
 .seq (.cond (.t 18)
 (.skip)
 (.exit 0)) <|
 .seq (.block 1 <|
 .seq (.reg [
 ⟨some 19, .mv (.t 17), none⟩,
 ⟨some 20, .idx 4 (.t 15) (.t 17), none⟩,
 ⟨some 21, .ld 4 true (.t 20), none⟩,
 ⟨some 7, .alL [.int .i64 0, .int .i64 0, .int .i64 0, .bool false], none⟩,
 ⟨some 6, .mv (.t 19), none⟩,
 ⟨none, .st 4 (.t 7) (.t 21), none⟩]) <|
 .seq (.seq (.reg [
 ⟨some 22, .fld 0 (.t 7), none⟩,
 ⟨some 23, .ld 1 false (.t 22), none⟩,
 ⟨some 24, .bin .neq .sc (.t 23) (.k (.int .i64 1)), none⟩]) <|
 .cond (.t 24)
 (.exit 1)
 (.skip)) <|
 .seq (.reg [
 ⟨some 25, .mv (.t 0), none⟩,
 ⟨some 26, .nilck (.t 25), none⟩,
 ⟨some 27, .fld 0 (.t 26), none⟩,
 ⟨some 28, .ld 4 true (.t 27), none⟩,
 ⟨some 29, .mv (.t 6), none⟩,
 ⟨some 30, .call .blind 73 [(.t 28), (.t 29)], none⟩,
 ⟨some 31, .len (.t 30), none⟩,
 ⟨some 32, .mv (.k (.int .i64 0)), none⟩]) <|
 .block 2 <|
 l40_1) <|
 .reg [
 ⟨some 78, .bin .add .sc (.t 17) (.k (.int .i64 1)), none⟩,
 ⟨some 17, .mv (.t 78), none⟩]
def l40_0 : DC := .loop [0, 4, 5, 15, 16, 17] [4, 5] l40_0b
def f40 : DFn := ⟨3, [],
 .seq (.reg [
 ⟨some 4, .boxL (.t 1), none⟩,
 ⟨some 5, .boxL (.t 2), none⟩]) <|
 .seq (.reg [
 ⟨some 12, .mv (.t 0), none⟩,
 ⟨some 13, .nilck (.t 12), none⟩,
 ⟨some 14, .fld 4 (.t 13), none⟩,
 ⟨some 15, .ld 1 false (.t 14), none⟩,
 ⟨some 16, .len (.t 15), none⟩,
 ⟨some 17, .mv (.k (.int .i64 0)), none⟩]) <|
 .block 0 <|
 l40_0⟩

def f41 : DFn := ⟨2, [.t 4],
 .seq (.reg [
 ⟨some 2, .boxH (.t 0), none⟩,
 ⟨some 4, .mv (.k (.bool false)), none⟩]) <|
 .seq (.reg [
 ⟨some 5, .mv (.t 1), none⟩,
 ⟨some 6, .mkF 76 [(.t 2)], none⟩,
 ⟨some 7, .call .ro 69 [(.t 5), (.t 6)], none⟩,
 ⟨some 4, .mv (.t 7), none⟩]) <|
 .ret⟩

def f42 : DFn := ⟨3, [.t 6],
 .seq (.reg [
 ⟨some 4, .boxH (.t 1), none⟩,
 ⟨some 6, .mv (.k (.bool false)), none⟩]) <|
 .seq (.reg [
 ⟨some 7, .mv (.t 0), none⟩,
 ⟨some 8, .nilck (.t 7), none⟩,
 ⟨some 9, .fld 0 (.t 8), none⟩,
 ⟨some 10, .ld 4 true (.t 9), none⟩,
 ⟨some 11, .mv (.t 2), none⟩,
 ⟨some 12, .call .blind 73 [(.t 10), (.t 11)], none⟩,
 ⟨some 13, .mkF 78 [(.t 4)], none⟩,
 ⟨some 14, .call .ro 77 [(.t 12), (.t 13)], none⟩,
 ⟨some 15, .un .not (.t 14), none⟩,
 ⟨some 6, .mv (.t 15), none⟩]) <|
 .ret⟩

def f43 : DFn := ⟨1, [.t 2],
 .seq (.reg [
 ⟨some 2, .mv (.k (.nils)), none⟩]) <|
 .seq (.seq (.reg [
 ⟨some 3, .mv (.t 0), none⟩,
 ⟨some 4, .bin .eql .ns (.t 3) (.k (.nils)), none⟩]) <|
 .cond (.t 4)
 (.seq (.reg [
 ⟨some 2, .mv (.k (.nils)), none⟩]) <|
 .ret)
 (.skip)) <|
 .seq (.reg [
 ⟨some 5, .bsl false 4 [.int .i64 0, .int .i64 0, .int .i64 0, .bool false] 0 [], none⟩,
 ⟨some 6, .mv (.t 0), none⟩,
 ⟨some 7, .app 4 32 (.t 5) (.t 6), none⟩,
 ⟨some 2, .mv (.t 7), none⟩]) <|
 .ret⟩

def f44 : DFn := ⟨2, [.t 4],
 .seq (.reg [
 ⟨some 2, .boxL (.t 0), none⟩,
 ⟨some 4, .mv (.k (.bool false)), none⟩]) <|
 .seq (.seq (.reg [
 ⟨some 5, .fld 0 (.t 2), none⟩,
 ⟨some 6, .ld 1 false (.t 5), none⟩]) <|
 .block 0 <|
 .seq (.reg [
 ⟨some 8, .bin .eql .sc (.t 6) (.k (.int .i64 1)), none⟩,
 ⟨some 7, .mv (.t 8), none⟩]) <|
 .cond (.t 7)
 (.seq (.reg [
 ⟨some 9, .fld 1 (.t 2), none⟩,
 ⟨some 10, .ld 1 false (.t 9), none⟩,
 ⟨some 11, .bin .geq .sc (.t 10) (.k (.int .i64 0)), none⟩,
 ⟨some 12, .mv (.t 11), none⟩,
 ⟨some 13, .fld 1 (.t 2), some (12, true)⟩,
 ⟨some 14, .ld 1 false (.t 13), some (12, true)⟩,
 ⟨some 15, .bin .leq .sc (.t 14) (.k (.int .i64 8)), some (12, true)⟩,
 ⟨some 16, .pick (.t 12) (.t 15) (.k (.bool false)), none⟩,
 ⟨some 17, .mv (.t 16), none⟩,
 ⟨some 18, .fld 2 (.t 2), some (17, true)⟩,
 ⟨some 19, .ld 1 false (.t 18), some (17, true)⟩,
 ⟨some 20, .bin .eql .sc (.t 19) (.k (.int .i64 0)), some (17, true)⟩,
 ⟨some 21, .pick (.t 17) (.t 20) (.k (.bool false)), none⟩,
 ⟨some 22, .mv (.t 21), none⟩,
 ⟨some 23, .fld 3 (.t 2), some (22, true)⟩,
 ⟨some 24, .ld 1 false (.t 23), some (22, true)⟩,
 ⟨some 25, .un .not (.t 24), some (22, true)⟩,
 ⟨some 26, .pick (.t 22) (.t 25) (.k (.bool false)), none⟩,
 ⟨some 4, .mv (.t 26), none⟩]) <|
 .ret)
 (.seq (.reg [
 ⟨some 28, .bin .eql .sc (.t 6) (.k (.int .i64 4)), none⟩,
 ⟨some 27, .mv (.t 28), none⟩]) <|
 .cond (.t 27)
 (.seq (.reg [
 ⟨some 29, .fld 1 (.t 2), none⟩,
 ⟨some 30, .ld 1 false (.t 29), none⟩,
 ⟨some 31, .bin .geq .sc (.t 30) (.k (.int .i64 0)), none⟩,
 ⟨some 32, .mv (.t 31), none⟩,
 ⟨some 33, .fld 1 (.t 2), some (32, true)⟩,
 ⟨some 34, .ld 1 false (.t 33), some (32, true)⟩,
 ⟨some 35, .bin .lss .sc (.t 34) (.k (.int .i64 6)), some (32, true)⟩,
 ⟨some 36, .pick (.t 32) (.t 35) (.k (.bool false)), none⟩,
 ⟨some 37, .mv (.t 36), none⟩,
 ⟨some 38, .fld 2 (.t 2), some (37, true)⟩,
 ⟨some 39, .ld 1 false (.t 38), some (37, true)⟩,
 ⟨some 40, .bin .eql .sc (.t 39) (.k (.int .i64 0)), some (37, true)⟩,
 ⟨some 41, .pick (.t 37) (.t 40) (.k (.bool false)), none⟩,
 ⟨some 42, .mv (.t 41), none⟩,
 ⟨some 43, .fld 3 (.t 2), some (42, true)⟩,
 ⟨some 44, .ld 1 false (.t 43), some (42, true)⟩,
 ⟨some 45, .un .not (.t 44), some (42, true)⟩,
 ⟨some 46, .pick (.t 42) (.t 45) (.k (.bool false)), none⟩,
 ⟨some 4, .mv (.t 46), none⟩]) <|
 .ret)
 (.seq (.reg [
 ⟨some 48, .bin .eql .sc (.t 6) (.k (.int .i64 3)), none⟩,
 ⟨some 47, .mv (.t 48), none⟩]) <|
 .cond (.t 47)
 (.seq (.reg [
 ⟨some 49, .fld 1 (.t 2), none⟩,
 ⟨some 50, .ld 1 false (.t 49), none⟩,
 ⟨some 51, .bin .eql .sc (.t 50) (.k (.int .i64 0)), none⟩,
 ⟨some 52, .mv (.t 51), none⟩,
 ⟨some 53, .fld 2 (.t 2), some (52, true)⟩,
 ⟨some 54, .ld 1 false (.t 53), some (52, true)⟩,
 ⟨some 55, .bin .geq .sc (.t 54) (.k (.int .i64 0)), some (52, true)⟩,
 ⟨some 56, .pick (.t 52) (.t 55) (.k (.bool false)), none⟩,
 ⟨some 57, .mv (.t 56), none⟩,
 ⟨some 58, .fld 2 (.t 2), some (57, true)⟩,
 ⟨some 59, .ld 1 false (.t 58), some (57, true)⟩,
 ⟨some 60, .mv (.t 1), some (57, true)⟩,
 ⟨some 61, .len (.t 60), some (57, true)⟩,
 ⟨some 62, .bin .lss .sc (.t 59) (.t 61), some (57, true)⟩,
 ⟨some 63, .pick (.t 57) (.t 62) (.k (.bool false)), none⟩,
 ⟨some 4, .mv (.t 63), none⟩]) <|
 .ret)
 (.seq (.seq (.reg [
 ⟨some 65, .bin .eql .sc (.t 6) (.k (.int .i64 0)), none⟩,
 ⟨some 64, .mv (.t 65), none⟩]) <|
 .cond (.t 64)
 (.skip)
 (.reg [
 ⟨some 66, .bin .eql .sc (.t 6) (.k (.int .i64 2)), none⟩,
 ⟨some 64, .mv (.t 66), none⟩])) <|
 .cond (.t 64)
 (.seq (.reg [
 ⟨some 67, .fld 1 (.t 2), none⟩,
 ⟨some 68, .ld 1 false (.t 67), none⟩,
 ⟨some 69, .bin .eql .sc (.t 68) (.k (.int .i64 0)), none⟩,
 ⟨some 70, .mv (.t 69), none⟩,
 ⟨some 71, .fld 2 (.t 2), some (70, true)⟩,
 ⟨some 72, .ld 1 false (.t 71), some (70, true)⟩,
 ⟨some 73, .bin .eql .sc (.t 72) (.k (.int .i64 0)), some (70, true)⟩,
 ⟨some 74, .pick (.t 70) (.t 73) (.k (.bool false)), none⟩,
 ⟨some 75, .mv (.t 74), none⟩,
 ⟨some 76, .fld 3 (.t 2), some (75, true)⟩,
 ⟨some 77, .ld 1 false (.t 76), some (75, true)⟩,
 ⟨some 78, .un .not (.t 77), some (75, true)⟩,
 ⟨some 79, .pick (.t 75) (.t 78) (.k (.bool false)), none⟩,
 ⟨some 4, .mv (.t 79), none⟩]) <|
 .ret)
 (.skip))))) <|
 .seq (.reg [
 ⟨some 4, .mv (.k (.bool false)), none⟩]) <|
 .ret⟩

def l45_0b : DC :=
 .seq (.seq (.reg [
 ⟨some 8, .mv (.t 7), none⟩,
 ⟨some 9, .fld 3 (.t 3), none⟩,
 ⟨some 10, .ld 1 false (.t 9), none⟩,
 ⟨some 11, .mv (.t 1), none⟩,
 ⟨some 12, .idx 6 (.t 10) (.t 11), none⟩,
 ⟨some 13, .fld 3 (.t 12), none⟩,
 ⟨some 14, .ld 1 false (.t 13), none⟩,
 ⟨some 15, .len (.t 14), none⟩,
 ⟨some 16, .bin .lss .sc (.t 8) (.t 15), none⟩]) <|
 .cond (.t 16)
 (.skip)
 (.exit 0)) <|
 .seq (.block 1 <|
 .seq (.drw [
 ⟨some 19, .fld 0 (.t 5), none⟩,
 ⟨some 20, .ld 1 false (.t 19), none⟩,
 ⟨some 21, .fld 3 (.t 3), none⟩,
 ⟨some 22, .ld 1 false (.t 21), none⟩,
 ⟨some 23, .mv (.t 1), none⟩,
 ⟨some 24, .idx 6 (.t 22) (.t 23), none⟩,
 ⟨some 25, .fld 3 (.t 24), none⟩,
 ⟨some 26, .ld 1 false (.t 25), none⟩,
 ⟨some 27, .mv (.t 7), none⟩,
 ⟨some 28, .idx 1 (.t 26) (.t 27), none⟩,
 ⟨some 29, .ld 1 false (.t 28), none⟩,
 ⟨some 30, .idx 1 (.t 20) (.t 29), none⟩,
 ⟨some 31, .ld 1 false (.t 30), none⟩] [[], [], [], [], [], [3], [], [3, 5], [], [3, 5, 7], [3, 5, 7, 9], [1, 3, 5, 7, 9, 10], [1, 3, 5, 7, 9, 10, 11]]) <|
 .cond (.t 31)
 (.seq (.reg [
 ⟨some 6, .mv (.k (.bool false)), none⟩]) <|
 .ret)
 (.skip)) <|
 .reg [
 ⟨some 17, .mv (.t 7), none⟩,
 ⟨some 18, .bin .add .sc (.t 17) (.k (.int .i64 1)), none⟩,
 ⟨some 7, .mv (.t 18), none⟩]
def l45_0 : DC := .loop [1, 3, 5, 7] [3, 5] l45_0b
def f45 : DFn := ⟨3, [.t 6],
 .seq (.reg [
 ⟨some 3, .boxL (.t 0), none⟩,
 ⟨some 5, .boxL (.t 2), none⟩,
 ⟨some 6, .mv (.k (.bool false)), none⟩]) <|
 .seq (.seq (.reg [
 ⟨some 7, .mv (.k (.int .i64 0)), none⟩]) <|
 .block 0 <|
 l45_0) <|
 .seq (.reg [
 ⟨some 6, .mv (.k (.bool true)), none⟩]) <|
 .ret⟩

def l46_0b : DC :=
 .seq (.seq (.reg [
 ⟨some 12, .mv (.t 8), none⟩,
 ⟨some 13, .mv (.t 7), none⟩,
 ⟨some 14, .len (.t 13), none⟩,
 ⟨some 15, .bin .lss .sc (.t 12) (.t 14), none⟩]) <|
 .cond (.t 15)
 (.skip)
 (.exit 0)) <|
 .seq (.block 1 <|
 .seq (.drw [
 ⟨some 18, .fld 1 (.t 5), none⟩,
 ⟨some 19, .ld 1 false (.t 18), none⟩,
 ⟨some 20, .mv (.t 7), none⟩,
 ⟨some 21, .mv (.t 8), none⟩,
 ⟨some 22, .idx 2 (.t 20) (.t 21), none⟩,
 ⟨some 23, .fld 0 (.t 22), none⟩,
 ⟨some 24, .ld 1 false (.t 23), none⟩,
 ⟨some 25, .idx 1 (.t 19) (.t 24), none⟩,
 ⟨some 26, .ld 1 false (.t 25), none⟩,
 ⟨some 27, .mv (.t 7), none⟩,
 ⟨some 28, .mv (.t 8), none⟩,
 ⟨some 29, .idx 2 (.t 27) (.t 28), none⟩,
 ⟨some 30, .ld 2 true (.t 29), none⟩,
 ⟨some 31, .call .blind 53 [(.t 30)], none⟩,
 ⟨some 32, .bin .neq .sc (.t 26) (.t 31), none⟩] [[], [], [], [], [], [], [4], [1, 4, 6], [1, 4, 6, 7], [], [], [], [11], [11, 12], []]) <|
 .cond (.t 32)
 (.seq (.reg [
 ⟨some 6, .mv (.k (.bool false)), none⟩]) <|
 .ret)
 (.skip)) <|
 .reg [
 ⟨some 16, .mv (.t 8), none⟩,
 ⟨some 17, .bin .add .sc (.t 16) (.k (.int .i64 1)), none⟩,
 ⟨some 8, .mv (.t 17), none⟩]
def l46_0 : DC := .loop [5, 7, 8] [5] l46_0b
def f46 : DFn := ⟨3, [.t 6],
 .seq (.reg [
 ⟨some 3, .boxL (.t 0), none⟩,
 ⟨some 5, .boxL (.t 2), none⟩,
 ⟨some 6, .mv (.k (.bool false)), none⟩]) <|
 .seq (.reg [
 ⟨some 9, .ld 4 true (.t 3), none⟩,
 ⟨some 10, .mv (.t 1), none⟩,
 ⟨some 11, .call .blind 51 [(.t 9), (.t 10)], none⟩,
 ⟨some 7, .mv (.t 11), none⟩]) <|
 .seq (.seq (.reg [
 ⟨some 8, .mv (.k (.int .i64 0)), none⟩]) <|
 .block 0 <|
 l46_0) <|
 .seq (.reg [
 ⟨some 6, .mv (.k (.bool true)), none⟩]) <|
 .ret⟩

def f47 : DFn := ⟨4, [.t 8],
 .seq (.reg [
 ⟨some 4, .boxL (.t 0), none⟩,
 ⟨some 6, .boxL (.t 2), none⟩,
 ⟨some 8, .mv (.k (.bool false)), none⟩]) <|
 .seq (.seq (.reg [
 ⟨some 9, .fld 0 (.t 6), none⟩,
 ⟨some 10, .ld 1 false (.t 9), none⟩]) <|
 .block 0 <|
 .seq (.seq (.reg [
 ⟨some 12, .bin .eql .sc (.t 10) (.k (.int .i64 1)), none⟩,
 ⟨some 11, .mv (.t 12), none⟩]) <|
 .cond (.t 11)
 (.skip)
 (.seq (.reg [
 ⟨some 13, .bin .eql .sc (.t 10) (.k (.int .i64 2)), none⟩,
 ⟨some 11, .mv (.t 13), none⟩]) <|
 .cond (.t 11)
 (.skip)
 (.reg [
 ⟨some 14, .bin .eql .sc (.t 10) (.k (.int .i64 4)), none⟩,
 ⟨some 11, .mv (.t 14), none⟩]))) <|
 .cond (.t 11)
 (.seq (.reg [
 ⟨some 15, .fld 3 (.t 4), none⟩,
 ⟨some 16, .ld 1 false (.t 15), none⟩,
 ⟨some 17, .mv (.t 1), none⟩,
 ⟨some 18, .idx 6 (.t 16) (.t 17), none⟩,
 ⟨some 19, .fld 3 (.t 18), none⟩,
 ⟨some 20, .ld 1 false (.t 19), none⟩,
 ⟨some 21, .mv (.t 3), none⟩,
 ⟨some 22, .call .blind 57 [(.t 20), (.t 21)], none⟩,
 ⟨some 8, .mv (.t 22), none⟩]) <|
 .ret)
 (.seq (.reg [
 ⟨some 24, .bin .eql .sc (.t 10) (.k (.int .i64 3)), none⟩,
 ⟨some 23, .mv (.t 24), none⟩]) <|
 .cond (.t 23)
 (.seq (.drw [
 ⟨some 25, .fld 3 (.t 4), none⟩,
 ⟨some 26, .ld 1 false (.t 25), none⟩,
 ⟨some 27, .mv (.t 1), none⟩,
 ⟨some 28, .idx 6 (.t 26) (.t 27), none⟩,
 ⟨some 29, .fld 3 (.t 28), none⟩,
 ⟨some 30, .ld 1 false (.t 29), none⟩,
 ⟨some 31, .fld 2 (.t 6), none⟩,
 ⟨some 32, .ld 1 false (.t 31), none⟩,
 ⟨some 33, .slc 1 (.t 30) (some (.t 32)) none none, none⟩,
 ⟨some 34, .mv (.t 3), none⟩,
 ⟨some 35, .call .blind 57 [(.t 33), (.t 34)], none⟩,
 ⟨some 8, .mv (.t 35), none⟩] [[], [], [], [1], [], [1, 3], [], [], [], [], [1, 3, 5, 7], []]) <|
 .ret)
 (.skip))) <|
 .seq (.reg [
 ⟨some 8, .mv (.k (.bool false)), none⟩]) <|
 .ret⟩

def l48_1b : DC :=
 .seq (.seq (.reg [
 ⟨some 53, .mv (.t 9), none⟩,
 ⟨some 54, .mv (.t 8), none⟩,
 ⟨some 55, .len (.t 54), none⟩,
 ⟨some 56, .bin .lss .sc (.t 53) (.t 55), none⟩]) <|
 .cond (.t 56)
 (.skip)
 (.exit 2)) <|
 .seq (.block 3 <|
 .seq (.drw [
 ⟨some 59, .mv (.t 0), none⟩,
 ⟨some 60, .nilck (.t 59), none⟩,
 ⟨some 61, .fld 0 (.t 60), none⟩,
 ⟨some 62, .fld 1 (.t 61), none⟩,
 ⟨some 63, .ld 1 false (.t 62), none⟩,
 ⟨some 64, .mv (.t 8), none⟩,
 ⟨some 65, .mv (.t 9), none⟩,
 ⟨some 66, .idx 2 (.t 64) (.t 65), none⟩,
 ⟨some 67, .fld 0 (.t 66), none⟩,
 ⟨some 68, .ld 1 false (.t 67), none⟩,
 ⟨some 69, .idx 2 (.t 63) (.t 68), none⟩,
 ⟨some 70, .fld 1 (.t 69), none⟩,
 ⟨some 71, .ld 1 false (.t 70), none⟩,
 ⟨some 10, .mv (.t 71), none⟩] [[], [], [], [], [], [], [], [], [], [7], [4, 7, 9], [], [4, 7, 9, 10], []]) <|
 .seq (.drw [
 ⟨some 72, .fld 1 (.t 4), none⟩,
 ⟨some 73, .ld 1 false (.t 72), none⟩,
 ⟨some 74, .mv (.t 8), none⟩,
 ⟨some 75, .mv (.t 9), none⟩,
 ⟨some 76, .idx 2 (.t 74) (.t 75), none⟩,
 ⟨some 77, .fld 0 (.t 76), none⟩,
 ⟨some 78, .ld 1 false (.t 77), none⟩,
 ⟨some 79, .idx 1 (.t 73) (.t 78), none⟩,
 ⟨some 80, .ld 1 false (.t 79), none⟩,
 ⟨some 81, .mv (.t 8), none⟩,
 ⟨some 82, .mv (.t 9), none⟩,
 ⟨some 83, .idx 2 (.t 81) (.t 82), none⟩,
 ⟨some 84, .ld 2 true (.t 83), none⟩,
 ⟨some 85, .call .blind 53 [(.t 84)], none⟩,
 ⟨some 86, .bin .neq .sc (.t 80) (.t 85), none⟩,
 ⟨some 87, .mv (.t 86), none⟩,
 ⟨some 88, .fld 0 (.t 4), some (87, true)⟩,
 ⟨some 89, .ld 1 false (.t 88), some (87, true)⟩,
 ⟨some 90, .mv (.t 10), some (87, true)⟩,
 ⟨some 91, .idx 1 (.t 89) (.t 90), some (87, true)⟩,
 ⟨some 92, .ld 1 false (.t 91), some (87, true)⟩,
 ⟨some 93, .mv (.t 92), some (87, true)⟩,
 ⟨some 94, .mv (.t 0), some (93, false)⟩,
 ⟨some 95, .mv (.t 10), some (93, false)⟩,
 ⟨some 96, .call .ro 52 [(.t 94), (.t 95)], some (93, false)⟩,
 ⟨some 97, .bin .geq .sc (.t 96) (.k (.int .i64 0)), some (93, false)⟩,
 ⟨some 98, .pick (.t 93) (.k (.bool true)) (.t 97), some (87, true)⟩,
 ⟨some 99, .pick (.t 87) (.t 98) (.k (.bool false)), none⟩] [[], [], [], [], [], [], [4], [1, 4, 6], [1, 4, 6, 7], [], [], [], [11], [11, 12], [], [], [], [1, 4, 6, 7, 8, 11, 12, 13], [], [1, 4, 6, 7, 8, 11, 12, 13, 17], [1, 4, 6, 7, 8, 11, 12, 13, 17, 19], [], [], [], [1, 4, 6, 7, 8, 11, 12, 13, 17, 19, 20], [], [], []]) <|
 .cond (.t 99)
 (.seq (.reg [
 ⟨some 6, .mv (.k (.int .i64 8)), none⟩]) <|
 .ret)
 (.skip)) <|
 .reg [
 ⟨some 57, .mv (.t 9), none⟩,
 ⟨some 58, .bin .add .sc (.t 57) (.k (.int .i64 1)), none⟩,
 ⟨some 9, .mv (.t 58), none⟩]
def l48_1 : DC := .loop [0, 2, 4, 8, 9] [4] l48_1b
def l48_0b : DC :=
 .seq (.seq (.reg [
 ⟨some 20, .mv (.t 7), none⟩,
 ⟨some 21, .mv (.t 0), none⟩,
 ⟨some 22, .nilck (.t 21), none⟩,
 ⟨some 23, .fld 4 (.t 22), none⟩,
 ⟨some 24, .ld 1 false (.t 23), none⟩,
 ⟨some 25, .len (.t 24), none⟩,
 ⟨some 26, .bin .lss .sc (.t 20) (.t 25), none⟩]) <|
 .cond (.t 26)
 (.skip)
 (.exit 0)) <|
 .seq (.block 1 <|
 .seq (.reg [
 ⟨some 29, .mv (.t 0), none⟩,
 ⟨some 30, .nilck (.t 29), none⟩,
 ⟨some 31, .fld 4 (.t 30), none⟩,
 ⟨some 32, .ld 1 false (.t 31), none⟩,
 ⟨some 33, .mv (.t 7), none⟩,
 ⟨some 34, .idx 4 (.t 32) (.t 33), none⟩,
 ⟨some 35, .fld 0 (.t 34), none⟩,
 ⟨some 36, .ld 1 false (.t 35), none⟩,
 ⟨some 37, .bin .neq .sc (.t 36) (.k (.int .i64 0)), none⟩,
 ⟨some 38, .mv (.t 37), none⟩,
 ⟨some 39, .mv (.t 0), some (38, true)⟩,
 ⟨some 40, .nilck (.t 39), some (38, true)⟩,
 ⟨some 41, .fld 0 (.t 40), some (38, true)⟩,
 ⟨some 42, .ld 4 true (.t 41), some (38, true)⟩,
 ⟨some 43, .mv (.t 2), some (38, true)⟩,
 ⟨some 44, .mv (.t 7), some (38, true)⟩,
 ⟨some 45, .call .blind 30 [(.t 42), (.t 43), (.t 44)], some (38, true)⟩,
 ⟨some 46, .pick (.t 38) (.t 45) (.k (.bool false)), none⟩]) <|
 .cond (.t 46)
 (.seq (.reg [
 ⟨some 6, .mv (.k (.int .i64 8)), none⟩]) <|
 .ret)
 (.skip)) <|
 .reg [
 ⟨some 27, .mv (.t 7), none⟩,
 ⟨some 28, .bin .add .sc (.t 27) (.k (.int .i64 1)), none⟩,
 ⟨some 7, .mv (.t 28), none⟩]
def l48_0 : DC := .loop [0, 2, 4, 7] [4] l48_0b
def f48 : DFn := ⟨3, [.t 6],
 .seq (.reg [
 ⟨some 4, .boxL (.t 1), none⟩,
 ⟨some 6, .mv (.k (.int .i64 0)), none⟩]) <|
 .seq (.seq (.reg [
 ⟨some 11, .mv (.t 0), none⟩,
 ⟨some 12, .nilck (.t 11), none⟩,
 ⟨some 13, .fld 4 (.t 12), none⟩,
 ⟨some 14, .ld 1 false (.t 13), none⟩,
 ⟨some 15, .mv (.t 2), none⟩,
 ⟨some 16, .idx 4 (.t 14) (.t 15), none⟩,
 ⟨some 17, .fld 0 (.t 16), none⟩,
 ⟨some 18, .ld 1 false (.t 17), none⟩,
 ⟨some 19, .bin .neq .sc (.t 18) (.k (.int .i64 0)), none⟩]) <|
 .cond (.t 19)
 (.seq (.reg [
 ⟨some 6, .mv (.k (.int .i64 7)), none⟩]) <|
 .ret)
 (.skip)) <|
 .seq (.seq (.reg [
 ⟨some 7, .mv (.k (.int .i64 0)), none⟩]) <|
 .block 0 <|
 l48_0) <|
 .seq (.reg [
 ⟨some 47, .mv (.t 0), none⟩,
 ⟨some 48, .nilck (.t 47), none⟩,
 ⟨some 49, .fld 0 (.t 48), none⟩,
 ⟨some 50, .ld 4 true (.t 49), none⟩,
 ⟨some 51, .mv (.t 2), none⟩,
 ⟨some 52, .call .blind 51 [(.t 50), (.t 51)], none⟩,
 ⟨some 8, .mv (.t 52), none⟩]) <|
 .seq (.seq (.reg [
 ⟨some 9, .mv (.k (.int .i64 0)), none⟩]) <|
 .block 2 <|
 l48_1) <|
 .seq (.seq (.drw [
 ⟨some 100, .mv (.t 0), none⟩,
 ⟨some 101, .nilck (.t 100), none⟩,
 ⟨some 102, .fld 0 (.t 101), none⟩,
 ⟨some 103, .ld 4 true (.t 102), none⟩,
 ⟨some 104, .mv (.t 2), none⟩,
 ⟨some 105, .ld 2 true (.t 4), none⟩,
 ⟨some 106, .call .blind 45 [(.t 103), (.t 104), (.t 105)], none⟩,
 ⟨some 107, .un .not (.t 106), none⟩] [[], [], [], [], [], [], [3, 5], []]) <|
 .cond (.t 107)
 (.seq (.reg [
 ⟨some 6, .mv (.k (.int .i64 8)), none⟩]) <|
 .ret)
 (.skip)) <|
 .seq (.reg [
 ⟨some 108, .mv (.t 0), none⟩,
 ⟨some 109, .nilck (.t 108), none⟩,
 ⟨some 110, .fld 4 (.t 109), none⟩,
 ⟨some 111, .ld 1 false (.t 110), none⟩,
 ⟨some 112, .mv (.t 2), none⟩,
 ⟨some 113, .build [.int .i64 0, .int .i64 0, .int .i64 0, .bool false] [(0, 1, (.k (.int .i64 1)))], none⟩,
 ⟨some 114, .idx 4 (.t 111) (.t 112), none⟩,
 ⟨none, .st 4 (.t 114) (.t 113), none⟩]) <|
 .seq (.reg [
 ⟨some 6, .mv (.k (.int .i64 0)), none⟩]) <|
 .ret⟩

def f49 : DFn := ⟨1, [.cell 2 2 true],
 .seq (.reg [
 ⟨some 2, .alL [.nils, .nils], none⟩]) <|
 .seq (.drw [
 ⟨some 3, .mv (.t 0), none⟩,
 ⟨some 4, .nilck (.t 3), none⟩,
 ⟨some 5, .fld 0 (.t 4), none⟩,
 ⟨some 6, .fld 1 (.t 5), none⟩,
 ⟨some 7, .ld 1 false (.t 6), none⟩,
 ⟨some 8, .len (.t 7), none⟩,
 ⟨some 9, .mks true 1 8 [.int .i64 0] (.t 8), none⟩,
 ⟨some 10, .mv (.t 0), none⟩,
 ⟨some 11, .nilck (.t 10), none⟩,
 ⟨some 12, .fld 0 (.t 11), none⟩,
 ⟨some 13, .fld 2 (.t 12), none⟩,
 ⟨some 14, .ld 1 false (.t 13), none⟩,
 ⟨some 15, .len (.t 14), none⟩,
 ⟨some 16, .mks true 1 1 [.bool false] (.t 15), none⟩,
 ⟨some 17, .build [.nils, .nils] [(0, 1, (.t 9)), (1, 1, (.t 16))], none⟩,
 ⟨none, .st 2 (.t 2) (.t 17), none⟩] [[], [], [], [], [], [], [4], [], [], [], [], [], [], [11], [], [4, 6, 11, 13]]) <|
 .ret⟩

def f50 : DFn := ⟨3, [],
 .seq (.reg [
 ⟨some 4, .boxL (.t 1), none⟩]) <|
 .seq (.reg [
 ⟨some 8, .mv (.t 0), none⟩,
 ⟨some 9, .nilck (.t 8), none⟩,
 ⟨some 10, .fld 4 (.t 9), none⟩,
 ⟨some 11, .ld 1 false (.t 10), none⟩,
 ⟨some 12, .mv (.t 2), none⟩,
 ⟨some 13, .idx 4 (.t 11) (.t 12), none⟩,
 ⟨some 6, .mv (.t 13), none⟩]) <|
 .seq (.reg [
 ⟨some 14, .mv (.t 0), none⟩,
 ⟨some 15, .nilck (.t 14), none⟩,
 ⟨some 16, .fld 0 (.t 15), none⟩,
 ⟨some 17, .fld 3 (.t 16), none⟩,
 ⟨some 18, .ld 1 false (.t 17), none⟩,
 ⟨some 19, .mv (.t 2), none⟩,
 ⟨some 20, .idx 6 (.t 18) (.t 19), none⟩,
 ⟨some 21, .fld 3 (.t 20), none⟩,
 ⟨some 22, .ld 1 false (.t 21), none⟩,
 ⟨some 7, .mv (.t 22), none⟩]) <|
 .block 0 <|
 .seq (.drw [
 ⟨some 24, .mv (.t 6), none⟩,
 ⟨some 25, .nilck (.t 24), none⟩,
 ⟨some 26, .fld 0 (.t 25), none⟩,
 ⟨some 27, .ld 1 false (.t 26), none⟩,
 ⟨some 28, .bin .eql .sc (.t 27) (.k (.int .i64 1)), none⟩,
 ⟨some 29, .mv (.t 28), none⟩,
 ⟨some 30, .mv (.t 0), some (29, true)⟩,
 ⟨some 31, .nilck (.t 30), some (29, true)⟩,
 ⟨some 32, .fld 0 (.t 31), some (29, true)⟩,
 ⟨some 33, .ld 4 true (.t 32), some (29, true)⟩,
 ⟨some 34, .mv (.t 2), some (29, true)⟩,
 ⟨some 35, .ld 2 true (.t 4), some (29, true)⟩,
 ⟨some 36, .call .blind 46 [(.t 33), (.t 34), (.t 35)], some (29, true)⟩,
 ⟨some 37, .pick (.t 29) (.t 36) (.k (.bool false)), none⟩,
 ⟨some 23, .mv (.t 37), none⟩] [[], [], [], [], [], [], [], [], [], [3], [], [3], [3, 9, 11], [], []]) <|
 .cond (.t 23)
 (.reg [
 ⟨some 38, .mv (.t 6), none⟩,
 ⟨some 39, .build [.int .i64 0, .int .i64 0, .int .i64 0, .bool false] [(0, 1, (.k (.int .i64 2)))], none⟩,
 ⟨some 40, .nilck (.t 38), none⟩,
 ⟨none, .st 4 (.t 40) (.t 39), none⟩])
 (.seq (.reg [
 ⟨some 42, .mv (.t 6), none⟩,
 ⟨some 43, .nilck (.t 42), none⟩,
 ⟨some 44, .fld 0 (.t 43), none⟩,
 ⟨some 45, .ld 1 false (.t 44), none⟩,
 ⟨some 46, .bin .eql .sc (.t 45) (.k (.int .i64 1)), none⟩,
 ⟨some 41, .mv (.t 46), none⟩]) <|
 .cond (.t 41)
 (.seq (.reg [
 ⟨some 47, .mv (.t 6), none⟩,
 ⟨some 48, .nilck (.t 47), none⟩,
 ⟨some 49, .fld 1 (.t 48), none⟩,
 ⟨some 50, .ld 1 false (.t 49), none⟩,
 ⟨some 51, .bin .add .sc (.t 50) (.k (.int .i64 1)), none⟩,
 ⟨some 52, .nilck (.t 47), none⟩,
 ⟨some 53, .fld 1 (.t 52), none⟩,
 ⟨none, .st 1 (.t 53) (.t 51), none⟩]) <|
 .seq (.reg [
 ⟨some 54, .mv (.t 6), none⟩,
 ⟨some 55, .nilck (.t 54), none⟩,
 ⟨some 56, .fld 1 (.t 55), none⟩,
 ⟨some 57, .ld 1 false (.t 56), none⟩,
 ⟨some 58, .bin .gtr .sc (.t 57) (.k (.int .i64 8)), none⟩]) <|
 .cond (.t 58)
 (.reg [
 ⟨some 59, .mv (.t 6), none⟩,
 ⟨some 60, .build [.int .i64 0, .int .i64 0, .int .i64 0, .bool false] [], none⟩,
 ⟨some 61, .nilck (.t 59), none⟩,
 ⟨none, .st 4 (.t 61) (.t 60), none⟩])
 (.skip))
 (.seq (.drw [
 ⟨some 63, .mv (.t 6), none⟩,
 ⟨some 64, .nilck (.t 63), none⟩,
 ⟨some 65, .fld 0 (.t 64), none⟩,
 ⟨some 66, .ld 1 false (.t 65), none⟩,
 ⟨some 67, .bin .eql .sc (.t 66) (.k (.int .i64 2)), none⟩,
 ⟨some 68, .mv (.t 67), none⟩,
 ⟨some 69, .mv (.t 6), some (68, false)⟩,
 ⟨some 70, .nilck (.t 69), some (68, false)⟩,
 ⟨some 71, .fld 0 (.t 70), some (68, false)⟩,
 ⟨some 72, .ld 1 false (.t 71), some (68, false)⟩,
 ⟨some 73, .bin .eql .sc (.t 72) (.k (.int .i64 4)), some (68, false)⟩,
 ⟨some 74, .pick (.t 68) (.k (.bool true)) (.t 73), none⟩,
 ⟨some 75, .mv (.t 74), none⟩,
 ⟨some 76, .fld 0 (.t 4), some (75, true)⟩,
 ⟨some 77, .ld 1 false (.t 76), some (75, true)⟩,
 ⟨some 78, .mv (.t 7), some (75, true)⟩,
 ⟨some 79, .idx 1 (.t 78) (.k (.int .i64 0)), some (75, true)⟩,
 ⟨some 80, .ld 1 false (.t 79), some (75, true)⟩,
 ⟨some 81, .idx 1 (.t 77) (.t 80), some (75, true)⟩,
 ⟨some 82, .ld 1 false (.t 81), some (75, true)⟩,
 ⟨some 83, .pick (.t 75) (.t 82) (.k (.bool false)), none⟩,
 ⟨some 62, .mv (.t 83), none⟩] [[], [], [], [], [], [], [], [], [], [3], [], [], [], [], [3, 9], [], [3, 9], [3, 9, 16], [3, 9, 14, 16, 17], [3, 9, 14, 16, 17, 18], [], []]) <|
 .cond (.t 62)
 (.reg [
 ⟨some 84, .mv (.t 6), none⟩,
 ⟨some 85, .build [.int .i64 0, .int .i64 0, .int .i64 0, .bool false] [(0, 1, (.k (.int .i64 3))), (3, 1, (.k (.bool true)))], none⟩,
 ⟨some 86, .nilck (.t 84), none⟩,
 ⟨none, .st 4 (.t 86) (.t 85), none⟩])
 (.seq (.reg [
 ⟨some 88, .mv (.t 6), none⟩,
 ⟨some 89, .nilck (.t 88), none⟩,
 ⟨some 90, .fld 0 (.t 89), none⟩,
 ⟨some 91, .ld 1 false (.t 90), none⟩,
 ⟨some 92, .bin .eql .sc (.t 91) (.k (.int .i64 4)), none⟩,
 ⟨some 87, .mv (.t 92), none⟩]) <|
 .cond (.t 87)
 (.seq (.reg [
 ⟨some 93, .mv (.t 6), none⟩,
 ⟨some 94, .nilck (.t 93), none⟩,
 ⟨some 95, .fld 1 (.t 94), none⟩,
 ⟨some 96, .ld 1 false (.t 95), none⟩,
 ⟨some 97, .bin .add .sc (.t 96) (.k (.int .i64 1)), none⟩,
 ⟨some 98, .nilck (.t 93), none⟩,
 ⟨some 99, .fld 1 (.t 98), none⟩,
 ⟨none, .st 1 (.t 99) (.t 97), none⟩]) <|
 .seq (.reg [
 ⟨some 100, .mv (.t 6), none⟩,
 ⟨some 101, .nilck (.t 100), none⟩,
 ⟨some 102, .fld 1 (.t 101), none⟩,
 ⟨some 103, .ld 1 false (.t 102), none⟩,
 ⟨some 104, .bin .eql .sc (.t 103) (.k (.int .i64 6)), none⟩]) <|
 .cond (.t 104)
 (.reg [
 ⟨some 105, .mv (.t 6), none⟩,
 ⟨some 106, .build [.int .i64 0, .int .i64 0, .int .i64 0, .bool false] [], none⟩,
 ⟨some 107, .nilck (.t 105), none⟩,
 ⟨none, .st 4 (.t 107) (.t 106), none⟩])
 (.skip))
 (.seq (.drw [
 ⟨some 109, .mv (.t 6), none⟩,
 ⟨some 110, .nilck (.t 109), none⟩,
 ⟨some 111, .fld 0 (.t 110), none⟩,
 ⟨some 112, .ld 1 false (.t 111), none⟩,
 ⟨some 113, .bin .eql .sc (.t 112) (.k (.int .i64 3)), none⟩,
 ⟨some 114, .mv (.t 113), none⟩,
 ⟨some 115, .fld 0 (.t 4), some (114, true)⟩,
 ⟨some 116, .ld 1 false (.t 115), some (114, true)⟩,
 ⟨some 117, .mv (.t 7), some (114, true)⟩,
 ⟨some 118, .mv (.t 6), some (114, true)⟩,
 ⟨some 119, .nilck (.t 118), some (114, true)⟩,
 ⟨some 120, .fld 2 (.t 119), some (114, true)⟩,
 ⟨some 121, .ld 1 false (.t 120), some (114, true)⟩,
 ⟨some 122, .idx 1 (.t 117) (.t 121), some (114, true)⟩,
 ⟨some 123, .ld 1 false (.t 122), some (114, true)⟩,
 ⟨some 124, .idx 1 (.t 116) (.t 123), some (114, true)⟩,
 ⟨some 125, .ld 1 false (.t 124), some (114, true)⟩,
 ⟨some 126, .pick (.t 114) (.t 125) (.k (.bool false)), none⟩,
 ⟨some 108, .mv (.t 126), none⟩] [[], [], [], [], [], [], [], [3], [], [], [], [], [3], [3, 12], [3, 12, 13], [3, 7, 12, 13, 14], [3, 7, 12, 13, 14, 15], [], []]) <|
 .cond (.t 108)
 (.reg [
 ⟨some 127, .mv (.t 6), none⟩,
 ⟨some 128, .nilck (.t 127), none⟩,
 ⟨some 129, .fld 3 (.t 128), none⟩,
 ⟨none, .st 1 (.t 129) (.k (.bool true)), none⟩])
 (.seq (.reg [
 ⟨some 131, .mv (.t 6), none⟩,
 ⟨some 132, .nilck (.t 131), none⟩,
 ⟨some 133, .fld 0 (.t 132), none⟩,
 ⟨some 134, .ld 1 false (.t 133), none⟩,
 ⟨some 135, .bin .eql .sc (.t 134) (.k (.int .i64 3)), none⟩,
 ⟨some 136, .mv (.t 135), none⟩,
 ⟨some 137, .mv (.t 6), some (136, true)⟩,
 ⟨some 138, .nilck (.t 137), some (136, true)⟩,
 ⟨some 139, .fld 3 (.t 138), some (136, true)⟩,
 ⟨some 140, .ld 1 false (.t 139), some (136, true)⟩,
 ⟨some 141, .pick (.t 136) (.t 140) (.k (.bool false)), none⟩,
 ⟨some 130, .mv (.t 141), none⟩]) <|
 .cond (.t 130)
 (.seq (.reg [
 ⟨some 142, .mv (.t 6), none⟩,
 ⟨some 143, .nilck (.t 142), none⟩,
 ⟨some 144, .fld 2 (.t 143), none⟩,
 ⟨some 145, .ld 1 false (.t 144), none⟩,
 ⟨some 146, .bin .add .sc (.t 145) (.k (.int .i64 1)), none⟩,
 ⟨some 147, .nilck (.t 142), none⟩,
 ⟨some 148, .fld 2 (.t 147), none⟩,
 ⟨none, .st 1 (.t 148) (.t 146), none⟩]) <|
 .seq (.reg [
 ⟨some 149, .mv (.t 6), none⟩,
 ⟨some 150, .nilck (.t 149), none⟩,
 ⟨some 151, .fld 3 (.t 150), none⟩,
 ⟨none, .st 1 (.t 151) (.k (.bool false)), none⟩]) <|
 .seq (.reg [
 ⟨some 152, .mv (.t 6), none⟩,
 ⟨some 153, .nilck (.t 152), none⟩,
 ⟨some 154, .fld 2 (.t 153), none⟩,
 ⟨some 155, .ld 1 false (.t 154), none⟩,
 ⟨some 156, .mv (.t 7), none⟩,
 ⟨some 157, .len (.t 156), none⟩,
 ⟨some 158, .bin .eql .sc (.t 155) (.t 157), none⟩]) <|
 .cond (.t 158)
 (.reg [
 ⟨some 159, .mv (.t 6), none⟩,
 ⟨some 160, .build [.int .i64 0, .int .i64 0, .int .i64 0, .bool false] [], none⟩,
 ⟨some 161, .nilck (.t 159), none⟩,
 ⟨none, .st 4 (.t 161) (.t 160), none⟩])
 (.skip))
 (.skip))))))⟩

def f51 : DFn := ⟨2, [.t 4],
 .seq (.reg [
 ⟨some 2, .boxL (.t 0), none⟩,
 ⟨some 4, .mv (.k (.nils)), none⟩]) <|
 .seq (.drw [
 ⟨some 5, .bsl false 2 [.int .i64 0, .bool false] 0 [], none⟩,
 ⟨some 6, .fld 3 (.t 2), none⟩,
 ⟨some 7, .ld 1 false (.t 6), none⟩,
 ⟨some 8, .mv (.t 1), none⟩,
 ⟨some 9, .idx 6 (.t 7) (.t 8), none⟩,
 ⟨some 10, .fld 4 (.t 9), none⟩,
 ⟨some 11, .ld 1 false (.t 10), none⟩,
 ⟨some 12, .app 2 16 (.t 5) (.t 11), none⟩,
 ⟨some 13, .fld 3 (.t 2), none⟩,
 ⟨some 14, .ld 1 false (.t 13), none⟩,
 ⟨some 15, .mv (.t 1), none⟩,
 ⟨some 16, .idx 6 (.t 14) (.t 15), none⟩,
 ⟨some 17, .fld 5 (.t 16), none⟩,
 ⟨some 18, .ld 1 false (.t 17), none⟩,
 ⟨some 19, .app 2 16 (.t 12) (.t 18), none⟩,
 ⟨some 4, .mv (.t 19), none⟩] [[], [], [], [], [2], [], [2, 4], [0, 2, 4, 6], [], [], [], [9], [], [9, 11], [0, 2, 4, 6, 7, 9, 11, 13], []]) <|
 .ret⟩

def l52_0b : DC :=
 .seq (.seq (.reg [
 ⟨some 6, .mv (.t 5), none⟩,
 ⟨some 7, .mv (.t 0), none⟩,
 ⟨some 8, .nilck (.t 7), none⟩,
 ⟨some 9, .fld 4 (.t 8), none⟩,
 ⟨some 10, .ld 1 false (.t 9), none⟩,
 ⟨some 11, .len (.t 10), none⟩,
 ⟨some 12, .bin .lss .sc (.t 6) (.t 11), none⟩]) <|
 .cond (.t 12)
 (.skip)
 (.exit 0)) <|
 .seq (.block 1 <|
 .seq (.drw [
 ⟨some 15, .mv (.t 0), none⟩,
 ⟨some 16, .nilck (.t 15), none⟩,
 ⟨some 17, .fld 0 (.t 16), none⟩,
 ⟨some 18, .ld 4 true (.t 17), none⟩,
 ⟨some 19, .mv (.t 5), none⟩,
 ⟨some 20, .mv (.t 0), none⟩,
 ⟨some 21, .nilck (.t 20), none⟩,
 ⟨some 22, .fld 4 (.t 21), none⟩,
 ⟨some 23, .ld 1 false (.t 22), none⟩,
 ⟨some 24, .mv (.t 5), none⟩,
 ⟨some 25, .idx 4 (.t 23) (.t 24), none⟩,
 ⟨some 26, .ld 4 true (.t 25), none⟩,
 ⟨some 27, .mv (.t 1), none⟩,
 ⟨some 28, .call .blind 47 [(.t 18), (.t 19), (.t 26), (.t 27)], none⟩] [[], [], [], [], [], [], [], [], [], [], [8], [8, 10], [], [3, 8, 10, 11]]) <|
 .cond (.t 28)
 (.seq (.reg [
 ⟨some 29, .mv (.t 5), none⟩,
 ⟨some 4, .mv (.t 29), none⟩]) <|
 .ret)
 (.skip)) <|
 .reg [
 ⟨some 13, .mv (.t 5), none⟩,
 ⟨some 14, .bin .add .sc (.t 13) (.k (.int .i64 1)), none⟩,
 ⟨some 5, .mv (.t 14), none⟩]
def l52_0 : DC := .loop [0, 1, 5] [] l52_0b
def f52 : DFn := ⟨2, [.t 4],
 .seq (.reg [
 ⟨some 4, .mv (.k (.int .i64 0)), none⟩]) <|
 .seq (.seq (.reg [
 ⟨some 5, .mv (.k (.int .i64 0)), none⟩]) <|
 .block 0 <|
 l52_0) <|
 .seq (.reg [
 ⟨some 4, .mv (.k (.int .i64 (-1))), none⟩]) <|
 .ret⟩

def f53 : DFn := ⟨1, [.t 2],
 .seq (.reg [
 ⟨some 1, .boxL (.t 0), none⟩,
 ⟨some 2, .mv (.k (.int .i64 0)), none⟩]) <|
 .seq (.seq (.reg [
 ⟨some 3, .fld 1 (.t 1), none⟩,
 ⟨some 4, .ld 1 false (.t 3), none⟩]) <|
 .cond (.t 4)
 (.seq (.reg [
 ⟨some 2, .mv (.k (.int .i64 2)), none⟩]) <|
 .ret)
 (.skip)) <|
 .seq (.reg [
 ⟨some 2, .mv (.k (.int .i64 1)), none⟩]) <|
 .ret⟩

def l54_0b : DC :=
 .seq (.seq (.reg [
 ⟨some 11, .mv (.t 5), none⟩,
 ⟨some 12, .mv (.t 0), none⟩,
 ⟨some 13, .len (.t 12), none⟩,
 ⟨some 14, .bin .lss .sc (.t 11) (.t 13), none⟩]) <|
 .cond (.t 14)
 (.skip)
 (.exit 0)) <|
 .seq (.block 1 <|
 .seq (.drw [
 ⟨some 17, .mv (.t 0), none⟩,
 ⟨some 18, .mv (.t 5), none⟩,
 ⟨some 19, .idx 4 (.t 17) (.t 18), none⟩,
 ⟨some 20, .ld 4 true (.t 19), none⟩,
 ⟨some 21, .mv (.t 1), none⟩,
 ⟨some 22, .mv (.t 5), none⟩,
 ⟨some 23, .idx 4 (.t 21) (.t 22), none⟩,
 ⟨some 24, .ld 4 true (.t 23), none⟩,
 ⟨some 25, .bin .neq (.st [.i, .i, .i, .b]) (.t 20) (.t 24), none⟩] [[], [], [], [2], [], [], [], [6], []]) <|
 .cond (.t 25)
 (.seq (.reg [
 ⟨some 4, .mv (.k (.bool false)), none⟩]) <|
 .ret)
 (.skip)) <|
 .reg [
 ⟨some 15, .mv (.t 5), none⟩,
 ⟨some 16, .bin .add .sc (.t 15) (.k (.int .i64 1)), none⟩,
 ⟨some 5, .mv (.t 16), none⟩]
def l54_0 : DC := .loop [0, 1, 5] [] l54_0b
def f54 : DFn := ⟨2, [.t 4],
 .seq (.reg [
 ⟨some 4, .mv (.k (.bool false)), none⟩]) <|
 .seq (.seq (.reg [
 ⟨some 6, .mv (.t 0), none⟩,
 ⟨some 7, .len (.t 6), none⟩,
 ⟨some 8, .mv (.t 1), none⟩,
 ⟨some 9, .len (.t 8), none⟩,
 ⟨some 10, .bin .neq .sc (.t 7) (.t 9), none⟩]) <|
 .cond (.t 10)
 (.seq (.reg [
 ⟨some 4, .mv (.k (.bool false)), none⟩]) <|
 .ret)
 (.skip)) <|
 .seq (.seq (.reg [
 ⟨some 5, .mv (.k (.int .i64 0)), none⟩]) <|
 .block 0 <|
 l54_0) <|
 .seq (.reg [
 ⟨some 4, .mv (.k (.bool true)), none⟩]) <|
 .ret⟩

def f55 : DFn := ⟨2, [.t 4],
 .seq (.reg [
 ⟨some 4, .mv (.k (.bool false)), none⟩]) <|
 .seq (.reg [
 ⟨some 5, .mv (.t 0), none⟩,
 ⟨some 6, .mv (.t 1), none⟩,
 ⟨some 7, .call .blind 79 [(.t 5), (.t 6)], none⟩,
 ⟨some 8, .bin .geq .sc (.t 7) (.k (.int .i64 0)), none⟩,
 ⟨some 4, .mv (.t 8), none⟩]) <|
 .ret⟩

def f56 : DFn := ⟨2, [.t 4],
 .seq (.reg [
 ⟨some 4, .mv (.k (.nils)), none⟩]) <|
 .seq (.drw [
 ⟨some 7, .mv (.t 0), none⟩,
 ⟨some 8, .nilck (.t 7), none⟩,
 ⟨some 9, .fld 4 (.t 8), none⟩,
 ⟨some 10, .ld 1 false (.t 9), none⟩,
 ⟨some 11, .mv (.t 1), none⟩,
 ⟨some 12, .idx 4 (.t 10) (.t 11), none⟩,
 ⟨some 13, .ld 4 true (.t 12), none⟩,
 ⟨some 14, .mv (.t 0), none⟩,
 ⟨some 15, .nilck (.t 14), none⟩,
 ⟨some 16, .fld 0 (.t 15), none⟩,
 ⟨some 17, .fld 3 (.t 16), none⟩,
 ⟨some 18, .ld 1 false (.t 17), none⟩,
 ⟨some 19, .mv (.t 1), none⟩,
 ⟨some 20, .idx 6 (.t 18) (.t 19), none⟩,
 ⟨some 21, .fld 3 (.t 20), none⟩,
 ⟨some 22, .ld 1 false (.t 21), none⟩,
 ⟨some 5, .alL [.int .i64 0, .int .i64 0, .int .i64 0, .bool false], none⟩,
 ⟨none, .st 4 (.t 5) (.t 13), none⟩,
 ⟨some 6, .mv (.t 22), none⟩] [[], [], [], [], [], [3], [3, 5], [], [], [], [], [], [], [11], [], [11, 13], [], [3, 5, 6, 16], []]) <|
 .seq (.seq (.reg [
 ⟨some 23, .fld 0 (.t 5), none⟩,
 ⟨some 24, .ld 1 false (.t 23), none⟩]) <|
 .block 0 <|
 .seq (.seq (.reg [
 ⟨some 26, .bin .eql .sc (.t 24) (.k (.int .i64 1)), none⟩,
 ⟨some 25, .mv (.t 26), none⟩]) <|
 .cond (.t 25)
 (.skip)
 (.seq (.reg [
 ⟨some 27, .bin .eql .sc (.t 24) (.k (.int .i64 2)), none⟩,
 ⟨some 25, .mv (.t 27), none⟩]) <|
 .cond (.t 25)
 (.skip)
 (.reg [
 ⟨some 28, .bin .eql .sc (.t 24) (.k (.int .i64 4)), none⟩,
 ⟨some 25, .mv (.t 28), none⟩]))) <|
 .cond (.t 25)
 (.seq (.reg [
 ⟨some 29, .mv (.t 6), none⟩,
 ⟨some 4, .mv (.t 29), none⟩]) <|
 .ret)
 (.seq (.reg [
 ⟨some 31, .bin .eql .sc (.t 24) (.k (.int .i64 3)), none⟩,
 ⟨some 30, .mv (.t 31), none⟩]) <|
 .cond (.t 30)
 (.seq (.reg [
 ⟨some 32, .mv (.t 6), none⟩,
 ⟨some 33, .fld 2 (.t 5), none⟩,
 ⟨some 34, .ld 1 false (.t 33), none⟩,
 ⟨some 35, .slc 1 (.t 32) (some (.t 34)) none none, none⟩,
 ⟨some 4, .mv (.t 35), none⟩]) <|
 .ret)
 (.skip))) <|
 .seq (.reg [
 ⟨some 4, .mv (.k (.nils)), none⟩]) <|
 .ret⟩

def l57_0b : DC :=
 .seq (.seq (.reg [
 ⟨some 6, .mv (.t 5), none⟩,
 ⟨some 7, .mv (.t 0), none⟩,
 ⟨some 8, .len (.t 7), none⟩,
 ⟨some 9, .bin .lss .sc (.t 6) (.t 8), none⟩]) <|
 .cond (.t 9)
 (.skip)
 (.exit 0)) <|
 .seq (.block 1 <|
 .seq (.reg [
 ⟨some 12, .mv (.t 0), none⟩,
 ⟨some 13, .mv (.t 5), none⟩,
 ⟨some 14, .idx 1 (.t 12) (.t 13), none⟩,
 ⟨some 15, .ld 1 false (.t 14), none⟩,
 ⟨some 16, .mv (.t 1), none⟩,
 ⟨some 17, .bin .eql .sc (.t 15) (.t 16), none⟩]) <|
 .cond (.t 17)
 (.seq (.reg [
 ⟨some 4, .mv (.k (.bool true)), none⟩]) <|
 .ret)
 (.skip)) <|
 .reg [
 ⟨some 10, .mv (.t 5), none⟩,
 ⟨some 11, .bin .add .sc (.t 10) (.k (.int .i64 1)), none⟩,
 ⟨some 5, .mv (.t 11), none⟩]
def l57_0 : DC := .loop [0, 1, 5] [] l57_0b
def f57 : DFn := ⟨2, [.t 4],
 .seq (.reg [
 ⟨some 4, .mv (.k (.bool false)), none⟩]) <|
 .seq (.seq (.reg [
 ⟨some 5, .mv (.k (.int .i64 0)), none⟩]) <|
 .block 0 <|
 l57_0) <|
 .seq (.reg [
 ⟨some 4, .mv (.k (.bool false)), none⟩]) <|
 .ret⟩

def f58 : DFn := ⟨1, [.t 2],
 .seq (.reg [
 ⟨some 2, .mv (.k (.bool false)), none⟩]) <|
 .seq (.reg [
 ⟨some 3, .mv (.t 0), none⟩,
 ⟨some 4, .call .blind 80 [(.t 3)], none⟩,
 ⟨some 5, .mv (.t 4), none⟩,
 ⟨some 6, .mv (.t 0), some (5, true)⟩,
 ⟨some 7, .bin .neq .sc (.t 6) (.k (.str [115, 101, 116])), some (5, true)⟩,
 ⟨some 8, .pick (.t 5) (.t 7) (.k (.bool false)), none⟩,
 ⟨some 9, .mv (.t 8), none⟩,
 ⟨some 10, .mv (.t 0), some (9, true)⟩,
 ⟨some 11, .bin .neq .sc (.t 10) (.k (.str [102, 108, 97, 110, 107])), some (9, true)⟩,
 ⟨some 12, .pick (.t 9) (.t 11) (.k (.bool false)), none⟩,
 ⟨some 2, .mv (.t 12), none⟩]) <|
 .ret⟩

def l59_0b : DC :=
 .seq (.seq (.reg [
 ⟨some 11, .mv (.t 9), none⟩,
 ⟨some 12, .mv (.t 1), none⟩,
 ⟨some 13, .len (.t 12), none⟩,
 ⟨some 14, .bin .lss .sc (.t 11) (.t 13), none⟩]) <|
 .cond (.t 14)
 (.skip)
 (.exit 0)) <|
 .seq (.block 1 <|
 .seq (.reg [
 ⟨some 17, .mv (.t 1), none⟩,
 ⟨some 18, .mv (.t 9), none⟩,
 ⟨some 19, .idx 2 (.t 17) (.t 18), none⟩,
 ⟨some 20, .fld 0 (.t 19), none⟩,
 ⟨some 21, .ld 1 false (.t 20), none⟩,
 ⟨some 10, .mv (.t 21), none⟩]) <|
 .seq (.reg [
 ⟨some 22, .mv (.t 10), none⟩,
 ⟨some 23, .bin .lss .sc (.t 22) (.k (.int .i64 0)), none⟩,
 ⟨some 24, .mv (.t 23), none⟩,
 ⟨some 25, .mv (.t 10), some (24, false)⟩,
 ⟨some 26, .fld 1 (.t 4), some (24, false)⟩,
 ⟨some 27, .ld 1 false (.t 26), some (24, false)⟩,
 ⟨some 28, .len (.t 27), some (24, false)⟩,
 ⟨some 29, .bin .geq .sc (.t 25) (.t 28), some (24, false)⟩,
 ⟨some 30, .pick (.t 24) (.k (.bool true)) (.t 29), none⟩,
 ⟨some 31, .mv (.t 30), none⟩,
 ⟨some 32, .mv (.t 9), some (31, false)⟩,
 ⟨some 33, .bin .gtr .sc (.t 32) (.k (.int .i64 0)), some (31, false)⟩,
 ⟨some 34, .mv (.t 33), some (31, false)⟩,
 ⟨some 35, .mv (.t 1), some (34, true)⟩,
 ⟨some 36, .mv (.t 9), some (34, true)⟩,
 ⟨some 37, .bin .sub .sc (.t 36) (.k (.int .i64 1)), some (34, true)⟩,
 ⟨some 38, .idx 2 (.t 35) (.t 37), some (34, true)⟩,
 ⟨some 39, .fld 0 (.t 38), some (34, true)⟩,
 ⟨some 40, .ld 1 false (.t 39), some (34, true)⟩,
 ⟨some 41, .mv (.t 10), some (34, true)⟩,
 ⟨some 42, .bin .geq .sc (.t 40) (.t 41), some (34, true)⟩,
 ⟨some 43, .pick (.t 34) (.t 42) (.k (.bool false)), some (31, false)⟩,
 ⟨some 44, .pick (.t 31) (.k (.bool true)) (.t 43), none⟩,
 ⟨some 45, .mv (.t 44), none⟩,
 ⟨some 46, .mv (.t 2), some (45, false)⟩,
 ⟨some 47, .fld 1 (.t 4), some (45, false)⟩,
 ⟨some 48, .ld 1 false (.t 47), some (45, false)⟩,
 ⟨some 49, .mv (.t 10), some (45, false)⟩,
 ⟨some 50, .idx 2 (.t 48) (.t 49), some (45, false)⟩,
 ⟨some 51, .fld 1 (.t 50), some (45, false)⟩,
 ⟨some 52, .ld 1 false (.t 51), some (45, false)⟩,
 ⟨some 53, .call .blind 57 [(.t 46), (.t 52)], some (45, false)⟩,
 ⟨some 54, .mv (.t 3), some (45, false)⟩,
 ⟨some 55, .bin .neq .bl (.t 53) (.t 54), some (45, false)⟩,
 ⟨some 56, .pick (.t 45) (.k (.bool true)) (.t 55), none⟩]) <|
 .cond (.t 56)
 (.seq (.reg [
 ⟨some 8, .mv (.k (.bool false)), none⟩]) <|
 .ret)
 (.skip)) <|
 .reg [
 ⟨some 15, .mv (.t 9), none⟩,
 ⟨some 16, .bin .add .sc (.t 15) (.k (.int .i64 1)), none⟩,
 ⟨some 9, .mv (.t 16), none⟩]
def l59_0 : DC := .loop [1, 2, 3, 4, 9] [4] l59_0b
def f59 : DFn := ⟨4, [.t 8],
 .seq (.reg [
 ⟨some 4, .boxL (.t 0), none⟩,
 ⟨some 8, .mv (.k (.bool false)), none⟩]) <|
 .seq (.seq (.reg [
 ⟨some 9, .mv (.k (.int .i64 0)), none⟩]) <|
 .block 0 <|
 l59_0) <|
 .seq (.reg [
 ⟨some 8, .mv (.k (.bool true)), none⟩]) <|
 .ret⟩

def f60 : DFn := ⟨3, [.t 6],
 .seq (.reg [
 ⟨some 6, .mv (.k (.bool false)), none⟩]) <|
 .seq (.reg [
 ⟨some 7, .mv (.t 0), none⟩,
 ⟨some 8, .mv (.t 1), none⟩,
 ⟨some 9, .bin .geq .sc (.t 7) (.t 8), none⟩,
 ⟨some 10, .mv (.t 9), none⟩,
 ⟨some 11, .mv (.t 0), some (10, true)⟩,
 ⟨some 12, .mv (.t 2), some (10, true)⟩,
 ⟨some 13, .bin .leq .sc (.t 11) (.t 12), some (10, true)⟩,
 ⟨some 14, .pick (.t 10) (.t 13) (.k (.bool false)), none⟩,
 ⟨some 6, .mv (.t 14), none⟩]) <|
 .ret⟩

def l61_0b : DC :=
 .seq (.reg [
 ⟨some 61, .bin .lss .sc (.t 60) (.t 59), none⟩]) <|
 .seq (.cond (.t 61)
 (.skip)
 (.exit 0)) <|
 .seq (.block 1 <|
 .seq (.reg [
 ⟨some 62, .idx 2 (.t 58) (.t 60), none⟩,
 ⟨some 63, .ld 2 true (.t 62), none⟩,
 ⟨some 8, .alL [.str [], .int .i64 0], none⟩,
 ⟨none, .st 2 (.t 8) (.t 63), none⟩]) <|
 .seq (.reg [
 ⟨some 64, .fld 3 (.t 3), none⟩,
 ⟨some 65, .ld 1 false (.t 64), none⟩,
 ⟨some 66, .fld 1 (.t 8), none⟩,
 ⟨some 67, .ld 1 false (.t 66), none⟩,
 ⟨some 68, .call .blind 55 [(.t 65), (.t 67)], none⟩]) <|
 .cond (.t 68)
 (.reg [
 ⟨some 69, .mv (.t 6), none⟩,
 ⟨some 70, .bin .add .sc (.t 69) (.k (.int .i64 1)), none⟩,
 ⟨some 6, .mv (.t 70), none⟩])
 (.skip)) <|
 .reg [
 ⟨some 71, .bin .add .sc (.t 60) (.k (.int .i64 1)), none⟩,
 ⟨some 60, .mv (.t 71), none⟩]
def l61_0 : DC := .loop [3, 6, 58, 59, 60] [3] l61_0b
def f61 : DFn := ⟨2, [.t 4],
 .seq (.reg [
 ⟨some 2, .boxL (.t 0), none⟩,
 ⟨some 3, .boxL (.t 1), none⟩,
 ⟨some 4, .mv (.k (.bool false)), none⟩]) <|
 .seq (.reg [
 ⟨some 9, .fld 2 (.t 2), none⟩,
 ⟨some 10, .ld 1 false (.t 9), none⟩,
 ⟨some 11, .len (.t 10), none⟩,
 ⟨some 12, .bin .sub .sc (.t 11) (.k (.int .i64 1)), none⟩,
 ⟨some 5, .mv (.t 12), none⟩]) <|
 .seq (.seq (.reg [
 ⟨some 13, .fld 1 (.t 3), none⟩,
 ⟨some 14, .ld 1 false (.t 13), none⟩,
 ⟨some 15, .mv (.t 5), none⟩,
 ⟨some 16, .call .blind 60 [(.t 14), (.k (.int .i64 0)), (.t 15)], none⟩,
 ⟨some 17, .un .not (.t 16), none⟩,
 ⟨some 18, .mv (.t 17), none⟩,
 ⟨some 19, .fld 2 (.t 3), some (18, false)⟩,
 ⟨some 20, .ld 1 false (.t 19), some (18, false)⟩,
 ⟨some 21, .mv (.t 5), some (18, false)⟩,
 ⟨some 22, .call .blind 60 [(.t 20), (.k (.int .i64 0)), (.t 21)], some (18, false)⟩,
 ⟨some 23, .un .not (.t 22), some (18, false)⟩,
 ⟨some 24, .pick (.t 18) (.k (.bool true)) (.t 23), none⟩,
 ⟨some 25, .mv (.t 24), none⟩,
 ⟨some 26, .fld 1 (.t 3), some (25, false)⟩,
 ⟨some 27, .ld 1 false (.t 26), some (25, false)⟩,
 ⟨some 28, .fld 2 (.t 3), some (25, false)⟩,
 ⟨some 29, .ld 1 false (.t 28), some (25, false)⟩,
 ⟨some 30, .bin .eql .sc (.t 27) (.t 29), some (25, false)⟩,
 ⟨some 31, .pick (.t 25) (.k (.bool true)) (.t 30), none⟩,
 ⟨some 32, .mv (.t 31), none⟩,
 ⟨some 33, .ld 4 true (.t 2), some (32, false)⟩,
 ⟨some 34, .fld 3 (.t 3), some (32, false)⟩,
 ⟨some 35, .ld 1 false (.t 34), some (32, false)⟩,
 ⟨some 36, .call .blind 81 [(.t 33), (.t 35)], some (32, false)⟩,
 ⟨some 37, .un .not (.t 36), some (32, false)⟩,
 ⟨some 38, .pick (.t 32) (.k (.bool true)) (.t 37), none⟩,
 ⟨some 39, .mv (.t 38), none⟩,
 ⟨some 40, .ld 4 true (.t 2), some (39, false)⟩,
 ⟨some 41, .fld 4 (.t 3), some (39, false)⟩,
 ⟨some 42, .ld 1 false (.t 41), some (39, false)⟩,
 ⟨some 43, .fld 3 (.t 3), some (39, false)⟩,
 ⟨some 44, .ld 1 false (.t 43), some (39, false)⟩,
 ⟨some 45, .call .blind 82 [(.t 40), (.t 42), (.t 44), (.k (.bool true))], some (39, false)⟩,
 ⟨some 46, .un .not (.t 45), some (39, false)⟩,
 ⟨some 47, .pick (.t 39) (.k (.bool true)) (.t 46), none⟩,
 ⟨some 48, .mv (.t 47), none⟩,
 ⟨some 49, .ld 4 true (.t 2), some (48, false)⟩,
 ⟨some 50, .fld 5 (.t 3), some (48, false)⟩,
 ⟨some 51, .ld 1 false (.t 50), some (48, false)⟩,
 ⟨some 52, .fld 3 (.t 3), some (48, false)⟩,
 ⟨some 53, .ld 1 false (.t 52), some (48, false)⟩,
 ⟨some 54, .call .blind 82 [(.t 49), (.t 51), (.t 53), (.k (.bool false))], some (48, false)⟩,
 ⟨some 55, .un .not (.t 54), some (48, false)⟩,
 ⟨some 56, .pick (.t 48) (.k (.bool true)) (.t 55), none⟩]) <|
 .cond (.t 56)
 (.seq (.reg [
 ⟨some 4, .mv (.k (.bool false)), none⟩]) <|
 .ret)
 (.skip)) <|
 .seq (.reg [
 ⟨some 6, .mv (.k (.int .i64 0)), none⟩]) <|
 .seq (.seq (.reg [
 ⟨some 57, .fld 1 (.t 2), none⟩,
 ⟨some 58, .ld 1 false (.t 57), none⟩,
 ⟨some 59, .len (.t 58), none⟩,
 ⟨some 60, .mv (.k (.int .i64 0)), none⟩]) <|
 .block 0 <|
 l61_0) <|
 .seq (.reg [
 ⟨some 72, .mv (.t 6), none⟩,
 ⟨some 73, .fld 4 (.t 3), none⟩,
 ⟨some 74, .ld 1 false (.t 73), none⟩,
 ⟨some 75, .len (.t 74), none⟩,
 ⟨some 76, .bin .eql .sc (.t 72) (.t 75), none⟩,
 ⟨some 4, .mv (.t 76), none⟩]) <|
 .ret⟩

def l62_0b : DC :=
 .seq (.reg [
 ⟨some 8, .bin .lss .sc (.t 7) (.t 6), none⟩]) <|
 .seq (.cond (.t 8)
 (.skip)
 (.exit 0)) <|
 .seq (.block 1 <|
 .seq (.reg [
 ⟨some 9, .mv (.t 7), none⟩,
 ⟨some 10, .idx 1 (.t 5) (.t 7), none⟩,
 ⟨some 11, .ld 1 false (.t 10), none⟩,
 ⟨some 3, .mv (.t 9), none⟩,
 ⟨some 4, .mv (.t 11), none⟩]) <|
 .seq (.reg [
 ⟨some 12, .mv (.t 4), none⟩,
 ⟨some 13, .call .blind 83 [(.t 12)], none⟩,
 ⟨some 14, .un .not (.t 13), none⟩,
 ⟨some 15, .mv (.t 14), none⟩,
 ⟨some 16, .mv (.t 4), some (15, false)⟩,
 ⟨some 17, .bin .eql .sc (.t 16) (.k (.str [115, 101, 116])), some (15, false)⟩,
 ⟨some 18, .pick (.t 15) (.k (.bool true)) (.t 17), none⟩,
 ⟨some 19, .mv (.t 18), none⟩,
 ⟨some 20, .mv (.t 4), some (19, false)⟩,
 ⟨some 21, .bin .eql .sc (.t 20) (.k (.str [102, 108, 97, 110, 107])), some (19, false)⟩,
 ⟨some 22, .pick (.t 19) (.k (.bool true)) (.t 21), none⟩,
 ⟨some 23, .mv (.t 22), none⟩,
 ⟨some 24, .mv (.t 0), some (23, false)⟩,
 ⟨some 25, .mv (.t 3), some (23, false)⟩,
 ⟨some 26, .slc 1 (.t 24) none (some (.t 25)) none, some (23, false)⟩,
 ⟨some 27, .mv (.t 4), some (23, false)⟩,
 ⟨some 28, .call .blind 84 [(.t 26), (.t 27)], some (23, false)⟩,
 ⟨some 29, .pick (.t 23) (.k (.bool true)) (.t 28), none⟩]) <|
 .cond (.t 29)
 (.seq (.reg [
 ⟨some 2, .mv (.k (.bool false)), none⟩]) <|
 .ret)
 (.skip)) <|
 .reg [
 ⟨some 30, .bin .add .sc (.t 7) (.k (.int .i64 1)), none⟩,
 ⟨some 7, .mv (.t 30), none⟩]
def l62_0 : DC := .loop [0, 5, 6, 7] [] l62_0b
def f62 : DFn := ⟨1, [.t 2],
 .seq (.reg [
 ⟨some 2, .mv (.k (.bool false)), none⟩]) <|
 .seq (.seq (.reg [
 ⟨some 5, .mv (.t 0), none⟩,
 ⟨some 6, .len (.t 5), none⟩,
 ⟨some 7, .mv (.k (.int .i64 0)), none⟩]) <|
 .block 0 <|
 l62_0) <|
 .seq (.reg [
 ⟨some 2, .mv (.k (.bool true)), none⟩]) <|
 .ret⟩

def f63 : DFn := ⟨1, [.t 2],
 .seq (.reg [
 ⟨some 2, .mv (.k (.nils)), none⟩]) <|
 .seq (.seq (.reg [
 ⟨some 3, .mv (.t 0), none⟩,
 ⟨some 4, .bin .eql .ns (.t 3) (.k (.nils)), none⟩]) <|
 .cond (.t 4)
 (.seq (.reg [
 ⟨some 2, .mv (.k (.nils)), none⟩]) <|
 .ret)
 (.skip)) <|
 .seq (.reg [
 ⟨some 5, .bsl false 1 [.str []] 0 [], none⟩,
 ⟨some 6, .mv (.t 0), none⟩,
 ⟨some 7, .app 1 16 (.t 5) (.t 6), none⟩,
 ⟨some 2, .mv (.t 7), none⟩]) <|
 .ret⟩

def f64 : DFn := ⟨1, [.t 2],
 .seq (.reg [
 ⟨some 2, .mv (.k (.nils)), none⟩]) <|
 .seq (.seq (.reg [
 ⟨some 3, .mv (.t 0), none⟩,
 ⟨some 4, .bin .eql .ns (.t 3) (.k (.nils)), none⟩]) <|
 .cond (.t 4)
 (.seq (.reg [
 ⟨some 2, .mv (.k (.nils)), none⟩]) <|
 .ret)
 (.skip)) <|
 .seq (.reg [
 ⟨some 5, .bsl false 2 [.str [], .int .i64 0] 0 [], none⟩,
 ⟨some 6, .mv (.t 0), none⟩,
 ⟨some 7, .app 2 24 (.t 5) (.t 6), none⟩,
 ⟨some 2, .mv (.t 7), none⟩]) <|
 .ret⟩

def f65 : DFn := ⟨1, [.t 2],
 .seq (.reg [
 ⟨some 2, .mv (.k (.nils)), none⟩]) <|
 .seq (.seq (.reg [
 ⟨some 3, .mv (.t 0), none⟩,
 ⟨some 4, .bin .eql .ns (.t 3) (.k (.nils)), none⟩]) <|
 .cond (.t 4)
 (.seq (.reg [
 ⟨some 2, .mv (.k (.nils)), none⟩]) <|
 .ret)
 (.skip)) <|
 .seq (.reg [
 ⟨some 5, .bsl false 6 [.str [], .int .i64 0, .int .i64 0, .nils, .nils, .nils] 0 [], none⟩,
 ⟨some 6, .mv (.t 0), none⟩,
 ⟨some 7, .app 6 104 (.t 5) (.t 6), none⟩,
 ⟨some 2, .mv (.t 7), none⟩]) <|
 .ret⟩

def f66 : DFn := ⟨1, [.t 2],
 .seq (.reg [
 ⟨some 2, .mv (.k (.nils)), none⟩]) <|
 .seq (.seq (.reg [
 ⟨some 3, .mv (.t 0), none⟩,
 ⟨some 4, .bin .eql .ns (.t 3) (.k (.nils)), none⟩]) <|
 .cond (.t 4)
 (.seq (.reg [
 ⟨some 2, .mv (.k (.nils)), none⟩]) <|
 .ret)
 (.skip)) <|
 .seq (.reg [
 ⟨some 5, .bsl false 1 [.int .i64 0] 0 [], none⟩,
 ⟨some 6, .mv (.t 0), none⟩,
 ⟨some 7, .app 1 8 (.t 5) (.t 6), none⟩,
 ⟨some 2, .mv (.t 7), none⟩]) <|
 .ret⟩

def f67 : DFn := ⟨1, [.t 2],
 .seq (.reg [
 ⟨some 2, .mv (.k (.nils)), none⟩]) <|
 .seq (.seq (.reg [
 ⟨some 3, .mv (.t 0), none⟩,
 ⟨some 4, .bin .eql .ns (.t 3) (.k (.nils)), none⟩]) <|
 .cond (.t 4)
 (.seq (.reg [
 ⟨some 2, .mv (.k (.nils)), none⟩]) <|
 .ret)
 (.skip)) <|
 .seq (.reg [
 ⟨some 5, .bsl false 2 [.int .i64 0, .bool false] 0 [], none⟩,
 ⟨some 6, .mv (.t 0), none⟩,
 ⟨some 7, .app 2 16 (.t 5) (.t 6), none⟩,
 ⟨some 2, .mv (.t 7), none⟩]) <|
 .ret⟩

def f68 : DFn := ⟨1, [.t 2],
 .seq (.reg [
 ⟨some 2, .mv (.k (.bool false)), none⟩]) <|
 .seq (.reg [
 ⟨some 3, .mv (.t 0), none⟩,
 ⟨some 4, .bin .lss .sc (.t 3) (.k (.int .i64 0)), none⟩,
 ⟨some 5, .mv (.t 4), none⟩,
 ⟨some 6, .mv (.t 0), some (5, false)⟩,
 ⟨some 7, .bin .gtr .sc (.t 6) (.k (.int .i64 2)), some (5, false)⟩,
 ⟨some 8, .pick (.t 5) (.k (.bool true)) (.t 7), none⟩,
 ⟨some 2, .mv (.t 8), none⟩]) <|
 .ret⟩

def f69 : DFn := ⟨2, [.t 4],
 .seq (.reg [
 ⟨some 4, .mv (.k (.bool false)), none⟩]) <|
 .seq (.reg [
 ⟨some 5, .mv (.t 0), none⟩,
 ⟨some 6, .mv (.t 1), none⟩,
 ⟨some 7, .call .ro 85 [(.t 5), (.t 6)], none⟩,
 ⟨some 8, .bin .geq .sc (.t 7) (.k (.int .i64 0)), none⟩,
 ⟨some 4, .mv (.t 8), none⟩]) <|
 .ret⟩

def l70_1b : DC :=
 .seq (.reg [
 ⟨some 43, .bin .lss .sc (.t 42) (.t 41), none⟩]) <|
 .seq (.cond (.t 43)
 (.skip)
 (.exit 2)) <|
 .seq (.block 3 <|
 .seq (.reg [
 ⟨some 44, .idx 2 (.t 40) (.t 42), none⟩,
 ⟨some 45, .ld 2 true (.t 44), none⟩,
 ⟨some 10, .alL [.int .i64 0, .bool false], none⟩,
 ⟨none, .st 2 (.t 10) (.t 45), none⟩]) <|
 .seq (.drw [
 ⟨some 46, .mv (.t 0), none⟩,
 ⟨some 47, .nilck (.t 46), none⟩,
 ⟨some 48, .fld 0 (.t 47), none⟩,
 ⟨some 49, .fld 1 (.t 48), none⟩,
 ⟨some 50, .ld 1 false (.t 49), none⟩,
 ⟨some 51, .fld 0 (.t 10), none⟩,
 ⟨some 52, .ld 1 false (.t 51), none⟩,
 ⟨some 53, .idx 2 (.t 50) (.t 52), none⟩,
 ⟨some 54, .fld 1 (.t 53), none⟩,
 ⟨some 55, .ld 1 false (.t 54), none⟩,
 ⟨some 11, .mv (.t 55), none⟩] [[], [], [], [], [], [], [], [4, 6], [], [4, 6, 7], []]) <|
 .seq (.reg [
 ⟨some 56, .ld 2 true (.t 4), none⟩,
 ⟨some 57, .ld 2 true (.t 10), none⟩,
 ⟨some 58, .call .blind 74 [(.t 56), (.t 57)], none⟩,
 ⟨some 59, .un .not (.t 58), none⟩,
 ⟨some 60, .mv (.t 59), none⟩,
 ⟨some 61, .fld 0 (.t 4), some (60, true)⟩,
 ⟨some 62, .ld 1 false (.t 61), some (60, true)⟩,
 ⟨some 63, .mv (.t 11), some (60, true)⟩,
 ⟨some 64, .idx 1 (.t 62) (.t 63), some (60, true)⟩,
 ⟨some 65, .ld 1 false (.t 64), some (60, true)⟩,
 ⟨some 66, .mv (.t 65), some (60, true)⟩,
 ⟨some 67, .mv (.t 0), some (66, false)⟩,
 ⟨some 68, .mv (.t 11), some (66, false)⟩,
 ⟨some 69, .call .ro 29 [(.t 67), (.t 68)], some (66, false)⟩,
 ⟨some 70, .bin .geq .sc (.t 69) (.k (.int .i64 0)), some (66, false)⟩,
 ⟨some 71, .pick (.t 66) (.k (.bool true)) (.t 70), some (60, true)⟩,
 ⟨some 72, .pick (.t 60) (.t 71) (.k (.bool false)), none⟩]) <|
 .cond (.t 72)
 (.seq (.reg [
 ⟨some 6, .mv (.k (.bool false)), none⟩]) <|
 .ret)
 (.skip)) <|
 .reg [
 ⟨some 73, .bin .add .sc (.t 42) (.k (.int .i64 1)), none⟩,
 ⟨some 42, .mv (.t 73), none⟩]
def l70_1 : DC := .loop [0, 2, 4, 40, 41, 42] [4] l70_1b
def l70_0b : DC :=
 .seq (.reg [
 ⟨some 18, .bin .lss .sc (.t 17) (.t 16), none⟩]) <|
 .seq (.cond (.t 18)
 (.skip)
 (.exit 0)) <|
 .seq (.block 1 <|
 .seq (.reg [
 ⟨some 19, .mv (.t 17), none⟩,
 ⟨some 20, .idx 4 (.t 15) (.t 17), none⟩,
 ⟨some 21, .ld 4 true (.t 20), none⟩,
 ⟨some 8, .alL [.int .i64 0, .int .i64 0, .int .i64 0, .bool false], none⟩,
 ⟨some 7, .mv (.t 19), none⟩,
 ⟨none, .st 4 (.t 8) (.t 21), none⟩]) <|
 .seq (.reg [
 ⟨some 22, .fld 0 (.t 8), none⟩,
 ⟨some 23, .ld 1 false (.t 22), none⟩,
 ⟨some 24, .bin .neq .sc (.t 23) (.k (.int .i64 0)), none⟩,
 ⟨some 25, .mv (.t 24), none⟩,
 ⟨some 26, .mv (.t 0), some (25, true)⟩,
 ⟨some 27, .nilck (.t 26), some (25, true)⟩,
 ⟨some 28, .fld 0 (.t 27), some (25, true)⟩,
 ⟨some 29, .ld 4 true (.t 28), some (25, true)⟩,
 ⟨some 30, .mv (.t 2), some (25, true)⟩,
 ⟨some 31, .mv (.t 7), some (25, true)⟩,
 ⟨some 32, .call .blind 86 [(.t 29), (.t 30), (.t 31)], some (25, true)⟩,
 ⟨some 33, .pick (.t 25) (.t 32) (.k (.bool false)), none⟩]) <|
 .cond (.t 33)
 (.seq (.reg [
 ⟨some 6, .mv (.k (.bool false)), none⟩]) <|
 .ret)
 (.skip)) <|
 .reg [
 ⟨some 34, .bin .add .sc (.t 17) (.k (.int .i64 1)), none⟩,
 ⟨some 17, .mv (.t 34), none⟩]
def l70_0 : DC := .loop [0, 2, 4, 15, 16, 17] [4] l70_0b
def f70 : DFn := ⟨3, [.t 6],
 .seq (.reg [
 ⟨some 4, .boxL (.t 1), none⟩,
 ⟨some 6, .mv (.k (.bool false)), none⟩]) <|
 .seq (.seq (.reg [
 ⟨some 12, .mv (.t 0), none⟩,
 ⟨some 13, .nilck (.t 12), none⟩,
 ⟨some 14, .fld 4 (.t 13), none⟩,
 ⟨some 15, .ld 1 false (.t 14), none⟩,
 ⟨some 16, .len (.t 15), none⟩,
 ⟨some 17, .mv (.k (.int .i64 0)), none⟩]) <|
 .block 0 <|
 l70_0) <|
 .seq (.seq (.reg [
 ⟨some 35, .mv (.t 0), none⟩,
 ⟨some 36, .nilck (.t 35), none⟩,
 ⟨some 37, .fld 0 (.t 36), none⟩,
 ⟨some 38, .ld 4 true (.t 37), none⟩,
 ⟨some 39, .mv (.t 2), none⟩,
 ⟨some 40, .call .blind 73 [(.t 38), (.t 39)], none⟩,
 ⟨some 41, .len (.t 40), none⟩,
 ⟨some 42, .mv (.k (.int .i64 0)), none⟩]) <|
 .block 2 <|
 l70_1) <|
 .seq (.drw [
 ⟨some 74, .ld 2 true (.t 4), none⟩,
 ⟨some 75, .mv (.t 0), none⟩,
 ⟨some 76, .nilck (.t 75), none⟩,
 ⟨some 77, .fld 0 (.t 76), none⟩,
 ⟨some 78, .fld 3 (.t 77), none⟩,
 ⟨some 79, .ld 1 false (.t 78), none⟩,
 ⟨some 80, .mv (.t 2), none⟩,
 ⟨some 81, .idx 6 (.t 79) (.t 80), none⟩,
 ⟨some 82, .fld 3 (.t 81), none⟩,
 ⟨some 83, .ld 1 false (.t 82), none⟩,
 ⟨some 84, .call .blind 41 [(.t 74), (.t 83)], none⟩,
 ⟨some 85, .un .not (.t 84), none⟩,
 ⟨some 6, .mv (.t 85), none⟩] [[], [], [], [], [], [], [], [5], [], [5, 7], [0, 5, 7, 9], [], []]) <|
 .ret⟩

def f71 : DFn := ⟨2, [.cell 4 4 true],
 .seq (.reg [
 ⟨some 2, .boxL (.t 0), none⟩,
 ⟨some 4, .alL [.int .i64 0, .int .i64 0, .int .i64 0, .bool false], none⟩]) <|
 .seq (.reg [
 ⟨some 5, .fld 1 (.t 2), none⟩,
 ⟨some 6, .ld 1 false (.t 5), none⟩,
 ⟨some 7, .bin .add .sc (.t 6) (.k (.int .i64 1)), none⟩,
 ⟨some 8, .fld 1 (.t 2), none⟩,
 ⟨none, .st 1 (.t 8) (.t 7), none⟩]) <|
 .seq (.seq (.reg [
 ⟨some 9, .fld 1 (.t 2), none⟩,
 ⟨some 10, .ld 1 false (.t 9), none⟩,
 ⟨some 11, .mv (.t 1), none⟩,
 ⟨some 12, .bin .gtr .sc (.t 10) (.t 11), none⟩]) <|
 .cond (.t 12)
 (.seq (.reg [
 ⟨some 13, .build [.int .i64 0, .int .i64 0, .int .i64 0, .bool false] [], none⟩,
 ⟨none, .st 4 (.t 4) (.t 13), none⟩]) <|
 .ret)
 (.skip)) <|
 .seq (.reg [
 ⟨some 14, .ld 4 true (.t 2), none⟩,
 ⟨none, .st 4 (.t 4) (.t 14), none⟩]) <|
 .ret⟩

def f72 : DFn := ⟨3, [.cell 6 4 true],
 .seq (.reg [
 ⟨some 4, .boxL (.t 1), none⟩,
 ⟨some 6, .alL [.int .i64 0, .int .i64 0, .int .i64 0, .bool false], none⟩]) <|
 .seq (.drw [
 ⟨some 9, .mv (.t 0), none⟩,
 ⟨some 10, .nilck (.t 9), none⟩,
 ⟨some 11, .fld 4 (.t 10), none⟩,
 ⟨some 12, .ld 1 false (.t 11), none⟩,
 ⟨some 13, .mv (.t 2), none⟩,
 ⟨some 14, .idx 4 (.t 12) (.t 13), none⟩,
 ⟨some 15, .ld 4 true (.t 14), none⟩,
 ⟨some 16, .mv (.t 0), none⟩,
 ⟨some 17, .nilck (.t 16), none⟩,
 ⟨some 18, .fld 0 (.t 17), none⟩,
 ⟨some 19, .fld 3 (.t 18), none⟩,
 ⟨some 20, .ld 1 false (.t 19), none⟩,
 ⟨some 21, .mv (.t 2), none⟩,
 ⟨some 22, .idx 6 (.t 20) (.t 21), none⟩,
 ⟨some 23, .fld 3 (.t 22), none⟩,
 ⟨some 24, .ld 1 false (.t 23), none⟩,
 ⟨some 7, .alL [.int .i64 0, .int .i64 0, .int .i64 0, .bool false], none⟩,
 ⟨none, .st 4 (.t 7) (.t 15), none⟩,
 ⟨some 8, .mv (.t 24), none⟩] [[], [], [], [], [], [3], [3, 5], [], [], [], [], [], [], [11], [], [11, 13], [], [3, 5, 6, 16], []]) <|
 .seq (.block 0 <|
 .seq (.drw [
 ⟨some 26, .fld 0 (.t 4), none⟩,
 ⟨some 27, .ld 1 false (.t 26), none⟩,
 ⟨some 28, .mv (.t 8), none⟩,
 ⟨some 29, .fld 2 (.t 7), none⟩,
 ⟨some 30, .ld 1 false (.t 29), none⟩,
 ⟨some 31, .idx 1 (.t 28) (.t 30), none⟩,
 ⟨some 32, .ld 1 false (.t 31), none⟩,
 ⟨some 33, .idx 1 (.t 27) (.t 32), none⟩,
 ⟨some 34, .ld 1 false (.t 33), none⟩,
 ⟨some 25, .mv (.t 34), none⟩] [[], [], [], [], [], [4], [4, 5], [1, 4, 5, 6], [1, 4, 5, 6, 7], []]) <|
 .cond (.t 25)
 (.reg [
 ⟨some 35, .fld 3 (.t 7), none⟩,
 ⟨none, .st 1 (.t 35) (.k (.bool true)), none⟩])
 (.seq (.reg [
 ⟨some 37, .fld 3 (.t 7), none⟩,
 ⟨some 38, .ld 1 false (.t 37), none⟩,
 ⟨some 36, .mv (.t 38), none⟩]) <|
 .cond (.t 36)
 (.reg [
 ⟨some 39, .fld 2 (.t 7), none⟩,
 ⟨some 40, .ld 1 false (.t 39), none⟩,
 ⟨some 41, .bin .add .sc (.t 40) (.k (.int .i64 1)), none⟩,
 ⟨some 42, .fld 2 (.t 7), none⟩,
 ⟨none, .st 1 (.t 42) (.t 41), none⟩,
 ⟨some 43, .fld 3 (.t 7), none⟩,
 ⟨none, .st 1 (.t 43) (.k (.bool false)), none⟩])
 (.skip))) <|
 .seq (.seq (.reg [
 ⟨some 44, .fld 2 (.t 7), none⟩,
 ⟨some 45, .ld 1 false (.t 44), none⟩,
 ⟨some 46, .mv (.t 8), none⟩,
 ⟨some 47, .len (.t 46), none⟩,
 ⟨some 48, .bin .geq .sc (.t 45) (.t 47), none⟩]) <|
 .cond (.t 48)
 (.seq (.reg [
 ⟨some 49, .build [.int .i64 0, .int .i64 0, .int .i64 0, .bool false] [], none⟩,
 ⟨none, .st 4 (.t 6) (.t 49), none⟩]) <|
 .ret)
 (.skip)) <|
 .seq (.reg [
 ⟨some 50, .ld 4 true (.t 7), none⟩,
 ⟨none, .st 4 (.t 6) (.t 50), none⟩]) <|
 .ret⟩

def f73 : DFn := ⟨2, [.t 4],
 .seq (.reg [
 ⟨some 2, .boxL (.t 0), none⟩,
 ⟨some 4, .mv (.k (.nils)), none⟩]) <|
 .seq (.drw [
 ⟨some 5, .fld 3 (.t 2), none⟩,
 ⟨some 6, .ld 1 false (.t 5), none⟩,
 ⟨some 7, .mv (.t 1), none⟩,
 ⟨some 8, .idx 6 (.t 6) (.t 7), none⟩,
 ⟨some 9, .fld 4 (.t 8), none⟩,
 ⟨some 10, .ld 1 false (.t 9), none⟩,
 ⟨some 11, .fld 3 (.t 2), none⟩,
 ⟨some 12, .ld 1 false (.t 11), none⟩,
 ⟨some 13, .mv (.t 1), none⟩,
 ⟨some 14, .idx 6 (.t 12) (.t 13), none⟩,
 ⟨some 15, .fld 5 (.t 14), none⟩,
 ⟨some 16, .ld 1 false (.t 15), none⟩,
 ⟨some 17, .bsl false 1 [.nils] 2 [(0, (.t 10)), (1, (.t 16))], none⟩,
 ⟨some 18, .call .blind 87 [(.t 17)], none⟩,
 ⟨some 4, .mv (.t 18), none⟩] [[], [], [], [1], [], [1, 3], [], [], [], [7], [], [7, 9], [1, 3, 5, 7, 9, 11], [1, 3, 5, 7, 9, 11, 12], []]) <|
 .ret⟩

def f74 : DFn := ⟨2, [.t 4],
 .seq (.reg [
 ⟨some 2, .boxL (.t 0), none⟩,
 ⟨some 3, .boxL (.t 1), none⟩,
 ⟨some 4, .mv (.k (.bool false)), none⟩]) <|
 .seq (.drw [
 ⟨some 5, .fld 1 (.t 2), none⟩,
 ⟨some 6, .ld 1 false (.t 5), none⟩,
 ⟨some 7, .fld 0 (.t 3), none⟩,
 ⟨some 8, .ld 1 false (.t 7), none⟩,
 ⟨some 9, .idx 1 (.t 6) (.t 8), none⟩,
 ⟨some 10, .ld 1 false (.t 9), none⟩,
 ⟨some 11, .ld 2 true (.t 3), none⟩,
 ⟨some 12, .call .blind 75 [(.t 11)], none⟩,
 ⟨some 13, .bin .eql .sc (.t 10) (.t 12), none⟩,
 ⟨some 4, .mv (.t 13), none⟩] [[], [], [], [], [1, 3], [1, 3, 4], [], [6], [], []]) <|
 .ret⟩

def f75 : DFn := ⟨1, [.t 2],
 .seq (.reg [
 ⟨some 1, .boxL (.t 0), none⟩,
 ⟨some 2, .mv (.k (.int .i64 0)), none⟩]) <|
 .seq (.seq (.reg [
 ⟨some 3, .fld 1 (.t 1), none⟩,
 ⟨some 4, .ld 1 false (.t 3), none⟩]) <|
 .cond (.t 4)
 (.seq (.reg [
 ⟨some 2, .mv (.k (.int .i64 2)), none⟩]) <|
 .ret)
 (.skip)) <|
 .seq (.reg [
 ⟨some 2, .mv (.k (.int .i64 1)), none⟩]) <|
 .ret⟩

def f76 : DFn := ⟨2, [.t 3],
 .seq (.reg [
 ⟨some 3, .mv (.k (.bool false)), none⟩]) <|
 .seq (.reg [
 ⟨some 4, .fld 0 (.t 1), none⟩,
 ⟨some 5, .ld 1 false (.t 4), none⟩,
 ⟨some 6, .mv (.t 0), none⟩,
 ⟨some 7, .idx 1 (.t 5) (.t 6), none⟩,
 ⟨some 8, .ld 1 false (.t 7), none⟩,
 ⟨some 3, .mv (.t 8), none⟩]) <|
 .ret⟩

def f77 : DFn := ⟨2, [.t 4],
 .seq (.reg [
 ⟨some 4, .mv (.k (.bool false)), none⟩]) <|
 .seq (.reg [
 ⟨some 5, .mv (.t 0), none⟩,
 ⟨some 6, .mv (.t 1), none⟩,
 ⟨some 7, .call .ro 88 [(.t 5), (.t 6)], none⟩,
 ⟨some 8, .bin .geq .sc (.t 7) (.k (.int .i64 0)), none⟩,
 ⟨some 4, .mv (.t 8), none⟩]) <|
 .ret⟩

def f78 : DFn := ⟨2, [.t 3],
 .seq (.reg [
 ⟨some 2, .boxL (.t 0), none⟩,
 ⟨some 3, .mv (.k (.bool false)), none⟩]) <|
 .seq (.reg [
 ⟨some 4, .ld 2 true (.t 1), none⟩,
 ⟨some 5, .ld 2 true (.t 2), none⟩,
 ⟨some 6, .call .blind 74 [(.t 4), (.t 5)], none⟩,
 ⟨some 7, .un .not (.t 6), none⟩,
 ⟨some 3, .mv (.t 7), none⟩]) <|
 .ret⟩

def l79_0b : DC :=
 .seq (.reg [
 ⟨some 9, .bin .lss .sc (.t 8) (.t 7), none⟩]) <|
 .seq (.cond (.t 9)
 (.skip)
 (.exit 0)) <|
 .seq (.block 1 <|
 .seq (.reg [
 ⟨some 10, .mv (.t 8), none⟩,
 ⟨some 5, .mv (.t 10), none⟩]) <|
 .seq (.reg [
 ⟨some 11, .mv (.t 1), none⟩,
 ⟨some 12, .mv (.t 0), none⟩,
 ⟨some 13, .mv (.t 5), none⟩,
 ⟨some 14, .idx 1 (.t 12) (.t 13), none⟩,
 ⟨some 15, .ld 1 false (.t 14), none⟩,
 ⟨some 16, .bin .eql .sc (.t 11) (.t 15), none⟩]) <|
 .cond (.t 16)
 (.seq (.reg [
 ⟨some 17, .mv (.t 5), none⟩,
 ⟨some 4, .mv (.t 17), none⟩]) <|
 .ret)
 (.skip)) <|
 .reg [
 ⟨some 18, .bin .add .sc (.t 8) (.k (.int .i64 1)), none⟩,
 ⟨some 8, .mv (.t 18), none⟩]
def l79_0 : DC := .loop [0, 1, 7, 8] [] l79_0b
def f79 : DFn := ⟨2, [.t 4],
 .seq (.reg [
 ⟨some 4, .mv (.k (.int .i64 0)), none⟩]) <|
 .seq (.seq (.reg [
 ⟨some 6, .mv (.t 0), none⟩,
 ⟨some 7, .len (.t 6), none⟩,
 ⟨some 8, .mv (.k (.int .i64 0)), none⟩]) <|
 .block 0 <|
 l79_0) <|
 .seq (.reg [
 ⟨some 4, .mv (.k (.int .i64 (-1))), none⟩]) <|
 .ret⟩

def l80_0b : DC :=
 .seq (.seq (.reg [
 ⟨some 7, .mv (.t 4), none⟩,
 ⟨some 8, .mv (.t 3), none⟩,
 ⟨some 9, .len (.t 8), none⟩,
 ⟨some 10, .bin .lss .sc (.t 7) (.t 9), none⟩]) <|
 .cond (.t 10)
 (.skip)
 (.exit 0)) <|
 .seq (.block 1 <|
 .seq (.reg [
 ⟨some 13, .mv (.t 3), none⟩,
 ⟨some 14, .mv (.t 4), none⟩,
 ⟨some 15, .idx 3 (.t 13) (.t 14), none⟩,
 ⟨some 16, .fld 2 (.t 15), none⟩,
 ⟨some 17, .ld 1 false (.t 16), none⟩,
 ⟨some 18, .mv (.t 17), none⟩,
 ⟨some 19, .mv (.t 3), some (18, false)⟩,
 ⟨some 20, .mv (.t 4), some (18, false)⟩,
 ⟨some 21, .idx 3 (.t 19) (.t 20), some (18, false)⟩,
 ⟨some 22, .fld 0 (.t 21), some (18, false)⟩,
 ⟨some 23, .ld 1 false (.t 22), some (18, false)⟩,
 ⟨some 24, .call .blind 90 [(.t 23)], some (18, false)⟩,
 ⟨some 25, .un .not (.t 24), some (18, false)⟩,
 ⟨some 26, .mv (.t 25), some (18, false)⟩,
 ⟨some 27, .mv (.t 4), some (26, true)⟩,
 ⟨some 28, .bin .eql .sc (.t 27) (.k (.int .i64 0)), some (26, true)⟩,
 ⟨some 29, .mv (.t 28), some (26, true)⟩,
 ⟨some 30, .mv (.t 3), some (29, false)⟩,
 ⟨some 31, .mv (.t 4), some (29, false)⟩,
 ⟨some 32, .idx 3 (.t 30) (.t 31), some (29, false)⟩,
 ⟨some 33, .fld 0 (.t 32), some (29, false)⟩,
 ⟨some 34, .ld 1 false (.t 33), some (29, false)⟩,
 ⟨some 35, .bin .lss .sc (.t 34) (.k (.int .i32 48)), some (29, false)⟩,
 ⟨some 36, .pick (.t 29) (.k (.bool true)) (.t 35), some (26, true)⟩,
 ⟨some 37, .mv (.t 36), some (26, true)⟩,
 ⟨some 38, .mv (.t 3), some (37, false)⟩,
 ⟨some 39, .mv (.t 4), some (37, false)⟩,
 ⟨some 40, .idx 3 (.t 38) (.t 39), some (37, false)⟩,
 ⟨some 41, .fld 0 (.t 40), some (37, false)⟩,
 ⟨some 42, .ld 1 false (.t 41), some (37, false)⟩,
 ⟨some 43, .bin .gtr .sc (.t 42) (.k (.int .i32 57)), some (37, false)⟩,
 ⟨some 44, .pick (.t 37) (.k (.bool true)) (.t 43), some (26, true)⟩,
 ⟨some 45, .pick (.t 26) (.t 44) (.k (.bool false)), some (18, false)⟩,
 ⟨some 46, .pick (.t 18) (.k (.bool true)) (.t 45), none⟩]) <|
 .cond (.t 46)
 (.seq (.reg [
 ⟨some 2, .mv (.k (.bool false)), none⟩]) <|
 .ret)
 (.skip)) <|
 .reg [
 ⟨some 11, .mv (.t 4), none⟩,
 ⟨some 12, .bin .add .sc (.t 11) (.k (.int .i64 1)), none⟩,
 ⟨some 4, .mv (.t 12), none⟩]
def l80_0 : DC := .loop [3, 4] [] l80_0b
def f80 : DFn := ⟨1, [.t 2],
 .seq (.reg [
 ⟨some 2, .mv (.k (.bool false)), none⟩]) <|
 .seq (.reg [
 ⟨some 5, .mv (.t 0), none⟩,
 ⟨some 6, .call .blind 89 [(.t 5)], none⟩,
 ⟨some 3, .mv (.t 6), none⟩]) <|
 .seq (.seq (.reg [
 ⟨some 4, .mv (.k (.int .i64 0)), none⟩]) <|
 .block 0 <|
 l80_0) <|
 .seq (.reg [
 ⟨some 47, .mv (.t 3), none⟩,
 ⟨some 48, .len (.t 47), none⟩,
 ⟨some 49, .bin .geq .sc (.t 48) (.k (.int .i64 1)), none⟩,
 ⟨some 50, .mv (.t 49), none⟩,
 ⟨some 51, .mv (.t 3), some (50, true)⟩,
 ⟨some 52, .len (.t 51), some (50, true)⟩,
 ⟨some 53, .bin .leq .sc (.t 52) (.k (.int .i64 8)), some (50, true)⟩,
 ⟨some 54, .pick (.t 50) (.t 53) (.k (.bool false)), none⟩,
 ⟨some 2, .mv (.t 54), none⟩]) <|
 .ret⟩

def l81_0b : DC :=
 .seq (.reg [
 ⟨some 10, .bin .lss .sc (.t 9) (.t 8), none⟩]) <|
 .seq (.cond (.t 10)
 (.skip)
 (.exit 0)) <|
 .seq (.block 1 <|
 .seq (.reg [
 ⟨some 11, .mv (.t 9), none⟩,
 ⟨some 12, .idx 1 (.t 7) (.t 9), none⟩,
 ⟨some 13, .ld 1 false (.t 12), none⟩,
 ⟨some 5, .mv (.t 11), none⟩,
 ⟨some 6, .mv (.t 13), none⟩]) <|
 .seq (.reg [
 ⟨some 14, .mv (.t 6), none⟩,
 ⟨some 15, .fld 0 (.t 2), none⟩,
 ⟨some 16, .ld 1 false (.t 15), none⟩,
 ⟨some 17, .len (.t 16), none⟩,
 ⟨some 18, .bin .sub .sc (.t 17) (.k (.int .i64 1)), none⟩,
 ⟨some 19, .call .blind 60 [(.t 14), (.k (.int .i64 0)), (.t 18)], none⟩,
 ⟨some 20, .un .not (.t 19), none⟩,
 ⟨some 21, .mv (.t 20), none⟩,
 ⟨some 22, .mv (.t 1), some (21, false)⟩,
 ⟨some 23, .mv (.t 5), some (21, false)⟩,
 ⟨some 24, .slc 1 (.t 22) none (some (.t 23)) none, some (21, false)⟩,
 ⟨some 25, .mv (.t 6), some (21, false)⟩,
 ⟨some 26, .call .blind 55 [(.t 24), (.t 25)], some (21, false)⟩,
 ⟨some 27, .pick (.t 21) (.k (.bool true)) (.t 26), none⟩]) <|
 .cond (.t 27)
 (.seq (.reg [
 ⟨some 4, .mv (.k (.bool false)), none⟩]) <|
 .ret)
 (.skip)) <|
 .reg [
 ⟨some 28, .bin .add .sc (.t 9) (.k (.int .i64 1)), none⟩,
 ⟨some 9, .mv (.t 28), none⟩]
def l81_0 : DC := .loop [1, 2, 7, 8, 9] [2] l81_0b
def f81 : DFn := ⟨2, [.t 4],
 .seq (.reg [
 ⟨some 2, .boxL (.t 0), none⟩,
 ⟨some 4, .mv (.k (.bool false)), none⟩]) <|
 .seq (.seq (.reg [
 ⟨some 7, .mv (.t 1), none⟩,
 ⟨some 8, .len (.t 7), none⟩,
 ⟨some 9, .mv (.k (.int .i64 0)), none⟩]) <|
 .block 0 <|
 l81_0) <|
 .seq (.reg [
 ⟨some 29, .mv (.t 1), none⟩,
 ⟨some 30, .len (.t 29), none⟩,
 ⟨some 31, .call .blind 60 [(.t 30), (.k (.int .i64 1)), (.k (.int .i64 5))], none⟩,
 ⟨some 4, .mv (.t 31), none⟩]) <|
 .ret⟩

def l82_0b : DC :=
 .seq (.reg [
 ⟨some 14, .bin .lss .sc (.t 13) (.t 12), none⟩]) <|
 .seq (.cond (.t 14)
 (.skip)
 (.exit 0)) <|
 .seq (.block 1 <|
 .seq (.reg [
 ⟨some 15, .mv (.t 13), none⟩,
 ⟨some 16, .idx 2 (.t 11) (.t 13), none⟩,
 ⟨some 17, .ld 2 true (.t 16), none⟩,
 ⟨some 10, .alL [.int .i64 0, .bool false], none⟩,
 ⟨some 9, .mv (.t 15), none⟩,
 ⟨none, .st 2 (.t 10) (.t 17), none⟩]) <|
 .seq (.drw [
 ⟨some 18, .fld 0 (.t 10), none⟩,
 ⟨some 19, .ld 1 false (.t 18), none⟩,
 ⟨some 20, .fld 1 (.t 4), none⟩,
 ⟨some 21, .ld 1 false (.t 20), none⟩,
 ⟨some 22, .len (.t 21), none⟩,
 ⟨some 23, .bin .sub .sc (.t 22) (.k (.int .i64 1)), none⟩,
 ⟨some 24, .call .blind 60 [(.t 19), (.k (.int .i64 0)), (.t 23)], none⟩,
 ⟨some 25, .un .not (.t 24), none⟩,
 ⟨some 26, .mv (.t 25), none⟩,
 ⟨some 27, .mv (.t 9), some (26, false)⟩,
 ⟨some 28, .bin .gtr .sc (.t 27) (.k (.int .i64 0)), some (26, false)⟩,
 ⟨some 29, .mv (.t 28), some (26, false)⟩,
 ⟨some 30, .mv (.t 1), some (29, true)⟩,
 ⟨some 31, .mv (.t 9), some (29, true)⟩,
 ⟨some 32, .bin .sub .sc (.t 31) (.k (.int .i64 1)), some (29, true)⟩,
 ⟨some 33, .idx 2 (.t 30) (.t 32), some (29, true)⟩,
 ⟨some 34, .fld 0 (.t 33), some (29, true)⟩,
 ⟨some 35, .ld 1 false (.t 34), some (29, true)⟩,
 ⟨some 36, .fld 0 (.t 10), some (29, true)⟩,
 ⟨some 37, .ld 1 false (.t 36), some (29, true)⟩,
 ⟨some 38, .bin .geq .sc (.t 35) (.t 37), some (29, true)⟩,
 ⟨some 39, .pick (.t 29) (.t 38) (.k (.bool false)), some (26, false)⟩,
 ⟨some 40, .pick (.t 26) (.k (.bool true)) (.t 39), none⟩,
 ⟨some 41, .mv (.t 40), none⟩,
 ⟨some 42, .mv (.t 2), some (41, false)⟩,
 ⟨some 43, .fld 1 (.t 4), some (41, false)⟩,
 ⟨some 44, .ld 1 false (.t 43), some (41, false)⟩,
 ⟨some 45, .fld 0 (.t 10), some (41, false)⟩,
 ⟨some 46, .ld 1 false (.t 45), some (41, false)⟩,
 ⟨some 47, .idx 2 (.t 44) (.t 46), some (41, false)⟩,
 ⟨some 48, .fld 1 (.t 47), some (41, false)⟩,
 ⟨some 49, .ld 1 false (.t 48), some (41, false)⟩,
 ⟨some 50, .call .blind 55 [(.t 42), (.t 49)], some (41, false)⟩,
 ⟨some 51, .mv (.t 3), some (41, false)⟩,
 ⟨some 52, .bin .neq .bl (.t 50) (.t 51), some (41, false)⟩,
 ⟨some 53, .pick (.t 41) (.k (.bool true)) (.t 52), none⟩] [[], [], [], [], [], [], [1, 3], [], [], [], [], [], [], [], [], [1, 3, 6], [], [1, 3, 6, 15], [], [1, 3, 6], [], [], [], [], [], [], [1, 3, 6, 15, 17, 19], [], [1, 3, 6, 15, 17, 19], [1, 3, 6, 15, 17, 19, 26, 28], [], [1, 3, 6, 15, 17, 19, 26, 28, 29], [1, 3, 6, 15, 17, 19, 26, 28, 29, 31], [], [], []]) <|
 .cond (.t 53)
 (.seq (.reg [
 ⟨some 8, .mv (.k (.bool false)), none⟩]) <|
 .ret)
 (.skip)) <|
 .reg [
 ⟨some 54, .bin .add .sc (.t 13) (.k (.int .i64 1)), none⟩,
 ⟨some 13, .mv (.t 54), none⟩]
def l82_0 : DC := .loop [1, 2, 3, 4, 11, 12, 13] [4] l82_0b
def f82 : DFn := ⟨4, [.t 8],
 .seq (.reg [
 ⟨some 4, .boxL (.t 0), none⟩,
 ⟨some 8, .mv (.k (.bool false)), none⟩]) <|
 .seq (.seq (.reg [
 ⟨some 11, .mv (.t 1), none⟩,
 ⟨some 12, .len (.t 11), none⟩,
 ⟨some 13, .mv (.k (.int .i64 0)), none⟩]) <|
 .block 0 <|
 l82_0) <|
 .seq (.reg [
 ⟨some 8, .mv (.k (.bool true)), none⟩]) <|
 .ret⟩

def l83_0b : DC :=
 .seq (.reg [
 ⟨some 9, .nxt 8, none⟩,
 ⟨some 10, .ext 0 (.t 9), none⟩]) <|
 .seq (.cond (.t 10)
 (.skip)
 (.exit 0)) <|
 .block 1 <|
 .seq (.reg [
 ⟨some 11, .ext 1 (.t 9), none⟩,
 ⟨some 12, .ext 2 (.t 9), none⟩,
 ⟨some 4, .mv (.t 11), none⟩,
 ⟨some 5, .mv (.t 12), none⟩]) <|
 .seq (.reg [
 ⟨some 13, .mv (.t 5), none⟩,
 ⟨some 14, .bin .geq .sc (.t 13) (.k (.int .i32 48)), none⟩,
 ⟨some 15, .mv (.t 14), none⟩,
 ⟨some 16, .mv (.t 5), some (15, true)⟩,
 ⟨some 17, .bin .leq .sc (.t 16) (.k (.int .i32 57)), some (15, true)⟩,
 ⟨some 18, .pick (.t 15) (.t 17) (.k (.bool false)), none⟩,
 ⟨some 19, .mv (.t 18), none⟩,
 ⟨some 20, .mv (.t 4), some (19, true)⟩,
 ⟨some 21, .bin .gtr .sc (.t 20) (.k (.int .i64 0)), some (19, true)⟩,
 ⟨some 22, .pick (.t 19) (.t 21) (.k (.bool false)), none⟩,
 ⟨some 6, .mv (.t 22), none⟩]) <|
 .seq (.seq (.reg [
 ⟨some 23, .mv (.t 0), none⟩,
 ⟨some 24, .mv (.t 4), none⟩,
 ⟨some 25, .call .blind 91 [(.t 23), (.t 24)], none⟩,
 ⟨some 26, .mv (.t 25), none⟩,
 ⟨some 27, .mv (.t 5), some (26, false)⟩,
 ⟨some 28, .call .blind 92 [(.t 27)], some (26, false)⟩,
 ⟨some 29, .un .not (.t 28), some (26, false)⟩,
 ⟨some 30, .mv (.t 29), some (26, false)⟩,
 ⟨some 31, .mv (.t 6), some (30, true)⟩,
 ⟨some 32, .un .not (.t 31), some (30, true)⟩,
 ⟨some 33, .pick (.t 30) (.t 32) (.k (.bool false)), some (26, false)⟩,
 ⟨some 34, .pick (.t 26) (.k (.bool true)) (.t 33), none⟩]) <|
 .cond (.t 34)
 (.seq (.reg [
 ⟨some 2, .mv (.k (.bool false)), none⟩]) <|
 .ret)
 (.skip)) <|
 .reg [
 ⟨some 35, .mv (.t 3), none⟩,
 ⟨some 36, .bin .add .sc (.t 35) (.k (.int .i64 1)), none⟩,
 ⟨some 3, .mv (.t 36), none⟩]
def l83_0 : DC := .loop [0, 3, 8] [8] l83_0b
def f83 : DFn := ⟨1, [.t 2],
 .seq (.reg [
 ⟨some 2, .mv (.k (.bool false)), none⟩]) <|
 .seq (.reg [
 ⟨some 3, .mv (.k (.int .i64 0)), none⟩]) <|
 .seq (.seq (.reg [
 ⟨some 7, .mv (.t 0), none⟩,
 ⟨some 8, .rng (.t 7), none⟩]) <|
 .block 0 <|
 l83_0) <|
 .seq (.reg [
 ⟨some 37, .mv (.t 3), none⟩,
 ⟨some 38, .bin .geq .sc (.t 37) (.k (.int .i64 1)), none⟩,
 ⟨some 39, .mv (.t 38), none⟩,
 ⟨some 40, .mv (.t 3), some (39, true)⟩,
 ⟨some 41, .bin .leq .sc (.t 40) (.k (.int .i64 8)), some (39, true)⟩,
 ⟨some 42, .pick (.t 39) (.t 41) (.k (.bool false)), none⟩,
 ⟨some 2, .mv (.t 42), none⟩]) <|
 .ret⟩

def f84 : DFn := ⟨2, [.t 4],
 .seq (.reg [
 ⟨some 4, .mv (.k (.bool false)), none⟩]) <|
 .seq (.reg [
 ⟨some 5, .mv (.t 0), none⟩,
 ⟨some 6, .mv (.t 1), none⟩,
 ⟨some 7, .call .blind 93 [(.t 5), (.t 6)], none⟩,
 ⟨some 8, .bin .geq .sc (.t 7) (.k (.int .i64 0)), none⟩,
 ⟨some 4, .mv (.t 8), none⟩]) <|
 .ret⟩

def l85_0b : DC :=
 .seq (.reg [
 ⟨some 9, .bin .lss .sc (.t 8) (.t 7), none⟩]) <|
 .seq (.cond (.t 9)
 (.skip)
 (.exit 0)) <|
 .seq (.block 1 <|
 .seq (.reg [
 ⟨some 10, .mv (.t 8), none⟩,
 ⟨some 5, .mv (.t 10), none⟩]) <|
 .seq (.reg [
 ⟨some 11, .mv (.t 1), none⟩,
 ⟨some 12, .mv (.t 0), none⟩,
 ⟨some 13, .mv (.t 5), none⟩,
 ⟨some 14, .idx 1 (.t 12) (.t 13), none⟩,
 ⟨some 15, .ld 1 false (.t 14), none⟩,
 ⟨some 16, .calld .ro (.t 11) [(.t 15)], none⟩]) <|
 .cond (.t 16)
 (.seq (.reg [
 ⟨some 17, .mv (.t 5), none⟩,
 ⟨some 4, .mv (.t 17), none⟩]) <|
 .ret)
 (.skip)) <|
 .reg [
 ⟨some 18, .bin .add .sc (.t 8) (.k (.int .i64 1)), none⟩,
 ⟨some 8, .mv (.t 18), none⟩]
def l85_0 : DC := .loop [0, 1, 7, 8] [] l85_0b
def f85 : DFn := ⟨2, [.t 4],
 .seq (.reg [
 ⟨some 4, .mv (.k (.int .i64 0)), none⟩]) <|
 .seq (.seq (.reg [
 ⟨some 6, .mv (.t 0), none⟩,
 ⟨some 7, .len (.t 6), none⟩,
 ⟨some 8, .mv (.k (.int .i64 0)), none⟩]) <|
 .block 0 <|
 l85_0) <|
 .seq (.reg [
 ⟨some 4, .mv (.k (.int .i64 (-1))), none⟩]) <|
 .ret⟩

def f86 : DFn := ⟨3, [.t 6],
 .seq (.reg [
 ⟨some 3, .boxH (.t 0), none⟩,
 ⟨some 5, .boxH (.t 2), none⟩,
 ⟨some 6, .mv (.k (.bool false)), none⟩]) <|
 .seq (.drw [
 ⟨some 11, .fld 3 (.t 3), none⟩,
 ⟨some 12, .ld 1 false (.t 11), none⟩,
 ⟨some 13, .mv (.t 1), none⟩,
 ⟨some 14, .idx 6 (.t 12) (.t 13), none⟩,
 ⟨some 15, .ld 6 true (.t 14), none⟩,
 ⟨some 16, .fld 3 (.t 3), none⟩,
 ⟨some 17, .ld 1 false (.t 16), none⟩,
 ⟨some 18, .ld 1 false (.t 5), none⟩,
 ⟨some 19, .idx 6 (.t 17) (.t 18), none⟩,
 ⟨some 20, .ld 6 true (.t 19), none⟩,
 ⟨some 7, .alL [.str [], .int .i64 0, .int .i64 0, .nils, .nils, .nils], none⟩,
 ⟨some 8, .alH [.str [], .int .i64 0, .int .i64 0, .nils, .nils, .nils], none⟩,
 ⟨none, .st 6 (.t 7) (.t 15), none⟩,
 ⟨none, .st 6 (.t 8) (.t 20), none⟩] [[], [], [], [1], [1, 3], [], [], [], [6, 7], [6, 7, 8], [], [], [1, 3, 4, 10, 11], [1, 3, 4, 6, 7, 8, 9, 10, 11, 12]]) <|
 .seq (.reg [
 ⟨some 21, .fld 3 (.t 7), none⟩,
 ⟨some 22, .ld 1 false (.t 21), none⟩,
 ⟨some 23, .mkF 94 [(.t 8)], none⟩,
 ⟨some 24, .call .ro 69 [(.t 22), (.t 23)], none⟩,
 ⟨some 9, .mv (.t 24), none⟩]) <|
 .seq (.reg [
 ⟨some 25, .ld 4 true (.t 3), none⟩,
 ⟨some 26, .mv (.t 1), none⟩,
 ⟨some 27, .call .blind 73 [(.t 25), (.t 26)], none⟩,
 ⟨some 28, .mkF 95 [(.t 3), (.t 5)], none⟩,
 ⟨some 29, .call .ro 77 [(.t 27), (.t 28)], none⟩,
 ⟨some 10, .mv (.t 29), none⟩]) <|
 .seq (.reg [
 ⟨some 30, .mv (.t 1), none⟩,
 ⟨some 31, .ld 1 false (.t 5), none⟩,
 ⟨some 32, .bin .eql .sc (.t 30) (.t 31), none⟩,
 ⟨some 33, .mv (.t 32), none⟩,
 ⟨some 34, .fld 1 (.t 7), some (33, false)⟩,
 ⟨some 35, .ld 1 false (.t 34), some (33, false)⟩,
 ⟨some 36, .fld 1 (.t 8), some (33, false)⟩,
 ⟨some 37, .ld 1 false (.t 36), some (33, false)⟩,
 ⟨some 38, .bin .eql .sc (.t 35) (.t 37), some (33, false)⟩,
 ⟨some 39, .pick (.t 33) (.k (.bool true)) (.t 38), none⟩,
 ⟨some 40, .mv (.t 39), none⟩,
 ⟨some 41, .mv (.t 9), some (40, false)⟩,
 ⟨some 42, .pick (.t 40) (.k (.bool true)) (.t 41), none⟩,
 ⟨some 43, .mv (.t 42), none⟩,
 ⟨some 44, .mv (.t 10), some (43, false)⟩,
 ⟨some 45, .pick (.t 43) (.k (.bool true)) (.t 44), none⟩,
 ⟨some 6, .mv (.t 45), none⟩]) <|
 .ret⟩

def l87_1b : DC :=
 .seq (.reg [
 ⟨some 28, .bin .lss .sc (.t 27) (.t 26), none⟩]) <|
 .seq (.cond (.t 28)
 (.skip)
 (.exit 2)) <|
 .seq (.block 3 <|
 .seq (.reg [
 ⟨some 29, .idx 1 (.t 25) (.t 27), none⟩,
 ⟨some 30, .ld 1 false (.t 29), none⟩,
 ⟨some 8, .mv (.t 30), none⟩]) <|
 .reg [
 ⟨some 31, .mv (.t 6), none⟩,
 ⟨some 32, .mv (.t 8), none⟩,
 ⟨some 33, .app 2 16 (.t 31) (.t 32), none⟩,
 ⟨some 6, .mv (.t 33), none⟩]) <|
 .reg [
 ⟨some 34, .bin .add .sc (.t 27) (.k (.int .i64 1)), none⟩,
 ⟨some 27, .mv (.t 34), none⟩]
def l87_1 : DC := .loop [6, 25, 26, 27] [] l87_1b
def l87_0b : DC :=
 .seq (.reg [
 ⟨some 12, .bin .lss .sc (.t 11) (.t 10), none⟩]) <|
 .seq (.cond (.t 12)
 (.skip)
 (.exit 0)) <|
 .seq (.block 1 <|
 .seq (.reg [
 ⟨some 13, .idx 1 (.t 9) (.t 11), none⟩,
 ⟨some 14, .ld 1 false (.t 13), none⟩,
 ⟨some 5, .mv (.t 14), none⟩]) <|
 .seq (.reg [
 ⟨some 15, .mv (.t 3), none⟩,
 ⟨some 16, .mv (.t 5), none⟩,
 ⟨some 17, .len (.t 16), none⟩,
 ⟨some 18, .bin .add .sc (.t 15) (.t 17), none⟩,
 ⟨some 3, .mv (.t 18), none⟩]) <|
 .seq (.reg [
 ⟨some 19, .mv (.t 3), none⟩,
 ⟨some 20, .bin .lss .sc (.t 19) (.k (.int .i64 0)), none⟩]) <|
 .cond (.t 20)
 (.reg [
 ⟨some 21, .mkI 9 (.k (.str [108, 101, 110, 32, 111, 117, 116, 32, 111, 102, 32, 114, 97, 110, 103, 101])), none⟩,
 ⟨none, .nilck (.k .nilp), none⟩])
 (.skip)) <|
 .reg [
 ⟨some 22, .bin .add .sc (.t 11) (.k (.int .i64 1)), none⟩,
 ⟨some 11, .mv (.t 22), none⟩]
def l87_0 : DC := .loop [0, 3, 9, 10, 11] [] l87_0b
def f87 : DFn := ⟨1, [.t 2],
 .seq (.reg [
 ⟨some 2, .mv (.k (.nils)), none⟩]) <|
 .seq (.reg [
 ⟨some 3, .mv (.k (.int .i64 0)), none⟩]) <|
 .seq (.seq (.reg [
 ⟨some 9, .mv (.t 0), none⟩,
 ⟨some 10, .len (.t 9), none⟩,
 ⟨some 11, .mv (.k (.int .i64 0)), none⟩]) <|
 .block 0 <|
 l87_0) <|
 .seq (.reg [
 ⟨some 23, .mv (.t 3), none⟩,
 ⟨some 24, .call .eff 97 [(.k (.nils)), (.t 23)], none⟩,
 ⟨some 6, .mv (.t 24), none⟩]) <|
 .seq (.seq (.reg [
 ⟨some 25, .mv (.t 0), none⟩,
 ⟨some 26, .len (.t 25), none⟩,
 ⟨some 27, .mv (.k (.int .i64 0)), none⟩]) <|
 .block 2 <|
 l87_1) <|
 .seq (.reg [
 ⟨some 35, .mv (.t 6), none⟩,
 ⟨some 2, .mv (.t 35), none⟩]) <|
 .ret⟩

def l88_0b : DC :=
 .seq (.reg [
 ⟨some 9, .bin .lss .sc (.t 8) (.t 7), none⟩]) <|
 .seq (.cond (.t 9)
 (.skip)
 (.exit 0)) <|
 .seq (.block 1 <|
 .seq (.reg [
 ⟨some 10, .mv (.t 8), none⟩,
 ⟨some 5, .mv (.t 10), none⟩]) <|
 .seq (.reg [
 ⟨some 11, .mv (.t 1), none⟩,
 ⟨some 12, .mv (.t 0), none⟩,
 ⟨some 13, .mv (.t 5), none⟩,
 ⟨some 14, .idx 2 (.t 12) (.t 13), none⟩,
 ⟨some 15, .ld 2 true (.t 14), none⟩,
 ⟨some 16, .calld .ro (.t 11) [(.t 15)], none⟩]) <|
 .cond (.t 16)
 (.seq (.reg [
 ⟨some 17, .mv (.t 5), none⟩,
 ⟨some 4, .mv (.t 17), none⟩]) <|
 .ret)
 (.skip)) <|
 .reg [
 ⟨some 18, .bin .add .sc (.t 8) (.k (.int .i64 1)), none⟩,
 ⟨some 8, .mv (.t 18), none⟩]
def l88_0 : DC := .loop [0, 1, 7, 8] [] l88_0b
def f88 : DFn := ⟨2, [.t 4],
 .seq (.reg [
 ⟨some 4, .mv (.k (.int .i64 0)), none⟩]) <|
 .seq (.seq (.reg [
 ⟨some 6, .mv (.t 0), none⟩,
 ⟨some 7, .len (.t 6), none⟩,
 ⟨some 8, .mv (.k (.int .i64 0)), none⟩]) <|
 .block 0 <|
 l88_0) <|
 .seq (.reg [
 ⟨some 4, .mv (.k (.int .i64 (-1))), none⟩]) <|
 .ret⟩

def l89_0b : DC :=
 .seq (.seq (.reg [
 ⟨some 7, .mv (.t 4), none⟩,
 ⟨some 8, .mv (.t 0), none⟩,
 ⟨some 9, .lenS (.t 8), none⟩,
 ⟨some 10, .bin .lss .sc (.t 7) (.t 9), none⟩]) <|
 .cond (.t 10)
 (.skip)
 (.exit 0)) <|
 .block 1 <|
 .seq (.reg [
 ⟨some 12, .mv (.t 0), none⟩,
 ⟨some 13, .mv (.t 4), none⟩,
 ⟨some 14, .slS (.t 12) (some (.t 13)) none, none⟩,
 ⟨some 15, .call .blind 98 [(.t 14)], none⟩,
 ⟨some 11, .mv (.t 15), none⟩,
 ⟨some 16, .ext 0 (.t 11), none⟩,
 ⟨some 17, .ext 1 (.t 11), none⟩,
 ⟨some 5, .mv (.t 16), none⟩,
 ⟨some 6, .mv (.t 17), none⟩]) <|
 .seq (.reg [
 ⟨some 18, .mv (.t 3), none⟩,
 ⟨some 19, .mv (.t 5), none⟩,
 ⟨some 20, .mv (.t 6), none⟩,
 ⟨some 21, .mv (.t 5), none⟩,
 ⟨some 22, .bin .eql .sc (.t 21) (.k (.int .i32 65533)), none⟩,
 ⟨some 23, .mv (.t 22), none⟩,
 ⟨some 24, .mv (.t 6), some (23, true)⟩,
 ⟨some 25, .bin .eql .sc (.t 24) (.k (.int .i64 1)), some (23, true)⟩,
 ⟨some 26, .pick (.t 23) (.t 25) (.k (.bool false)), none⟩,
 ⟨some 27, .build [.int .i32 0, .int .i64 0, .bool false] [(0, 1, (.t 19)), (1, 1, (.t 20)), (2, 1, (.t 26))], none⟩,
 ⟨some 28, .bsl false 3 [.int .i32 0, .int .i64 0, .bool false] 1 [(0, (.t 27))], none⟩,
 ⟨some 29, .app 3 24 (.t 18) (.t 28), none⟩,
 ⟨some 3, .mv (.t 29), none⟩]) <|
 .reg [
 ⟨some 30, .mv (.t 4), none⟩,
 ⟨some 31, .mv (.t 6), none⟩,
 ⟨some 32, .bin .add .sc (.t 30) (.t 31), none⟩,
 ⟨some 4, .mv (.t 32), none⟩]
def l89_0 : DC := .loop [0, 3, 4] [] l89_0b
def f89 : DFn := ⟨1, [.t 2],
 .seq (.reg [
 ⟨some 2, .mv (.k (.nils)), none⟩]) <|
 .seq (.reg [
 ⟨some 3, .mv (.k (.nils)), none⟩]) <|
 .seq (.seq (.reg [
 ⟨some 4, .mv (.k (.int .i64 0)), none⟩]) <|
 .block 0 <|
 l89_0) <|
 .seq (.reg [
 ⟨some 33, .mv (.t 3), none⟩,
 ⟨some 2, .mv (.t 33), none⟩]) <|
 .ret⟩

def f90 : DFn := ⟨1, [.t 2],
 .seq (.reg [
 ⟨some 2, .mv (.k (.bool false)), none⟩]) <|
 .seq (.reg [
 ⟨some 3, .mv (.t 0), none⟩,
 ⟨some 4, .bin .geq .sc (.t 3) (.k (.int .i32 97)), none⟩,
 ⟨some 5, .mv (.t 4), none⟩,
 ⟨some 6, .mv (.t 0), some (5, true)⟩,
 ⟨some 7, .bin .leq .sc (.t 6) (.k (.int .i32 122)), some (5, true)⟩,
 ⟨some 8, .pick (.t 5) (.t 7) (.k (.bool false)), none⟩,
 ⟨some 9, .mv (.t 8), none⟩,
 ⟨some 10, .mv (.t 0), some (9, false)⟩,
 ⟨some 11, .bin .geq .sc (.t 10) (.k (.int .i32 65)), some (9, false)⟩,
 ⟨some 12, .mv (.t 11), some (9, false)⟩,
 ⟨some 13, .mv (.t 0), some (12, true)⟩,
 ⟨some 14, .bin .leq .sc (.t 13) (.k (.int .i32 90)), some (12, true)⟩,
 ⟨some 15, .pick (.t 12) (.t 14) (.k (.bool false)), some (9, false)⟩,
 ⟨some 16, .pick (.t 9) (.k (.bool true)) (.t 15), none⟩,
 ⟨some 17, .mv (.t 16), none⟩,
 ⟨some 18, .mv (.t 0), some (17, false)⟩,
 ⟨some 19, .bin .geq .sc (.t 18) (.k (.int .i32 192)), some (17, false)⟩,
 ⟨some 20, .mv (.t 19), some (17, false)⟩,
 ⟨some 21, .mv (.t 0), some (20, true)⟩,
 ⟨some 22, .bin .leq .sc (.t 21) (.k (.int .i32 591)), some (20, true)⟩,
 ⟨some 23, .pick (.t 20) (.t 22) (.k (.bool false)), some (17, false)⟩,
 ⟨some 24, .mv (.t 23), some (17, false)⟩,
 ⟨some 25, .mv (.t 0), some (24, true)⟩,
 ⟨some 26, .bin .neq .sc (.t 25) (.k (.int .i32 215)), some (24, true)⟩,
 ⟨some 27, .pick (.t 24) (.t 26) (.k (.bool false)), some (17, false)⟩,
 ⟨some 28, .mv (.t 27), some (17, false)⟩,
 ⟨some 29, .mv (.t 0), some (28, true)⟩,
 ⟨some 30, .bin .neq .sc (.t 29) (.k (.int .i32 247)), some (28, true)⟩,
 ⟨some 31, .pick (.t 28) (.t 30) (.k (.bool false)), some (17, false)⟩,
 ⟨some 32, .pick (.t 17) (.k (.bool true)) (.t 31), none⟩,
 ⟨some 2, .mv (.t 32), none⟩]) <|
 .ret⟩

def f91 : DFn := ⟨2, [.t 4],
 .seq (.reg [
 ⟨some 4, .mv (.k (.bool false)), none⟩]) <|
 .seq (.reg [
 ⟨some 8, .mv (.t 0), none⟩,
 ⟨some 9, .mv (.t 1), none⟩,
 ⟨some 10, .slS (.t 8) (some (.t 9)) none, none⟩,
 ⟨some 11, .call .blind 98 [(.t 10)], none⟩,
 ⟨some 7, .mv (.t 11), none⟩,
 ⟨some 12, .ext 0 (.t 7), none⟩,
 ⟨some 13, .ext 1 (.t 7), none⟩,
 ⟨some 5, .mv (.t 12), none⟩,
 ⟨some 6, .mv (.t 13), none⟩]) <|
 .seq (.reg [
 ⟨some 14, .mv (.t 5), none⟩,
 ⟨some 15, .bin .eql .sc (.t 14) (.k (.int .i32 65533)), none⟩,
 ⟨some 16, .mv (.t 15), none⟩,
 ⟨some 17, .mv (.t 6), some (16, true)⟩,
 ⟨some 18, .bin .eql .sc (.t 17) (.k (.int .i64 1)), some (16, true)⟩,
 ⟨some 19, .pick (.t 16) (.t 18) (.k (.bool false)), none⟩,
 ⟨some 4, .mv (.t 19), none⟩]) <|
 .ret⟩

def f92 : DFn := ⟨1, [.t 2],
 .seq (.reg [
 ⟨some 2, .mv (.k (.bool false)), none⟩]) <|
 .seq (.block 0 <|
 .seq (.seq (.reg [
 ⟨some 4, .mv (.t 0), none⟩,
 ⟨some 5, .bin .geq .sc (.t 4) (.k (.int .i32 97)), none⟩,
 ⟨some 6, .mv (.t 5), none⟩,
 ⟨some 7, .mv (.t 0), some (6, true)⟩,
 ⟨some 8, .bin .leq .sc (.t 7) (.k (.int .i32 122)), some (6, true)⟩,
 ⟨some 9, .pick (.t 6) (.t 8) (.k (.bool false)), none⟩,
 ⟨some 3, .mv (.t 9), none⟩]) <|
 .cond (.t 3)
 (.skip)
 (.reg [
 ⟨some 10, .mv (.t 0), none⟩,
 ⟨some 11, .bin .geq .sc (.t 10) (.k (.int .i32 65)), none⟩,
 ⟨some 12, .mv (.t 11), none⟩,
 ⟨some 13, .mv (.t 0), some (12, true)⟩,
 ⟨some 14, .bin .leq .sc (.t 13) (.k (.int .i32 90)), some (12, true)⟩,
 ⟨some 15, .pick (.t 12) (.t 14) (.k (.bool false)), none⟩,
 ⟨some 3, .mv (.t 15), none⟩])) <|
 .cond (.t 3)
 (.seq (.reg [
 ⟨some 2, .mv (.k (.bool true)), none⟩]) <|
 .ret)
 (.skip)) <|
 .seq (.reg [
 ⟨some 16, .mv (.t 0), none⟩,
 ⟨some 17, .bin .geq .sc (.t 16) (.k (.int .i32 192)), none⟩,
 ⟨some 18, .mv (.t 17), none⟩,
 ⟨some 19, .mv (.t 0), some (18, true)⟩,
 ⟨some 20, .bin .leq .sc (.t 19) (.k (.int .i32 591)), some (18, true)⟩,
 ⟨some 21, .pick (.t 18) (.t 20) (.k (.bool false)), none⟩,
 ⟨some 22, .mv (.t 21), none⟩,
 ⟨some 23, .mv (.t 0), some (22, true)⟩,
 ⟨some 24, .bin .neq .sc (.t 23) (.k (.int .i32 215)), some (22, true)⟩,
 ⟨some 25, .pick (.t 22) (.t 24) (.k (.bool false)), none⟩,
 ⟨some 26, .mv (.t 25), none⟩,
 ⟨some 27, .mv (.t 0), some (26, true)⟩,
 ⟨some 28, .bin .neq .sc (.t 27) (.k (.int .i32 247)), some (26, true)⟩,
 ⟨some 29, .pick (.t 26) (.t 28) (.k (.bool false)), none⟩,
 ⟨some 2, .mv (.t 29), none⟩]) <|
 .ret⟩

def l93_0b : DC :=
 .seq (.reg [
 ⟨some 9, .bin .lss .sc (.t 8) (.t 7), none⟩]) <|
 .seq (.cond (.t 9)
 (.skip)
 (.exit 0)) <|
 .seq (.block 1 <|
 .seq (.reg [
 ⟨some 10, .mv (.t 8), none⟩,
 ⟨some 5, .mv (.t 10), none⟩]) <|
 .seq (.reg [
 ⟨some 11, .mv (.t 1), none⟩,
 ⟨some 12, .mv (.t 0), none⟩,
 ⟨some 13, .mv (.t 5), none⟩,
 ⟨some 14, .idx 1 (.t 12) (.t 13), none⟩,
 ⟨some 15, .ld 1 false (.t 14), none⟩,
 ⟨some 16, .bin .eql .sc (.t 11) (.t 15), none⟩]) <|
 .cond (.t 16)
 (.seq (.reg [
 ⟨some 17, .mv (.t 5), none⟩,
 ⟨some 4, .mv (.t 17), none⟩]) <|
 .ret)
 (.skip)) <|
 .reg [
 ⟨some 18, .bin .add .sc (.t 8) (.k (.int .i64 1)), none⟩,
 ⟨some 8, .mv (.t 18), none⟩]
def l93_0 : DC := .loop [0, 1, 7, 8] [] l93_0b
def f93 : DFn := ⟨2, [.t 4],
 .seq (.reg [
 ⟨some 4, .mv (.k (.int .i64 0)), none⟩]) <|
 .seq (.seq (.reg [
 ⟨some 6, .mv (.t 0), none⟩,
 ⟨some 7, .len (.t 6), none⟩,
 ⟨some 8, .mv (.k (.int .i64 0)), none⟩]) <|
 .block 0 <|
 l93_0) <|
 .seq (.reg [
 ⟨some 4, .mv (.k (.int .i64 (-1))), none⟩]) <|
 .ret⟩

def f94 : DFn := ⟨2, [.t 3],
 .seq (.reg [
 ⟨some 3, .mv (.k (.bool false)), none⟩]) <|
 .seq (.reg [
 ⟨some 4, .fld 3 (.t 1), none⟩,
 ⟨some 5, .ld 1 false (.t 4), none⟩,
 ⟨some 6, .mv (.t 0), none⟩,
 ⟨some 7, .call .blind 55 [(.t 5), (.t 6)], none⟩,
 ⟨some 3, .mv (.t 7), none⟩]) <|
 .ret⟩

def f95 : DFn := ⟨3, [.t 4],
 .seq (.reg [
 ⟨some 3, .boxL (.t 0), none⟩,
 ⟨some 4, .mv (.k (.bool false)), none⟩]) <|
 .seq (.drw [
 ⟨some 5, .ld 4 true (.t 1), none⟩,
 ⟨some 6, .ld 1 false (.t 2), none⟩,
 ⟨some 7, .call .blind 73 [(.t 5), (.t 6)], none⟩,
 ⟨some 8, .fld 0 (.t 3), none⟩,
 ⟨some 9, .ld 1 false (.t 8), none⟩,
 ⟨some 10, .fld 1 (.t 3), none⟩,
 ⟨some 11, .ld 1 false (.t 10), none⟩,
 ⟨some 12, .un .not (.t 11), none⟩,
 ⟨some 13, .build [.int .i64 0, .bool false] [(0, 1, (.t 9)), (1, 1, (.t 12))], none⟩,
 ⟨some 14, .call .blind 96 [(.t 7), (.t 13)], none⟩,
 ⟨some 4, .mv (.t 14), none⟩] [[], [], [0, 1], [], [], [], [], [], [], [0, 1, 2, 4, 6], []]) <|
 .ret⟩

def f96 : DFn := ⟨2, [.t 4],
 .seq (.reg [
 ⟨some 3, .boxL (.t 1), none⟩,
 ⟨some 4, .mv (.k (.bool false)), none⟩]) <|
 .seq (.reg [
 ⟨some 5, .mv (.t 0), none⟩,
 ⟨some 6, .ld 2 true (.t 3), none⟩,
 ⟨some 7, .call .blind 99 [(.t 5), (.t 6)], none⟩,
 ⟨some 8, .bin .geq .sc (.t 7) (.k (.int .i64 0)), none⟩,
 ⟨some 4, .mv (.t 8), none⟩]) <|
 .ret⟩

def f97 : DFn := ⟨2, [.t 4],
 .seq (.reg [
 ⟨some 4, .mv (.k (.nils)), none⟩]) <|
 .seq (.seq (.reg [
 ⟨some 5, .mv (.t 1), none⟩,
 ⟨some 6, .bin .lss .sc (.t 5) (.k (.int .i64 0)), none⟩]) <|
 .cond (.t 6)
 (.reg [
 ⟨some 7, .mkI 9 (.k (.str [99, 97, 110, 110, 111, 116, 32, 98, 101, 32, 110, 101, 103, 97, 116, 105, 118, 101])), none⟩,
 ⟨none, .nilck (.k .nilp), none⟩])
 (.skip)) <|
 .seq (.seq (.reg [
 ⟨some 8, .mv (.t 1), none⟩,
 ⟨some 9, .mv (.t 0), none⟩,
 ⟨some 10, .cap (.t 9), none⟩,
 ⟨some 11, .mv (.t 0), none⟩,
 ⟨some 12, .len (.t 11), none⟩,
 ⟨some 13, .bin .sub .sc (.t 10) (.t 12), none⟩,
 ⟨some 14, .bin .sub .sc (.t 8) (.t 13), none⟩,
 ⟨some 1, .mv (.t 14), none⟩]) <|
 .seq (.reg [
 ⟨some 15, .mv (.t 1), none⟩,
 ⟨some 16, .bin .gtr .sc (.t 15) (.k (.int .i64 0)), none⟩]) <|
 .cond (.t 16)
 (.reg [
 ⟨some 17, .mv (.t 0), none⟩,
 ⟨some 18, .mv (.t 0), none⟩,
 ⟨some 19, .cap (.t 18), none⟩,
 ⟨some 20, .slc 2 (.t 17) none (some (.t 19)) none, none⟩,
 ⟨some 21, .mv (.t 1), none⟩,
 ⟨some 22, .appZ 2 16 [.int .i64 0, .bool false] (.t 20) (.t 21), none⟩,
 ⟨some 23, .mv (.t 0), none⟩,
 ⟨some 24, .len (.t 23), none⟩,
 ⟨some 25, .slc 2 (.t 22) none (some (.t 24)) none, none⟩,
 ⟨some 0, .mv (.t 25), none⟩])
 (.skip)) <|
 .seq (.reg [
 ⟨some 26, .mv (.t 0), none⟩,
 ⟨some 4, .mv (.t 26), none⟩]) <|
 .ret⟩

def f98 : DFn := ⟨1, [.t 2, .t 3],
 .seq (.reg [
 ⟨some 2, .mv (.k (.int .i32 0)), none⟩,
 ⟨some 3, .mv (.k (.int .i64 0)), none⟩]) <|
 .seq (.seq (.reg [
 ⟨some 4, .mv (.t 0), none⟩,
 ⟨some 5, .bin .neq .sc (.t 4) (.k (.str [])), none⟩,
 ⟨some 6, .mv (.t 5), none⟩,
 ⟨some 7, .mv (.t 0), some (6, true)⟩,
 ⟨some 8, .idxS (.t 7) (.k (.int .i64 0)), some (6, true)⟩,
 ⟨some 9, .bin .lss .sc (.t 8) (.k (.int .u8 128)), some (6, true)⟩,
 ⟨some 10, .pick (.t 6) (.t 9) (.k (.bool false)), none⟩]) <|
 .cond (.t 10)
 (.seq (.reg [
 ⟨some 11, .mv (.t 0), none⟩,
 ⟨some 12, .idxS (.t 11) (.k (.int .i64 0)), none⟩,
 ⟨some 13, .cvI .i32 (.t 12), none⟩,
 ⟨some 2, .mv (.t 13), none⟩,
 ⟨some 3, .mv (.k (.int .i64 1)), none⟩]) <|
 .ret)
 (.reg [
 ⟨some 15, .mv (.t 0), none⟩,
 ⟨some 16, .call .blind 100 [(.t 15)], none⟩,
 ⟨some 14, .mv (.t 16), none⟩,
 ⟨some 17, .ext 0 (.t 14), none⟩,
 ⟨some 18, .ext 1 (.t 14), none⟩,
 ⟨some 2, .mv (.t 17), none⟩,
 ⟨some 3, .mv (.t 18), none⟩])) <|
 .ret⟩

def l99_0b : DC :=
 .seq (.reg [
 ⟨some 9, .bin .lss .sc (.t 8) (.t 7), none⟩]) <|
 .seq (.cond (.t 9)
 (.skip)
 (.exit 0)) <|
 .seq (.block 1 <|
 .seq (.reg [
 ⟨some 10, .mv (.t 8), none⟩,
 ⟨some 5, .mv (.t 10), none⟩]) <|
 .seq (.drw [
 ⟨some 11, .ld 2 true (.t 3), none⟩,
 ⟨some 12, .mv (.t 0), none⟩,
 ⟨some 13, .mv (.t 5), none⟩,
 ⟨some 14, .idx 2 (.t 12) (.t 13), none⟩,
 ⟨some 15, .ld 2 true (.t 14), none⟩,
 ⟨some 16, .bin .eql (.st [.i, .b]) (.t 11) (.t 15), none⟩] [[], [], [], [], [3], []]) <|
 .cond (.t 16)
 (.seq (.reg [
 ⟨some 17, .mv (.t 5), none⟩,
 ⟨some 4, .mv (.t 17), none⟩]) <|
 .ret)
 (.skip)) <|
 .reg [
 ⟨some 18, .bin .add .sc (.t 8) (.k (.int .i64 1)), none⟩,
 ⟨some 8, .mv (.t 18), none⟩]
def l99_0 : DC := .loop [0, 3, 7, 8] [3] l99_0b
def f99 : DFn := ⟨2, [.t 4],
 .seq (.reg [
 ⟨some 3, .boxL (.t 1), none⟩,
 ⟨some 4, .mv (.k (.int .i64 0)), none⟩]) <|
 .seq (.seq (.reg [
 ⟨some 6, .mv (.t 0), none⟩,
 ⟨some 7, .len (.t 6), none⟩,
 ⟨some 8, .mv (.k (.int .i64 0)), none⟩]) <|
 .block 0 <|
 l99_0) <|
 .seq (.reg [
 ⟨some 4, .mv (.k (.int .i64 (-1))), none⟩]) <|
 .ret⟩

def f100 : DFn := ⟨1, [.t 2, .t 3],
 .seq (.reg [
 ⟨some 2, .mv (.k (.int .i32 0)), none⟩,
 ⟨some 3, .mv (.k (.int .i64 0)), none⟩]) <|
 .seq (.reg [
 ⟨some 13, .mv (.t 0), none⟩,
 ⟨some 14, .lenS (.t 13), none⟩,
 ⟨some 4, .mv (.t 14), none⟩]) <|
 .seq (.seq (.reg [
 ⟨some 15, .mv (.t 4), none⟩,
 ⟨some 16, .bin .lss .sc (.t 15) (.k (.int .i64 1)), none⟩]) <|
 .cond (.t 16)
 (.seq (.reg [
 ⟨some 2, .mv (.k (.int .i32 65533)), none⟩,
 ⟨some 3, .mv (.k (.int .i64 0)), none⟩]) <|
 .ret)
 (.skip)) <|
 .seq (.reg [
 ⟨some 17, .mv (.t 0), none⟩,
 ⟨some 18, .idxS (.t 17) (.k (.int .i64 0)), none⟩,
 ⟨some 5, .mv (.t 18), none⟩]) <|
 .seq (.reg [
 ⟨some 19, .mv (.t 5), none⟩,
 ⟨some 20, .idxA 1 256 (.g 0) (.t 19), none⟩,
 ⟨some 21, .ld 1 false (.t 20), none⟩,
 ⟨some 6, .mv (.t 21), none⟩]) <|
 .seq (.seq (.reg [
 ⟨some 22, .mv (.t 6), none⟩,
 ⟨some 23, .bin .geq .sc (.t 22) (.k (.int .u8 240)), none⟩]) <|
 .cond (.t 23)
 (.seq (.reg [
 ⟨some 24, .mv (.t 6), none⟩,
 ⟨some 25, .cvI .i32 (.t 24), none⟩,
 ⟨some 26, .bin .shl .sc (.t 25) (.k (.int .u64 31)), none⟩,
 ⟨some 27, .bin .shr .sc (.t 26) (.k (.int .u64 31)), none⟩,
 ⟨some 7, .mv (.t 27), none⟩]) <|
 .seq (.reg [
 ⟨some 28, .mv (.t 0), none⟩,
 ⟨some 29, .idxS (.t 28) (.k (.int .i64 0)), none⟩,
 ⟨some 30, .cvI .i32 (.t 29), none⟩,
 ⟨some 31, .mv (.t 7), none⟩,
 ⟨some 32, .bin .andNot .sc (.t 30) (.t 31), none⟩,
 ⟨some 33, .mv (.t 7), none⟩,
 ⟨some 34, .bin .and .sc (.k (.int .i32 65533)) (.t 33), none⟩,
 ⟨some 35, .bin .or .sc (.t 32) (.t 34), none⟩,
 ⟨some 2, .mv (.t 35), none⟩,
 ⟨some 3, .mv (.k (.int .i64 1)), none⟩]) <|
 .ret)
 (.skip)) <|
 .seq (.reg [
 ⟨some 36, .mv (.t 6), none⟩,
 ⟨some 37, .bin .and .sc (.t 36) (.k (.int .u8 7)), none⟩,
 ⟨some 38, .cvI .i64 (.t 37), none⟩,
 ⟨some 8, .mv (.t 38), none⟩]) <|
 .seq (.reg [
 ⟨some 39, .mv (.t 6), none⟩,
 ⟨some 40, .bin .shr .sc (.t 39) (.k (.int .u64 4)), none⟩,
 ⟨some 41, .idxA 2 16 (.g 1) (.t 40), none⟩,
 ⟨some 42, .ld 2 true (.t 41), none⟩,
 ⟨some 9, .alL [.int .u8 0, .int .u8 0], none⟩,
 ⟨none, .st 2 (.t 9) (.t 42), none⟩]) <|
 .seq (.seq (.reg [
 ⟨some 43, .mv (.t 4), none⟩,
 ⟨some 44, .mv (.t 8), none⟩,
 ⟨some 45, .bin .lss .sc (.t 43) (.t 44), none⟩]) <|
 .cond (.t 45)
 (.seq (.reg [
 ⟨some 2, .mv (.k (.int .i32 65533)), none⟩,
 ⟨some 3, .mv (.k (.int .i64 1)), none⟩]) <|
 .ret)
 (.skip)) <|
 .seq (.reg [
 ⟨some 46, .mv (.t 0), none⟩,
 ⟨some 47, .idxS (.t 46) (.k (.int .i64 1)), none⟩,
 ⟨some 10, .mv (.t 47), none⟩]) <|
 .seq (.seq (.reg [
 ⟨some 48, .mv (.t 10), none⟩,
 ⟨some 49, .fld 0 (.t 9), none⟩,
 ⟨some 50, .ld 1 false (.t 49), none⟩,
 ⟨some 51, .bin .lss .sc (.t 48) (.t 50), none⟩,
 ⟨some 52, .mv (.t 51), none⟩,
 ⟨some 53, .fld 1 (.t 9), some (52, false)⟩,
 ⟨some 54, .ld 1 false (.t 53), some (52, false)⟩,
 ⟨some 55, .mv (.t 10), some (52, false)⟩,
 ⟨some 56, .bin .lss .sc (.t 54) (.t 55), some (52, false)⟩,
 ⟨some 57, .pick (.t 52) (.k (.bool true)) (.t 56), none⟩]) <|
 .cond (.t 57)
 (.seq (.reg [
 ⟨some 2, .mv (.k (.int .i32 65533)), none⟩,
 ⟨some 3, .mv (.k (.int .i64 1)), none⟩]) <|
 .ret)
 (.skip)) <|
 .seq (.seq (.reg [
 ⟨some 58, .mv (.t 8), none⟩,
 ⟨some 59, .bin .leq .sc (.t 58) (.k (.int .i64 2)), none⟩]) <|
 .cond (.t 59)
 (.seq (.reg [
 ⟨some 60, .mv (.t 5), none⟩,
 ⟨some 61, .bin .and .sc (.t 60) (.k (.int .u8 31)), none⟩,
 ⟨some 62, .cvI .i32 (.t 61), none⟩,
 ⟨some 63, .bin .shl .sc (.t 62) (.k (.int .u64 6)), none⟩,
 ⟨some 64, .mv (.t 10), none⟩,
 ⟨some 65, .bin .and .sc (.t 64) (.k (.int .u8 63)), none⟩,
 ⟨some 66, .cvI .i32 (.t 65), none⟩,
 ⟨some 67, .bin .or .sc (.t 63) (.t 66), none⟩,
 ⟨some 2, .mv (.t 67), none⟩,
 ⟨some 3, .mv (.k (.int .i64 2)), none⟩]) <|
 .ret)
 (.skip)) <|
 .seq (.reg [
 ⟨some 68, .mv (.t 0), none⟩,
 ⟨some 69, .idxS (.t 68) (.k (.int .i64 2)), none⟩,
 ⟨some 11, .mv (.t 69), none⟩]) <|
 .seq (.seq (.reg [
 ⟨some 70, .mv (.t 11), none⟩,
 ⟨some 71, .bin .lss .sc (.t 70) (.k (.int .u8 128)), none⟩,
 ⟨some 72, .mv (.t 71), none⟩,
 ⟨some 73, .mv (.t 11), some (72, false)⟩,
 ⟨some 74, .bin .lss .sc (.k (.int .u8 191)) (.t 73), some (72, false)⟩,
 ⟨some 75, .pick (.t 72) (.k (.bool true)) (.t 74), none⟩]) <|
 .cond (.t 75)
 (.seq (.reg [
 ⟨some 2, .mv (.k (.int .i32 65533)), none⟩,
 ⟨some 3, .mv (.k (.int .i64 1)), none⟩]) <|
 .ret)
 (.skip)) <|
 .seq (.seq (.reg [
 ⟨some 76, .mv (.t 8), none⟩,
 ⟨some 77, .bin .leq .sc (.t 76) (.k (.int .i64 3)), none⟩]) <|
 .cond (.t 77)
 (.seq (.reg [
 ⟨some 78, .mv (.t 5), none⟩,
 ⟨some 79, .bin .and .sc (.t 78) (.k (.int .u8 15)), none⟩,
 ⟨some 80, .cvI .i32 (.t 79), none⟩,
 ⟨some 81, .bin .shl .sc (.t 80) (.k (.int .u64 12)), none⟩,
 ⟨some 82, .mv (.t 10), none⟩,
 ⟨some 83, .bin .and .sc (.t 82) (.k (.int .u8 63)), none⟩,
 ⟨some 84, .cvI .i32 (.t 83), none⟩,
 ⟨some 85, .bin .shl .sc (.t 84) (.k (.int .u64 6)), none⟩,
 ⟨some 86, .bin .or .sc (.t 81) (.t 85), none⟩,
 ⟨some 87, .mv (.t 11), none⟩,
 ⟨some 88, .bin .and .sc (.t 87) (.k (.int .u8 63)), none⟩,
 ⟨some 89, .cvI .i32 (.t 88), none⟩,
 ⟨some 90, .bin .or .sc (.t 86) (.t 89), none⟩,
 ⟨some 2, .mv (.t 90), none⟩,
 ⟨some 3, .mv (.k (.int .i64 3)), none⟩]) <|
 .ret)
 (.skip)) <|
 .seq (.reg [
 ⟨some 91, .mv (.t 0), none⟩,
 ⟨some 92, .idxS (.t 91) (.k (.int .i64 3)), none⟩,
 ⟨some 12, .mv (.t 92), none⟩]) <|
 .seq (.seq (.reg [
 ⟨some 93, .mv (.t 12), none⟩,
 ⟨some 94, .bin .lss .sc (.t 93) (.k (.int .u8 128)), none⟩,
 ⟨some 95, .mv (.t 94), none⟩,
 ⟨some 96, .mv (.t 12), some (95, false)⟩,
 ⟨some 97, .bin .lss .sc (.k (.int .u8 191)) (.t 96), some (95, false)⟩,
 ⟨some 98, .pick (.t 95) (.k (.bool true)) (.t 97), none⟩]) <|
 .cond (.t 98)
 (.seq (.reg [
 ⟨some 2, .mv (.k (.int .i32 65533)), none⟩,
 ⟨some 3, .mv (.k (.int .i64 1)), none⟩]) <|
 .ret)
 (.skip)) <|
 .seq (.reg [
 ⟨some 99, .mv (.t 5), none⟩,
 ⟨some 100, .bin .and .sc (.t 99) (.k (.int .u8 7)), none⟩,
 ⟨some 101, .cvI .i32 (.t 100), none⟩,
 ⟨some 102, .bin .shl .sc (.t 101) (.k (.int .u64 18)), none⟩,
 ⟨some 103, .mv (.t 10), none⟩,
 ⟨some 104, .bin .and .sc (.t 103) (.k (.int .u8 63)), none⟩,
 ⟨some 105, .cvI .i32 (.t 104), none⟩,
 ⟨some 106, .bin .shl .sc (.t 105) (.k (.int .u64 12)), none⟩,
 ⟨some 107, .bin .or .sc (.t 102) (.t 106), none⟩,
 ⟨some 108, .mv (.t 11), none⟩,
 ⟨some 109, .bin .and .sc (.t 108) (.k (.int .u8 63)), none⟩,
 ⟨some 110, .cvI .i32 (.t 109), none⟩,
 ⟨some 111, .bin .shl .sc (.t 110) (.k (.int .u64 6)), none⟩,
 ⟨some 112, .bin .or .sc (.t 107) (.t 111), none⟩,
 ⟨some 113, .mv (.t 12), none⟩,
 ⟨some 114, .bin .and .sc (.t 113) (.k (.int .u8 63)), none⟩,
 ⟨some 115, .cvI .i32 (.t 114), none⟩,
 ⟨some 116, .bin .or .sc (.t 112) (.t 115), none⟩,
 ⟨some 2, .mv (.t 116), none⟩,
 ⟨some 3, .mv (.k (.int .i64 4)), none⟩]) <|
 .ret⟩


def tab : PT Entry := (.nd (.nd (.nd (.nd (.nd (.nd (.nd .lf (some (.fn f63)) .lf) (some (.fn f31)) (.nd .lf (some (.fn f95)) .lf)) (some (.fn f15)) (.nd (.nd .lf (some (.fn f79)) .lf) (some (.fn f47)) .lf)) (some (.fn f7)) (.nd (.nd (.nd .lf (some (.fn f71)) .lf) (some (.fn f39)) .lf) (some (.fn f23)) (.nd (.nd .lf (some (.fn f87)) .lf) (some (.fn f55)) .lf))) (some (.fn f3)) (.nd (.nd (.nd (.nd .lf (some (.fn f67)) .lf) (some (.fn f35)) (.nd .lf (some (.fn f99)) .lf)) (some (.fn f19)) (.nd (.nd .lf (some (.fn f83)) .lf) (some (.fn f51)) .lf)) (some (.fn f11)) (.nd (.nd (.nd .lf (some (.fn f75)) .lf) (some (.fn f43)) .lf) (some (.fn f27)) (.nd (.nd .lf (some (.fn f91)) .lf) (some (.fn f59)) .lf)))) none (.nd (.nd (.nd (.nd (.nd .lf (some (.fn f65)) .lf) (some (.fn f33)) (.nd .lf (some (.fn f97)) .lf)) (some (.fn f17)) (.nd (.nd .lf (some (.fn f81)) .lf) (some (.fn f49)) .lf)) (some (.fn f9)) (.nd (.nd (.nd .lf (some (.fn f73)) .lf) (some (.fn f41)) .lf) (some (.fn f25)) (.nd (.nd .lf (some (.fn f89)) .lf) (some (.fn f57)) .lf))) (some (.fn f5)) (.nd (.nd (.nd (.nd .lf (some (.fn f69)) .lf) (some (.fn f37)) .lf) (some (.fn f21)) (.nd (.nd .lf (some (.fn f85)) .lf) (some (.fn f53)) .lf)) (some (.fn f13)) (.nd (.nd (.nd .lf (some (.fn f77)) .lf) (some (.fn f45)) .lf) (some (.fn f29)) (.nd (.nd .lf (some (.fn f93)) .lf) (some (.fn f61)) .lf))))) none (.nd (.nd (.nd (.nd (.nd (.nd .lf (some (.fn f64)) .lf) (some (.fn f32)) (.nd .lf (some (.fn f96)) .lf)) (some (.fn f16)) (.nd (.nd .lf (some (.fn f80)) .lf) (some (.fn f48)) .lf)) (some (.fn f8)) (.nd (.nd (.nd .lf (some (.fn f72)) .lf) (some (.fn f40)) .lf) (some (.fn f24)) (.nd (.nd .lf (some (.fn f88)) .lf) (some (.fn f56)) .lf))) (some (.fn f4)) (.nd (.nd (.nd (.nd .lf (some (.fn f68)) .lf) (some (.fn f36)) (.nd .lf (some (.fn f100)) .lf)) (some (.fn f20)) (.nd (.nd .lf (some (.fn f84)) .lf) (some (.fn f52)) .lf)) (some (.fn f12)) (.nd (.nd (.nd .lf (some (.fn f76)) .lf) (some (.fn f44)) .lf) (some (.fn f28)) (.nd (.nd .lf (some (.fn f92)) .lf) (some (.fn f60)) .lf)))) none (.nd (.nd (.nd (.nd (.nd .lf (some (.fn f66)) .lf) (some (.fn f34)) (.nd .lf (some (.fn f98)) .lf)) (some (.fn f18)) (.nd (.nd .lf (some (.fn f82)) .lf) (some (.fn f50)) .lf)) (some (.fn f10)) (.nd (.nd (.nd .lf (some (.fn f74)) .lf) (some (.fn f42)) .lf) (some (.fn f26)) (.nd (.nd .lf (some (.fn f90)) .lf) (some (.fn f58)) .lf))) (some (.fn f6)) (.nd (.nd (.nd (.nd .lf (some (.fn f70)) .lf) (some (.fn f38)) .lf) (some (.fn f22)) (.nd (.nd .lf (some (.fn f86)) .lf) (some (.fn f54)) .lf)) (some (.fn f14)) (.nd (.nd (.nd .lf (some (.fn f78)) .lf) (some (.fn f46)) .lf) (some (.fn f30)) (.nd (.nd .lf (some (.fn f94)) .lf) (some (.fn f62)) .lf))))))
noncomputable abbrev K (G : Nat → Option (List IV)) (d : Nat) : Go.PM.Callee := dcall G (fun f => tab.get f) d
theorem k3 {G : Nat → Option (List IV)} {d : Nat} {args : List DV} {H : PT HB} {n lo : Nat} : K G (d + 1) 3 args H n lo = f3.run G (K G d) args H n lo := dcall_fn rfl
theorem k4 {G : Nat → Option (List IV)} {d : Nat} {args : List DV} {H : PT HB} {n lo : Nat} : K G (d + 1) 4 args H n lo = f4.run G (K G d) args H n lo := dcall_fn rfl
theorem k5 {G : Nat → Option (List IV)} {d : Nat} {args : List DV} {H : PT HB} {n lo : Nat} : K G (d + 1) 5 args H n lo = f5.run G (K G d) args H n lo := dcall_fn rfl
theorem k6 {G : Nat → Option (List IV)} {d : Nat} {args : List DV} {H : PT HB} {n lo : Nat} : K G (d + 1) 6 args H n lo = f6.run G (K G d) args H n lo := dcall_fn rfl
theorem k7 {G : Nat → Option (List IV)} {d : Nat} {args : List DV} {H : PT HB} {n lo : Nat} : K G (d + 1) 7 args H n lo = f7.run G (K G d) args H n lo := dcall_fn rfl
theorem k8 {G : Nat → Option (List IV)} {d : Nat} {args : List DV} {H : PT HB} {n lo : Nat} : K G (d + 1) 8 args H n lo = f8.run G (K G d) args H n lo := dcall_fn rfl
theorem k9 {G : Nat → Option (List IV)} {d : Nat} {args : List DV} {H : PT HB} {n lo : Nat} : K G (d + 1) 9 args H n lo = f9.run G (K G d) args H n lo := dcall_fn rfl
theorem k10 {G : Nat → Option (List IV)} {d : Nat} {args : List DV} {H : PT HB} {n lo : Nat} : K G (d + 1) 10 args H n lo = f10.run G (K G d) args H n lo := dcall_fn rfl
theorem k11 {G : Nat → Option (List IV)} {d : Nat} {args : List DV} {H : PT HB} {n lo : Nat} : K G (d + 1) 11 args H n lo = f11.run G (K G d) args H n lo := dcall_fn rfl
theorem k12 {G : Nat → Option (List IV)} {d : Nat} {args : List DV} {H : PT HB} {n lo : Nat} : K G (d + 1) 12 args H n lo = f12.run G (K G d) args H n lo := dcall_fn rfl
theorem k13 {G : Nat → Option (List IV)} {d : Nat} {args : List DV} {H : PT HB} {n lo : Nat} : K G (d + 1) 13 args H n lo = f13.run G (K G d) args H n lo := dcall_fn rfl
theorem k14 {G : Nat → Option (List IV)} {d : Nat} {args : List DV} {H : PT HB} {n lo : Nat} : K G (d + 1) 14 args H n lo = f14.run G (K G d) args H n lo := dcall_fn rfl
theorem k15 {G : Nat → Option (List IV)} {d : Nat} {args : List DV} {H : PT HB} {n lo : Nat} : K G (d + 1) 15 args H n lo = f15.run G (K G d) args H n lo := dcall_fn rfl
theorem k16 {G : Nat → Option (List IV)} {d : Nat} {args : List DV} {H : PT HB} {n lo : Nat} : K G (d + 1) 16 args H n lo = f16.run G (K G d) args H n lo := dcall_fn rfl
theorem k17 {G : Nat → Option (List IV)} {d : Nat} {args : List DV} {H : PT HB} {n lo : Nat} : K G (d + 1) 17 args H n lo = f17.run G (K G d) args H n lo := dcall_fn rfl
theorem k18 {G : Nat → Option (List IV)} {d : Nat} {args : List DV} {H : PT HB} {n lo : Nat} : K G (d + 1) 18 args H n lo = f18.run G (K G d) args H n lo := dcall_fn rfl
theorem k19 {G : Nat → Option (List IV)} {d : Nat} {args : List DV} {H : PT HB} {n lo : Nat} : K G (d + 1) 19 args H n lo = f19.run G (K G d) args H n lo := dcall_fn rfl
theorem k20 {G : Nat → Option (List IV)} {d : Nat} {args : List DV} {H : PT HB} {n lo : Nat} : K G (d + 1) 20 args H n lo = f20.run G (K G d) args H n lo := dcall_fn rfl
theorem k21 {G : Nat → Option (List IV)} {d : Nat} {args : List DV} {H : PT HB} {n lo : Nat} : K G (d + 1) 21 args H n lo = f21.run G (K G d) args H n lo := dcall_fn rfl
theorem k22 {G : Nat → Option (List IV)} {d : Nat} {args : List DV} {H : PT HB} {n lo : Nat} : K G (d + 1) 22 args H n lo = f22.run G (K G d) args H n lo := dcall_fn rfl
theorem k23 {G : Nat → Option (List IV)} {d : Nat} {args : List DV} {H : PT HB} {n lo : Nat} : K G (d + 1) 23 args H n lo = f23.run G (K G d) args H n lo := dcall_fn rfl
theorem k24 {G : Nat → Option (List IV)} {d : Nat} {args : List DV} {H : PT HB} {n lo : Nat} : K G (d + 1) 24 args H n lo = f24.run G (K G d) args H n lo := dcall_fn rfl
theorem k25 {G : Nat → Option (List IV)} {d : Nat} {args : List DV} {H : PT HB} {n lo : Nat} : K G (d + 1) 25 args H n lo = f25.run G (K G d) args H n lo := dcall_fn rfl
theorem k26 {G : Nat → Option (List IV)} {d : Nat} {args : List DV} {H : PT HB} {n lo : Nat} : K G (d + 1) 26 args H n lo = f26.run G (K G d) args H n lo := dcall_fn rfl
theorem k27 {G : Nat → Option (List IV)} {d : Nat} {args : List DV} {H : PT HB} {n lo : Nat} : K G (d + 1) 27 args H n lo = f27.run G (K G d) args H n lo := dcall_fn rfl
theorem k28 {G : Nat → Option (List IV)} {d : Nat} {args : List DV} {H : PT HB} {n lo : Nat} : K G (d + 1) 28 args H n lo = f28.run G (K G d) args H n lo := dcall_fn rfl
theorem k29 {G : Nat → Option (List IV)} {d : Nat} {args : List DV} {H : PT HB} {n lo : Nat} : K G (d + 1) 29 args H n lo = f29.run G (K G d) args H n lo := dcall_fn rfl
theorem k30 {G : Nat → Option (List IV)} {d : Nat} {args : List DV} {H : PT HB} {n lo : Nat} : K G (d + 1) 30 args H n lo = f30.run G (K G d) args H n lo := dcall_fn rfl
theorem k31 {G : Nat → Option (List IV)} {d : Nat} {args : List DV} {H : PT HB} {n lo : Nat} : K G (d + 1) 31 args H n lo = f31.run G (K G d) args H n lo := dcall_fn rfl
theorem k32 {G : Nat → Option (List IV)} {d : Nat} {args : List DV} {H : PT HB} {n lo : Nat} : K G (d + 1) 32 args H n lo = f32.run G (K G d) args H n lo := dcall_fn rfl
theorem k33 {G : Nat → Option (List IV)} {d : Nat} {args : List DV} {H : PT HB} {n lo : Nat} : K G (d + 1) 33 args H n lo = f33.run G (K G d) args H n lo := dcall_fn rfl
theorem k34 {G : Nat → Option (List IV)} {d : Nat} {args : List DV} {H : PT HB} {n lo : Nat} : K G (d + 1) 34 args H n lo = f34.run G (K G d) args H n lo := dcall_fn rfl
theorem k35 {G : Nat → Option (List IV)} {d : Nat} {args : List DV} {H : PT HB} {n lo : Nat} : K G (d + 1) 35 args H n lo = f35.run G (K G d) args H n lo := dcall_fn rfl
theorem k36 {G : Nat → Option (List IV)} {d : Nat} {args : List DV} {H : PT HB} {n lo : Nat} : K G (d + 1) 36 args H n lo = f36.run G (K G d) args H n lo := dcall_fn rfl
theorem k37 {G : Nat → Option (List IV)} {d : Nat} {args : List DV} {H : PT HB} {n lo : Nat} : K G (d + 1) 37 args H n lo = f37.run G (K G d) args H n lo := dcall_fn rfl
theorem k38 {G : Nat → Option (List IV)} {d : Nat} {args : List DV} {H : PT HB} {n lo : Nat} : K G (d + 1) 38 args H n lo = f38.run G (K G d) args H n lo := dcall_fn rfl
theorem k39 {G : Nat → Option (List IV)} {d : Nat} {args : List DV} {H : PT HB} {n lo : Nat} : K G (d + 1) 39 args H n lo = f39.run G (K G d) args H n lo := dcall_fn rfl
theorem k40 {G : Nat → Option (List IV)} {d : Nat} {args : List DV} {H : PT HB} {n lo : Nat} : K G (d + 1) 40 args H n lo = f40.run G (K G d) args H n lo := dcall_fn rfl
theorem k41 {G : Nat → Option (List IV)} {d : Nat} {args : List DV} {H : PT HB} {n lo : Nat} : K G (d + 1) 41 args H n lo = f41.run G (K G d) args H n lo := dcall_fn rfl
theorem k42 {G : Nat → Option (List IV)} {d : Nat} {args : List DV} {H : PT HB} {n lo : Nat} : K G (d + 1) 42 args H n lo = f42.run G (K G d) args H n lo := dcall_fn rfl
theorem k43 {G : Nat → Option (List IV)} {d : Nat} {args : List DV} {H : PT HB} {n lo : Nat} : K G (d + 1) 43 args H n lo = f43.run G (K G d) args H n lo := dcall_fn rfl
theorem k44 {G : Nat → Option (List IV)} {d : Nat} {args : List DV} {H : PT HB} {n lo : Nat} : K G (d + 1) 44 args H n lo = f44.run G (K G d) args H n lo := dcall_fn rfl
theorem k45 {G : Nat → Option (List IV)} {d : Nat} {args : List DV} {H : PT HB} {n lo : Nat} : K G (d + 1) 45 args H n lo = f45.run G (K G d) args H n lo := dcall_fn rfl
theorem k46 {G : Nat → Option (List IV)} {d : Nat} {args : List DV} {H : PT HB} {n lo : Nat} : K G (d + 1) 46 args H n lo = f46.run G (K G d) args H n lo := dcall_fn rfl
theorem k47 {G : Nat → Option (List IV)} {d : Nat} {args : List DV} {H : PT HB} {n lo : Nat} : K G (d + 1) 47 args H n lo = f47.run G (K G d) args H n lo := dcall_fn rfl
theorem k48 {G : Nat → Option (List IV)} {d : Nat} {args : List DV} {H : PT HB} {n lo : Nat} : K G (d + 1) 48 args H n lo = f48.run G (K G d) args H n lo := dcall_fn rfl
theorem k49 {G : Nat → Option (List IV)} {d : Nat} {args : List DV} {H : PT HB} {n lo : Nat} : K G (d + 1) 49 args H n lo = f49.run G (K G d) args H n lo := dcall_fn rfl
theorem k50 {G : Nat → Option (List IV)} {d : Nat} {args : List DV} {H : PT HB} {n lo : Nat} : K G (d + 1) 50 args H n lo = f50.run G (K G d) args H n lo := dcall_fn rfl
theorem k51 {G : Nat → Option (List IV)} {d : Nat} {args : List DV} {H : PT HB} {n lo : Nat} : K G (d + 1) 51 args H n lo = f51.run G (K G d) args H n lo := dcall_fn rfl
theorem k52 {G : Nat → Option (List IV)} {d : Nat} {args : List DV} {H : PT HB} {n lo : Nat} : K G (d + 1) 52 args H n lo = f52.run G (K G d) args H n lo := dcall_fn rfl
theorem k53 {G : Nat → Option (List IV)} {d : Nat} {args : List DV} {H : PT HB} {n lo : Nat} : K G (d + 1) 53 args H n lo = f53.run G (K G d) args H n lo := dcall_fn rfl
theorem k54 {G : Nat → Option (List IV)} {d : Nat} {args : List DV} {H : PT HB} {n lo : Nat} : K G (d + 1) 54 args H n lo = f54.run G (K G d) args H n lo := dcall_fn rfl
theorem k55 {G : Nat → Option (List IV)} {d : Nat} {args : List DV} {H : PT HB} {n lo : Nat} : K G (d + 1) 55 args H n lo = f55.run G (K G d) args H n lo := dcall_fn rfl
theorem k56 {G : Nat → Option (List IV)} {d : Nat} {args : List DV} {H : PT HB} {n lo : Nat} : K G (d + 1) 56 args H n lo = f56.run G (K G d) args H n lo := dcall_fn rfl
theorem k57 {G : Nat → Option (List IV)} {d : Nat} {args : List DV} {H : PT HB} {n lo : Nat} : K G (d + 1) 57 args H n lo = f57.run G (K G d) args H n lo := dcall_fn rfl
theorem k58 {G : Nat → Option (List IV)} {d : Nat} {args : List DV} {H : PT HB} {n lo : Nat} : K G (d + 1) 58 args H n lo = f58.run G (K G d) args H n lo := dcall_fn rfl
theorem k59 {G : Nat → Option (List IV)} {d : Nat} {args : List DV} {H : PT HB} {n lo : Nat} : K G (d + 1) 59 args H n lo = f59.run G (K G d) args H n lo := dcall_fn rfl
theorem k60 {G : Nat → Option (List IV)} {d : Nat} {args : List DV} {H : PT HB} {n lo : Nat} : K G (d + 1) 60 args H n lo = f60.run G (K G d) args H n lo := dcall_fn rfl
theorem k61 {G : Nat → Option (List IV)} {d : Nat} {args : List DV} {H : PT HB} {n lo : Nat} : K G (d + 1) 61 args H n lo = f61.run G (K G d) args H n lo := dcall_fn rfl
theorem k62 {G : Nat → Option (List IV)} {d : Nat} {args : List DV} {H : PT HB} {n lo : Nat} : K G (d + 1) 62 args H n lo = f62.run G (K G d) args H n lo := dcall_fn rfl
theorem k63 {G : Nat → Option (List IV)} {d : Nat} {args : List DV} {H : PT HB} {n lo : Nat} : K G (d + 1) 63 args H n lo = f63.run G (K G d) args H n lo := dcall_fn rfl
theorem k64 {G : Nat → Option (List IV)} {d : Nat} {args : List DV} {H : PT HB} {n lo : Nat} : K G (d + 1) 64 args H n lo = f64.run G (K G d) args H n lo := dcall_fn rfl
theorem k65 {G : Nat → Option (List IV)} {d : Nat} {args : List DV} {H : PT HB} {n lo : Nat} : K G (d + 1) 65 args H n lo = f65.run G (K G d) args H n lo := dcall_fn rfl
theorem k66 {G : Nat → Option (List IV)} {d : Nat} {args : List DV} {H : PT HB} {n lo : Nat} : K G (d + 1) 66 args H n lo = f66.run G (K G d) args H n lo := dcall_fn rfl
theorem k67 {G : Nat → Option (List IV)} {d : Nat} {args : List DV} {H : PT HB} {n lo : Nat} : K G (d + 1) 67 args H n lo = f67.run G (K G d) args H n lo := dcall_fn rfl
theorem k68 {G : Nat → Option (List IV)} {d : Nat} {args : List DV} {H : PT HB} {n lo : Nat} : K G (d + 1) 68 args H n lo = f68.run G (K G d) args H n lo := dcall_fn rfl
theorem k69 {G : Nat → Option (List IV)} {d : Nat} {args : List DV} {H : PT HB} {n lo : Nat} : K G (d + 1) 69 args H n lo = f69.run G (K G d) args H n lo := dcall_fn rfl
theorem k70 {G : Nat → Option (List IV)} {d : Nat} {args : List DV} {H : PT HB} {n lo : Nat} : K G (d + 1) 70 args H n lo = f70.run G (K G d) args H n lo := dcall_fn rfl
theorem k71 {G : Nat → Option (List IV)} {d : Nat} {args : List DV} {H : PT HB} {n lo : Nat} : K G (d + 1) 71 args H n lo = f71.run G (K G d) args H n lo := dcall_fn rfl
theorem k72 {G : Nat → Option (List IV)} {d : Nat} {args : List DV} {H : PT HB} {n lo : Nat} : K G (d + 1) 72 args H n lo = f72.run G (K G d) args H n lo := dcall_fn rfl
theorem k73 {G : Nat → Option (List IV)} {d : Nat} {args : List DV} {H : PT HB} {n lo : Nat} : K G (d + 1) 73 args H n lo = f73.run G (K G d) args H n lo := dcall_fn rfl
theorem k74 {G : Nat → Option (List IV)} {d : Nat} {args : List DV} {H : PT HB} {n lo : Nat} : K G (d + 1) 74 args H n lo = f74.run G (K G d) args H n lo := dcall_fn rfl
theorem k75 {G : Nat → Option (List IV)} {d : Nat} {args : List DV} {H : PT HB} {n lo : Nat} : K G (d + 1) 75 args H n lo = f75.run G (K G d) args H n lo := dcall_fn rfl
theorem k76 {G : Nat → Option (List IV)} {d : Nat} {args : List DV} {H : PT HB} {n lo : Nat} : K G (d + 1) 76 args H n lo = f76.run G (K G d) args H n lo := dcall_fn rfl
theorem k77 {G : Nat → Option (List IV)} {d : Nat} {args : List DV} {H : PT HB} {n lo : Nat} : K G (d + 1) 77 args H n lo = f77.run G (K G d) args H n lo := dcall_fn rfl
theorem k78 {G : Nat → Option (List IV)} {d : Nat} {args : List DV} {H : PT HB} {n lo : Nat} : K G (d + 1) 78 args H n lo = f78.run G (K G d) args H n lo := dcall_fn rfl
theorem k79 {G : Nat → Option (List IV)} {d : Nat} {args : List DV} {H : PT HB} {n lo : Nat} : K G (d + 1) 79 args H n lo = f79.run G (K G d) args H n lo := dcall_fn rfl
theorem k80 {G : Nat → Option (List IV)} {d : Nat} {args : List DV} {H : PT HB} {n lo : Nat} : K G (d + 1) 80 args H n lo = f80.run G (K G d) args H n lo := dcall_fn rfl
theorem k81 {G : Nat → Option (List IV)} {d : Nat} {args : List DV} {H : PT HB} {n lo : Nat} : K G (d + 1) 81 args H n lo = f81.run G (K G d) args H n lo := dcall_fn rfl
theorem k82 {G : Nat → Option (List IV)} {d : Nat} {args : List DV} {H : PT HB} {n lo : Nat} : K G (d + 1) 82 args H n lo = f82.run G (K G d) args H n lo := dcall_fn rfl
theorem k83 {G : Nat → Option (List IV)} {d : Nat} {args : List DV} {H : PT HB} {n lo : Nat} : K G (d + 1) 83 args H n lo = f83.run G (K G d) args H n lo := dcall_fn rfl
theorem k84 {G : Nat → Option (List IV)} {d : Nat} {args : List DV} {H : PT HB} {n lo : Nat} : K G (d + 1) 84 args H n lo = f84.run G (K G d) args H n lo := dcall_fn rfl
theorem k85 {G : Nat → Option (List IV)} {d : Nat} {args : List DV} {H : PT HB} {n lo : Nat} : K G (d + 1) 85 args H n lo = f85.run G (K G d) args H n lo := dcall_fn rfl
theorem k86 {G : Nat → Option (List IV)} {d : Nat} {args : List DV} {H : PT HB} {n lo : Nat} : K G (d + 1) 86 args H n lo = f86.run G (K G d) args H n lo := dcall_fn rfl
theorem k87 {G : Nat → Option (List IV)} {d : Nat} {args : List DV} {H : PT HB} {n lo : Nat} : K G (d + 1) 87 args H n lo = f87.run G (K G d) args H n lo := dcall_fn rfl
theorem k88 {G : Nat → Option (List IV)} {d : Nat} {args : List DV} {H : PT HB} {n lo : Nat} : K G (d + 1) 88 args H n lo = f88.run G (K G d) args H n lo := dcall_fn rfl
theorem k89 {G : Nat → Option (List IV)} {d : Nat} {args : List DV} {H : PT HB} {n lo : Nat} : K G (d + 1) 89 args H n lo = f89.run G (K G d) args H n lo := dcall_fn rfl
theorem k90 {G : Nat → Option (List IV)} {d : Nat} {args : List DV} {H : PT HB} {n lo : Nat} : K G (d + 1) 90 args H n lo = f90.run G (K G d) args H n lo := dcall_fn rfl
theorem k91 {G : Nat → Option (List IV)} {d : Nat} {args : List DV} {H : PT HB} {n lo : Nat} : K G (d + 1) 91 args H n lo = f91.run G (K G d) args H n lo := dcall_fn rfl
theorem k92 {G : Nat → Option (List IV)} {d : Nat} {args : List DV} {H : PT HB} {n lo : Nat} : K G (d + 1) 92 args H n lo = f92.run G (K G d) args H n lo := dcall_fn rfl
theorem k93 {G : Nat → Option (List IV)} {d : Nat} {args : List DV} {H : PT HB} {n lo : Nat} : K G (d + 1) 93 args H n lo = f93.run G (K G d) args H n lo := dcall_fn rfl
theorem k94 {G : Nat → Option (List IV)} {d : Nat} {args : List DV} {H : PT HB} {n lo : Nat} : K G (d + 1) 94 args H n lo = f94.run G (K G d) args H n lo := dcall_fn rfl
theorem k95 {G : Nat → Option (List IV)} {d : Nat} {args : List DV} {H : PT HB} {n lo : Nat} : K G (d + 1) 95 args H n lo = f95.run G (K G d) args H n lo := dcall_fn rfl
theorem k96 {G : Nat → Option (List IV)} {d : Nat} {args : List DV} {H : PT HB} {n lo : Nat} : K G (d + 1) 96 args H n lo = f96.run G (K G d) args H n lo := dcall_fn rfl
theorem k97 {G : Nat → Option (List IV)} {d : Nat} {args : List DV} {H : PT HB} {n lo : Nat} : K G (d + 1) 97 args H n lo = f97.run G (K G d) args H n lo := dcall_fn rfl
theorem k98 {G : Nat → Option (List IV)} {d : Nat} {args : List DV} {H : PT HB} {n lo : Nat} : K G (d + 1) 98 args H n lo = f98.run G (K G d) args H n lo := dcall_fn rfl
theorem k99 {G : Nat → Option (List IV)} {d : Nat} {args : List DV} {H : PT HB} {n lo : Nat} : K G (d + 1) 99 args H n lo = f99.run G (K G d) args H n lo := dcall_fn rfl
theorem k100 {G : Nat → Option (List IV)} {d : Nat} {args : List DV} {H : PT HB} {n lo : Nat} : K G (d + 1) 100 args H n lo = f100.run G (K G d) args H n lo := dcall_fn rfl
end Go.Proofs.YtkgjgehffijepaaDoor.D
