/-
  D's functions of this seat, printed by program out of the translation.
-/
import Derived.Test.YtldinlipajjmoaaRun
set_option maxRecDepth 100000
namespace Go.Proofs.Ytldinlipajjmoaa.D
open Go Go.PM

def l3_0b : DC :=
 .seq (.seq (.reg [
 ⟨some 14, .mv (.t 5), none⟩,
 ⟨some 15, .mv (.t 0), none⟩,
 ⟨some 16, .len (.t 15), none⟩,
 ⟨some 17, .bin .lss .sc (.t 14) (.t 16), none⟩,
 ⟨some 18, .mv (.t 17), none⟩,
 ⟨some 19, .mv (.t 5), some (18, true)⟩,
 ⟨some 20, .bin .lss .sc (.t 19) (.k (.int .i64 60)), some (18, true)⟩,
 ⟨some 21, .pick (.t 18) (.t 20) (.k (.bool false)), none⟩]) <|
 .cond (.t 21)
 (.skip)
 (.exit 0)) <|
 .seq (.block 1 <|
 .seq (.reg [
 ⟨some 24, .mv (.t 0), none⟩,
 ⟨some 25, .mv (.t 5), none⟩,
 ⟨some 26, .idx 5 (.t 24) (.t 25), none⟩,
 ⟨some 27, .ld 5 true (.t 26), none⟩,
 ⟨some 6, .alL [.int .i64 0, .int .i64 0, .nils, .bool false, .int .i64 0], none⟩,
 ⟨none, .st 5 (.t 6) (.t 27), none⟩]) <|
 .seq (.reg [
 ⟨some 28, .fld 0 (.t 6), none⟩,
 ⟨some 29, .ld 1 false (.t 28), none⟩]) <|
 .block 2 <|
 .seq (.reg [
 ⟨some 42, .bin .eql .sc (.t 29) (.k (.int .i64 1)), none⟩,
 ⟨some 41, .mv (.t 42), none⟩]) <|
 .cond (.t 41)
 (.seq (.reg [
 ⟨some 43, .mv (.t 3), none⟩,
 ⟨some 44, .fld 1 (.t 6), none⟩,
 ⟨some 45, .ld 1 false (.t 44), none⟩,
 ⟨some 46, .fld 2 (.t 6), none⟩,
 ⟨some 47, .ld 1 false (.t 46), none⟩,
 ⟨some 48, .call .eff 11 [(.t 43), (.t 45), (.t 47)], none⟩]) <|
 .reg [
 ⟨some 49, .mv (.t 4), none⟩,
 ⟨some 50, .fld 1 (.t 6), none⟩,
 ⟨some 51, .ld 1 false (.t 50), none⟩,
 ⟨some 52, .fld 2 (.t 6), none⟩,
 ⟨some 53, .ld 1 false (.t 52), none⟩,
 ⟨some 54, .call .eff 12 [(.t 49), (.t 51), (.t 53)], none⟩])
 (.seq (.reg [
 ⟨some 56, .bin .eql .sc (.t 29) (.k (.int .i64 2)), none⟩,
 ⟨some 55, .mv (.t 56), none⟩]) <|
 .cond (.t 55)
 (.seq (.reg [
 ⟨some 57, .mv (.t 3), none⟩,
 ⟨some 58, .fld 3 (.t 6), none⟩,
 ⟨some 59, .ld 1 false (.t 58), none⟩,
 ⟨some 60, .fld 4 (.t 6), none⟩,
 ⟨some 61, .ld 1 false (.t 60), none⟩,
 ⟨some 62, .call .eff 13 [(.t 57), (.t 59), (.t 61)], none⟩]) <|
 .reg [
 ⟨some 63, .mv (.t 4), none⟩,
 ⟨some 64, .fld 3 (.t 6), none⟩,
 ⟨some 65, .ld 1 false (.t 64), none⟩,
 ⟨some 66, .fld 4 (.t 6), none⟩,
 ⟨some 67, .ld 1 false (.t 66), none⟩,
 ⟨some 68, .call .eff 14 [(.t 63), (.t 65), (.t 67)], none⟩])
 (.seq (.drw [
 ⟨some 30, .mv (.t 3), none⟩,
 ⟨some 31, .fld 1 (.t 6), none⟩,
 ⟨some 32, .ld 1 false (.t 31), none⟩,
 ⟨some 33, .call .wr 15 [(.t 30), (.t 32)], none⟩,
 ⟨some 34, .cvBS (.t 33), none⟩,
 ⟨some 35, .mv (.t 4), none⟩,
 ⟨some 36, .fld 1 (.t 6), none⟩,
 ⟨some 37, .ld 1 false (.t 36), none⟩,
 ⟨some 38, .call .wr 16 [(.t 35), (.t 37)], none⟩,
 ⟨some 39, .cvBS (.t 38), none⟩,
 ⟨some 40, .bin .neq .sc (.t 34) (.t 39), none⟩] [[], [], [], [2], [2, 3], [], [], [], [2, 3, 7], [2, 3, 7, 8], []]) <|
 .cond (.t 40)
 (.seq (.reg [
 ⟨some 2, .mv (.k (.bool false)), none⟩]) <|
 .ret)
 (.skip)))) <|
 .reg [
 ⟨some 22, .mv (.t 5), none⟩,
 ⟨some 23, .bin .add .sc (.t 22) (.k (.int .i64 1)), none⟩,
 ⟨some 5, .mv (.t 23), none⟩]
def l3_0 : DC := .loop [0, 3, 4, 5] [] l3_0b
def f3 : DFn := ⟨1, [.t 2],
 .seq (.reg [
 ⟨some 2, .mv (.k (.bool false)), none⟩]) <|
 .seq (.seq (.reg [
 ⟨some 7, .mv (.t 0), none⟩,
 ⟨some 8, .call .blind 9 [(.t 7)], none⟩]) <|
 .cond (.t 8)
 (.seq (.reg [
 ⟨some 2, .mv (.k (.bool true)), none⟩]) <|
 .ret)
 (.skip)) <|
 .seq (.reg [
 ⟨some 9, .call .eff 10 [], none⟩,
 ⟨some 10, .build [.nils, .nils, .nils, .nils] [], none⟩,
 ⟨some 11, .boxH (.t 10), none⟩,
 ⟨some 3, .mv (.t 9), none⟩,
 ⟨some 4, .mv (.t 11), none⟩]) <|
 .seq (.seq (.reg [
 ⟨some 12, .mv (.t 3), none⟩,
 ⟨some 13, .bin .eql .np (.t 12) (.k (.nilp)), none⟩]) <|
 .cond (.t 13)
 (.seq (.reg [
 ⟨some 2, .mv (.k (.bool false)), none⟩]) <|
 .ret)
 (.skip)) <|
 .seq (.seq (.reg [
 ⟨some 5, .mv (.k (.int .i64 0)), none⟩]) <|
 .block 0 <|
 l3_0) <|
 .seq (.drw [
 ⟨some 69, .mv (.t 3), none⟩,
 ⟨some 70, .call .wr 15 [(.t 69), (.k (.int .i64 0))], none⟩,
 ⟨some 71, .cvBS (.t 70), none⟩,
 ⟨some 72, .mv (.t 4), none⟩,
 ⟨some 73, .call .wr 16 [(.t 72), (.k (.int .i64 0))], none⟩,
 ⟨some 74, .cvBS (.t 73), none⟩,
 ⟨some 75, .bin .eql .sc (.t 71) (.t 74), none⟩,
 ⟨some 76, .mv (.t 75), none⟩,
 ⟨some 77, .mv (.t 3), some (76, true)⟩,
 ⟨some 78, .call .wr 15 [(.t 77), (.k (.int .i64 1))], some (76, true)⟩,
 ⟨some 79, .cvBS (.t 78), some (76, true)⟩,
 ⟨some 80, .mv (.t 4), some (76, true)⟩,
 ⟨some 81, .call .wr 16 [(.t 80), (.k (.int .i64 1))], some (76, true)⟩,
 ⟨some 82, .cvBS (.t 81), some (76, true)⟩,
 ⟨some 83, .bin .eql .sc (.t 79) (.t 82), some (76, true)⟩,
 ⟨some 84, .pick (.t 76) (.t 83) (.k (.bool false)), none⟩,
 ⟨some 85, .mv (.t 84), none⟩,
 ⟨some 86, .call .blind 17 [], some (85, true)⟩,
 ⟨some 87, .pick (.t 85) (.t 86) (.k (.bool false)), none⟩,
 ⟨some 2, .mv (.t 87), none⟩] [[], [], [1], [], [1], [1, 4], [], [], [], [1, 2, 4, 5], [1, 2, 4, 5, 9], [], [1, 2, 4, 5, 9], [1, 2, 4, 5, 9, 12], [], [], [], [1, 2, 4, 5, 9, 10, 12, 13], [], []]) <|
 .ret⟩

def f4 : DFn := ⟨3, [.t 6],
 .seq (.reg [
 ⟨some 6, .mv (.k (.bool false)), none⟩]) <|
 .seq (.seq (.reg [
 ⟨some 8, .mv (.t 0), none⟩,
 ⟨some 9, .len (.t 8), none⟩,
 ⟨some 10, .bin .gtr .sc (.t 9) (.k (.int .i64 500)), none⟩,
 ⟨some 11, .mv (.t 10), none⟩,
 ⟨some 12, .mv (.t 1), some (11, false)⟩,
 ⟨some 13, .len (.t 12), some (11, false)⟩,
 ⟨some 14, .bin .gtr .sc (.t 13) (.k (.int .i64 500)), some (11, false)⟩,
 ⟨some 15, .pick (.t 11) (.k (.bool true)) (.t 14), none⟩]) <|
 .cond (.t 15)
 (.seq (.reg [
 ⟨some 6, .mv (.k (.bool true)), none⟩]) <|
 .ret)
 (.skip)) <|
 .seq (.reg [
 ⟨some 16, .call .eff 10 [], none⟩,
 ⟨some 7, .mv (.t 16), none⟩]) <|
 .seq (.seq (.reg [
 ⟨some 17, .mv (.t 7), none⟩,
 ⟨some 18, .bin .eql .np (.t 17) (.k (.nilp)), none⟩]) <|
 .cond (.t 18)
 (.seq (.reg [
 ⟨some 6, .mv (.k (.bool false)), none⟩]) <|
 .ret)
 (.skip)) <|
 .seq (.reg [
 ⟨some 19, .mv (.t 7), none⟩,
 ⟨some 20, .mv (.t 0), none⟩,
 ⟨some 21, .call .eff 11 [(.t 19), (.k (.int .i64 0)), (.t 20)], none⟩]) <|
 .seq (.reg [
 ⟨some 22, .mv (.t 7), none⟩,
 ⟨some 23, .mv (.t 1), none⟩,
 ⟨some 24, .call .eff 11 [(.t 22), (.k (.int .i64 1)), (.t 23)], none⟩]) <|
 .seq (.reg [
 ⟨some 25, .mv (.t 7), none⟩,
 ⟨some 26, .call .eff 13 [(.t 25), (.k (.bool false)), (.k (.int .i64 (-1)))], none⟩]) <|
 .seq (.seq (.reg [
 ⟨some 27, .mv (.t 2), none⟩]) <|
 .cond (.t 27)
 (.seq (.reg [
 ⟨some 28, .mv (.t 7), none⟩,
 ⟨some 29, .call .eff 13 [(.t 28), (.k (.bool false)), (.k (.int .i64 (-1)))], none⟩]) <|
 .seq (.reg [
 ⟨some 30, .mv (.t 7), none⟩,
 ⟨some 31, .call .eff 15 [(.t 30), (.k (.int .i64 0))], none⟩,
 ⟨some 32, .len (.t 31), none⟩,
 ⟨some 33, .mv (.t 7), none⟩,
 ⟨some 34, .call .eff 15 [(.t 33), (.k (.int .i64 1))], none⟩,
 ⟨some 35, .len (.t 34), none⟩,
 ⟨some 36, .bin .add .sc (.t 32) (.t 35), none⟩,
 ⟨some 37, .bin .eql .sc (.t 36) (.k (.int .i64 0)), none⟩,
 ⟨some 38, .mv (.t 37), none⟩,
 ⟨some 39, .call .blind 17 [], some (38, true)⟩,
 ⟨some 40, .pick (.t 38) (.t 39) (.k (.bool false)), none⟩,
 ⟨some 6, .mv (.t 40), none⟩]) <|
 .ret)
 (.skip)) <|
 .seq (.drw [
 ⟨some 41, .mv (.t 7), none⟩,
 ⟨some 42, .call .eff 15 [(.t 41), (.k (.int .i64 1))], none⟩,
 ⟨some 43, .cvBS (.t 42), none⟩,
 ⟨some 44, .mv (.t 0), none⟩,
 ⟨some 45, .cvBS (.t 44), none⟩,
 ⟨some 46, .bin .eql .sc (.t 43) (.t 45), none⟩,
 ⟨some 47, .mv (.t 46), none⟩,
 ⟨some 48, .mv (.t 7), some (47, true)⟩,
 ⟨some 49, .call .eff 15 [(.t 48), (.k (.int .i64 0))], some (47, true)⟩,
 ⟨some 50, .cvBS (.t 49), some (47, true)⟩,
 ⟨some 51, .mv (.t 1), some (47, true)⟩,
 ⟨some 52, .cvBS (.t 51), some (47, true)⟩,
 ⟨some 53, .bin .eql .sc (.t 50) (.t 52), some (47, true)⟩,
 ⟨some 54, .pick (.t 47) (.t 53) (.k (.bool false)), none⟩,
 ⟨some 55, .mv (.t 54), none⟩,
 ⟨some 56, .call .blind 17 [], some (55, true)⟩,
 ⟨some 57, .pick (.t 55) (.t 56) (.k (.bool false)), none⟩,
 ⟨some 6, .mv (.t 57), none⟩] [[], [], [1], [], [], [], [], [], [1, 2, 4], [1, 2, 4, 8], [], [1, 2, 4], [], [], [], [1, 2, 4, 8, 9, 11], [], []]) <|
 .ret⟩

def l5_0b : DC :=
 .seq (.seq (.reg [
 ⟨some 43, .mv (.t 10), none⟩,
 ⟨some 44, .mv (.t 0), none⟩,
 ⟨some 45, .len (.t 44), none⟩,
 ⟨some 46, .bin .lss .sc (.t 43) (.t 45), none⟩]) <|
 .cond (.t 46)
 (.skip)
 (.exit 0)) <|
 .seq (.block 1 <|
 .seq (.drw [
 ⟨some 49, .mv (.t 0), none⟩,
 ⟨some 50, .mv (.t 10), none⟩,
 ⟨some 51, .idx 1 (.t 49) (.t 50), none⟩,
 ⟨some 52, .ld 1 false (.t 51), none⟩,
 ⟨some 53, .mv (.t 8), none⟩,
 ⟨some 54, .mv (.t 10), none⟩,
 ⟨some 55, .idx 1 (.t 53) (.t 54), none⟩,
 ⟨some 56, .ld 1 false (.t 55), none⟩,
 ⟨some 57, .bin .neq .sc (.t 52) (.t 56), none⟩] [[], [], [], [2], [], [], [], [6], []]) <|
 .cond (.t 57)
 (.seq (.reg [
 ⟨some 58, .mv (.t 9), none⟩,
 ⟨some 59, .bin .add .sc (.t 58) (.k (.int .i64 1)), none⟩,
 ⟨some 9, .mv (.t 59), none⟩]) <|
 .seq (.drw [
 ⟨some 60, .mv (.t 0), none⟩,
 ⟨some 61, .mv (.t 10), none⟩,
 ⟨some 62, .idx 1 (.t 60) (.t 61), none⟩,
 ⟨some 63, .ld 1 false (.t 62), none⟩,
 ⟨some 64, .mv (.t 8), none⟩,
 ⟨some 65, .mv (.t 10), none⟩,
 ⟨some 66, .idx 1 (.t 64) (.t 65), none⟩,
 ⟨some 67, .ld 1 false (.t 66), none⟩,
 ⟨some 68, .bin .xor .sc (.t 63) (.t 67), none⟩,
 ⟨some 69, .bin .neq .sc (.t 68) (.k (.int .u8 1)), none⟩,
 ⟨some 70, .mv (.t 69), none⟩,
 ⟨some 71, .mv (.t 10), some (70, false)⟩,
 ⟨some 72, .mv (.t 2), some (70, false)⟩,
 ⟨some 73, .mv (.t 0), some (70, false)⟩,
 ⟨some 74, .len (.t 73), some (70, false)⟩,
 ⟨some 75, .bin .rem .sc (.t 72) (.t 74), some (70, false)⟩,
 ⟨some 76, .bin .neq .sc (.t 71) (.t 75), some (70, false)⟩,
 ⟨some 77, .pick (.t 70) (.k (.bool true)) (.t 76), none⟩] [[], [], [], [2], [], [], [], [6], [], [], [], [], [], [], [], [], [], []]) <|
 .cond (.t 77)
 (.seq (.reg [
 ⟨some 6, .mv (.k (.bool false)), none⟩]) <|
 .ret)
 (.skip))
 (.skip)) <|
 .reg [
 ⟨some 47, .mv (.t 10), none⟩,
 ⟨some 48, .bin .add .sc (.t 47) (.k (.int .i64 1)), none⟩,
 ⟨some 10, .mv (.t 48), none⟩]
def l5_0 : DC := .loop [0, 2, 8, 9, 10] [] l5_0b
def f5 : DFn := ⟨3, [.t 6],
 .seq (.reg [
 ⟨some 6, .mv (.k (.bool false)), none⟩]) <|
 .seq (.seq (.reg [
 ⟨some 11, .mv (.t 0), none⟩,
 ⟨some 12, .len (.t 11), none⟩,
 ⟨some 13, .bin .lss .sc (.t 12) (.k (.int .i64 1)), none⟩,
 ⟨some 14, .mv (.t 13), none⟩,
 ⟨some 15, .mv (.t 0), some (14, false)⟩,
 ⟨some 16, .len (.t 15), some (14, false)⟩,
 ⟨some 17, .bin .gtr .sc (.t 16) (.k (.int .i64 500)), some (14, false)⟩,
 ⟨some 18, .pick (.t 14) (.k (.bool true)) (.t 17), none⟩]) <|
 .cond (.t 18)
 (.seq (.reg [
 ⟨some 6, .mv (.k (.bool true)), none⟩]) <|
 .ret)
 (.skip)) <|
 .seq (.reg [
 ⟨some 19, .call .eff 10 [], none⟩,
 ⟨some 7, .mv (.t 19), none⟩]) <|
 .seq (.seq (.reg [
 ⟨some 20, .mv (.t 7), none⟩,
 ⟨some 21, .bin .eql .np (.t 20) (.k (.nilp)), none⟩]) <|
 .cond (.t 21)
 (.seq (.reg [
 ⟨some 6, .mv (.k (.bool false)), none⟩]) <|
 .ret)
 (.skip)) <|
 .seq (.reg [
 ⟨some 22, .mv (.t 7), none⟩,
 ⟨some 23, .mv (.t 0), none⟩,
 ⟨some 24, .call .eff 11 [(.t 22), (.k (.int .i64 1)), (.t 23)], none⟩]) <|
 .seq (.reg [
 ⟨some 25, .mv (.t 7), none⟩,
 ⟨some 26, .mv (.t 1), none⟩,
 ⟨some 27, .mv (.t 2), none⟩,
 ⟨some 28, .call .eff 13 [(.t 25), (.t 26), (.t 27)], none⟩]) <|
 .seq (.reg [
 ⟨some 29, .mv (.t 7), none⟩,
 ⟨some 30, .call .eff 15 [(.t 29), (.k (.int .i64 0))], none⟩,
 ⟨some 8, .mv (.t 30), none⟩]) <|
 .seq (.seq (.reg [
 ⟨some 31, .mv (.t 1), none⟩]) <|
 .cond (.t 31)
 (.seq (.reg [
 ⟨some 32, .mv (.t 8), none⟩,
 ⟨some 33, .len (.t 32), none⟩,
 ⟨some 34, .bin .eql .sc (.t 33) (.k (.int .i64 0)), none⟩,
 ⟨some 35, .mv (.t 34), none⟩,
 ⟨some 36, .call .blind 17 [], some (35, true)⟩,
 ⟨some 37, .pick (.t 35) (.t 36) (.k (.bool false)), none⟩,
 ⟨some 6, .mv (.t 37), none⟩]) <|
 .ret)
 (.skip)) <|
 .seq (.seq (.reg [
 ⟨some 38, .mv (.t 8), none⟩,
 ⟨some 39, .len (.t 38), none⟩,
 ⟨some 40, .mv (.t 0), none⟩,
 ⟨some 41, .len (.t 40), none⟩,
 ⟨some 42, .bin .neq .sc (.t 39) (.t 41), none⟩]) <|
 .cond (.t 42)
 (.seq (.reg [
 ⟨some 6, .mv (.k (.bool false)), none⟩]) <|
 .ret)
 (.skip)) <|
 .seq (.reg [
 ⟨some 9, .mv (.k (.int .i64 0)), none⟩]) <|
 .seq (.seq (.reg [
 ⟨some 10, .mv (.k (.int .i64 0)), none⟩]) <|
 .block 0 <|
 l5_0) <|
 .seq (.reg [
 ⟨some 78, .mv (.t 9), none⟩,
 ⟨some 79, .bin .eql .sc (.t 78) (.k (.int .i64 1)), none⟩,
 ⟨some 80, .mv (.t 2), none⟩,
 ⟨some 81, .bin .geq .sc (.t 80) (.k (.int .i64 0)), none⟩,
 ⟨some 82, .bin .eql .bl (.t 79) (.t 81), none⟩,
 ⟨some 83, .mv (.t 82), none⟩,
 ⟨some 84, .call .blind 17 [], some (83, true)⟩,
 ⟨some 85, .pick (.t 83) (.t 84) (.k (.bool false)), none⟩,
 ⟨some 6, .mv (.t 85), none⟩]) <|
 .ret⟩

def f6 : DFn := ⟨2, [.t 4],
 .seq (.reg [
 ⟨some 4, .mv (.k (.bool false)), none⟩]) <|
 .seq (.seq (.reg [
 ⟨some 8, .mv (.t 0), none⟩,
 ⟨some 9, .len (.t 8), none⟩,
 ⟨some 10, .bin .lss .sc (.t 9) (.k (.int .i64 1)), none⟩,
 ⟨some 11, .mv (.t 10), none⟩,
 ⟨some 12, .mv (.t 0), some (11, false)⟩,
 ⟨some 13, .len (.t 12), some (11, false)⟩,
 ⟨some 14, .bin .gtr .sc (.t 13) (.k (.int .i64 300)), some (11, false)⟩,
 ⟨some 15, .pick (.t 11) (.k (.bool true)) (.t 14), none⟩]) <|
 .cond (.t 15)
 (.seq (.reg [
 ⟨some 4, .mv (.k (.bool true)), none⟩]) <|
 .ret)
 (.skip)) <|
 .seq (.reg [
 ⟨some 16, .call .eff 10 [], none⟩,
 ⟨some 5, .mv (.t 16), none⟩]) <|
 .seq (.seq (.reg [
 ⟨some 17, .mv (.t 5), none⟩,
 ⟨some 18, .bin .eql .np (.t 17) (.k (.nilp)), none⟩]) <|
 .cond (.t 18)
 (.seq (.reg [
 ⟨some 4, .mv (.k (.bool false)), none⟩]) <|
 .ret)
 (.skip)) <|
 .seq (.reg [
 ⟨some 19, .bsl false 1 [.int .u8 0] 0 [], none⟩,
 ⟨some 20, .mv (.t 0), none⟩,
 ⟨some 21, .app 1 1 (.t 19) (.t 20), none⟩,
 ⟨some 6, .mv (.t 21), none⟩]) <|
 .seq (.reg [
 ⟨some 22, .mv (.t 5), none⟩,
 ⟨some 23, .mv (.t 6), none⟩,
 ⟨some 24, .call .eff 11 [(.t 22), (.k (.int .i64 0)), (.t 23)], none⟩]) <|
 .seq (.reg [
 ⟨some 25, .mv (.t 6), none⟩,
 ⟨some 26, .idx 1 (.t 25) (.k (.int .i64 0)), none⟩,
 ⟨some 27, .ld 1 false (.t 26), none⟩,
 ⟨some 28, .bin .xor .sc (.t 27) (.k (.int .u8 1)), none⟩,
 ⟨some 29, .idx 1 (.t 25) (.k (.int .i64 0)), none⟩,
 ⟨none, .st 1 (.t 29) (.t 28), none⟩]) <|
 .seq (.reg [
 ⟨some 30, .mv (.t 5), none⟩,
 ⟨some 31, .call .eff 13 [(.t 30), (.k (.bool false)), (.k (.int .i64 (-1)))], none⟩]) <|
 .seq (.reg [
 ⟨some 7, .mv (.k (.nilp)), none⟩]) <|
 .seq (.reg [
 ⟨some 32, .mv (.t 7), none⟩,
 ⟨some 33, .mv (.t 1), none⟩,
 ⟨some 34, .mv (.t 0), none⟩,
 ⟨some 35, .call .eff 11 [(.t 32), (.t 33), (.t 34)], none⟩]) <|
 .seq (.reg [
 ⟨some 36, .mv (.t 7), none⟩,
 ⟨some 37, .call .eff 13 [(.t 36), (.k (.bool false)), (.k (.int .i64 0))], none⟩]) <|
 .seq (.drw [
 ⟨some 38, .mv (.t 5), none⟩,
 ⟨some 39, .call .eff 15 [(.t 38), (.k (.int .i64 1))], none⟩,
 ⟨some 40, .cvBS (.t 39), none⟩,
 ⟨some 41, .mv (.t 0), none⟩,
 ⟨some 42, .cvBS (.t 41), none⟩,
 ⟨some 43, .bin .eql .sc (.t 40) (.t 42), none⟩,
 ⟨some 44, .mv (.t 43), none⟩,
 ⟨some 45, .mv (.t 7), some (44, true)⟩,
 ⟨some 46, .mv (.t 1), some (44, true)⟩,
 ⟨some 47, .call .eff 15 [(.t 45), (.t 46)], some (44, true)⟩,
 ⟨some 48, .len (.t 47), some (44, true)⟩,
 ⟨some 49, .bin .eql .sc (.t 48) (.k (.int .i64 0)), some (44, true)⟩,
 ⟨some 50, .pick (.t 44) (.t 49) (.k (.bool false)), none⟩,
 ⟨some 51, .mv (.t 50), none⟩,
 ⟨some 52, .mv (.t 5), some (51, true)⟩,
 ⟨some 53, .call .eff 15 [(.t 52), (.k (.int .i64 2))], some (51, true)⟩,
 ⟨some 54, .len (.t 53), some (51, true)⟩,
 ⟨some 55, .mv (.t 5), some (51, true)⟩,
 ⟨some 56, .call .eff 15 [(.t 55), (.k (.int .i64 (-1)))], some (51, true)⟩,
 ⟨some 57, .len (.t 56), some (51, true)⟩,
 ⟨some 58, .bin .add .sc (.t 54) (.t 57), some (51, true)⟩,
 ⟨some 59, .bin .eql .sc (.t 58) (.k (.int .i64 0)), some (51, true)⟩,
 ⟨some 60, .pick (.t 51) (.t 59) (.k (.bool false)), none⟩,
 ⟨some 61, .mv (.t 60), none⟩,
 ⟨some 62, .call .blind 17 [], some (61, true)⟩,
 ⟨some 63, .pick (.t 61) (.t 62) (.k (.bool false)), none⟩,
 ⟨some 4, .mv (.t 63), none⟩] [[], [], [1], [], [], [], [], [], [], [1, 2, 4], [], [], [], [], [], [1, 2, 4, 9], [], [], [1, 2, 4, 9, 15], [], [], [], [], [], [1, 2, 4, 9, 15, 18], [], []]) <|
 .ret⟩

def l7_0b : DC :=
 .seq (.seq (.reg [
 ⟨some 12, .mv (.t 5), none⟩,
 ⟨some 13, .mv (.t 0), none⟩,
 ⟨some 14, .len (.t 13), none⟩,
 ⟨some 15, .bin .lss .sc (.t 12) (.t 14), none⟩]) <|
 .cond (.t 15)
 (.skip)
 (.exit 0)) <|
 .seq (.block 1 <|
 .seq (.seq (.reg [
 ⟨some 18, .mv (.t 0), none⟩,
 ⟨some 19, .mv (.t 5), none⟩,
 ⟨some 20, .idx 1 (.t 18) (.t 19), none⟩,
 ⟨some 21, .ld 1 false (.t 20), none⟩,
 ⟨some 22, .len (.t 21), none⟩,
 ⟨some 23, .bin .gtr .sc (.t 22) (.k (.int .i64 200)), none⟩]) <|
 .cond (.t 23)
 (.seq (.reg [
 ⟨some 2, .mv (.k (.bool true)), none⟩]) <|
 .ret)
 (.skip)) <|
 .seq (.reg [
 ⟨some 24, .mv (.t 3), none⟩,
 ⟨some 25, .mv (.t 0), none⟩,
 ⟨some 26, .mv (.t 5), none⟩,
 ⟨some 27, .idx 1 (.t 25) (.t 26), none⟩,
 ⟨some 28, .ld 1 false (.t 27), none⟩,
 ⟨some 29, .call .eff 11 [(.t 24), (.k (.int .i64 1)), (.t 28)], none⟩]) <|
 .seq (.reg [
 ⟨some 30, .mv (.t 0), none⟩,
 ⟨some 31, .mv (.t 5), none⟩,
 ⟨some 32, .idx 1 (.t 30) (.t 31), none⟩,
 ⟨some 33, .ld 1 false (.t 32), none⟩,
 ⟨some 34, .len (.t 33), none⟩,
 ⟨some 35, .bin .gtr .sc (.t 34) (.k (.int .i64 0)), none⟩]) <|
 .cond (.t 35)
 (.reg [
 ⟨some 36, .mv (.t 0), none⟩,
 ⟨some 37, .mv (.t 5), none⟩,
 ⟨some 38, .idx 1 (.t 36) (.t 37), none⟩,
 ⟨some 39, .ld 1 false (.t 38), none⟩,
 ⟨some 40, .cvBS (.t 39), none⟩,
 ⟨some 4, .mv (.t 40), none⟩])
 (.skip)) <|
 .reg [
 ⟨some 16, .mv (.t 5), none⟩,
 ⟨some 17, .bin .add .sc (.t 16) (.k (.int .i64 1)), none⟩,
 ⟨some 5, .mv (.t 17), none⟩]
def l7_0 : DC := .loop [0, 3, 4, 5] [] l7_0b
def f7 : DFn := ⟨1, [.t 2],
 .seq (.reg [
 ⟨some 2, .mv (.k (.bool false)), none⟩]) <|
 .seq (.seq (.reg [
 ⟨some 6, .mv (.t 0), none⟩,
 ⟨some 7, .len (.t 6), none⟩,
 ⟨some 8, .bin .gtr .sc (.t 7) (.k (.int .i64 30)), none⟩]) <|
 .cond (.t 8)
 (.seq (.reg [
 ⟨some 2, .mv (.k (.bool true)), none⟩]) <|
 .ret)
 (.skip)) <|
 .seq (.reg [
 ⟨some 9, .call .eff 10 [], none⟩,
 ⟨some 3, .mv (.t 9), none⟩]) <|
 .seq (.seq (.reg [
 ⟨some 10, .mv (.t 3), none⟩,
 ⟨some 11, .bin .eql .np (.t 10) (.k (.nilp)), none⟩]) <|
 .cond (.t 11)
 (.seq (.reg [
 ⟨some 2, .mv (.k (.bool false)), none⟩]) <|
 .ret)
 (.skip)) <|
 .seq (.reg [
 ⟨some 4, .mv (.k (.str [])), none⟩]) <|
 .seq (.seq (.reg [
 ⟨some 5, .mv (.k (.int .i64 0)), none⟩]) <|
 .block 0 <|
 l7_0) <|
 .seq (.reg [
 ⟨some 41, .mv (.t 3), none⟩,
 ⟨some 42, .call .eff 13 [(.t 41), (.k (.bool false)), (.k (.int .i64 (-1)))], none⟩]) <|
 .seq (.reg [
 ⟨some 43, .mv (.t 3), none⟩,
 ⟨some 44, .call .eff 15 [(.t 43), (.k (.int .i64 0))], none⟩,
 ⟨some 45, .cvBS (.t 44), none⟩,
 ⟨some 46, .mv (.t 4), none⟩,
 ⟨some 47, .bin .eql .sc (.t 45) (.t 46), none⟩,
 ⟨some 48, .mv (.t 47), none⟩,
 ⟨some 49, .mv (.t 3), some (48, true)⟩,
 ⟨some 50, .call .eff 15 [(.t 49), (.k (.int .i64 1))], some (48, true)⟩,
 ⟨some 51, .len (.t 50), some (48, true)⟩,
 ⟨some 52, .bin .eql .sc (.t 51) (.k (.int .i64 0)), some (48, true)⟩,
 ⟨some 53, .pick (.t 48) (.t 52) (.k (.bool false)), none⟩,
 ⟨some 54, .mv (.t 53), none⟩,
 ⟨some 55, .call .blind 17 [], some (54, true)⟩,
 ⟨some 56, .pick (.t 54) (.t 55) (.k (.bool false)), none⟩,
 ⟨some 2, .mv (.t 56), none⟩]) <|
 .ret⟩

def l8_0b : DC :=
 .seq (.seq (.reg [
 ⟨some 35, .mv (.t 7), none⟩,
 ⟨some 36, .mv (.t 1), none⟩,
 ⟨some 37, .bin .lss .sc (.t 35) (.t 36), none⟩]) <|
 .cond (.t 37)
 (.skip)
 (.exit 0)) <|
 .seq (.block 1 <|
 .seq (.reg [
 ⟨some 40, .mv (.t 5), none⟩,
 ⟨some 41, .call .eff 13 [(.t 40), (.k (.bool false)), (.k (.int .i64 (-1)))], none⟩]) <|
 .seq (.reg [
 ⟨some 42, .mv (.t 5), none⟩,
 ⟨some 43, .call .eff 15 [(.t 42), (.k (.int .i64 1))], none⟩,
 ⟨some 44, .len (.t 43), none⟩,
 ⟨some 45, .mv (.t 5), none⟩,
 ⟨some 46, .call .eff 15 [(.t 45), (.k (.int .i64 0))], none⟩,
 ⟨some 47, .len (.t 46), none⟩,
 ⟨some 48, .bin .add .sc (.t 44) (.t 47), none⟩,
 ⟨some 49, .bin .neq .sc (.t 48) (.k (.int .i64 0)), none⟩]) <|
 .cond (.t 49)
 (.seq (.reg [
 ⟨some 4, .mv (.k (.bool false)), none⟩]) <|
 .ret)
 (.skip)) <|
 .reg [
 ⟨some 38, .mv (.t 7), none⟩,
 ⟨some 39, .bin .add .sc (.t 38) (.k (.int .i64 1)), none⟩,
 ⟨some 7, .mv (.t 39), none⟩]
def l8_0 : DC := .loop [0, 1, 5, 6, 7] [] l8_0b
def f8 : DFn := ⟨2, [.t 4],
 .seq (.reg [
 ⟨some 4, .mv (.k (.bool false)), none⟩]) <|
 .seq (.seq (.reg [
 ⟨some 8, .mv (.t 0), none⟩,
 ⟨some 9, .len (.t 8), none⟩,
 ⟨some 10, .bin .lss .sc (.t 9) (.k (.int .i64 1)), none⟩,
 ⟨some 11, .mv (.t 10), none⟩,
 ⟨some 12, .mv (.t 0), some (11, false)⟩,
 ⟨some 13, .len (.t 12), some (11, false)⟩,
 ⟨some 14, .bin .gtr .sc (.t 13) (.k (.int .i64 200)), some (11, false)⟩,
 ⟨some 15, .pick (.t 11) (.k (.bool true)) (.t 14), none⟩,
 ⟨some 16, .mv (.t 15), none⟩,
 ⟨some 17, .mv (.t 1), some (16, false)⟩,
 ⟨some 18, .bin .lss .sc (.t 17) (.k (.int .i64 1)), some (16, false)⟩,
 ⟨some 19, .pick (.t 16) (.k (.bool true)) (.t 18), none⟩,
 ⟨some 20, .mv (.t 19), none⟩,
 ⟨some 21, .mv (.t 1), some (20, false)⟩,
 ⟨some 22, .bin .gtr .sc (.t 21) (.k (.int .i64 10)), some (20, false)⟩,
 ⟨some 23, .pick (.t 20) (.k (.bool true)) (.t 22), none⟩]) <|
 .cond (.t 23)
 (.seq (.reg [
 ⟨some 4, .mv (.k (.bool true)), none⟩]) <|
 .ret)
 (.skip)) <|
 .seq (.reg [
 ⟨some 24, .call .eff 10 [], none⟩,
 ⟨some 5, .mv (.t 24), none⟩]) <|
 .seq (.seq (.reg [
 ⟨some 25, .mv (.t 5), none⟩,
 ⟨some 26, .bin .eql .np (.t 25) (.k (.nilp)), none⟩]) <|
 .cond (.t 26)
 (.seq (.reg [
 ⟨some 4, .mv (.k (.bool false)), none⟩]) <|
 .ret)
 (.skip)) <|
 .seq (.reg [
 ⟨some 27, .mv (.t 5), none⟩,
 ⟨some 28, .mv (.t 0), none⟩,
 ⟨some 29, .call .eff 11 [(.t 27), (.k (.int .i64 0)), (.t 28)], none⟩]) <|
 .seq (.reg [
 ⟨some 30, .mv (.t 5), none⟩,
 ⟨some 31, .call .eff 13 [(.t 30), (.k (.bool false)), (.k (.int .i64 (-1)))], none⟩]) <|
 .seq (.reg [
 ⟨some 32, .mv (.t 5), none⟩,
 ⟨some 33, .call .eff 15 [(.t 32), (.k (.int .i64 1))], none⟩,
 ⟨some 34, .cvBS (.t 33), none⟩,
 ⟨some 6, .mv (.t 34), none⟩]) <|
 .seq (.seq (.reg [
 ⟨some 7, .mv (.k (.int .i64 0)), none⟩]) <|
 .block 0 <|
 l8_0) <|
 .seq (.reg [
 ⟨some 50, .mv (.t 6), none⟩,
 ⟨some 51, .mv (.t 0), none⟩,
 ⟨some 52, .cvBS (.t 51), none⟩,
 ⟨some 53, .bin .eql .sc (.t 50) (.t 52), none⟩,
 ⟨some 54, .mv (.t 53), none⟩,
 ⟨some 55, .call .blind 17 [], some (54, true)⟩,
 ⟨some 56, .pick (.t 54) (.t 55) (.k (.bool false)), none⟩,
 ⟨some 4, .mv (.t 56), none⟩]) <|
 .ret⟩

def l9_0b : DC :=
 .seq (.seq (.reg [
 ⟨some 5, .mv (.t 4), none⟩,
 ⟨some 6, .mv (.t 0), none⟩,
 ⟨some 7, .len (.t 6), none⟩,
 ⟨some 8, .bin .lss .sc (.t 5) (.t 7), none⟩,
 ⟨some 9, .mv (.t 8), none⟩,
 ⟨some 10, .mv (.t 4), some (9, true)⟩,
 ⟨some 11, .bin .lss .sc (.t 10) (.k (.int .i64 60)), some (9, true)⟩,
 ⟨some 12, .pick (.t 9) (.t 11) (.k (.bool false)), none⟩]) <|
 .cond (.t 12)
 (.skip)
 (.exit 0)) <|
 .seq (.block 1 <|
 .seq (.reg [
 ⟨some 15, .mv (.t 3), none⟩,
 ⟨some 16, .bin .add .sc (.t 15) (.k (.int .i64 1)), none⟩,
 ⟨some 17, .mv (.t 0), none⟩,
 ⟨some 18, .mv (.t 4), none⟩,
 ⟨some 19, .idx 5 (.t 17) (.t 18), none⟩,
 ⟨some 20, .fld 2 (.t 19), none⟩,
 ⟨some 21, .ld 1 false (.t 20), none⟩,
 ⟨some 22, .len (.t 21), none⟩,
 ⟨some 23, .bin .add .sc (.t 16) (.t 22), none⟩,
 ⟨some 3, .mv (.t 23), none⟩]) <|
 .seq (.reg [
 ⟨some 24, .mv (.t 3), none⟩,
 ⟨some 25, .bin .gtr .sc (.t 24) (.k (.int .i64 5000)), none⟩]) <|
 .cond (.t 25)
 (.seq (.reg [
 ⟨some 2, .mv (.k (.bool true)), none⟩]) <|
 .ret)
 (.skip)) <|
 .reg [
 ⟨some 13, .mv (.t 4), none⟩,
 ⟨some 14, .bin .add .sc (.t 13) (.k (.int .i64 1)), none⟩,
 ⟨some 4, .mv (.t 14), none⟩]
def l9_0 : DC := .loop [0, 3, 4] [] l9_0b
def f9 : DFn := ⟨1, [.t 2],
 .seq (.reg [
 ⟨some 2, .mv (.k (.bool false)), none⟩]) <|
 .seq (.reg [
 ⟨some 3, .mv (.k (.int .i64 0)), none⟩]) <|
 .seq (.seq (.reg [
 ⟨some 4, .mv (.k (.int .i64 0)), none⟩]) <|
 .block 0 <|
 l9_0) <|
 .seq (.reg [
 ⟨some 2, .mv (.k (.bool false)), none⟩]) <|
 .ret⟩

def f10 : DFn := ⟨0, [.t 0],
 .seq (.reg [
 ⟨some 0, .mv (.k (.nilp)), none⟩]) <|
 .seq (.reg [
 ⟨some 1, .build [.nils, .nils, .nils, .nils] [], none⟩,
 ⟨some 2, .boxH (.t 1), none⟩,
 ⟨some 0, .mv (.t 2), none⟩]) <|
 .ret⟩

def f11 : DFn := ⟨3, [],
 .seq (.reg [
 ⟨some 6, .mv (.t 0), none⟩,
 ⟨some 7, .mv (.t 1), none⟩,
 ⟨some 8, .call .ro 18 [(.t 6), (.t 7)], none⟩,
 ⟨some 9, .mv (.t 8), none⟩,
 ⟨some 10, .mv (.t 2), some (9, true)⟩,
 ⟨some 11, .len (.t 10), some (9, true)⟩,
 ⟨some 12, .bin .gtr .sc (.t 11) (.k (.int .i64 0)), some (9, true)⟩,
 ⟨some 13, .pick (.t 9) (.t 12) (.k (.bool false)), none⟩]) <|
 .cond (.t 13)
 (.drw [
 ⟨some 14, .mv (.t 0), none⟩,
 ⟨some 15, .mv (.t 1), none⟩,
 ⟨some 16, .mv (.t 2), none⟩,
 ⟨some 17, .call .eff 19 [(.t 16)], none⟩,
 ⟨some 18, .nilck (.t 14), none⟩,
 ⟨some 19, .fld 0 (.t 18), none⟩,
 ⟨some 20, .idxA 1 2 (.t 19) (.t 15), none⟩,
 ⟨none, .st 1 (.t 20) (.t 17), none⟩] [[], [], [], [], [], [], [], [3]])
 (.skip)⟩

def f12 : DFn := ⟨3, [],
 .seq (.reg [
 ⟨some 6, .mv (.t 1), none⟩,
 ⟨some 7, .bin .geq .sc (.t 6) (.k (.int .i64 0)), none⟩,
 ⟨some 8, .mv (.t 7), none⟩,
 ⟨some 9, .mv (.t 1), some (8, true)⟩,
 ⟨some 10, .bin .leq .sc (.t 9) (.k (.int .i64 1)), some (8, true)⟩,
 ⟨some 11, .pick (.t 8) (.t 10) (.k (.bool false)), none⟩,
 ⟨some 12, .mv (.t 11), none⟩,
 ⟨some 13, .mv (.t 2), some (12, true)⟩,
 ⟨some 14, .len (.t 13), some (12, true)⟩,
 ⟨some 15, .bin .gtr .sc (.t 14) (.k (.int .i64 0)), some (12, true)⟩,
 ⟨some 16, .pick (.t 12) (.t 15) (.k (.bool false)), none⟩]) <|
 .cond (.t 16)
 (.drw [
 ⟨some 17, .mv (.t 0), none⟩,
 ⟨some 18, .mv (.t 1), none⟩,
 ⟨some 19, .bsl false 1 [.int .u8 0] 0 [], none⟩,
 ⟨some 20, .mv (.t 2), none⟩,
 ⟨some 21, .app 1 1 (.t 19) (.t 20), none⟩,
 ⟨some 22, .nilck (.t 17), none⟩,
 ⟨some 23, .fld 0 (.t 22), none⟩,
 ⟨some 24, .idxA 1 2 (.t 23) (.t 18), none⟩,
 ⟨none, .st 1 (.t 24) (.t 21), none⟩] [[], [], [], [], [2], [], [], [], [2, 4]])
 (.skip)⟩

def l13_0b : DC :=
 .seq (.reg [
 ⟨some 15, .bin .lss .sc (.t 14) (.k (.int .i64 2)), none⟩]) <|
 .seq (.cond (.t 15)
 (.skip)
 (.exit 0)) <|
 .seq (.block 1 <|
 .seq (.reg [
 ⟨some 16, .mv (.t 14), none⟩,
 ⟨some 17, .idxV 1 2 false (.t 13) (.t 14), none⟩,
 ⟨some 6, .mv (.t 16), none⟩,
 ⟨some 7, .mv (.t 17), none⟩]) <|
 .seq (.seq (.reg [
 ⟨some 18, .mv (.t 1), none⟩]) <|
 .cond (.t 18)
 (.reg [
 ⟨some 7, .mv (.k (.nils)), none⟩])
 (.skip)) <|
 .seq (.seq (.reg [
 ⟨some 19, .mv (.t 7), none⟩,
 ⟨some 20, .len (.t 19), none⟩,
 ⟨some 21, .bin .gtr .sc (.t 20) (.k (.int .i64 0)), none⟩,
 ⟨some 22, .mv (.t 21), none⟩,
 ⟨some 23, .mv (.t 2), some (22, true)⟩,
 ⟨some 24, .bin .geq .sc (.t 23) (.k (.int .i64 0)), some (22, true)⟩,
 ⟨some 25, .pick (.t 22) (.t 24) (.k (.bool false)), none⟩]) <|
 .cond (.t 25)
 (.reg [
 ⟨some 26, .mv (.t 7), none⟩,
 ⟨some 27, .mv (.t 2), none⟩,
 ⟨some 28, .mv (.t 7), none⟩,
 ⟨some 29, .len (.t 28), none⟩,
 ⟨some 30, .bin .rem .sc (.t 27) (.t 29), none⟩,
 ⟨some 31, .idx 1 (.t 26) (.t 30), none⟩,
 ⟨some 32, .ld 1 false (.t 31), none⟩,
 ⟨some 33, .bin .xor .sc (.t 32) (.k (.int .u8 1)), none⟩,
 ⟨some 34, .idx 1 (.t 26) (.t 30), none⟩,
 ⟨none, .st 1 (.t 34) (.t 33), none⟩])
 (.skip)) <|
 .drw [
 ⟨some 35, .mv (.t 0), none⟩,
 ⟨some 36, .mv (.t 6), none⟩,
 ⟨some 37, .bin .sub .sc (.k (.int .i64 1)) (.t 36), none⟩,
 ⟨some 38, .mv (.t 0), none⟩,
 ⟨some 39, .mv (.t 6), none⟩,
 ⟨some 40, .mv (.t 7), none⟩,
 ⟨some 41, .nilck (.t 35), none⟩,
 ⟨some 42, .fld 2 (.t 41), none⟩,
 ⟨some 43, .idxA 1 2 (.t 42) (.t 37), none⟩,
 ⟨none, .st 1 (.t 43) (.t 40), none⟩,
 ⟨some 44, .nilck (.t 38), none⟩,
 ⟨some 45, .fld 0 (.t 44), none⟩,
 ⟨some 46, .idxA 1 2 (.t 45) (.t 39), none⟩,
 ⟨none, .st 1 (.t 46) (.k (.nils)), none⟩] [[], [], [], [], [], [], [], [], [], [], [], [], [], [9]]) <|
 .reg [
 ⟨some 47, .bin .add .sc (.t 14) (.k (.int .i64 1)), none⟩,
 ⟨some 14, .mv (.t 47), none⟩]
def l13_0 : DC := .loop [0, 1, 2, 13, 14] [] l13_0b
def f13 : DFn := ⟨3, [],
 .seq (.seq (.reg [
 ⟨some 8, .mv (.t 0), none⟩,
 ⟨some 9, .bin .eql .np (.t 8) (.k (.nilp)), none⟩]) <|
 .cond (.t 9)
 (.ret)
 (.skip)) <|
 .seq (.reg [
 ⟨some 10, .mv (.t 0), none⟩,
 ⟨some 11, .nilck (.t 10), none⟩,
 ⟨some 12, .fld 0 (.t 11), none⟩,
 ⟨some 13, .ld 2 true (.t 12), none⟩,
 ⟨some 14, .mv (.k (.int .i64 0)), none⟩]) <|
 .block 0 <|
 l13_0⟩

def l14_0b : DC :=
 .seq (.seq (.reg [
 ⟨some 8, .mv (.t 6), none⟩,
 ⟨some 9, .bin .lss .sc (.t 8) (.k (.int .i64 2)), none⟩]) <|
 .cond (.t 9)
 (.skip)
 (.exit 0)) <|
 .seq (.block 1 <|
 .seq (.reg [
 ⟨some 12, .mv (.t 0), none⟩,
 ⟨some 13, .mv (.t 6), none⟩,
 ⟨some 14, .nilck (.t 12), none⟩,
 ⟨some 15, .fld 0 (.t 14), none⟩,
 ⟨some 16, .idxA 1 2 (.t 15) (.t 13), none⟩,
 ⟨some 17, .ld 1 false (.t 16), none⟩,
 ⟨some 7, .mv (.t 17), none⟩]) <|
 .seq (.drw [
 ⟨some 18, .mv (.t 0), none⟩,
 ⟨some 19, .mv (.t 6), none⟩,
 ⟨some 20, .mv (.t 0), none⟩,
 ⟨some 21, .mv (.t 6), none⟩,
 ⟨some 22, .bin .sub .sc (.k (.int .i64 1)) (.t 21), none⟩,
 ⟨some 23, .nilck (.t 18), none⟩,
 ⟨some 24, .fld 0 (.t 23), none⟩,
 ⟨some 25, .idxA 1 2 (.t 24) (.t 19), none⟩,
 ⟨none, .st 1 (.t 25) (.k (.nils)), none⟩,
 ⟨some 26, .nilck (.t 20), none⟩,
 ⟨some 27, .fld 2 (.t 26), none⟩,
 ⟨some 28, .idxA 1 2 (.t 27) (.t 22), none⟩,
 ⟨none, .st 1 (.t 28) (.k (.nils)), none⟩] [[], [], [], [], [], [], [], [], [], [], [], [], [8]]) <|
 .seq (.seq (.reg [
 ⟨some 29, .mv (.t 1), none⟩,
 ⟨some 30, .mv (.t 29), none⟩,
 ⟨some 31, .mv (.t 7), some (30, false)⟩,
 ⟨some 32, .len (.t 31), some (30, false)⟩,
 ⟨some 33, .bin .eql .sc (.t 32) (.k (.int .i64 0)), some (30, false)⟩,
 ⟨some 34, .pick (.t 30) (.k (.bool true)) (.t 33), none⟩]) <|
 .cond (.t 34)
 (.exit 1)
 (.skip)) <|
 .seq (.seq (.reg [
 ⟨some 35, .mv (.t 2), none⟩,
 ⟨some 36, .bin .geq .sc (.t 35) (.k (.int .i64 0)), none⟩]) <|
 .cond (.t 36)
 (.reg [
 ⟨some 37, .mv (.t 7), none⟩,
 ⟨some 38, .mv (.t 2), none⟩,
 ⟨some 39, .mv (.t 7), none⟩,
 ⟨some 40, .len (.t 39), none⟩,
 ⟨some 41, .bin .rem .sc (.t 38) (.t 40), none⟩,
 ⟨some 42, .idx 1 (.t 37) (.t 41), none⟩,
 ⟨some 43, .ld 1 false (.t 42), none⟩,
 ⟨some 44, .bin .xor .sc (.t 43) (.k (.int .u8 1)), none⟩,
 ⟨some 45, .idx 1 (.t 37) (.t 41), none⟩,
 ⟨none, .st 1 (.t 45) (.t 44), none⟩])
 (.skip)) <|
 .reg [
 ⟨some 46, .mv (.t 0), none⟩,
 ⟨some 47, .mv (.t 6), none⟩,
 ⟨some 48, .bin .sub .sc (.k (.int .i64 1)) (.t 47), none⟩,
 ⟨some 49, .mv (.t 7), none⟩,
 ⟨some 50, .nilck (.t 46), none⟩,
 ⟨some 51, .fld 2 (.t 50), none⟩,
 ⟨some 52, .idxA 1 2 (.t 51) (.t 48), none⟩,
 ⟨none, .st 1 (.t 52) (.t 49), none⟩]) <|
 .reg [
 ⟨some 10, .mv (.t 6), none⟩,
 ⟨some 11, .bin .add .sc (.t 10) (.k (.int .i64 1)), none⟩,
 ⟨some 6, .mv (.t 11), none⟩]
def l14_0 : DC := .loop [0, 1, 2, 6] [] l14_0b
def f14 : DFn := ⟨3, [],
 .seq (.reg [
 ⟨some 6, .mv (.k (.int .i64 0)), none⟩]) <|
 .block 0 <|
 l14_0⟩

def f15 : DFn := ⟨2, [.t 4],
 .seq (.reg [
 ⟨some 4, .mv (.k (.nils)), none⟩]) <|
 .seq (.seq (.reg [
 ⟨some 6, .mv (.t 0), none⟩,
 ⟨some 7, .mv (.t 1), none⟩,
 ⟨some 8, .call .ro 18 [(.t 6), (.t 7)], none⟩,
 ⟨some 9, .un .not (.t 8), none⟩]) <|
 .cond (.t 9)
 (.seq (.reg [
 ⟨some 4, .mv (.k (.nils)), none⟩]) <|
 .ret)
 (.skip)) <|
 .seq (.reg [
 ⟨some 10, .mv (.t 0), none⟩,
 ⟨some 11, .mv (.t 1), none⟩,
 ⟨some 12, .nilck (.t 10), none⟩,
 ⟨some 13, .fld 2 (.t 12), none⟩,
 ⟨some 14, .idxA 1 2 (.t 13) (.t 11), none⟩,
 ⟨some 15, .ld 1 false (.t 14), none⟩,
 ⟨some 5, .mv (.t 15), none⟩]) <|
 .seq (.reg [
 ⟨some 16, .mv (.t 0), none⟩,
 ⟨some 17, .mv (.t 1), none⟩,
 ⟨some 18, .nilck (.t 16), none⟩,
 ⟨some 19, .fld 2 (.t 18), none⟩,
 ⟨some 20, .idxA 1 2 (.t 19) (.t 17), none⟩,
 ⟨none, .st 1 (.t 20) (.k (.nils)), none⟩]) <|
 .seq (.reg [
 ⟨some 21, .mv (.t 5), none⟩,
 ⟨some 4, .mv (.t 21), none⟩]) <|
 .ret⟩

def f16 : DFn := ⟨2, [.t 4],
 .seq (.reg [
 ⟨some 4, .mv (.k (.nils)), none⟩]) <|
 .seq (.seq (.reg [
 ⟨some 6, .mv (.t 1), none⟩,
 ⟨some 7, .bin .lss .sc (.t 6) (.k (.int .i64 0)), none⟩,
 ⟨some 8, .mv (.t 7), none⟩,
 ⟨some 9, .mv (.t 1), some (8, false)⟩,
 ⟨some 10, .bin .gtr .sc (.t 9) (.k (.int .i64 1)), some (8, false)⟩,
 ⟨some 11, .pick (.t 8) (.k (.bool true)) (.t 10), none⟩]) <|
 .cond (.t 11)
 (.seq (.reg [
 ⟨some 4, .mv (.k (.nils)), none⟩]) <|
 .ret)
 (.skip)) <|
 .seq (.reg [
 ⟨some 12, .mv (.t 0), none⟩,
 ⟨some 13, .mv (.t 1), none⟩,
 ⟨some 14, .nilck (.t 12), none⟩,
 ⟨some 15, .fld 2 (.t 14), none⟩,
 ⟨some 16, .idxA 1 2 (.t 15) (.t 13), none⟩,
 ⟨some 17, .ld 1 false (.t 16), none⟩,
 ⟨some 5, .mv (.t 17), none⟩]) <|
 .seq (.reg [
 ⟨some 18, .mv (.t 0), none⟩,
 ⟨some 19, .mv (.t 1), none⟩,
 ⟨some 20, .nilck (.t 18), none⟩,
 ⟨some 21, .fld 2 (.t 20), none⟩,
 ⟨some 22, .idxA 1 2 (.t 21) (.t 19), none⟩,
 ⟨none, .st 1 (.t 22) (.k (.nils)), none⟩]) <|
 .seq (.reg [
 ⟨some 23, .mv (.t 5), none⟩,
 ⟨some 4, .mv (.t 23), none⟩]) <|
 .ret⟩

def f17 : DFn := ⟨0, [.t 0],
 .seq (.reg [
 ⟨some 0, .mv (.k (.bool false)), none⟩]) <|
 .seq (.reg [
 ⟨some 2, .call .eff 10 [], none⟩,
 ⟨some 1, .mv (.t 2), none⟩]) <|
 .seq (.seq (.reg [
 ⟨some 3, .mv (.t 1), none⟩,
 ⟨some 4, .bin .eql .np (.t 3) (.k (.nilp)), none⟩]) <|
 .cond (.t 4)
 (.seq (.reg [
 ⟨some 0, .mv (.k (.bool false)), none⟩]) <|
 .ret)
 (.skip)) <|
 .seq (.reg [
 ⟨some 5, .mv (.t 1), none⟩,
 ⟨some 6, .bsl true 1 [.int .u8 0] 2 [(0, (.k (.int .u8 97))), (1, (.k (.int .u8 98)))], none⟩,
 ⟨some 7, .cvBB (.t 6), none⟩,
 ⟨some 8, .call .eff 11 [(.t 5), (.k (.int .i64 0)), (.t 7)], none⟩]) <|
 .seq (.reg [
 ⟨some 9, .mv (.t 1), none⟩,
 ⟨some 10, .call .eff 13 [(.t 9), (.k (.bool false)), (.k (.int .i64 (-1)))], none⟩]) <|
 .seq (.reg [
 ⟨some 11, .mv (.t 1), none⟩,
 ⟨some 12, .call .eff 15 [(.t 11), (.k (.int .i64 1))], none⟩,
 ⟨some 13, .cvBS (.t 12), none⟩,
 ⟨some 14, .bin .eql .sc (.t 13) (.k (.str [97, 98])), none⟩,
 ⟨some 15, .mv (.t 14), none⟩,
 ⟨some 16, .mv (.t 1), some (15, true)⟩,
 ⟨some 17, .call .eff 15 [(.t 16), (.k (.int .i64 1))], some (15, true)⟩,
 ⟨some 18, .len (.t 17), some (15, true)⟩,
 ⟨some 19, .mv (.t 1), some (15, true)⟩,
 ⟨some 20, .call .eff 15 [(.t 19), (.k (.int .i64 0))], some (15, true)⟩,
 ⟨some 21, .len (.t 20), some (15, true)⟩,
 ⟨some 22, .bin .add .sc (.t 18) (.t 21), some (15, true)⟩,
 ⟨some 23, .bin .eql .sc (.t 22) (.k (.int .i64 0)), some (15, true)⟩,
 ⟨some 24, .pick (.t 15) (.t 23) (.k (.bool false)), none⟩,
 ⟨some 0, .mv (.t 24), none⟩]) <|
 .ret⟩

def f18 : DFn := ⟨2, [.t 4],
 .seq (.reg [
 ⟨some 4, .mv (.k (.bool false)), none⟩]) <|
 .seq (.reg [
 ⟨some 5, .mv (.t 0), none⟩,
 ⟨some 6, .bin .neq .np (.t 5) (.k (.nilp)), none⟩,
 ⟨some 7, .mv (.t 6), none⟩,
 ⟨some 8, .mv (.t 1), some (7, true)⟩,
 ⟨some 9, .bin .geq .sc (.t 8) (.k (.int .i64 0)), some (7, true)⟩,
 ⟨some 10, .pick (.t 7) (.t 9) (.k (.bool false)), none⟩,
 ⟨some 11, .mv (.t 10), none⟩,
 ⟨some 12, .mv (.t 1), some (11, true)⟩,
 ⟨some 13, .bin .lss .sc (.t 12) (.k (.int .i64 2)), some (11, true)⟩,
 ⟨some 14, .pick (.t 11) (.t 13) (.k (.bool false)), none⟩,
 ⟨some 4, .mv (.t 14), none⟩]) <|
 .ret⟩

def f19 : DFn := ⟨1, [.t 2],
 .seq (.reg [
 ⟨some 2, .mv (.k (.nils)), none⟩]) <|
 .seq (.seq (.reg [
 ⟨some 3, .mv (.t 0), none⟩,
 ⟨some 4, .bin .eql .ns (.t 3) (.k (.nils)), none⟩]) <|
 .cond (.t 4)
 (.seq (.reg [
 ⟨some 2, .mv (.k (.nils)), none⟩]) <|
 .ret)
 (.skip)) <|
 .seq (.reg [
 ⟨some 5, .bsl false 1 [.int .u8 0] 0 [], none⟩,
 ⟨some 6, .mv (.t 0), none⟩,
 ⟨some 7, .app 1 1 (.t 5) (.t 6), none⟩,
 ⟨some 2, .mv (.t 7), none⟩]) <|
 .ret⟩


def tab : PT Entry := (.nd (.nd (.nd (.nd (.nd .lf (some (.fn f15)) .lf) (some (.fn f7)) .lf) (some (.fn f3)) (.nd (.nd .lf (some (.fn f19)) .lf) (some (.fn f11)) .lf)) none (.nd (.nd (.nd .lf (some (.fn f17)) .lf) (some (.fn f9)) .lf) (some (.fn f5)) (.nd .lf (some (.fn f13)) .lf))) none (.nd (.nd (.nd (.nd .lf (some (.fn f16)) .lf) (some (.fn f8)) .lf) (some (.fn f4)) (.nd .lf (some (.fn f12)) .lf)) none (.nd (.nd (.nd .lf (some (.fn f18)) .lf) (some (.fn f10)) .lf) (some (.fn f6)) (.nd .lf (some (.fn f14)) .lf))))
noncomputable abbrev K (G : Nat → Option (List IV)) (d : Nat) : Go.PM.Callee := dcall G (fun f => tab.get f) d
theorem k3 {G : Nat → Option (List IV)} {d : Nat} {args : List DV} {H : PT HB} {n lo : Nat} : K G (d + 1) 3 args H n lo = f3.run G (K G d) args H n lo := dcall_fn rfl
theorem k4 {G : Nat → Option (List IV)} {d : Nat} {args : List DV} {H : PT HB} {n lo : Nat} : K G (d + 1) 4 args H n lo = f4.run G (K G d) args H n lo := dcall_fn rfl
theorem k5 {G : Nat → Option (List IV)} {d : Nat} {args : List DV} {H : PT HB} {n lo : Nat} : K G (d + 1) 5 args H n lo = f5.run G (K G d) args H n lo := dcall_fn rfl
theorem k6 {G : Nat → Option (List IV)} {d : Nat} {args : List DV} {H : PT HB} {n lo : Nat} : K G (d + 1) 6 args H n lo = f6.run G (K G d) args H n lo := dcall_fn rfl
theorem k7 {G : Nat → Option (List IV)} {d : Nat} {args : List DV} {H : PT HB} {n lo : Nat} : K G (d + 1) 7 args H n lo = f7.run G (K G d) args H n lo := dcall_fn rfl
theorem k8 {G : Nat → Option (List IV)} {d : Nat} {args : List DV} {H : PT HB} {n lo : Nat} : K G (d + 1) 8 args H n lo = f8.run G (K G d) args H n lo := dcall_fn rfl
theorem k9 {G : Nat → Option (List IV)} {d : Nat} {args : List DV} {H : PT HB} {n lo : Nat} : K G (d + 1) 9 args H n lo = f9.run G (K G d) args H n lo := dcall_fn rfl
theorem k10 {G : Nat → Option (List IV)} {d : Nat} {args : List DV} {H : PT HB} {n lo : Nat} : K G (d + 1) 10 args H n lo = f10.run G (K G d) args H n lo := dcall_fn rfl
theorem k11 {G : Nat → Option (List IV)} {d : Nat} {args : List DV} {H : PT HB} {n lo : Nat} : K G (d + 1) 11 args H n lo = f11.run G (K G d) args H n lo := dcall_fn rfl
theorem k12 {G : Nat → Option (List IV)} {d : Nat} {args : List DV} {H : PT HB} {n lo : Nat} : K G (d + 1) 12 args H n lo = f12.run G (K G d) args H n lo := dcall_fn rfl
theorem k13 {G : Nat → Option (List IV)} {d : Nat} {args : List DV} {H : PT HB} {n lo : Nat} : K G (d + 1) 13 args H n lo = f13.run G (K G d) args H n lo := dcall_fn rfl
theorem k14 {G : Nat → Option (List IV)} {d : Nat} {args : List DV} {H : PT HB} {n lo : Nat} : K G (d + 1) 14 args H n lo = f14.run G (K G d) args H n lo := dcall_fn rfl
theorem k15 {G : Nat → Option (List IV)} {d : Nat} {args : List DV} {H : PT HB} {n lo : Nat} : K G (d + 1) 15 args H n lo = f15.run G (K G d) args H n lo := dcall_fn rfl
theorem k16 {G : Nat → Option (List IV)} {d : Nat} {args : List DV} {H : PT HB} {n lo : Nat} : K G (d + 1) 16 args H n lo = f16.run G (K G d) args H n lo := dcall_fn rfl
theorem k17 {G : Nat → Option (List IV)} {d : Nat} {args : List DV} {H : PT HB} {n lo : Nat} : K G (d + 1) 17 args H n lo = f17.run G (K G d) args H n lo := dcall_fn rfl
theorem k18 {G : Nat → Option (List IV)} {d : Nat} {args : List DV} {H : PT HB} {n lo : Nat} : K G (d + 1) 18 args H n lo = f18.run G (K G d) args H n lo := dcall_fn rfl
theorem k19 {G : Nat → Option (List IV)} {d : Nat} {args : List DV} {H : PT HB} {n lo : Nat} : K G (d + 1) 19 args H n lo = f19.run G (K G d) args H n lo := dcall_fn rfl
end Go.Proofs.Ytldinlipajjmoaa.D
