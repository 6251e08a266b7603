/-
  D's functions of this seat, printed by program out of the translation.
-/
import Derived.Test.YtldinlipajjmoaaRun
set_option maxRecDepth 100000
namespace Go.Proofs.Ytldinlipajjmoaa.D
open Go Go.PM

def l3_0b : DC :=
  .seq (.seq (.reg [
    { dst := some 14, op := .mv (.t 5) },
    { dst := some 15, op := .mv (.t 0) },
    { dst := some 16, op := .len (.t 15) },
    { dst := some 17, op := .bin .lss .sc (.t 14) (.t 16) },
    { dst := some 18, op := .mv (.t 17) },
    { dst := some 19, op := .mv (.t 5), guard := some (18, true) },
    { dst := some 20, op := .bin .lss .sc (.t 19) (.k (.int .i64 60)), guard := some (18, true) },
    { dst := some 21, op := .pick (.t 18) (.t 20) (.k (.bool false)) }]) <|
  .cond (.t 21)
    (.skip)
    (.exit 0)) <|
  .seq (.block 1 <|
  .seq (.reg [
    { dst := some 24, op := .mv (.t 0) },
    { dst := some 25, op := .mv (.t 5) },
    { dst := some 26, op := .idx 5 (.t 24) (.t 25) },
    { dst := some 27, op := .ld 5 true (.t 26) },
    { dst := some 6, op := .alL [.int .i64 0, .int .i64 0, .nils, .bool false, .int .i64 0] },
    { dst := none, op := .st 5 (.t 6) (.t 27) }]) <|
  .seq (.reg [
    { dst := some 28, op := .fld 0 (.t 6) },
    { dst := some 29, op := .ld 1 false (.t 28) }]) <|
  .block 2 <|
  .seq (.reg [
    { dst := some 42, op := .bin .eql .sc (.t 29) (.k (.int .i64 1)) },
    { dst := some 41, op := .mv (.t 42) }]) <|
  .cond (.t 41)
    (.seq (.reg [
      { dst := some 43, op := .mv (.t 3) },
      { dst := some 44, op := .fld 1 (.t 6) },
      { dst := some 45, op := .ld 1 false (.t 44) },
      { dst := some 46, op := .fld 2 (.t 6) },
      { dst := some 47, op := .ld 1 false (.t 46) },
      { dst := some 48, op := .call .eff 11 [(.t 43), (.t 45), (.t 47)] }]) <|
    .reg [
      { dst := some 49, op := .mv (.t 4) },
      { dst := some 50, op := .fld 1 (.t 6) },
      { dst := some 51, op := .ld 1 false (.t 50) },
      { dst := some 52, op := .fld 2 (.t 6) },
      { dst := some 53, op := .ld 1 false (.t 52) },
      { dst := some 54, op := .call .eff 12 [(.t 49), (.t 51), (.t 53)] }])
    (.seq (.reg [
      { dst := some 56, op := .bin .eql .sc (.t 29) (.k (.int .i64 2)) },
      { dst := some 55, op := .mv (.t 56) }]) <|
    .cond (.t 55)
      (.seq (.reg [
        { dst := some 57, op := .mv (.t 3) },
        { dst := some 58, op := .fld 3 (.t 6) },
        { dst := some 59, op := .ld 1 false (.t 58) },
        { dst := some 60, op := .fld 4 (.t 6) },
        { dst := some 61, op := .ld 1 false (.t 60) },
        { dst := some 62, op := .call .eff 13 [(.t 57), (.t 59), (.t 61)] }]) <|
      .reg [
        { dst := some 63, op := .mv (.t 4) },
        { dst := some 64, op := .fld 3 (.t 6) },
        { dst := some 65, op := .ld 1 false (.t 64) },
        { dst := some 66, op := .fld 4 (.t 6) },
        { dst := some 67, op := .ld 1 false (.t 66) },
        { dst := some 68, op := .call .eff 14 [(.t 63), (.t 65), (.t 67)] }])
      (.seq (.drw [
        { dst := some 30, op := .mv (.t 3) },
        { dst := some 31, op := .fld 1 (.t 6) },
        { dst := some 32, op := .ld 1 false (.t 31) },
        { dst := some 33, op := .call .eff 15 [(.t 30), (.t 32)] },
        { dst := some 34, op := .cvBS (.t 33) },
        { dst := some 35, op := .mv (.t 4) },
        { dst := some 36, op := .fld 1 (.t 6) },
        { dst := some 37, op := .ld 1 false (.t 36) },
        { dst := some 38, op := .call .eff 16 [(.t 35), (.t 37)] },
        { dst := some 39, op := .cvBS (.t 38) },
        { dst := some 40, op := .bin .neq .sc (.t 34) (.t 39) }] [[], [], [], [2], [2, 3], [], [], [], [2, 3, 7], [2, 3, 7, 8], []]) <|
      .cond (.t 40)
        (.seq (.reg [
          { dst := some 2, op := .mv (.k (.bool false)) }]) <|
        .ret)
        (.skip)))) <|
  .reg [
    { dst := some 22, op := .mv (.t 5) },
    { dst := some 23, op := .bin .add .sc (.t 22) (.k (.int .i64 1)) },
    { dst := some 5, op := .mv (.t 23) }]
def l3_0 : DC := .loop [0, 3, 4, 5] [] l3_0b
def f3 : DFn := ⟨1, [.t 2],
  .seq (.reg [
    { dst := some 2, op := .mv (.k (.bool false)) }]) <|
  .seq (.seq (.reg [
    { dst := some 7, op := .mv (.t 0) },
    { dst := some 8, op := .call .blind 9 [(.t 7)] }]) <|
  .cond (.t 8)
    (.seq (.reg [
      { dst := some 2, op := .mv (.k (.bool true)) }]) <|
    .ret)
    (.skip)) <|
  .seq (.reg [
    { dst := some 9, op := .call .eff 10 [] },
    { dst := some 10, op := .build [.nils, .nils, .nils, .nils] [] },
    { dst := some 11, op := .boxH (.t 10) },
    { dst := some 3, op := .mv (.t 9) },
    { dst := some 4, op := .mv (.t 11) }]) <|
  .seq (.seq (.reg [
    { dst := some 12, op := .mv (.t 3) },
    { dst := some 13, op := .bin .eql .np (.t 12) (.k (.nilp)) }]) <|
  .cond (.t 13)
    (.seq (.reg [
      { dst := some 2, op := .mv (.k (.bool false)) }]) <|
    .ret)
    (.skip)) <|
  .seq (.seq (.reg [
    { dst := some 5, op := .mv (.k (.int .i64 0)) }]) <|
  .block 0 <|
  l3_0) <|
  .seq (.drw [
    { dst := some 69, op := .mv (.t 3) },
    { dst := some 70, op := .call .eff 15 [(.t 69), (.k (.int .i64 0))] },
    { dst := some 71, op := .cvBS (.t 70) },
    { dst := some 72, op := .mv (.t 4) },
    { dst := some 73, op := .call .eff 16 [(.t 72), (.k (.int .i64 0))] },
    { dst := some 74, op := .cvBS (.t 73) },
    { dst := some 75, op := .bin .eql .sc (.t 71) (.t 74) },
    { dst := some 76, op := .mv (.t 75) },
    { dst := some 77, op := .mv (.t 3), guard := some (76, true) },
    { dst := some 78, op := .call .eff 15 [(.t 77), (.k (.int .i64 1))], guard := some (76, true) },
    { dst := some 79, op := .cvBS (.t 78), guard := some (76, true) },
    { dst := some 80, op := .mv (.t 4), guard := some (76, true) },
    { dst := some 81, op := .call .eff 16 [(.t 80), (.k (.int .i64 1))], guard := some (76, true) },
    { dst := some 82, op := .cvBS (.t 81), guard := some (76, true) },
    { dst := some 83, op := .bin .eql .sc (.t 79) (.t 82), guard := some (76, true) },
    { dst := some 84, op := .pick (.t 76) (.t 83) (.k (.bool false)) },
    { dst := some 85, op := .mv (.t 84) },
    { dst := some 86, op := .call .blind 17 [], guard := some (85, true) },
    { dst := some 87, op := .pick (.t 85) (.t 86) (.k (.bool false)) },
    { dst := some 2, op := .mv (.t 87) }] [[], [], [1], [], [1], [1, 4], [], [], [], [1, 2, 4, 5], [1, 2, 4, 5, 9], [], [1, 2, 4, 5, 9], [1, 2, 4, 5, 9, 12], [], [], [], [1, 2, 4, 5, 9, 10, 12, 13], [], []]) <|
  .ret⟩

def f4 : DFn := ⟨3, [.t 6],
  .seq (.reg [
    { dst := some 6, op := .mv (.k (.bool false)) }]) <|
  .seq (.seq (.reg [
    { dst := some 8, op := .mv (.t 0) },
    { dst := some 9, op := .len (.t 8) },
    { dst := some 10, op := .bin .gtr .sc (.t 9) (.k (.int .i64 500)) },
    { dst := some 11, op := .mv (.t 10) },
    { dst := some 12, op := .mv (.t 1), guard := some (11, false) },
    { dst := some 13, op := .len (.t 12), guard := some (11, false) },
    { dst := some 14, op := .bin .gtr .sc (.t 13) (.k (.int .i64 500)), guard := some (11, false) },
    { dst := some 15, op := .pick (.t 11) (.k (.bool true)) (.t 14) }]) <|
  .cond (.t 15)
    (.seq (.reg [
      { dst := some 6, op := .mv (.k (.bool true)) }]) <|
    .ret)
    (.skip)) <|
  .seq (.reg [
    { dst := some 16, op := .call .eff 10 [] },
    { dst := some 7, op := .mv (.t 16) }]) <|
  .seq (.seq (.reg [
    { dst := some 17, op := .mv (.t 7) },
    { dst := some 18, op := .bin .eql .np (.t 17) (.k (.nilp)) }]) <|
  .cond (.t 18)
    (.seq (.reg [
      { dst := some 6, op := .mv (.k (.bool false)) }]) <|
    .ret)
    (.skip)) <|
  .seq (.reg [
    { dst := some 19, op := .mv (.t 7) },
    { dst := some 20, op := .mv (.t 0) },
    { dst := some 21, op := .call .eff 11 [(.t 19), (.k (.int .i64 0)), (.t 20)] }]) <|
  .seq (.reg [
    { dst := some 22, op := .mv (.t 7) },
    { dst := some 23, op := .mv (.t 1) },
    { dst := some 24, op := .call .eff 11 [(.t 22), (.k (.int .i64 1)), (.t 23)] }]) <|
  .seq (.reg [
    { dst := some 25, op := .mv (.t 7) },
    { dst := some 26, op := .call .eff 13 [(.t 25), (.k (.bool false)), (.k (.int .i64 (-1)))] }]) <|
  .seq (.seq (.reg [
    { dst := some 27, op := .mv (.t 2) }]) <|
  .cond (.t 27)
    (.seq (.reg [
      { dst := some 28, op := .mv (.t 7) },
      { dst := some 29, op := .call .eff 13 [(.t 28), (.k (.bool false)), (.k (.int .i64 (-1)))] }]) <|
    .seq (.reg [
      { dst := some 30, op := .mv (.t 7) },
      { dst := some 31, op := .call .eff 15 [(.t 30), (.k (.int .i64 0))] },
      { dst := some 32, op := .len (.t 31) },
      { dst := some 33, op := .mv (.t 7) },
      { dst := some 34, op := .call .eff 15 [(.t 33), (.k (.int .i64 1))] },
      { dst := some 35, op := .len (.t 34) },
      { dst := some 36, op := .bin .add .sc (.t 32) (.t 35) },
      { dst := some 37, op := .bin .eql .sc (.t 36) (.k (.int .i64 0)) },
      { dst := some 38, op := .mv (.t 37) },
      { dst := some 39, op := .call .blind 17 [], guard := some (38, true) },
      { dst := some 40, op := .pick (.t 38) (.t 39) (.k (.bool false)) },
      { dst := some 6, op := .mv (.t 40) }]) <|
    .ret)
    (.skip)) <|
  .seq (.drw [
    { dst := some 41, op := .mv (.t 7) },
    { dst := some 42, op := .call .eff 15 [(.t 41), (.k (.int .i64 1))] },
    { dst := some 43, op := .cvBS (.t 42) },
    { dst := some 44, op := .mv (.t 0) },
    { dst := some 45, op := .cvBS (.t 44) },
    { dst := some 46, op := .bin .eql .sc (.t 43) (.t 45) },
    { dst := some 47, op := .mv (.t 46) },
    { dst := some 48, op := .mv (.t 7), guard := some (47, true) },
    { dst := some 49, op := .call .eff 15 [(.t 48), (.k (.int .i64 0))], guard := some (47, true) },
    { dst := some 50, op := .cvBS (.t 49), guard := some (47, true) },
    { dst := some 51, op := .mv (.t 1), guard := some (47, true) },
    { dst := some 52, op := .cvBS (.t 51), guard := some (47, true) },
    { dst := some 53, op := .bin .eql .sc (.t 50) (.t 52), guard := some (47, true) },
    { dst := some 54, op := .pick (.t 47) (.t 53) (.k (.bool false)) },
    { dst := some 55, op := .mv (.t 54) },
    { dst := some 56, op := .call .blind 17 [], guard := some (55, true) },
    { dst := some 57, op := .pick (.t 55) (.t 56) (.k (.bool false)) },
    { dst := some 6, op := .mv (.t 57) }] [[], [], [1], [], [], [], [], [], [1, 2, 4], [1, 2, 4, 8], [], [1, 2, 4], [], [], [], [1, 2, 4, 8, 9, 11], [], []]) <|
  .ret⟩

def l5_0b : DC :=
  .seq (.seq (.reg [
    { dst := some 43, op := .mv (.t 10) },
    { dst := some 44, op := .mv (.t 0) },
    { dst := some 45, op := .len (.t 44) },
    { dst := some 46, op := .bin .lss .sc (.t 43) (.t 45) }]) <|
  .cond (.t 46)
    (.skip)
    (.exit 0)) <|
  .seq (.block 1 <|
  .seq (.drw [
    { dst := some 49, op := .mv (.t 0) },
    { dst := some 50, op := .mv (.t 10) },
    { dst := some 51, op := .idx 1 (.t 49) (.t 50) },
    { dst := some 52, op := .ld 1 false (.t 51) },
    { dst := some 53, op := .mv (.t 8) },
    { dst := some 54, op := .mv (.t 10) },
    { dst := some 55, op := .idx 1 (.t 53) (.t 54) },
    { dst := some 56, op := .ld 1 false (.t 55) },
    { dst := some 57, op := .bin .neq .sc (.t 52) (.t 56) }] [[], [], [], [2], [], [], [], [6], []]) <|
  .cond (.t 57)
    (.seq (.reg [
      { dst := some 58, op := .mv (.t 9) },
      { dst := some 59, op := .bin .add .sc (.t 58) (.k (.int .i64 1)) },
      { dst := some 9, op := .mv (.t 59) }]) <|
    .seq (.drw [
      { dst := some 60, op := .mv (.t 0) },
      { dst := some 61, op := .mv (.t 10) },
      { dst := some 62, op := .idx 1 (.t 60) (.t 61) },
      { dst := some 63, op := .ld 1 false (.t 62) },
      { dst := some 64, op := .mv (.t 8) },
      { dst := some 65, op := .mv (.t 10) },
      { dst := some 66, op := .idx 1 (.t 64) (.t 65) },
      { dst := some 67, op := .ld 1 false (.t 66) },
      { dst := some 68, op := .bin .xor .sc (.t 63) (.t 67) },
      { dst := some 69, op := .bin .neq .sc (.t 68) (.k (.int .u8 1)) },
      { dst := some 70, op := .mv (.t 69) },
      { dst := some 71, op := .mv (.t 10), guard := some (70, false) },
      { dst := some 72, op := .mv (.t 2), guard := some (70, false) },
      { dst := some 73, op := .mv (.t 0), guard := some (70, false) },
      { dst := some 74, op := .len (.t 73), guard := some (70, false) },
      { dst := some 75, op := .bin .rem .sc (.t 72) (.t 74), guard := some (70, false) },
      { dst := some 76, op := .bin .neq .sc (.t 71) (.t 75), guard := some (70, false) },
      { dst := some 77, op := .pick (.t 70) (.k (.bool true)) (.t 76) }] [[], [], [], [2], [], [], [], [6], [], [], [], [], [], [], [], [], [], []]) <|
    .cond (.t 77)
      (.seq (.reg [
        { dst := some 6, op := .mv (.k (.bool false)) }]) <|
      .ret)
      (.skip))
    (.skip)) <|
  .reg [
    { dst := some 47, op := .mv (.t 10) },
    { dst := some 48, op := .bin .add .sc (.t 47) (.k (.int .i64 1)) },
    { dst := some 10, op := .mv (.t 48) }]
def l5_0 : DC := .loop [0, 2, 8, 9, 10] [] l5_0b
def f5 : DFn := ⟨3, [.t 6],
  .seq (.reg [
    { dst := some 6, op := .mv (.k (.bool false)) }]) <|
  .seq (.seq (.reg [
    { dst := some 11, op := .mv (.t 0) },
    { dst := some 12, op := .len (.t 11) },
    { dst := some 13, op := .bin .lss .sc (.t 12) (.k (.int .i64 1)) },
    { dst := some 14, op := .mv (.t 13) },
    { dst := some 15, op := .mv (.t 0), guard := some (14, false) },
    { dst := some 16, op := .len (.t 15), guard := some (14, false) },
    { dst := some 17, op := .bin .gtr .sc (.t 16) (.k (.int .i64 500)), guard := some (14, false) },
    { dst := some 18, op := .pick (.t 14) (.k (.bool true)) (.t 17) }]) <|
  .cond (.t 18)
    (.seq (.reg [
      { dst := some 6, op := .mv (.k (.bool true)) }]) <|
    .ret)
    (.skip)) <|
  .seq (.reg [
    { dst := some 19, op := .call .eff 10 [] },
    { dst := some 7, op := .mv (.t 19) }]) <|
  .seq (.seq (.reg [
    { dst := some 20, op := .mv (.t 7) },
    { dst := some 21, op := .bin .eql .np (.t 20) (.k (.nilp)) }]) <|
  .cond (.t 21)
    (.seq (.reg [
      { dst := some 6, op := .mv (.k (.bool false)) }]) <|
    .ret)
    (.skip)) <|
  .seq (.reg [
    { dst := some 22, op := .mv (.t 7) },
    { dst := some 23, op := .mv (.t 0) },
    { dst := some 24, op := .call .eff 11 [(.t 22), (.k (.int .i64 1)), (.t 23)] }]) <|
  .seq (.reg [
    { dst := some 25, op := .mv (.t 7) },
    { dst := some 26, op := .mv (.t 1) },
    { dst := some 27, op := .mv (.t 2) },
    { dst := some 28, op := .call .eff 13 [(.t 25), (.t 26), (.t 27)] }]) <|
  .seq (.reg [
    { dst := some 29, op := .mv (.t 7) },
    { dst := some 30, op := .call .eff 15 [(.t 29), (.k (.int .i64 0))] },
    { dst := some 8, op := .mv (.t 30) }]) <|
  .seq (.seq (.reg [
    { dst := some 31, op := .mv (.t 1) }]) <|
  .cond (.t 31)
    (.seq (.reg [
      { dst := some 32, op := .mv (.t 8) },
      { dst := some 33, op := .len (.t 32) },
      { dst := some 34, op := .bin .eql .sc (.t 33) (.k (.int .i64 0)) },
      { dst := some 35, op := .mv (.t 34) },
      { dst := some 36, op := .call .blind 17 [], guard := some (35, true) },
      { dst := some 37, op := .pick (.t 35) (.t 36) (.k (.bool false)) },
      { dst := some 6, op := .mv (.t 37) }]) <|
    .ret)
    (.skip)) <|
  .seq (.seq (.reg [
    { dst := some 38, op := .mv (.t 8) },
    { dst := some 39, op := .len (.t 38) },
    { dst := some 40, op := .mv (.t 0) },
    { dst := some 41, op := .len (.t 40) },
    { dst := some 42, op := .bin .neq .sc (.t 39) (.t 41) }]) <|
  .cond (.t 42)
    (.seq (.reg [
      { dst := some 6, op := .mv (.k (.bool false)) }]) <|
    .ret)
    (.skip)) <|
  .seq (.reg [
    { dst := some 9, op := .mv (.k (.int .i64 0)) }]) <|
  .seq (.seq (.reg [
    { dst := some 10, op := .mv (.k (.int .i64 0)) }]) <|
  .block 0 <|
  l5_0) <|
  .seq (.reg [
    { dst := some 78, op := .mv (.t 9) },
    { dst := some 79, op := .bin .eql .sc (.t 78) (.k (.int .i64 1)) },
    { dst := some 80, op := .mv (.t 2) },
    { dst := some 81, op := .bin .geq .sc (.t 80) (.k (.int .i64 0)) },
    { dst := some 82, op := .bin .eql .bl (.t 79) (.t 81) },
    { dst := some 83, op := .mv (.t 82) },
    { dst := some 84, op := .call .blind 17 [], guard := some (83, true) },
    { dst := some 85, op := .pick (.t 83) (.t 84) (.k (.bool false)) },
    { dst := some 6, op := .mv (.t 85) }]) <|
  .ret⟩

def f6 : DFn := ⟨2, [.t 4],
  .seq (.reg [
    { dst := some 4, op := .mv (.k (.bool false)) }]) <|
  .seq (.seq (.reg [
    { dst := some 8, op := .mv (.t 0) },
    { dst := some 9, op := .len (.t 8) },
    { dst := some 10, op := .bin .lss .sc (.t 9) (.k (.int .i64 1)) },
    { dst := some 11, op := .mv (.t 10) },
    { dst := some 12, op := .mv (.t 0), guard := some (11, false) },
    { dst := some 13, op := .len (.t 12), guard := some (11, false) },
    { dst := some 14, op := .bin .gtr .sc (.t 13) (.k (.int .i64 300)), guard := some (11, false) },
    { dst := some 15, op := .pick (.t 11) (.k (.bool true)) (.t 14) }]) <|
  .cond (.t 15)
    (.seq (.reg [
      { dst := some 4, op := .mv (.k (.bool true)) }]) <|
    .ret)
    (.skip)) <|
  .seq (.reg [
    { dst := some 16, op := .call .eff 10 [] },
    { dst := some 5, op := .mv (.t 16) }]) <|
  .seq (.seq (.reg [
    { dst := some 17, op := .mv (.t 5) },
    { dst := some 18, op := .bin .eql .np (.t 17) (.k (.nilp)) }]) <|
  .cond (.t 18)
    (.seq (.reg [
      { dst := some 4, op := .mv (.k (.bool false)) }]) <|
    .ret)
    (.skip)) <|
  .seq (.reg [
    { dst := some 19, op := .bsl false 1 [.int .u8 0] 0 [] },
    { dst := some 20, op := .mv (.t 0) },
    { dst := some 21, op := .app 1 1 (.t 19) (.t 20) },
    { dst := some 6, op := .mv (.t 21) }]) <|
  .seq (.reg [
    { dst := some 22, op := .mv (.t 5) },
    { dst := some 23, op := .mv (.t 6) },
    { dst := some 24, op := .call .eff 11 [(.t 22), (.k (.int .i64 0)), (.t 23)] }]) <|
  .seq (.reg [
    { dst := some 25, op := .mv (.t 6) },
    { dst := some 26, op := .idx 1 (.t 25) (.k (.int .i64 0)) },
    { dst := some 27, op := .ld 1 false (.t 26) },
    { dst := some 28, op := .bin .xor .sc (.t 27) (.k (.int .u8 1)) },
    { dst := some 29, op := .idx 1 (.t 25) (.k (.int .i64 0)) },
    { dst := none, op := .st 1 (.t 29) (.t 28) }]) <|
  .seq (.reg [
    { dst := some 30, op := .mv (.t 5) },
    { dst := some 31, op := .call .eff 13 [(.t 30), (.k (.bool false)), (.k (.int .i64 (-1)))] }]) <|
  .seq (.reg [
    { dst := some 7, op := .mv (.k (.nilp)) }]) <|
  .seq (.reg [
    { dst := some 32, op := .mv (.t 7) },
    { dst := some 33, op := .mv (.t 1) },
    { dst := some 34, op := .mv (.t 0) },
    { dst := some 35, op := .call .eff 11 [(.t 32), (.t 33), (.t 34)] }]) <|
  .seq (.reg [
    { dst := some 36, op := .mv (.t 7) },
    { dst := some 37, op := .call .eff 13 [(.t 36), (.k (.bool false)), (.k (.int .i64 0))] }]) <|
  .seq (.drw [
    { dst := some 38, op := .mv (.t 5) },
    { dst := some 39, op := .call .eff 15 [(.t 38), (.k (.int .i64 1))] },
    { dst := some 40, op := .cvBS (.t 39) },
    { dst := some 41, op := .mv (.t 0) },
    { dst := some 42, op := .cvBS (.t 41) },
    { dst := some 43, op := .bin .eql .sc (.t 40) (.t 42) },
    { dst := some 44, op := .mv (.t 43) },
    { dst := some 45, op := .mv (.t 7), guard := some (44, true) },
    { dst := some 46, op := .mv (.t 1), guard := some (44, true) },
    { dst := some 47, op := .call .eff 15 [(.t 45), (.t 46)], guard := some (44, true) },
    { dst := some 48, op := .len (.t 47), guard := some (44, true) },
    { dst := some 49, op := .bin .eql .sc (.t 48) (.k (.int .i64 0)), guard := some (44, true) },
    { dst := some 50, op := .pick (.t 44) (.t 49) (.k (.bool false)) },
    { dst := some 51, op := .mv (.t 50) },
    { dst := some 52, op := .mv (.t 5), guard := some (51, true) },
    { dst := some 53, op := .call .eff 15 [(.t 52), (.k (.int .i64 2))], guard := some (51, true) },
    { dst := some 54, op := .len (.t 53), guard := some (51, true) },
    { dst := some 55, op := .mv (.t 5), guard := some (51, true) },
    { dst := some 56, op := .call .eff 15 [(.t 55), (.k (.int .i64 (-1)))], guard := some (51, true) },
    { dst := some 57, op := .len (.t 56), guard := some (51, true) },
    { dst := some 58, op := .bin .add .sc (.t 54) (.t 57), guard := some (51, true) },
    { dst := some 59, op := .bin .eql .sc (.t 58) (.k (.int .i64 0)), guard := some (51, true) },
    { dst := some 60, op := .pick (.t 51) (.t 59) (.k (.bool false)) },
    { dst := some 61, op := .mv (.t 60) },
    { dst := some 62, op := .call .blind 17 [], guard := some (61, true) },
    { dst := some 63, op := .pick (.t 61) (.t 62) (.k (.bool false)) },
    { dst := some 4, op := .mv (.t 63) }] [[], [], [1], [], [], [], [], [], [], [1, 2, 4], [], [], [], [], [], [1, 2, 4, 9], [], [], [1, 2, 4, 9, 15], [], [], [], [], [], [1, 2, 4, 9, 15, 18], [], []]) <|
  .ret⟩

def l7_0b : DC :=
  .seq (.seq (.reg [
    { dst := some 12, op := .mv (.t 5) },
    { dst := some 13, op := .mv (.t 0) },
    { dst := some 14, op := .len (.t 13) },
    { dst := some 15, op := .bin .lss .sc (.t 12) (.t 14) }]) <|
  .cond (.t 15)
    (.skip)
    (.exit 0)) <|
  .seq (.block 1 <|
  .seq (.seq (.reg [
    { dst := some 18, op := .mv (.t 0) },
    { dst := some 19, op := .mv (.t 5) },
    { dst := some 20, op := .idx 1 (.t 18) (.t 19) },
    { dst := some 21, op := .ld 1 false (.t 20) },
    { dst := some 22, op := .len (.t 21) },
    { dst := some 23, op := .bin .gtr .sc (.t 22) (.k (.int .i64 200)) }]) <|
  .cond (.t 23)
    (.seq (.reg [
      { dst := some 2, op := .mv (.k (.bool true)) }]) <|
    .ret)
    (.skip)) <|
  .seq (.reg [
    { dst := some 24, op := .mv (.t 3) },
    { dst := some 25, op := .mv (.t 0) },
    { dst := some 26, op := .mv (.t 5) },
    { dst := some 27, op := .idx 1 (.t 25) (.t 26) },
    { dst := some 28, op := .ld 1 false (.t 27) },
    { dst := some 29, op := .call .eff 11 [(.t 24), (.k (.int .i64 1)), (.t 28)] }]) <|
  .seq (.reg [
    { dst := some 30, op := .mv (.t 0) },
    { dst := some 31, op := .mv (.t 5) },
    { dst := some 32, op := .idx 1 (.t 30) (.t 31) },
    { dst := some 33, op := .ld 1 false (.t 32) },
    { dst := some 34, op := .len (.t 33) },
    { dst := some 35, op := .bin .gtr .sc (.t 34) (.k (.int .i64 0)) }]) <|
  .cond (.t 35)
    (.reg [
      { dst := some 36, op := .mv (.t 0) },
      { dst := some 37, op := .mv (.t 5) },
      { dst := some 38, op := .idx 1 (.t 36) (.t 37) },
      { dst := some 39, op := .ld 1 false (.t 38) },
      { dst := some 40, op := .cvBS (.t 39) },
      { dst := some 4, op := .mv (.t 40) }])
    (.skip)) <|
  .reg [
    { dst := some 16, op := .mv (.t 5) },
    { dst := some 17, op := .bin .add .sc (.t 16) (.k (.int .i64 1)) },
    { dst := some 5, op := .mv (.t 17) }]
def l7_0 : DC := .loop [0, 3, 4, 5] [] l7_0b
def f7 : DFn := ⟨1, [.t 2],
  .seq (.reg [
    { dst := some 2, op := .mv (.k (.bool false)) }]) <|
  .seq (.seq (.reg [
    { dst := some 6, op := .mv (.t 0) },
    { dst := some 7, op := .len (.t 6) },
    { dst := some 8, op := .bin .gtr .sc (.t 7) (.k (.int .i64 30)) }]) <|
  .cond (.t 8)
    (.seq (.reg [
      { dst := some 2, op := .mv (.k (.bool true)) }]) <|
    .ret)
    (.skip)) <|
  .seq (.reg [
    { dst := some 9, op := .call .eff 10 [] },
    { dst := some 3, op := .mv (.t 9) }]) <|
  .seq (.seq (.reg [
    { dst := some 10, op := .mv (.t 3) },
    { dst := some 11, op := .bin .eql .np (.t 10) (.k (.nilp)) }]) <|
  .cond (.t 11)
    (.seq (.reg [
      { dst := some 2, op := .mv (.k (.bool false)) }]) <|
    .ret)
    (.skip)) <|
  .seq (.reg [
    { dst := some 4, op := .mv (.k (.str [])) }]) <|
  .seq (.seq (.reg [
    { dst := some 5, op := .mv (.k (.int .i64 0)) }]) <|
  .block 0 <|
  l7_0) <|
  .seq (.reg [
    { dst := some 41, op := .mv (.t 3) },
    { dst := some 42, op := .call .eff 13 [(.t 41), (.k (.bool false)), (.k (.int .i64 (-1)))] }]) <|
  .seq (.reg [
    { dst := some 43, op := .mv (.t 3) },
    { dst := some 44, op := .call .eff 15 [(.t 43), (.k (.int .i64 0))] },
    { dst := some 45, op := .cvBS (.t 44) },
    { dst := some 46, op := .mv (.t 4) },
    { dst := some 47, op := .bin .eql .sc (.t 45) (.t 46) },
    { dst := some 48, op := .mv (.t 47) },
    { dst := some 49, op := .mv (.t 3), guard := some (48, true) },
    { dst := some 50, op := .call .eff 15 [(.t 49), (.k (.int .i64 1))], guard := some (48, true) },
    { dst := some 51, op := .len (.t 50), guard := some (48, true) },
    { dst := some 52, op := .bin .eql .sc (.t 51) (.k (.int .i64 0)), guard := some (48, true) },
    { dst := some 53, op := .pick (.t 48) (.t 52) (.k (.bool false)) },
    { dst := some 54, op := .mv (.t 53) },
    { dst := some 55, op := .call .blind 17 [], guard := some (54, true) },
    { dst := some 56, op := .pick (.t 54) (.t 55) (.k (.bool false)) },
    { dst := some 2, op := .mv (.t 56) }]) <|
  .ret⟩

def l8_0b : DC :=
  .seq (.seq (.reg [
    { dst := some 35, op := .mv (.t 7) },
    { dst := some 36, op := .mv (.t 1) },
    { dst := some 37, op := .bin .lss .sc (.t 35) (.t 36) }]) <|
  .cond (.t 37)
    (.skip)
    (.exit 0)) <|
  .seq (.block 1 <|
  .seq (.reg [
    { dst := some 40, op := .mv (.t 5) },
    { dst := some 41, op := .call .eff 13 [(.t 40), (.k (.bool false)), (.k (.int .i64 (-1)))] }]) <|
  .seq (.reg [
    { dst := some 42, op := .mv (.t 5) },
    { dst := some 43, op := .call .eff 15 [(.t 42), (.k (.int .i64 1))] },
    { dst := some 44, op := .len (.t 43) },
    { dst := some 45, op := .mv (.t 5) },
    { dst := some 46, op := .call .eff 15 [(.t 45), (.k (.int .i64 0))] },
    { dst := some 47, op := .len (.t 46) },
    { dst := some 48, op := .bin .add .sc (.t 44) (.t 47) },
    { dst := some 49, op := .bin .neq .sc (.t 48) (.k (.int .i64 0)) }]) <|
  .cond (.t 49)
    (.seq (.reg [
      { dst := some 4, op := .mv (.k (.bool false)) }]) <|
    .ret)
    (.skip)) <|
  .reg [
    { dst := some 38, op := .mv (.t 7) },
    { dst := some 39, op := .bin .add .sc (.t 38) (.k (.int .i64 1)) },
    { dst := some 7, op := .mv (.t 39) }]
def l8_0 : DC := .loop [0, 1, 5, 6, 7] [] l8_0b
def f8 : DFn := ⟨2, [.t 4],
  .seq (.reg [
    { dst := some 4, op := .mv (.k (.bool false)) }]) <|
  .seq (.seq (.reg [
    { dst := some 8, op := .mv (.t 0) },
    { dst := some 9, op := .len (.t 8) },
    { dst := some 10, op := .bin .lss .sc (.t 9) (.k (.int .i64 1)) },
    { dst := some 11, op := .mv (.t 10) },
    { dst := some 12, op := .mv (.t 0), guard := some (11, false) },
    { dst := some 13, op := .len (.t 12), guard := some (11, false) },
    { dst := some 14, op := .bin .gtr .sc (.t 13) (.k (.int .i64 200)), guard := some (11, false) },
    { dst := some 15, op := .pick (.t 11) (.k (.bool true)) (.t 14) },
    { dst := some 16, op := .mv (.t 15) },
    { dst := some 17, op := .mv (.t 1), guard := some (16, false) },
    { dst := some 18, op := .bin .lss .sc (.t 17) (.k (.int .i64 1)), guard := some (16, false) },
    { dst := some 19, op := .pick (.t 16) (.k (.bool true)) (.t 18) },
    { dst := some 20, op := .mv (.t 19) },
    { dst := some 21, op := .mv (.t 1), guard := some (20, false) },
    { dst := some 22, op := .bin .gtr .sc (.t 21) (.k (.int .i64 10)), guard := some (20, false) },
    { dst := some 23, op := .pick (.t 20) (.k (.bool true)) (.t 22) }]) <|
  .cond (.t 23)
    (.seq (.reg [
      { dst := some 4, op := .mv (.k (.bool true)) }]) <|
    .ret)
    (.skip)) <|
  .seq (.reg [
    { dst := some 24, op := .call .eff 10 [] },
    { dst := some 5, op := .mv (.t 24) }]) <|
  .seq (.seq (.reg [
    { dst := some 25, op := .mv (.t 5) },
    { dst := some 26, op := .bin .eql .np (.t 25) (.k (.nilp)) }]) <|
  .cond (.t 26)
    (.seq (.reg [
      { dst := some 4, op := .mv (.k (.bool false)) }]) <|
    .ret)
    (.skip)) <|
  .seq (.reg [
    { dst := some 27, op := .mv (.t 5) },
    { dst := some 28, op := .mv (.t 0) },
    { dst := some 29, op := .call .eff 11 [(.t 27), (.k (.int .i64 0)), (.t 28)] }]) <|
  .seq (.reg [
    { dst := some 30, op := .mv (.t 5) },
    { dst := some 31, op := .call .eff 13 [(.t 30), (.k (.bool false)), (.k (.int .i64 (-1)))] }]) <|
  .seq (.reg [
    { dst := some 32, op := .mv (.t 5) },
    { dst := some 33, op := .call .eff 15 [(.t 32), (.k (.int .i64 1))] },
    { dst := some 34, op := .cvBS (.t 33) },
    { dst := some 6, op := .mv (.t 34) }]) <|
  .seq (.seq (.reg [
    { dst := some 7, op := .mv (.k (.int .i64 0)) }]) <|
  .block 0 <|
  l8_0) <|
  .seq (.reg [
    { dst := some 50, op := .mv (.t 6) },
    { dst := some 51, op := .mv (.t 0) },
    { dst := some 52, op := .cvBS (.t 51) },
    { dst := some 53, op := .bin .eql .sc (.t 50) (.t 52) },
    { dst := some 54, op := .mv (.t 53) },
    { dst := some 55, op := .call .blind 17 [], guard := some (54, true) },
    { dst := some 56, op := .pick (.t 54) (.t 55) (.k (.bool false)) },
    { dst := some 4, op := .mv (.t 56) }]) <|
  .ret⟩

def l9_0b : DC :=
  .seq (.seq (.reg [
    { dst := some 5, op := .mv (.t 4) },
    { dst := some 6, op := .mv (.t 0) },
    { dst := some 7, op := .len (.t 6) },
    { dst := some 8, op := .bin .lss .sc (.t 5) (.t 7) },
    { dst := some 9, op := .mv (.t 8) },
    { dst := some 10, op := .mv (.t 4), guard := some (9, true) },
    { dst := some 11, op := .bin .lss .sc (.t 10) (.k (.int .i64 60)), guard := some (9, true) },
    { dst := some 12, op := .pick (.t 9) (.t 11) (.k (.bool false)) }]) <|
  .cond (.t 12)
    (.skip)
    (.exit 0)) <|
  .seq (.block 1 <|
  .seq (.reg [
    { dst := some 15, op := .mv (.t 3) },
    { dst := some 16, op := .bin .add .sc (.t 15) (.k (.int .i64 1)) },
    { dst := some 17, op := .mv (.t 0) },
    { dst := some 18, op := .mv (.t 4) },
    { dst := some 19, op := .idx 5 (.t 17) (.t 18) },
    { dst := some 20, op := .fld 2 (.t 19) },
    { dst := some 21, op := .ld 1 false (.t 20) },
    { dst := some 22, op := .len (.t 21) },
    { dst := some 23, op := .bin .add .sc (.t 16) (.t 22) },
    { dst := some 3, op := .mv (.t 23) }]) <|
  .seq (.reg [
    { dst := some 24, op := .mv (.t 3) },
    { dst := some 25, op := .bin .gtr .sc (.t 24) (.k (.int .i64 5000)) }]) <|
  .cond (.t 25)
    (.seq (.reg [
      { dst := some 2, op := .mv (.k (.bool true)) }]) <|
    .ret)
    (.skip)) <|
  .reg [
    { dst := some 13, op := .mv (.t 4) },
    { dst := some 14, op := .bin .add .sc (.t 13) (.k (.int .i64 1)) },
    { dst := some 4, op := .mv (.t 14) }]
def l9_0 : DC := .loop [0, 3, 4] [] l9_0b
def f9 : DFn := ⟨1, [.t 2],
  .seq (.reg [
    { dst := some 2, op := .mv (.k (.bool false)) }]) <|
  .seq (.reg [
    { dst := some 3, op := .mv (.k (.int .i64 0)) }]) <|
  .seq (.seq (.reg [
    { dst := some 4, op := .mv (.k (.int .i64 0)) }]) <|
  .block 0 <|
  l9_0) <|
  .seq (.reg [
    { dst := some 2, op := .mv (.k (.bool false)) }]) <|
  .ret⟩

def f10 : DFn := ⟨0, [.t 0],
  .seq (.reg [
    { dst := some 0, op := .mv (.k (.nilp)) }]) <|
  .seq (.reg [
    { dst := some 1, op := .build [.nils, .nils, .nils, .nils] [] },
    { dst := some 2, op := .boxH (.t 1) },
    { dst := some 0, op := .mv (.t 2) }]) <|
  .ret⟩

def f11 : DFn := ⟨3, [],
  .seq (.reg [
    { dst := some 6, op := .mv (.t 0) },
    { dst := some 7, op := .mv (.t 1) },
    { dst := some 8, op := .call .ro 18 [(.t 6), (.t 7)] },
    { dst := some 9, op := .mv (.t 8) },
    { dst := some 10, op := .mv (.t 2), guard := some (9, true) },
    { dst := some 11, op := .len (.t 10), guard := some (9, true) },
    { dst := some 12, op := .bin .gtr .sc (.t 11) (.k (.int .i64 0)), guard := some (9, true) },
    { dst := some 13, op := .pick (.t 9) (.t 12) (.k (.bool false)) }]) <|
  .cond (.t 13)
    (.drw [
      { dst := some 14, op := .mv (.t 0) },
      { dst := some 15, op := .mv (.t 1) },
      { dst := some 16, op := .mv (.t 2) },
      { dst := some 17, op := .call .eff 19 [(.t 16)] },
      { dst := some 18, op := .nilck (.t 14) },
      { dst := some 19, op := .fld 0 (.t 18) },
      { dst := some 20, op := .idxA 1 2 (.t 19) (.t 15) },
      { dst := none, op := .st 1 (.t 20) (.t 17) }] [[], [], [], [], [], [], [], [3]])
    (.skip)⟩

def f12 : DFn := ⟨3, [],
  .seq (.reg [
    { dst := some 6, op := .mv (.t 1) },
    { dst := some 7, op := .bin .geq .sc (.t 6) (.k (.int .i64 0)) },
    { dst := some 8, op := .mv (.t 7) },
    { dst := some 9, op := .mv (.t 1), guard := some (8, true) },
    { dst := some 10, op := .bin .leq .sc (.t 9) (.k (.int .i64 1)), guard := some (8, true) },
    { dst := some 11, op := .pick (.t 8) (.t 10) (.k (.bool false)) },
    { dst := some 12, op := .mv (.t 11) },
    { dst := some 13, op := .mv (.t 2), guard := some (12, true) },
    { dst := some 14, op := .len (.t 13), guard := some (12, true) },
    { dst := some 15, op := .bin .gtr .sc (.t 14) (.k (.int .i64 0)), guard := some (12, true) },
    { dst := some 16, op := .pick (.t 12) (.t 15) (.k (.bool false)) }]) <|
  .cond (.t 16)
    (.drw [
      { dst := some 17, op := .mv (.t 0) },
      { dst := some 18, op := .mv (.t 1) },
      { dst := some 19, op := .bsl false 1 [.int .u8 0] 0 [] },
      { dst := some 20, op := .mv (.t 2) },
      { dst := some 21, op := .app 1 1 (.t 19) (.t 20) },
      { dst := some 22, op := .nilck (.t 17) },
      { dst := some 23, op := .fld 0 (.t 22) },
      { dst := some 24, op := .idxA 1 2 (.t 23) (.t 18) },
      { dst := none, op := .st 1 (.t 24) (.t 21) }] [[], [], [], [], [2], [], [], [], [2, 4]])
    (.skip)⟩

def l13_0b : DC :=
  .seq (.reg [
    { dst := some 15, op := .bin .lss .sc (.t 14) (.k (.int .i64 2)) }]) <|
  .seq (.cond (.t 15)
    (.skip)
    (.exit 0)) <|
  .seq (.block 1 <|
  .seq (.reg [
    { dst := some 16, op := .mv (.t 14) },
    { dst := some 17, op := .idxV 1 2 false (.t 13) (.t 14) },
    { dst := some 6, op := .mv (.t 16) },
    { dst := some 7, op := .mv (.t 17) }]) <|
  .seq (.seq (.reg [
    { dst := some 18, op := .mv (.t 1) }]) <|
  .cond (.t 18)
    (.reg [
      { dst := some 7, op := .mv (.k (.nils)) }])
    (.skip)) <|
  .seq (.seq (.reg [
    { dst := some 19, op := .mv (.t 7) },
    { dst := some 20, op := .len (.t 19) },
    { dst := some 21, op := .bin .gtr .sc (.t 20) (.k (.int .i64 0)) },
    { dst := some 22, op := .mv (.t 21) },
    { dst := some 23, op := .mv (.t 2), guard := some (22, true) },
    { dst := some 24, op := .bin .geq .sc (.t 23) (.k (.int .i64 0)), guard := some (22, true) },
    { dst := some 25, op := .pick (.t 22) (.t 24) (.k (.bool false)) }]) <|
  .cond (.t 25)
    (.reg [
      { dst := some 26, op := .mv (.t 7) },
      { dst := some 27, op := .mv (.t 2) },
      { dst := some 28, op := .mv (.t 7) },
      { dst := some 29, op := .len (.t 28) },
      { dst := some 30, op := .bin .rem .sc (.t 27) (.t 29) },
      { dst := some 31, op := .idx 1 (.t 26) (.t 30) },
      { dst := some 32, op := .ld 1 false (.t 31) },
      { dst := some 33, op := .bin .xor .sc (.t 32) (.k (.int .u8 1)) },
      { dst := some 34, op := .idx 1 (.t 26) (.t 30) },
      { dst := none, op := .st 1 (.t 34) (.t 33) }])
    (.skip)) <|
  .drw [
    { dst := some 35, op := .mv (.t 0) },
    { dst := some 36, op := .mv (.t 6) },
    { dst := some 37, op := .bin .sub .sc (.k (.int .i64 1)) (.t 36) },
    { dst := some 38, op := .mv (.t 0) },
    { dst := some 39, op := .mv (.t 6) },
    { dst := some 40, op := .mv (.t 7) },
    { dst := some 41, op := .nilck (.t 35) },
    { dst := some 42, op := .fld 2 (.t 41) },
    { dst := some 43, op := .idxA 1 2 (.t 42) (.t 37) },
    { dst := none, op := .st 1 (.t 43) (.t 40) },
    { dst := some 44, op := .nilck (.t 38) },
    { dst := some 45, op := .fld 0 (.t 44) },
    { dst := some 46, op := .idxA 1 2 (.t 45) (.t 39) },
    { dst := none, op := .st 1 (.t 46) (.k (.nils)) }] [[], [], [], [], [], [], [], [], [], [], [], [], [], [9]]) <|
  .reg [
    { dst := some 47, op := .bin .add .sc (.t 14) (.k (.int .i64 1)) },
    { dst := some 14, op := .mv (.t 47) }]
def l13_0 : DC := .loop [0, 1, 2, 13, 14] [] l13_0b
def f13 : DFn := ⟨3, [],
  .seq (.seq (.reg [
    { dst := some 8, op := .mv (.t 0) },
    { dst := some 9, op := .bin .eql .np (.t 8) (.k (.nilp)) }]) <|
  .cond (.t 9)
    (.ret)
    (.skip)) <|
  .seq (.reg [
    { dst := some 10, op := .mv (.t 0) },
    { dst := some 11, op := .nilck (.t 10) },
    { dst := some 12, op := .fld 0 (.t 11) },
    { dst := some 13, op := .ld 2 true (.t 12) },
    { dst := some 14, op := .mv (.k (.int .i64 0)) }]) <|
  .block 0 <|
  l13_0⟩

def l14_0b : DC :=
  .seq (.seq (.reg [
    { dst := some 8, op := .mv (.t 6) },
    { dst := some 9, op := .bin .lss .sc (.t 8) (.k (.int .i64 2)) }]) <|
  .cond (.t 9)
    (.skip)
    (.exit 0)) <|
  .seq (.block 1 <|
  .seq (.reg [
    { dst := some 12, op := .mv (.t 0) },
    { dst := some 13, op := .mv (.t 6) },
    { dst := some 14, op := .nilck (.t 12) },
    { dst := some 15, op := .fld 0 (.t 14) },
    { dst := some 16, op := .idxA 1 2 (.t 15) (.t 13) },
    { dst := some 17, op := .ld 1 false (.t 16) },
    { dst := some 7, op := .mv (.t 17) }]) <|
  .seq (.drw [
    { dst := some 18, op := .mv (.t 0) },
    { dst := some 19, op := .mv (.t 6) },
    { dst := some 20, op := .mv (.t 0) },
    { dst := some 21, op := .mv (.t 6) },
    { dst := some 22, op := .bin .sub .sc (.k (.int .i64 1)) (.t 21) },
    { dst := some 23, op := .nilck (.t 18) },
    { dst := some 24, op := .fld 0 (.t 23) },
    { dst := some 25, op := .idxA 1 2 (.t 24) (.t 19) },
    { dst := none, op := .st 1 (.t 25) (.k (.nils)) },
    { dst := some 26, op := .nilck (.t 20) },
    { dst := some 27, op := .fld 2 (.t 26) },
    { dst := some 28, op := .idxA 1 2 (.t 27) (.t 22) },
    { dst := none, op := .st 1 (.t 28) (.k (.nils)) }] [[], [], [], [], [], [], [], [], [], [], [], [], [8]]) <|
  .seq (.seq (.reg [
    { dst := some 29, op := .mv (.t 1) },
    { dst := some 30, op := .mv (.t 29) },
    { dst := some 31, op := .mv (.t 7), guard := some (30, false) },
    { dst := some 32, op := .len (.t 31), guard := some (30, false) },
    { dst := some 33, op := .bin .eql .sc (.t 32) (.k (.int .i64 0)), guard := some (30, false) },
    { dst := some 34, op := .pick (.t 30) (.k (.bool true)) (.t 33) }]) <|
  .cond (.t 34)
    (.exit 1)
    (.skip)) <|
  .seq (.seq (.reg [
    { dst := some 35, op := .mv (.t 2) },
    { dst := some 36, op := .bin .geq .sc (.t 35) (.k (.int .i64 0)) }]) <|
  .cond (.t 36)
    (.reg [
      { dst := some 37, op := .mv (.t 7) },
      { dst := some 38, op := .mv (.t 2) },
      { dst := some 39, op := .mv (.t 7) },
      { dst := some 40, op := .len (.t 39) },
      { dst := some 41, op := .bin .rem .sc (.t 38) (.t 40) },
      { dst := some 42, op := .idx 1 (.t 37) (.t 41) },
      { dst := some 43, op := .ld 1 false (.t 42) },
      { dst := some 44, op := .bin .xor .sc (.t 43) (.k (.int .u8 1)) },
      { dst := some 45, op := .idx 1 (.t 37) (.t 41) },
      { dst := none, op := .st 1 (.t 45) (.t 44) }])
    (.skip)) <|
  .reg [
    { dst := some 46, op := .mv (.t 0) },
    { dst := some 47, op := .mv (.t 6) },
    { dst := some 48, op := .bin .sub .sc (.k (.int .i64 1)) (.t 47) },
    { dst := some 49, op := .mv (.t 7) },
    { dst := some 50, op := .nilck (.t 46) },
    { dst := some 51, op := .fld 2 (.t 50) },
    { dst := some 52, op := .idxA 1 2 (.t 51) (.t 48) },
    { dst := none, op := .st 1 (.t 52) (.t 49) }]) <|
  .reg [
    { dst := some 10, op := .mv (.t 6) },
    { dst := some 11, op := .bin .add .sc (.t 10) (.k (.int .i64 1)) },
    { dst := some 6, op := .mv (.t 11) }]
def l14_0 : DC := .loop [0, 1, 2, 6] [] l14_0b
def f14 : DFn := ⟨3, [],
  .seq (.reg [
    { dst := some 6, op := .mv (.k (.int .i64 0)) }]) <|
  .block 0 <|
  l14_0⟩

def f15 : DFn := ⟨2, [.t 4],
  .seq (.reg [
    { dst := some 4, op := .mv (.k (.nils)) }]) <|
  .seq (.seq (.reg [
    { dst := some 6, op := .mv (.t 0) },
    { dst := some 7, op := .mv (.t 1) },
    { dst := some 8, op := .call .ro 18 [(.t 6), (.t 7)] },
    { dst := some 9, op := .un .not (.t 8) }]) <|
  .cond (.t 9)
    (.seq (.reg [
      { dst := some 4, op := .mv (.k (.nils)) }]) <|
    .ret)
    (.skip)) <|
  .seq (.reg [
    { dst := some 10, op := .mv (.t 0) },
    { dst := some 11, op := .mv (.t 1) },
    { dst := some 12, op := .nilck (.t 10) },
    { dst := some 13, op := .fld 2 (.t 12) },
    { dst := some 14, op := .idxA 1 2 (.t 13) (.t 11) },
    { dst := some 15, op := .ld 1 false (.t 14) },
    { dst := some 5, op := .mv (.t 15) }]) <|
  .seq (.reg [
    { dst := some 16, op := .mv (.t 0) },
    { dst := some 17, op := .mv (.t 1) },
    { dst := some 18, op := .nilck (.t 16) },
    { dst := some 19, op := .fld 2 (.t 18) },
    { dst := some 20, op := .idxA 1 2 (.t 19) (.t 17) },
    { dst := none, op := .st 1 (.t 20) (.k (.nils)) }]) <|
  .seq (.reg [
    { dst := some 21, op := .mv (.t 5) },
    { dst := some 4, op := .mv (.t 21) }]) <|
  .ret⟩

def f16 : DFn := ⟨2, [.t 4],
  .seq (.reg [
    { dst := some 4, op := .mv (.k (.nils)) }]) <|
  .seq (.seq (.reg [
    { dst := some 6, op := .mv (.t 1) },
    { dst := some 7, op := .bin .lss .sc (.t 6) (.k (.int .i64 0)) },
    { dst := some 8, op := .mv (.t 7) },
    { dst := some 9, op := .mv (.t 1), guard := some (8, false) },
    { dst := some 10, op := .bin .gtr .sc (.t 9) (.k (.int .i64 1)), guard := some (8, false) },
    { dst := some 11, op := .pick (.t 8) (.k (.bool true)) (.t 10) }]) <|
  .cond (.t 11)
    (.seq (.reg [
      { dst := some 4, op := .mv (.k (.nils)) }]) <|
    .ret)
    (.skip)) <|
  .seq (.reg [
    { dst := some 12, op := .mv (.t 0) },
    { dst := some 13, op := .mv (.t 1) },
    { dst := some 14, op := .nilck (.t 12) },
    { dst := some 15, op := .fld 2 (.t 14) },
    { dst := some 16, op := .idxA 1 2 (.t 15) (.t 13) },
    { dst := some 17, op := .ld 1 false (.t 16) },
    { dst := some 5, op := .mv (.t 17) }]) <|
  .seq (.reg [
    { dst := some 18, op := .mv (.t 0) },
    { dst := some 19, op := .mv (.t 1) },
    { dst := some 20, op := .nilck (.t 18) },
    { dst := some 21, op := .fld 2 (.t 20) },
    { dst := some 22, op := .idxA 1 2 (.t 21) (.t 19) },
    { dst := none, op := .st 1 (.t 22) (.k (.nils)) }]) <|
  .seq (.reg [
    { dst := some 23, op := .mv (.t 5) },
    { dst := some 4, op := .mv (.t 23) }]) <|
  .ret⟩

def f17 : DFn := ⟨0, [.t 0],
  .seq (.reg [
    { dst := some 0, op := .mv (.k (.bool false)) }]) <|
  .seq (.reg [
    { dst := some 2, op := .call .eff 10 [] },
    { dst := some 1, op := .mv (.t 2) }]) <|
  .seq (.seq (.reg [
    { dst := some 3, op := .mv (.t 1) },
    { dst := some 4, op := .bin .eql .np (.t 3) (.k (.nilp)) }]) <|
  .cond (.t 4)
    (.seq (.reg [
      { dst := some 0, op := .mv (.k (.bool false)) }]) <|
    .ret)
    (.skip)) <|
  .seq (.reg [
    { dst := some 5, op := .mv (.t 1) },
    { dst := some 6, op := .bsl true 1 [.int .u8 0] 2 [(0, (.k (.int .u8 97))), (1, (.k (.int .u8 98)))] },
    { dst := some 7, op := .cvBB (.t 6) },
    { dst := some 8, op := .call .eff 11 [(.t 5), (.k (.int .i64 0)), (.t 7)] }]) <|
  .seq (.reg [
    { dst := some 9, op := .mv (.t 1) },
    { dst := some 10, op := .call .eff 13 [(.t 9), (.k (.bool false)), (.k (.int .i64 (-1)))] }]) <|
  .seq (.reg [
    { dst := some 11, op := .mv (.t 1) },
    { dst := some 12, op := .call .eff 15 [(.t 11), (.k (.int .i64 1))] },
    { dst := some 13, op := .cvBS (.t 12) },
    { dst := some 14, op := .bin .eql .sc (.t 13) (.k (.str [97, 98])) },
    { dst := some 15, op := .mv (.t 14) },
    { dst := some 16, op := .mv (.t 1), guard := some (15, true) },
    { dst := some 17, op := .call .eff 15 [(.t 16), (.k (.int .i64 1))], guard := some (15, true) },
    { dst := some 18, op := .len (.t 17), guard := some (15, true) },
    { dst := some 19, op := .mv (.t 1), guard := some (15, true) },
    { dst := some 20, op := .call .eff 15 [(.t 19), (.k (.int .i64 0))], guard := some (15, true) },
    { dst := some 21, op := .len (.t 20), guard := some (15, true) },
    { dst := some 22, op := .bin .add .sc (.t 18) (.t 21), guard := some (15, true) },
    { dst := some 23, op := .bin .eql .sc (.t 22) (.k (.int .i64 0)), guard := some (15, true) },
    { dst := some 24, op := .pick (.t 15) (.t 23) (.k (.bool false)) },
    { dst := some 0, op := .mv (.t 24) }]) <|
  .ret⟩

def f18 : DFn := ⟨2, [.t 4],
  .seq (.reg [
    { dst := some 4, op := .mv (.k (.bool false)) }]) <|
  .seq (.reg [
    { dst := some 5, op := .mv (.t 0) },
    { dst := some 6, op := .bin .neq .np (.t 5) (.k (.nilp)) },
    { dst := some 7, op := .mv (.t 6) },
    { dst := some 8, op := .mv (.t 1), guard := some (7, true) },
    { dst := some 9, op := .bin .geq .sc (.t 8) (.k (.int .i64 0)), guard := some (7, true) },
    { dst := some 10, op := .pick (.t 7) (.t 9) (.k (.bool false)) },
    { dst := some 11, op := .mv (.t 10) },
    { dst := some 12, op := .mv (.t 1), guard := some (11, true) },
    { dst := some 13, op := .bin .lss .sc (.t 12) (.k (.int .i64 2)), guard := some (11, true) },
    { dst := some 14, op := .pick (.t 11) (.t 13) (.k (.bool false)) },
    { dst := some 4, op := .mv (.t 14) }]) <|
  .ret⟩

def f19 : DFn := ⟨1, [.t 2],
  .seq (.reg [
    { dst := some 2, op := .mv (.k (.nils)) }]) <|
  .seq (.seq (.reg [
    { dst := some 3, op := .mv (.t 0) },
    { dst := some 4, op := .bin .eql .ns (.t 3) (.k (.nils)) }]) <|
  .cond (.t 4)
    (.seq (.reg [
      { dst := some 2, op := .mv (.k (.nils)) }]) <|
    .ret)
    (.skip)) <|
  .seq (.reg [
    { dst := some 5, op := .bsl false 1 [.int .u8 0] 0 [] },
    { dst := some 6, op := .mv (.t 0) },
    { dst := some 7, op := .app 1 1 (.t 5) (.t 6) },
    { dst := some 2, op := .mv (.t 7) }]) <|
  .ret⟩


def tab : PT Entry := (.nd (.nd (.nd (.nd (.nd .lf (some (.fn f15)) .lf) (some (.fn f7)) .lf) (some (.fn f3)) (.nd (.nd .lf (some (.fn f19)) .lf) (some (.fn f11)) .lf)) none (.nd (.nd (.nd .lf (some (.fn f17)) .lf) (some (.fn f9)) .lf) (some (.fn f5)) (.nd .lf (some (.fn f13)) .lf))) none (.nd (.nd (.nd (.nd .lf (some (.fn f16)) .lf) (some (.fn f8)) .lf) (some (.fn f4)) (.nd .lf (some (.fn f12)) .lf)) none (.nd (.nd (.nd .lf (some (.fn f18)) .lf) (some (.fn f10)) .lf) (some (.fn f6)) (.nd .lf (some (.fn f14)) .lf))))
abbrev K (G : Nat → Option (List IV)) (d : Nat) : Go.PM.Callee := dcall G (fun f => tab.get f) d
theorem k3 {G : Nat → Option (List IV)} {d : Nat} {args : List DV} {H : PT HB} {n lo : Nat} : K G (d + 1) 3 args H n lo = f3.run G (K G d) args H n lo := dcall_fn rfl
theorem k4 {G : Nat → Option (List IV)} {d : Nat} {args : List DV} {H : PT HB} {n lo : Nat} : K G (d + 1) 4 args H n lo = f4.run G (K G d) args H n lo := dcall_fn rfl
theorem k5 {G : Nat → Option (List IV)} {d : Nat} {args : List DV} {H : PT HB} {n lo : Nat} : K G (d + 1) 5 args H n lo = f5.run G (K G d) args H n lo := dcall_fn rfl
theorem k6 {G : Nat → Option (List IV)} {d : Nat} {args : List DV} {H : PT HB} {n lo : Nat} : K G (d + 1) 6 args H n lo = f6.run G (K G d) args H n lo := dcall_fn rfl
theorem k7 {G : Nat → Option (List IV)} {d : Nat} {args : List DV} {H : PT HB} {n lo : Nat} : K G (d + 1) 7 args H n lo = f7.run G (K G d) args H n lo := dcall_fn rfl
theorem k8 {G : Nat → Option (List IV)} {d : Nat} {args : List DV} {H : PT HB} {n lo : Nat} : K G (d + 1) 8 args H n lo = f8.run G (K G d) args H n lo := dcall_fn rfl
theorem k9 {G : Nat → Option (List IV)} {d : Nat} {args : List DV} {H : PT HB} {n lo : Nat} : K G (d + 1) 9 args H n lo = f9.run G (K G d) args H n lo := dcall_fn rfl
theorem k10 {G : Nat → Option (List IV)} {d : Nat} {args : List DV} {H : PT HB} {n lo : Nat} : K G (d + 1) 10 args H n lo = f10.run G (K G d) args H n lo := dcall_fn rfl
theorem k11 {G : Nat → Option (List IV)} {d : Nat} {args : List DV} {H : PT HB} {n lo : Nat} : K G (d + 1) 11 args H n lo = f11.run G (K G d) args H n lo := dcall_fn rfl
theorem k12 {G : Nat → Option (List IV)} {d : Nat} {args : List DV} {H : PT HB} {n lo : Nat} : K G (d + 1) 12 args H n lo = f12.run G (K G d) args H n lo := dcall_fn rfl
theorem k13 {G : Nat → Option (List IV)} {d : Nat} {args : List DV} {H : PT HB} {n lo : Nat} : K G (d + 1) 13 args H n lo = f13.run G (K G d) args H n lo := dcall_fn rfl
theorem k14 {G : Nat → Option (List IV)} {d : Nat} {args : List DV} {H : PT HB} {n lo : Nat} : K G (d + 1) 14 args H n lo = f14.run G (K G d) args H n lo := dcall_fn rfl
theorem k15 {G : Nat → Option (List IV)} {d : Nat} {args : List DV} {H : PT HB} {n lo : Nat} : K G (d + 1) 15 args H n lo = f15.run G (K G d) args H n lo := dcall_fn rfl
theorem k16 {G : Nat → Option (List IV)} {d : Nat} {args : List DV} {H : PT HB} {n lo : Nat} : K G (d + 1) 16 args H n lo = f16.run G (K G d) args H n lo := dcall_fn rfl
theorem k17 {G : Nat → Option (List IV)} {d : Nat} {args : List DV} {H : PT HB} {n lo : Nat} : K G (d + 1) 17 args H n lo = f17.run G (K G d) args H n lo := dcall_fn rfl
theorem k18 {G : Nat → Option (List IV)} {d : Nat} {args : List DV} {H : PT HB} {n lo : Nat} : K G (d + 1) 18 args H n lo = f18.run G (K G d) args H n lo := dcall_fn rfl
theorem k19 {G : Nat → Option (List IV)} {d : Nat} {args : List DV} {H : PT HB} {n lo : Nat} : K G (d + 1) 19 args H n lo = f19.run G (K G d) args H n lo := dcall_fn rfl
end Go.Proofs.Ytldinlipajjmoaa.D
