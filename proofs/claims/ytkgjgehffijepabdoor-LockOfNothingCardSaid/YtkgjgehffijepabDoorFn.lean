/-
  D's functions of this seat, printed by program out of the translation.
-/
import Derived.Test.YtkgjgehffijepabDoorRun
set_option maxRecDepth 100000
namespace Go.Proofs.YtkgjgehffijepabDoor.D
open Go Go.PM

def f3 : DFn := ⟨1, [.t 2],
  .seq (.reg [
    { dst := some 2, op := .mv (.k (.bool false)) }]) <|
  .seq (.seq (.reg [
    { dst := some 9, op := .mv (.t 0) },
    { dst := some 10, op := .len (.t 9) },
    { dst := some 11, op := .bin .gtr .sc (.t 10) (.k (.int .i64 30)) }]) <|
  .cond (.t 11)
    (.seq (.reg [
      { dst := some 2, op := .mv (.k (.bool true)) }]) <|
    .ret)
    (.skip)) <|
  .seq (.reg [
    { dst := some 13, op := .call .blind 10 [] },
    { dst := some 14, op := .call .eff 9 [(.t 13)] },
    { dst := some 12, op := .mv (.t 14) },
    { dst := some 15, op := .ext 0 (.t 12) },
    { dst := some 16, op := .ext 1 (.t 12) },
    { dst := some 3, op := .mv (.t 15) },
    { dst := some 4, op := .mv (.t 16) }]) <|
  .seq (.seq (.reg [
    { dst := some 17, op := .mv (.t 4) },
    { dst := some 18, op := .bin .neq .sc (.t 17) (.k (.int .i64 0)) },
    { dst := some 19, op := .mv (.t 18) },
    { dst := some 20, op := .mv (.t 3), guard := some (19, false) },
    { dst := some 21, op := .bin .eql .np (.t 20) (.k (.nilp)), guard := some (19, false) },
    { dst := some 22, op := .pick (.t 19) (.k (.bool true)) (.t 21) },
    { dst := some 23, op := .mv (.t 22) },
    { dst := some 24, op := .mv (.t 3), guard := some (23, false) },
    { dst := some 25, op := .call .blind 12 [(.k (.int .i64 0)), (.k (.int .i64 1))], guard := some (23, false) },
    { dst := some 26, op := .build [.int .i64 0, .int .i64 0] [(0, 1, (.k (.int .i64 1)))], guard := some (23, false) },
    { dst := some 27, op := .call .eff 11 [(.t 24), (.t 25), (.t 26)], guard := some (23, false) },
    { dst := some 28, op := .bin .neq .sc (.t 27) (.k (.int .i64 0)), guard := some (23, false) },
    { dst := some 29, op := .pick (.t 23) (.k (.bool true)) (.t 28) }]) <|
  .cond (.t 29)
    (.seq (.reg [
      { dst := some 2, op := .mv (.k (.bool false)) }]) <|
    .ret)
    (.skip)) <|
  .seq (.reg [
    { dst := some 30, op := .mv (.t 3) },
    { dst := some 31, op := .call .blind 12 [(.k (.int .i64 0)), (.k (.int .i64 1))] },
    { dst := some 32, op := .call .eff 13 [(.t 30), (.t 31)] }]) <|
  .seq (.seq (.reg [
    { dst := some 5, op := .mv (.k (.int .i64 0)) }]) <|
  .block 0 <|
  .loop [0, 3, 5] [] <|
  .seq (.seq (.reg [
    { dst := some 33, op := .mv (.t 5) },
    { dst := some 34, op := .mv (.t 0) },
    { dst := some 35, op := .len (.t 34) },
    { dst := some 36, op := .bin .lss .sc (.t 33) (.t 35) }]) <|
  .cond (.t 36)
    (.skip)
    (.exit 0)) <|
  .seq (.block 1 <|
  .seq (.drw [
    { dst := some 39, op := .mv (.t 0) },
    { dst := some 40, op := .mv (.t 5) },
    { dst := some 41, op := .idx 1 (.t 39) (.t 40) },
    { dst := some 42, op := .ld 1 false (.t 41) },
    { dst := some 43, op := .bin .and .sc (.t 42) (.k (.int .i64 3)) },
    { dst := some 44, op := .bin .rem .sc (.t 43) (.k (.int .i64 3)) },
    { dst := some 45, op := .mv (.t 0) },
    { dst := some 46, op := .mv (.t 5) },
    { dst := some 47, op := .idx 1 (.t 45) (.t 46) },
    { dst := some 48, op := .ld 1 false (.t 47) },
    { dst := some 49, op := .bin .shr .sc (.t 48) (.k (.int .u64 2)) },
    { dst := some 50, op := .bin .and .sc (.t 49) (.k (.int .i64 1)) },
    { dst := some 6, op := .mv (.t 44) },
    { dst := some 7, op := .mv (.t 50) }] [[], [], [], [2], [], [], [], [], [], [8], [], [], [], []]) <|
  .seq (.reg [
    { dst := some 51, op := .mv (.t 3) },
    { dst := some 52, op := .mv (.t 7) },
    { dst := some 53, op := .bin .mul .sc (.k (.int .i64 2)) (.t 52) },
    { dst := some 54, op := .mv (.t 6) },
    { dst := some 55, op := .call .blind 12 [(.t 53), (.t 54)] },
    { dst := some 56, op := .call .eff 13 [(.t 51), (.t 55)] },
    { dst := some 8, op := .alL [.nils, .nils] },
    { dst := none, op := .st 2 (.t 8) (.t 56) }]) <|
  .seq (.reg [
    { dst := some 57, op := .fld 1 (.t 8) },
    { dst := some 58, op := .ld 1 false (.t 57) },
    { dst := some 59, op := .len (.t 58) },
    { dst := some 60, op := .bin .neq .sc (.t 59) (.k (.int .i64 3)) },
    { dst := some 61, op := .mv (.t 60) },
    { dst := some 62, op := .fld 1 (.t 8), guard := some (61, false) },
    { dst := some 63, op := .ld 1 false (.t 62), guard := some (61, false) },
    { dst := some 64, op := .idx 1 (.t 63) (.k (.int .i64 0)), guard := some (61, false) },
    { dst := some 65, op := .ld 1 false (.t 64), guard := some (61, false) },
    { dst := some 66, op := .mv (.t 6), guard := some (61, false) },
    { dst := some 67, op := .bin .eql .sc (.t 66) (.k (.int .i64 1)), guard := some (61, false) },
    { dst := some 68, op := .mv (.t 67), guard := some (61, false) },
    { dst := some 69, op := .mv (.t 7), guard := some (68, true) },
    { dst := some 70, op := .bin .eql .sc (.t 69) (.k (.int .i64 0)), guard := some (68, true) },
    { dst := some 71, op := .pick (.t 68) (.t 70) (.k (.bool false)), guard := some (61, false) },
    { dst := some 72, op := .bin .neq .bl (.t 65) (.t 71), guard := some (61, false) },
    { dst := some 73, op := .pick (.t 61) (.k (.bool true)) (.t 72) },
    { dst := some 74, op := .mv (.t 73) },
    { dst := some 75, op := .fld 0 (.t 8), guard := some (74, false) },
    { dst := some 76, op := .ld 1 false (.t 75), guard := some (74, false) },
    { dst := some 77, op := .len (.t 76), guard := some (74, false) },
    { dst := some 78, op := .bin .neq .sc (.t 77) (.k (.int .i64 1)), guard := some (74, false) },
    { dst := some 79, op := .pick (.t 74) (.k (.bool true)) (.t 78) },
    { dst := some 80, op := .mv (.t 79) },
    { dst := some 81, op := .fld 0 (.t 8), guard := some (80, false) },
    { dst := some 82, op := .ld 1 false (.t 81), guard := some (80, false) },
    { dst := some 83, op := .idx 1 (.t 82) (.k (.int .i64 0)), guard := some (80, false) },
    { dst := some 84, op := .ld 1 false (.t 83), guard := some (80, false) },
    { dst := some 85, op := .bin .neq .sc (.t 84) (.k (.int .i64 0)), guard := some (80, false) },
    { dst := some 86, op := .pick (.t 80) (.k (.bool true)) (.t 85) }]) <|
  .cond (.t 86)
    (.seq (.reg [
      { dst := some 2, op := .mv (.k (.bool false)) }]) <|
    .ret)
    (.skip)) <|
  .reg [
    { dst := some 37, op := .mv (.t 5) },
    { dst := some 38, op := .bin .add .sc (.t 37) (.k (.int .i64 1)) },
    { dst := some 5, op := .mv (.t 38) }]) <|
  .seq (.reg [
    { dst := some 87, op := .call .blind 14 [] },
    { dst := some 2, op := .mv (.t 87) }]) <|
  .ret⟩

def f4 : DFn := ⟨2, [.t 4],
  .seq (.reg [
    { dst := some 2, op := .boxL (.t 0) },
    { dst := some 3, op := .boxL (.t 1) },
    { dst := some 4, op := .mv (.k (.bool false)) }]) <|
  .seq (.seq (.reg [
    { dst := some 8, op := .ld 4 true (.t 2) },
    { dst := some 9, op := .call .blind 15 [(.t 8)] },
    { dst := some 10, op := .bin .geq .sc (.t 9) (.k (.int .i64 3000)) },
    { dst := some 11, op := .mv (.t 10) },
    { dst := some 12, op := .ld 2 true (.t 3), guard := some (11, false) },
    { dst := some 13, op := .call .blind 16 [(.t 12)], guard := some (11, false) },
    { dst := some 14, op := .pick (.t 11) (.k (.bool true)) (.t 13) },
    { dst := some 15, op := .mv (.t 14) },
    { dst := some 16, op := .ld 4 true (.t 2), guard := some (15, false) },
    { dst := some 17, op := .call .blind 17 [(.t 16)], guard := some (15, false) },
    { dst := some 18, op := .un .not (.t 17), guard := some (15, false) },
    { dst := some 19, op := .pick (.t 15) (.k (.bool true)) (.t 18) }]) <|
  .cond (.t 19)
    (.seq (.reg [
      { dst := some 4, op := .mv (.k (.bool true)) }]) <|
    .ret)
    (.skip)) <|
  .seq (.reg [
    { dst := some 21, op := .ld 4 true (.t 2) },
    { dst := some 22, op := .call .eff 9 [(.t 21)] },
    { dst := some 20, op := .mv (.t 22) },
    { dst := some 23, op := .ext 0 (.t 20) },
    { dst := some 24, op := .ext 1 (.t 20) },
    { dst := some 5, op := .mv (.t 23) },
    { dst := some 6, op := .mv (.t 24) }]) <|
  .seq (.seq (.reg [
    { dst := some 25, op := .mv (.t 6) },
    { dst := some 26, op := .bin .neq .sc (.t 25) (.k (.int .i64 0)) },
    { dst := some 27, op := .mv (.t 26) },
    { dst := some 28, op := .mv (.t 5), guard := some (27, false) },
    { dst := some 29, op := .bin .eql .np (.t 28) (.k (.nilp)), guard := some (27, false) },
    { dst := some 30, op := .pick (.t 27) (.k (.bool true)) (.t 29) }]) <|
  .cond (.t 30)
    (.seq (.reg [
      { dst := some 4, op := .mv (.k (.bool false)) }]) <|
    .ret)
    (.skip)) <|
  .seq (.reg [
    { dst := some 31, op := .ld 4 true (.t 2) },
    { dst := some 32, op := .ld 2 true (.t 3) },
    { dst := some 33, op := .call .blind 18 [(.t 31), (.t 32)] },
    { dst := some 7, op := .mv (.t 33) }]) <|
  .seq (.seq (.reg [
    { dst := some 34, op := .ld 4 true (.t 2) },
    { dst := some 35, op := .ld 2 true (.t 3) },
    { dst := some 36, op := .call .blind 19 [(.t 34), (.t 35)] },
    { dst := some 37, op := .mv (.t 7) },
    { dst := some 38, op := .bin .neq .bl (.t 36) (.t 37) }]) <|
  .cond (.t 38)
    (.seq (.reg [
      { dst := some 4, op := .mv (.k (.bool false)) }]) <|
    .ret)
    (.skip)) <|
  .seq (.seq (.reg [
    { dst := some 39, op := .mv (.t 7) },
    { dst := some 40, op := .un .not (.t 39) }]) <|
  .cond (.t 40)
    (.seq (.reg [
      { dst := some 41, op := .mv (.t 5) },
      { dst := some 42, op := .ld 2 true (.t 3) },
      { dst := some 43, op := .build [.int .i64 0, .int .i64 0] [(0, 1, (.k (.int .i64 1)))] },
      { dst := some 44, op := .call .eff 11 [(.t 41), (.t 42), (.t 43)] },
      { dst := some 45, op := .bin .eql .sc (.t 44) (.k (.int .i64 1)) },
      { dst := some 46, op := .mv (.t 45) },
      { dst := some 47, op := .mv (.t 5), guard := some (46, true) },
      { dst := some 48, op := .ld 2 true (.t 3), guard := some (46, true) },
      { dst := some 49, op := .call .eff 13 [(.t 47), (.t 48)], guard := some (46, true) },
      { dst := some 50, op := .mv (.t 5), guard := some (46, true) },
      { dst := some 51, op := .call .ro 21 [(.t 50)], guard := some (46, true) },
      { dst := some 52, op := .call .blind 20 [(.t 49), (.t 51)], guard := some (46, true) },
      { dst := some 53, op := .pick (.t 46) (.t 52) (.k (.bool false)) },
      { dst := some 54, op := .mv (.t 53) },
      { dst := some 55, op := .call .blind 14 [], guard := some (54, true) },
      { dst := some 56, op := .pick (.t 54) (.t 55) (.k (.bool false)) },
      { dst := some 4, op := .mv (.t 56) }]) <|
    .ret)
    (.skip)) <|
  .seq (.drw [
    { dst := some 57, op := .mv (.t 5) },
    { dst := some 58, op := .call .ro 21 [(.t 57)] },
    { dst := some 59, op := .part 0 1 false (.t 58) },
    { dst := some 60, op := .len (.t 59) },
    { dst := some 61, op := .fld 1 (.t 2) },
    { dst := some 62, op := .ld 1 false (.t 61) },
    { dst := some 63, op := .len (.t 62) },
    { dst := some 64, op := .bin .eql .sc (.t 60) (.t 63) },
    { dst := some 65, op := .mv (.t 64) },
    { dst := some 66, op := .mv (.t 5), guard := some (65, true) },
    { dst := some 67, op := .call .ro 21 [(.t 66)], guard := some (65, true) },
    { dst := some 68, op := .part 1 1 false (.t 67), guard := some (65, true) },
    { dst := some 69, op := .len (.t 68), guard := some (65, true) },
    { dst := some 70, op := .fld 2 (.t 2), guard := some (65, true) },
    { dst := some 71, op := .ld 1 false (.t 70), guard := some (65, true) },
    { dst := some 72, op := .len (.t 71), guard := some (65, true) },
    { dst := some 73, op := .bin .eql .sc (.t 69) (.t 72), guard := some (65, true) },
    { dst := some 74, op := .pick (.t 65) (.t 73) (.k (.bool false)) },
    { dst := some 75, op := .mv (.t 74) },
    { dst := some 76, op := .call .blind 14 [], guard := some (75, true) },
    { dst := some 77, op := .pick (.t 75) (.t 76) (.k (.bool false)) },
    { dst := some 4, op := .mv (.t 77) }] [[], [], [], [], [], [], [], [], [], [], [1, 5], [], [], [], [1, 5], [], [], [], [], [1, 5, 10, 14], [], []]) <|
  .ret⟩

def f5 : DFn := ⟨2, [.t 4],
  .seq (.reg [
    { dst := some 2, op := .boxL (.t 0) },
    { dst := some 4, op := .mv (.k (.bool false)) }]) <|
  .seq (.seq (.reg [
    { dst := some 12, op := .ld 4 true (.t 2) },
    { dst := some 13, op := .call .blind 15 [(.t 12)] },
    { dst := some 14, op := .bin .geq .sc (.t 13) (.k (.int .i64 3000)) },
    { dst := some 15, op := .mv (.t 14) },
    { dst := some 16, op := .mv (.t 1), guard := some (15, false) },
    { dst := some 17, op := .call .blind 22 [(.t 16)], guard := some (15, false) },
    { dst := some 18, op := .pick (.t 15) (.k (.bool true)) (.t 17) },
    { dst := some 19, op := .mv (.t 18) },
    { dst := some 20, op := .ld 4 true (.t 2), guard := some (19, false) },
    { dst := some 21, op := .call .blind 17 [(.t 20)], guard := some (19, false) },
    { dst := some 22, op := .un .not (.t 21), guard := some (19, false) },
    { dst := some 23, op := .pick (.t 19) (.k (.bool true)) (.t 22) }]) <|
  .cond (.t 23)
    (.seq (.reg [
      { dst := some 4, op := .mv (.k (.bool true)) }]) <|
    .ret)
    (.skip)) <|
  .seq (.reg [
    { dst := some 25, op := .ld 4 true (.t 2) },
    { dst := some 26, op := .call .eff 9 [(.t 25)] },
    { dst := some 24, op := .mv (.t 26) },
    { dst := some 27, op := .ext 0 (.t 24) },
    { dst := some 28, op := .ext 1 (.t 24) },
    { dst := some 5, op := .mv (.t 27) },
    { dst := some 6, op := .mv (.t 28) }]) <|
  .seq (.seq (.reg [
    { dst := some 29, op := .mv (.t 6) },
    { dst := some 30, op := .bin .neq .sc (.t 29) (.k (.int .i64 0)) },
    { dst := some 31, op := .mv (.t 30) },
    { dst := some 32, op := .mv (.t 5), guard := some (31, false) },
    { dst := some 33, op := .bin .eql .np (.t 32) (.k (.nilp)), guard := some (31, false) },
    { dst := some 34, op := .pick (.t 31) (.k (.bool true)) (.t 33) }]) <|
  .cond (.t 34)
    (.seq (.reg [
      { dst := some 4, op := .mv (.k (.bool false)) }]) <|
    .ret)
    (.skip)) <|
  .seq (.seq (.reg [
    { dst := some 7, op := .mv (.k (.int .i64 0)) }]) <|
  .block 0 <|
  .loop [1, 2, 5, 7] [2] <|
  .seq (.seq (.reg [
    { dst := some 35, op := .mv (.t 7) },
    { dst := some 36, op := .mv (.t 1) },
    { dst := some 37, op := .len (.t 36) },
    { dst := some 38, op := .bin .lss .sc (.t 35) (.t 37) },
    { dst := some 39, op := .mv (.t 38) },
    { dst := some 40, op := .mv (.t 7), guard := some (39, true) },
    { dst := some 41, op := .bin .lss .sc (.t 40) (.k (.int .i64 60)), guard := some (39, true) },
    { dst := some 42, op := .pick (.t 39) (.t 41) (.k (.bool false)) }]) <|
  .cond (.t 42)
    (.skip)
    (.exit 0)) <|
  .seq (.block 1 <|
  .seq (.seq (.reg [
    { dst := some 45, op := .mv (.t 1) },
    { dst := some 46, op := .mv (.t 7) },
    { dst := some 47, op := .idx 6 (.t 45) (.t 46) },
    { dst := some 48, op := .fld 0 (.t 47) },
    { dst := some 49, op := .ld 1 false (.t 48) }]) <|
  .block 2 <|
  .seq (.reg [
    { dst := some 58, op := .bin .eql .sc (.t 49) (.k (.int .i64 1)) },
    { dst := some 57, op := .mv (.t 58) }]) <|
  .cond (.t 57)
    (.drw [
      { dst := some 59, op := .mv (.t 5) },
      { dst := some 60, op := .mv (.t 1) },
      { dst := some 61, op := .mv (.t 7) },
      { dst := some 62, op := .idx 6 (.t 60) (.t 61) },
      { dst := some 63, op := .fld 1 (.t 62) },
      { dst := some 64, op := .ld 2 true (.t 63) },
      { dst := some 65, op := .mv (.t 1) },
      { dst := some 66, op := .mv (.t 7) },
      { dst := some 67, op := .idx 6 (.t 65) (.t 66) },
      { dst := some 68, op := .fld 3 (.t 67) },
      { dst := some 69, op := .ld 2 true (.t 68) },
      { dst := some 70, op := .call .eff 11 [(.t 59), (.t 64), (.t 69)] }] [[], [], [], [], [], [3], [], [], [], [], [8], [3, 5, 8, 10]])
    (.seq (.reg [
      { dst := some 72, op := .bin .eql .sc (.t 49) (.k (.int .i64 2)) },
      { dst := some 71, op := .mv (.t 72) }]) <|
    .cond (.t 71)
      (.reg [
        { dst := some 73, op := .mv (.t 5) },
        { dst := some 74, op := .mv (.t 1) },
        { dst := some 75, op := .mv (.t 7) },
        { dst := some 76, op := .idx 6 (.t 74) (.t 75) },
        { dst := some 77, op := .fld 1 (.t 76) },
        { dst := some 78, op := .ld 2 true (.t 77) },
        { dst := some 79, op := .call .eff 13 [(.t 73), (.t 78)] }])
      (.reg [
        { dst := some 50, op := .mv (.t 5) },
        { dst := some 51, op := .mv (.t 1) },
        { dst := some 52, op := .mv (.t 7) },
        { dst := some 53, op := .idx 6 (.t 51) (.t 52) },
        { dst := some 54, op := .fld 5 (.t 53) },
        { dst := some 55, op := .ld 1 false (.t 54) },
        { dst := some 56, op := .call .eff 23 [(.t 50), (.t 55)] }]))) <|
  .seq (.reg [
    { dst := some 80, op := .mv (.t 5) },
    { dst := some 81, op := .call .ro 24 [(.t 80)] },
    { dst := some 8, op := .mv (.t 81) }]) <|
  .seq (.seq (.reg [
    { dst := some 82, op := .ld 4 true (.t 2) },
    { dst := some 83, op := .mv (.t 8) },
    { dst := some 84, op := .call .blind 25 [(.t 82), (.t 83)] },
    { dst := some 85, op := .un .not (.t 84) }]) <|
  .cond (.t 85)
    (.seq (.reg [
      { dst := some 4, op := .mv (.k (.bool false)) }]) <|
    .ret)
    (.skip)) <|
  .seq (.reg [
    { dst := some 9, op := .mv (.k (.int .i64 0)) }]) <|
  .block 3 <|
  .loop [1, 2, 5, 7, 8, 9] [2] <|
  .seq (.seq (.reg [
    { dst := some 86, op := .mv (.t 9) },
    { dst := some 87, op := .fld 0 (.t 2) },
    { dst := some 88, op := .ld 1 false (.t 87) },
    { dst := some 89, op := .len (.t 88) },
    { dst := some 90, op := .bin .lss .sc (.t 86) (.t 89) }]) <|
  .cond (.t 90)
    (.skip)
    (.exit 3)) <|
  .seq (.block 4 <|
  .seq (.reg [
    { dst := some 10, op := .mv (.k (.int .i64 0)) }]) <|
  .seq (.seq (.reg [
    { dst := some 11, op := .mv (.k (.int .i64 0)) }]) <|
  .block 5 <|
  .loop [1, 2, 5, 7, 8, 9, 10, 11] [2] <|
  .seq (.seq (.reg [
    { dst := some 93, op := .mv (.t 11) },
    { dst := some 94, op := .mv (.t 8) },
    { dst := some 95, op := .len (.t 94) },
    { dst := some 96, op := .bin .lss .sc (.t 93) (.t 95) }]) <|
  .cond (.t 96)
    (.skip)
    (.exit 5)) <|
  .seq (.block 6 <|
  .seq (.drw [
    { dst := some 99, op := .ld 4 true (.t 2) },
    { dst := some 100, op := .mv (.t 11) },
    { dst := some 101, op := .mv (.t 8) },
    { dst := some 102, op := .mv (.t 11) },
    { dst := some 103, op := .idx 4 (.t 101) (.t 102) },
    { dst := some 104, op := .ld 4 true (.t 103) },
    { dst := some 105, op := .mv (.t 9) },
    { dst := some 106, op := .call .blind 26 [(.t 99), (.t 100), (.t 104), (.t 105)] }] [[], [], [], [], [], [4], [], [0, 4, 5]]) <|
  .cond (.t 106)
    (.reg [
      { dst := some 107, op := .mv (.t 10) },
      { dst := some 108, op := .bin .add .sc (.t 107) (.k (.int .i64 1)) },
      { dst := some 10, op := .mv (.t 108) }])
    (.skip)) <|
  .reg [
    { dst := some 97, op := .mv (.t 11) },
    { dst := some 98, op := .bin .add .sc (.t 97) (.k (.int .i64 1)) },
    { dst := some 11, op := .mv (.t 98) }]) <|
  .seq (.reg [
    { dst := some 109, op := .mv (.t 10) },
    { dst := some 110, op := .bin .gtr .sc (.t 109) (.k (.int .i64 1)) },
    { dst := some 111, op := .mv (.t 110) },
    { dst := some 112, op := .mv (.t 5), guard := some (111, false) },
    { dst := some 113, op := .mv (.t 9), guard := some (111, false) },
    { dst := some 114, op := .call .ro 27 [(.t 112), (.t 113)], guard := some (111, false) },
    { dst := some 115, op := .bin .geq .sc (.t 114) (.k (.int .i64 0)), guard := some (111, false) },
    { dst := some 116, op := .mv (.t 10), guard := some (111, false) },
    { dst := some 117, op := .bin .eql .sc (.t 116) (.k (.int .i64 1)), guard := some (111, false) },
    { dst := some 118, op := .bin .neq .bl (.t 115) (.t 117), guard := some (111, false) },
    { dst := some 119, op := .pick (.t 111) (.k (.bool true)) (.t 118) }]) <|
  .cond (.t 119)
    (.seq (.reg [
      { dst := some 4, op := .mv (.k (.bool false)) }]) <|
    .ret)
    (.skip)) <|
  .reg [
    { dst := some 91, op := .mv (.t 9) },
    { dst := some 92, op := .bin .add .sc (.t 91) (.k (.int .i64 1)) },
    { dst := some 9, op := .mv (.t 92) }]) <|
  .reg [
    { dst := some 43, op := .mv (.t 7) },
    { dst := some 44, op := .bin .add .sc (.t 43) (.k (.int .i64 1)) },
    { dst := some 7, op := .mv (.t 44) }]) <|
  .seq (.reg [
    { dst := some 120, op := .call .blind 14 [] },
    { dst := some 4, op := .mv (.t 120) }]) <|
  .ret⟩

def f6 : DFn := ⟨1, [.t 2],
  .seq (.reg [
    { dst := some 1, op := .boxL (.t 0) },
    { dst := some 2, op := .mv (.k (.bool false)) }]) <|
  .seq (.seq (.reg [
    { dst := some 6, op := .ld 6 true (.t 1) },
    { dst := some 7, op := .bsl false 6 [.int .i64 0, .nils, .nils, .int .i64 0, .int .i64 0, .nils] 1 [(0, (.t 6))] },
    { dst := some 8, op := .call .blind 22 [(.t 7)] }]) <|
  .cond (.t 8)
    (.seq (.reg [
      { dst := some 2, op := .mv (.k (.bool true)) }]) <|
    .ret)
    (.skip)) <|
  .seq (.reg [
    { dst := some 3, op := .mv (.k (.nilp)) }]) <|
  .seq (.reg [
    { dst := some 9, op := .mv (.t 3) },
    { dst := some 10, op := .fld 1 (.t 1) },
    { dst := some 11, op := .ld 2 true (.t 10) },
    { dst := some 12, op := .call .eff 13 [(.t 9), (.t 11)] },
    { dst := some 4, op := .alL [.nils, .nils] },
    { dst := none, op := .st 2 (.t 4) (.t 12) }]) <|
  .seq (.reg [
    { dst := some 13, op := .mv (.t 3) },
    { dst := some 14, op := .call .ro 21 [(.t 13)] },
    { dst := some 5, op := .alL [.nils, .nils] },
    { dst := none, op := .st 2 (.t 5) (.t 14) }]) <|
  .seq (.drw [
    { dst := some 15, op := .mv (.t 3) },
    { dst := some 16, op := .fld 1 (.t 1) },
    { dst := some 17, op := .ld 2 true (.t 16) },
    { dst := some 18, op := .fld 3 (.t 1) },
    { dst := some 19, op := .ld 2 true (.t 18) },
    { dst := some 20, op := .call .eff 11 [(.t 15), (.t 17), (.t 19)] },
    { dst := some 21, op := .bin .eql .sc (.t 20) (.k (.int .i64 1)) },
    { dst := some 22, op := .mv (.t 21) },
    { dst := some 23, op := .fld 0 (.t 4), guard := some (22, true) },
    { dst := some 24, op := .ld 1 false (.t 23), guard := some (22, true) },
    { dst := some 25, op := .len (.t 24), guard := some (22, true) },
    { dst := some 26, op := .fld 1 (.t 4), guard := some (22, true) },
    { dst := some 27, op := .ld 1 false (.t 26), guard := some (22, true) },
    { dst := some 28, op := .len (.t 27), guard := some (22, true) },
    { dst := some 29, op := .bin .add .sc (.t 25) (.t 28), guard := some (22, true) },
    { dst := some 30, op := .fld 0 (.t 5), guard := some (22, true) },
    { dst := some 31, op := .ld 1 false (.t 30), guard := some (22, true) },
    { dst := some 32, op := .len (.t 31), guard := some (22, true) },
    { dst := some 33, op := .bin .add .sc (.t 29) (.t 32), guard := some (22, true) },
    { dst := some 34, op := .fld 1 (.t 5), guard := some (22, true) },
    { dst := some 35, op := .ld 1 false (.t 34), guard := some (22, true) },
    { dst := some 36, op := .len (.t 35), guard := some (22, true) },
    { dst := some 37, op := .bin .add .sc (.t 33) (.t 36), guard := some (22, true) },
    { dst := some 38, op := .mv (.t 3), guard := some (22, true) },
    { dst := some 39, op := .call .ro 24 [(.t 38)], guard := some (22, true) },
    { dst := some 40, op := .len (.t 39), guard := some (22, true) },
    { dst := some 41, op := .bin .add .sc (.t 37) (.t 40), guard := some (22, true) },
    { dst := some 42, op := .bin .eql .sc (.t 41) (.k (.int .i64 0)), guard := some (22, true) },
    { dst := some 43, op := .pick (.t 22) (.t 42) (.k (.bool false)) },
    { dst := some 44, op := .mv (.t 43) },
    { dst := some 45, op := .mv (.t 3), guard := some (44, true) },
    { dst := some 46, op := .call .ro 27 [(.t 45), (.k (.int .i64 0))], guard := some (44, true) },
    { dst := some 47, op := .bin .eql .sc (.t 46) (.k (.int .i64 (-1))), guard := some (44, true) },
    { dst := some 48, op := .pick (.t 44) (.t 47) (.k (.bool false)) },
    { dst := some 49, op := .mv (.t 48) },
    { dst := some 50, op := .mv (.t 3), guard := some (49, true) },
    { dst := some 51, op := .fld 5 (.t 1), guard := some (49, true) },
    { dst := some 52, op := .ld 1 false (.t 51), guard := some (49, true) },
    { dst := some 53, op := .call .eff 23 [(.t 50), (.t 52)], guard := some (49, true) },
    { dst := some 54, op := .un .not (.t 53), guard := some (49, true) },
    { dst := some 55, op := .pick (.t 49) (.t 54) (.k (.bool false)) },
    { dst := some 56, op := .mv (.t 55) },
    { dst := some 57, op := .call .blind 14 [], guard := some (56, true) },
    { dst := some 58, op := .pick (.t 56) (.t 57) (.k (.bool false)) },
    { dst := some 2, op := .mv (.t 58) }] [[], [], [], [], [], [2, 4], [], [], [], [2, 4, 5], [], [], [2, 4, 5], [], [], [], [2, 4, 5], [], [], [], [2, 4, 5], [], [], [], [2, 4, 5], [], [], [], [], [], [], [2, 4, 5, 9, 12, 16, 20, 24], [], [], [], [], [], [2, 4, 5, 9, 12, 16, 20, 24, 31], [2, 4, 5, 9, 12, 16, 20, 24, 31, 37], [], [], [], [2, 4, 5, 9, 12, 16, 20, 24, 31, 37, 38], [], []]) <|
  .ret⟩

def f7 : DFn := ⟨3, [.t 6],
  .seq (.reg [
    { dst := some 3, op := .boxL (.t 0) },
    { dst := some 6, op := .mv (.k (.bool false)) }]) <|
  .seq (.seq (.reg [
    { dst := some 13, op := .ld 4 true (.t 3) },
    { dst := some 14, op := .call .blind 15 [(.t 13)] },
    { dst := some 15, op := .bin .geq .sc (.t 14) (.k (.int .i64 3000)) },
    { dst := some 16, op := .mv (.t 15) },
    { dst := some 17, op := .mv (.t 1), guard := some (16, false) },
    { dst := some 18, op := .call .blind 22 [(.t 17)], guard := some (16, false) },
    { dst := some 19, op := .pick (.t 16) (.k (.bool true)) (.t 18) },
    { dst := some 20, op := .mv (.t 19) },
    { dst := some 21, op := .mv (.t 2), guard := some (20, false) },
    { dst := some 22, op := .call .blind 22 [(.t 21)], guard := some (20, false) },
    { dst := some 23, op := .pick (.t 20) (.k (.bool true)) (.t 22) },
    { dst := some 24, op := .mv (.t 23) },
    { dst := some 25, op := .ld 4 true (.t 3), guard := some (24, false) },
    { dst := some 26, op := .call .blind 17 [(.t 25)], guard := some (24, false) },
    { dst := some 27, op := .un .not (.t 26), guard := some (24, false) },
    { dst := some 28, op := .pick (.t 24) (.k (.bool true)) (.t 27) }]) <|
  .cond (.t 28)
    (.seq (.reg [
      { dst := some 6, op := .mv (.k (.bool true)) }]) <|
    .ret)
    (.skip)) <|
  .seq (.reg [
    { dst := some 30, op := .ld 4 true (.t 3) },
    { dst := some 31, op := .call .eff 9 [(.t 30)] },
    { dst := some 29, op := .mv (.t 31) },
    { dst := some 32, op := .ext 0 (.t 29) },
    { dst := some 33, op := .ext 1 (.t 29) },
    { dst := some 7, op := .mv (.t 32) },
    { dst := some 8, op := .mv (.t 33) }]) <|
  .seq (.reg [
    { dst := some 35, op := .ld 4 true (.t 3) },
    { dst := some 36, op := .call .eff 9 [(.t 35)] },
    { dst := some 34, op := .mv (.t 36) },
    { dst := some 37, op := .ext 0 (.t 34) },
    { dst := some 38, op := .ext 1 (.t 34) },
    { dst := some 9, op := .mv (.t 37) },
    { dst := some 10, op := .mv (.t 38) }]) <|
  .seq (.seq (.reg [
    { dst := some 39, op := .mv (.t 8) },
    { dst := some 40, op := .bin .neq .sc (.t 39) (.k (.int .i64 0)) },
    { dst := some 41, op := .mv (.t 40) },
    { dst := some 42, op := .mv (.t 10), guard := some (41, false) },
    { dst := some 43, op := .bin .neq .sc (.t 42) (.k (.int .i64 0)), guard := some (41, false) },
    { dst := some 44, op := .pick (.t 41) (.k (.bool true)) (.t 43) },
    { dst := some 45, op := .mv (.t 44) },
    { dst := some 46, op := .mv (.t 7), guard := some (45, false) },
    { dst := some 47, op := .bin .eql .np (.t 46) (.k (.nilp)), guard := some (45, false) },
    { dst := some 48, op := .pick (.t 45) (.k (.bool true)) (.t 47) },
    { dst := some 49, op := .mv (.t 48) },
    { dst := some 50, op := .mv (.t 9), guard := some (49, false) },
    { dst := some 51, op := .bin .eql .np (.t 50) (.k (.nilp)), guard := some (49, false) },
    { dst := some 52, op := .pick (.t 49) (.k (.bool true)) (.t 51) }]) <|
  .cond (.t 52)
    (.seq (.reg [
      { dst := some 6, op := .mv (.k (.bool false)) }]) <|
    .ret)
    (.skip)) <|
  .seq (.seq (.reg [
    { dst := some 11, op := .mv (.k (.int .i64 0)) }]) <|
  .block 0 <|
  .loop [1, 2, 7, 9, 11] [] <|
  .seq (.seq (.reg [
    { dst := some 53, op := .mv (.t 11) },
    { dst := some 54, op := .mv (.t 1) },
    { dst := some 55, op := .len (.t 54) },
    { dst := some 56, op := .bin .lss .sc (.t 53) (.t 55) },
    { dst := some 57, op := .mv (.t 56) },
    { dst := some 58, op := .mv (.t 11), guard := some (57, true) },
    { dst := some 59, op := .bin .lss .sc (.t 58) (.k (.int .i64 60)), guard := some (57, true) },
    { dst := some 60, op := .pick (.t 57) (.t 59) (.k (.bool false)) }]) <|
  .cond (.t 60)
    (.skip)
    (.exit 0)) <|
  .seq (.block 1 <|
  .seq (.reg [
    { dst := some 63, op := .mv (.t 1) },
    { dst := some 64, op := .mv (.t 11) },
    { dst := some 65, op := .idx 6 (.t 63) (.t 64) },
    { dst := some 66, op := .fld 0 (.t 65) },
    { dst := some 67, op := .ld 1 false (.t 66) },
    { dst := some 68, op := .bin .eql .sc (.t 67) (.k (.int .i64 1)) }]) <|
  .cond (.t 68)
    (.drw [
      { dst := some 69, op := .mv (.t 7) },
      { dst := some 70, op := .mv (.t 1) },
      { dst := some 71, op := .mv (.t 11) },
      { dst := some 72, op := .idx 6 (.t 70) (.t 71) },
      { dst := some 73, op := .fld 1 (.t 72) },
      { dst := some 74, op := .ld 2 true (.t 73) },
      { dst := some 75, op := .mv (.t 1) },
      { dst := some 76, op := .mv (.t 11) },
      { dst := some 77, op := .idx 6 (.t 75) (.t 76) },
      { dst := some 78, op := .fld 3 (.t 77) },
      { dst := some 79, op := .ld 2 true (.t 78) },
      { dst := some 80, op := .call .eff 11 [(.t 69), (.t 74), (.t 79)] }] [[], [], [], [], [], [3], [], [], [], [], [8], [3, 5, 8, 10]])
    (.reg [
      { dst := some 81, op := .mv (.t 7) },
      { dst := some 82, op := .mv (.t 1) },
      { dst := some 83, op := .mv (.t 11) },
      { dst := some 84, op := .idx 6 (.t 82) (.t 83) },
      { dst := some 85, op := .fld 1 (.t 84) },
      { dst := some 86, op := .ld 2 true (.t 85) },
      { dst := some 87, op := .call .eff 13 [(.t 81), (.t 86)] }])) <|
  .reg [
    { dst := some 61, op := .mv (.t 11) },
    { dst := some 62, op := .bin .add .sc (.t 61) (.k (.int .i64 1)) },
    { dst := some 11, op := .mv (.t 62) }]) <|
  .seq (.seq (.reg [
    { dst := some 88, op := .mv (.t 9) },
    { dst := some 89, op := .mv (.t 7) },
    { dst := some 90, op := .call .ro 24 [(.t 89)] },
    { dst := some 91, op := .call .eff 23 [(.t 88), (.t 90)] },
    { dst := some 92, op := .un .not (.t 91) }]) <|
  .cond (.t 92)
    (.seq (.reg [
      { dst := some 6, op := .mv (.k (.bool false)) }]) <|
    .ret)
    (.skip)) <|
  .seq (.seq (.reg [
    { dst := some 12, op := .mv (.k (.int .i64 0)) }]) <|
  .block 2 <|
  .loop [2, 7, 9, 12] [] <|
  .seq (.seq (.reg [
    { dst := some 93, op := .mv (.t 12) },
    { dst := some 94, op := .mv (.t 2) },
    { dst := some 95, op := .len (.t 94) },
    { dst := some 96, op := .bin .lss .sc (.t 93) (.t 95) },
    { dst := some 97, op := .mv (.t 96) },
    { dst := some 98, op := .mv (.t 12), guard := some (97, true) },
    { dst := some 99, op := .bin .lss .sc (.t 98) (.k (.int .i64 60)), guard := some (97, true) },
    { dst := some 100, op := .pick (.t 97) (.t 99) (.k (.bool false)) }]) <|
  .cond (.t 100)
    (.skip)
    (.exit 2)) <|
  .seq (.block 3 <|
  .seq (.reg [
    { dst := some 103, op := .mv (.t 2) },
    { dst := some 104, op := .mv (.t 12) },
    { dst := some 105, op := .idx 6 (.t 103) (.t 104) },
    { dst := some 106, op := .fld 0 (.t 105) },
    { dst := some 107, op := .ld 1 false (.t 106) },
    { dst := some 108, op := .bin .eql .sc (.t 107) (.k (.int .i64 1)) }]) <|
  .cond (.t 108)
    (.seq (.drw [
      { dst := some 109, op := .mv (.t 7) },
      { dst := some 110, op := .mv (.t 2) },
      { dst := some 111, op := .mv (.t 12) },
      { dst := some 112, op := .idx 6 (.t 110) (.t 111) },
      { dst := some 113, op := .fld 1 (.t 112) },
      { dst := some 114, op := .ld 2 true (.t 113) },
      { dst := some 115, op := .mv (.t 2) },
      { dst := some 116, op := .mv (.t 12) },
      { dst := some 117, op := .idx 6 (.t 115) (.t 116) },
      { dst := some 118, op := .fld 3 (.t 117) },
      { dst := some 119, op := .ld 2 true (.t 118) },
      { dst := some 120, op := .call .eff 11 [(.t 109), (.t 114), (.t 119)] },
      { dst := some 121, op := .mv (.t 9) },
      { dst := some 122, op := .mv (.t 2) },
      { dst := some 123, op := .mv (.t 12) },
      { dst := some 124, op := .idx 6 (.t 122) (.t 123) },
      { dst := some 125, op := .fld 1 (.t 124) },
      { dst := some 126, op := .ld 2 true (.t 125) },
      { dst := some 127, op := .mv (.t 2) },
      { dst := some 128, op := .mv (.t 12) },
      { dst := some 129, op := .idx 6 (.t 127) (.t 128) },
      { dst := some 130, op := .fld 3 (.t 129) },
      { dst := some 131, op := .ld 2 true (.t 130) },
      { dst := some 132, op := .call .eff 11 [(.t 121), (.t 126), (.t 131)] },
      { dst := some 133, op := .bin .neq .sc (.t 120) (.t 132) }] [[], [], [], [], [], [3], [], [], [], [], [8], [3, 5, 8, 10], [], [], [], [], [], [15], [], [], [], [], [20], [3, 5, 8, 10, 11, 15, 17, 20, 22], []]) <|
    .cond (.t 133)
      (.seq (.reg [
        { dst := some 6, op := .mv (.k (.bool false)) }]) <|
      .ret)
      (.skip))
    (.seq (.drw [
      { dst := some 134, op := .mv (.t 7) },
      { dst := some 135, op := .mv (.t 2) },
      { dst := some 136, op := .mv (.t 12) },
      { dst := some 137, op := .idx 6 (.t 135) (.t 136) },
      { dst := some 138, op := .fld 1 (.t 137) },
      { dst := some 139, op := .ld 2 true (.t 138) },
      { dst := some 140, op := .call .eff 13 [(.t 134), (.t 139)] },
      { dst := some 141, op := .mv (.t 9) },
      { dst := some 142, op := .mv (.t 2) },
      { dst := some 143, op := .mv (.t 12) },
      { dst := some 144, op := .idx 6 (.t 142) (.t 143) },
      { dst := some 145, op := .fld 1 (.t 144) },
      { dst := some 146, op := .ld 2 true (.t 145) },
      { dst := some 147, op := .call .eff 13 [(.t 141), (.t 146)] },
      { dst := some 148, op := .call .blind 20 [(.t 140), (.t 147)] },
      { dst := some 149, op := .un .not (.t 148) }] [[], [], [], [], [], [3], [3, 5], [], [], [], [], [], [10], [3, 5, 6, 10, 12], [3, 5, 6, 10, 12, 13], []]) <|
    .cond (.t 149)
      (.seq (.reg [
        { dst := some 6, op := .mv (.k (.bool false)) }]) <|
      .ret)
      (.skip))) <|
  .reg [
    { dst := some 101, op := .mv (.t 12) },
    { dst := some 102, op := .bin .add .sc (.t 101) (.k (.int .i64 1)) },
    { dst := some 12, op := .mv (.t 102) }]) <|
  .seq (.reg [
    { dst := some 150, op := .mv (.t 7) },
    { dst := some 151, op := .call .ro 24 [(.t 150)] },
    { dst := some 152, op := .mv (.t 9) },
    { dst := some 153, op := .call .ro 24 [(.t 152)] },
    { dst := some 154, op := .call .blind 28 [(.t 151), (.t 153)] },
    { dst := some 155, op := .mv (.t 154) },
    { dst := some 156, op := .call .blind 14 [], guard := some (155, true) },
    { dst := some 157, op := .pick (.t 155) (.t 156) (.k (.bool false)) },
    { dst := some 6, op := .mv (.t 157) }]) <|
  .ret⟩

def f8 : DFn := ⟨1, [.t 2],
  .seq (.reg [
    { dst := some 2, op := .mv (.k (.bool false)) }]) <|
  .seq (.reg [
    { dst := some 11, op := .call .blind 10 [] },
    { dst := some 12, op := .call .eff 9 [(.t 11)] },
    { dst := some 10, op := .mv (.t 12) },
    { dst := some 13, op := .ext 0 (.t 10) },
    { dst := some 14, op := .ext 1 (.t 10) },
    { dst := some 3, op := .mv (.t 13) },
    { dst := some 4, op := .mv (.t 14) }]) <|
  .seq (.seq (.reg [
    { dst := some 15, op := .mv (.t 4) },
    { dst := some 16, op := .bin .neq .sc (.t 15) (.k (.int .i64 0)) },
    { dst := some 17, op := .mv (.t 16) },
    { dst := some 18, op := .mv (.t 3), guard := some (17, false) },
    { dst := some 19, op := .bin .eql .np (.t 18) (.k (.nilp)), guard := some (17, false) },
    { dst := some 20, op := .pick (.t 17) (.k (.bool true)) (.t 19) },
    { dst := some 21, op := .mv (.t 20) },
    { dst := some 22, op := .mv (.t 3), guard := some (21, false) },
    { dst := some 23, op := .call .blind 12 [(.k (.int .i64 0)), (.k (.int .i64 1))], guard := some (21, false) },
    { dst := some 24, op := .build [.int .i64 0, .int .i64 0] [(0, 1, (.k (.int .i64 1)))], guard := some (21, false) },
    { dst := some 25, op := .call .eff 11 [(.t 22), (.t 23), (.t 24)], guard := some (21, false) },
    { dst := some 26, op := .bin .neq .sc (.t 25) (.k (.int .i64 0)), guard := some (21, false) },
    { dst := some 27, op := .pick (.t 21) (.k (.bool true)) (.t 26) }]) <|
  .cond (.t 27)
    (.seq (.reg [
      { dst := some 2, op := .mv (.k (.bool false)) }]) <|
    .ret)
    (.skip)) <|
  .seq (.reg [
    { dst := some 28, op := .mv (.t 3) },
    { dst := some 29, op := .call .blind 12 [(.k (.int .i64 0)), (.k (.int .i64 1))] },
    { dst := some 30, op := .call .eff 13 [(.t 28), (.t 29)] },
    { dst := some 5, op := .alL [.nils, .nils] },
    { dst := none, op := .st 2 (.t 5) (.t 30) }]) <|
  .seq (.reg [
    { dst := some 31, op := .mv (.t 3) },
    { dst := some 32, op := .call .eff 24 [(.t 31)] },
    { dst := some 6, op := .mv (.t 32) }]) <|
  .seq (.seq (.reg [
    { dst := some 33, op := .mv (.t 6) },
    { dst := some 34, op := .len (.t 33) },
    { dst := some 35, op := .bin .neq .sc (.t 34) (.k (.int .i64 2)) },
    { dst := some 36, op := .mv (.t 35) },
    { dst := some 37, op := .fld 1 (.t 5), guard := some (36, false) },
    { dst := some 38, op := .ld 1 false (.t 37), guard := some (36, false) },
    { dst := some 39, op := .len (.t 38), guard := some (36, false) },
    { dst := some 40, op := .bin .neq .sc (.t 39) (.k (.int .i64 3)), guard := some (36, false) },
    { dst := some 41, op := .pick (.t 36) (.k (.bool true)) (.t 40) }]) <|
  .cond (.t 41)
    (.seq (.reg [
      { dst := some 2, op := .mv (.k (.bool false)) }]) <|
    .ret)
    (.skip)) <|
  .seq (.reg [
    { dst := some 42, op := .build [.int .i64 0, .int .i64 0, .int .i64 0, .bool false] [(0, 1, (.k (.int .i64 2)))] },
    { dst := some 43, op := .build [.int .i64 0, .int .i64 0, .int .i64 0, .bool false] [] },
    { dst := some 44, op := .bsl true 4 [.int .i64 0, .int .i64 0, .int .i64 0, .bool false] 2 [(0, (.t 42)), (1, (.t 43))] },
    { dst := some 7, op := .mv (.t 44) }]) <|
  .seq (.reg [
    { dst := some 45, op := .mv (.t 3) },
    { dst := some 46, op := .mv (.t 7) },
    { dst := some 47, op := .call .eff 23 [(.t 45), (.t 46)] },
    { dst := some 8, op := .mv (.t 47) }]) <|
  .seq (.drw [
    { dst := some 48, op := .mv (.t 7) },
    { dst := some 49, op := .mv (.t 6) },
    { dst := some 50, op := .fld 1 (.t 5) },
    { dst := some 51, op := .ld 1 false (.t 50) },
    { dst := some 52, op := .mv (.t 0) },
    { dst := some 53, op := .mv (.t 0) },
    { dst := some 54, op := .idx 4 (.t 48) (.k (.int .i64 0)) },
    { dst := some 55, op := .fld 0 (.t 54) },
    { dst := none, op := .st 1 (.t 55) (.t 52) },
    { dst := some 56, op := .idx 4 (.t 49) (.k (.int .i64 0)) },
    { dst := some 57, op := .fld 0 (.t 56) },
    { dst := none, op := .st 1 (.t 57) (.t 53) },
    { dst := some 58, op := .idx 1 (.t 51) (.k (.int .i64 0)) },
    { dst := none, op := .st 1 (.t 58) (.k (.bool false)) }] [[], [], [], [], [], [], [], [], [6], [6, 8], [], [6, 8, 9], [3, 6, 8, 9, 11], [3, 6, 8, 9, 11, 12]]) <|
  .seq (.reg [
    { dst := some 59, op := .mv (.t 3) },
    { dst := some 60, op := .call .eff 24 [(.t 59)] },
    { dst := some 9, op := .mv (.t 60) }]) <|
  .seq (.reg [
    { dst := some 61, op := .mv (.t 8) },
    { dst := some 62, op := .mv (.t 61) },
    { dst := some 63, op := .mv (.t 9), guard := some (62, true) },
    { dst := some 64, op := .len (.t 63), guard := some (62, true) },
    { dst := some 65, op := .bin .eql .sc (.t 64) (.k (.int .i64 2)), guard := some (62, true) },
    { dst := some 66, op := .pick (.t 62) (.t 65) (.k (.bool false)) },
    { dst := some 67, op := .mv (.t 66) },
    { dst := some 68, op := .mv (.t 9), guard := some (67, true) },
    { dst := some 69, op := .idx 4 (.t 68) (.k (.int .i64 0)), guard := some (67, true) },
    { dst := some 70, op := .fld 0 (.t 69), guard := some (67, true) },
    { dst := some 71, op := .ld 1 false (.t 70), guard := some (67, true) },
    { dst := some 72, op := .bin .eql .sc (.t 71) (.k (.int .i64 2)), guard := some (67, true) },
    { dst := some 73, op := .pick (.t 67) (.t 72) (.k (.bool false)) },
    { dst := some 74, op := .mv (.t 73) },
    { dst := some 75, op := .mv (.t 3), guard := some (74, true) },
    { dst := some 76, op := .call .ro 27 [(.t 75), (.k (.int .i64 0))], guard := some (74, true) },
    { dst := some 77, op := .bin .eql .sc (.t 76) (.k (.int .i64 0)), guard := some (74, true) },
    { dst := some 78, op := .pick (.t 74) (.t 77) (.k (.bool false)) },
    { dst := some 79, op := .mv (.t 78) },
    { dst := some 80, op := .call .blind 14 [], guard := some (79, true) },
    { dst := some 81, op := .pick (.t 79) (.t 80) (.k (.bool false)) },
    { dst := some 2, op := .mv (.t 81) }]) <|
  .ret⟩

def f9 : DFn := ⟨1, [.t 2, .t 3],
  .seq (.reg [
    { dst := some 1, op := .boxL (.t 0) },
    { dst := some 2, op := .mv (.k (.nilp)) },
    { dst := some 3, op := .mv (.k (.int .i64 0)) }]) <|
  .seq (.seq (.reg [
    { dst := some 4, op := .ld 4 true (.t 1) },
    { dst := some 5, op := .call .blind 29 [(.t 4)] },
    { dst := some 6, op := .un .not (.t 5) }]) <|
  .cond (.t 6)
    (.seq (.reg [
      { dst := some 2, op := .mv (.k (.nilp)) },
      { dst := some 3, op := .mv (.k (.int .i64 9)) }]) <|
    .ret)
    (.skip)) <|
  .seq (.drw [
    { dst := some 7, op := .ld 4 true (.t 1) },
    { dst := some 8, op := .call .blind 30 [(.t 7)] },
    { dst := some 9, op := .fld 3 (.t 1) },
    { dst := some 10, op := .ld 1 false (.t 9) },
    { dst := some 11, op := .len (.t 10) },
    { dst := some 12, op := .mks true 4 32 [.int .i64 0, .int .i64 0, .int .i64 0, .bool false] (.t 11) },
    { dst := some 13, op := .build [.nils, .nils, .nils, .nils, .nils] [(0, 4, (.t 8)), (4, 1, (.t 12))] },
    { dst := some 14, op := .boxH (.t 13) },
    { dst := some 2, op := .mv (.t 14) },
    { dst := some 3, op := .mv (.k (.int .i64 0)) }] [[], [0], [], [], [], [3], [], [0, 1, 3, 5], [], []]) <|
  .ret⟩

def f10 : DFn := ⟨0, [.cell 0 4 true],
  .seq (.reg [
    { dst := some 0, op := .alL [.nils, .nils, .nils, .nils] }]) <|
  .seq (.reg [
    { dst := some 1, op := .bsl false 1 [.str []] 3 [(0, (.k (.str [97]))), (1, (.k (.str [98]))), (2, (.k (.str [99])))] },
    { dst := some 2, op := .build [.str [], .int .i64 0] [(0, 1, (.k (.str [112]))), (1, 1, (.k (.int .i64 1)))] },
    { dst := some 3, op := .bsl false 2 [.str [], .int .i64 0] 1 [(0, (.t 2))] },
    { dst := some 4, op := .bsl false 1 [.str []] 3 [(0, (.k (.str [115]))), (1, (.k (.str [116]))), (2, (.k (.str [117])))] },
    { dst := some 5, op := .bsl false 1 [.int .i64 0] 2 [(0, (.k (.int .i64 0))), (1, (.k (.int .i64 1)))] },
    { dst := some 6, op := .build [.int .i64 0, .bool false] [(0, 1, (.k (.int .i64 0)))] },
    { dst := some 7, op := .bsl false 2 [.int .i64 0, .bool false] 1 [(0, (.t 6))] },
    { dst := some 8, op := .build [.str [], .int .i64 0, .int .i64 0, .nils, .nils, .nils] [(0, 1, (.k (.str [114]))), (1, 1, (.k (.int .i64 0))), (2, 1, (.k (.int .i64 1))), (3, 1, (.t 5)), (4, 1, (.t 7))] },
    { dst := some 9, op := .bsl false 1 [.int .i64 0] 1 [(0, (.k (.int .i64 2)))] },
    { dst := some 10, op := .build [.str [], .int .i64 0, .int .i64 0, .nils, .nils, .nils] [(0, 1, (.k (.str [113]))), (1, 1, (.k (.int .i64 1))), (2, 1, (.k (.int .i64 2))), (3, 1, (.t 9))] },
    { dst := some 11, op := .bsl false 6 [.str [], .int .i64 0, .int .i64 0, .nils, .nils, .nils] 2 [(0, (.t 8)), (1, (.t 10))] },
    { dst := some 12, op := .build [.nils, .nils, .nils, .nils] [(0, 1, (.t 1)), (1, 1, (.t 3)), (2, 1, (.t 4)), (3, 1, (.t 11))] },
    { dst := none, op := .st 4 (.t 0) (.t 12) }]) <|
  .ret⟩

def f11 : DFn := ⟨3, [.t 6],
  .seq (.reg [
    { dst := some 4, op := .boxL (.t 1) },
    { dst := some 5, op := .boxL (.t 2) },
    { dst := some 6, op := .mv (.k (.int .i64 0)) }]) <|
  .seq (.block 0 <|
  .seq (.drw [
    { dst := some 8, op := .mv (.t 0) },
    { dst := some 9, op := .bin .eql .np (.t 8) (.k (.nilp)) },
    { dst := some 10, op := .mv (.t 9) },
    { dst := some 11, op := .mv (.t 0), guard := some (10, false) },
    { dst := some 12, op := .nilck (.t 11), guard := some (10, false) },
    { dst := some 13, op := .fld 0 (.t 12), guard := some (10, false) },
    { dst := some 14, op := .ld 4 true (.t 13), guard := some (10, false) },
    { dst := some 15, op := .ld 2 true (.t 4), guard := some (10, false) },
    { dst := some 16, op := .call .blind 19 [(.t 14), (.t 15)], guard := some (10, false) },
    { dst := some 17, op := .un .not (.t 16), guard := some (10, false) },
    { dst := some 18, op := .pick (.t 10) (.k (.bool true)) (.t 17) },
    { dst := some 19, op := .mv (.t 18) },
    { dst := some 20, op := .fld 0 (.t 5), guard := some (19, false) },
    { dst := some 21, op := .ld 1 false (.t 20), guard := some (19, false) },
    { dst := some 22, op := .bin .neq .sc (.t 21) (.k (.int .i64 1)), guard := some (19, false) },
    { dst := some 23, op := .mv (.t 22), guard := some (19, false) },
    { dst := some 24, op := .fld 0 (.t 5), guard := some (23, true) },
    { dst := some 25, op := .ld 1 false (.t 24), guard := some (23, true) },
    { dst := some 26, op := .bin .neq .sc (.t 25) (.k (.int .i64 2)), guard := some (23, true) },
    { dst := some 27, op := .pick (.t 23) (.t 26) (.k (.bool false)), guard := some (19, false) },
    { dst := some 28, op := .pick (.t 19) (.k (.bool true)) (.t 27) },
    { dst := some 7, op := .mv (.t 28) }] [[], [], [], [], [], [], [], [], [6, 7], [], [], [], [], [6, 7, 8], [], [], [], [6, 7, 8, 13], [], [], [], []]) <|
  .cond (.t 7)
    (.seq (.reg [
      { dst := some 6, op := .mv (.k (.int .i64 1)) }]) <|
    .ret)
    (.seq (.drw [
      { dst := some 30, op := .fld 1 (.t 5) },
      { dst := some 31, op := .ld 1 false (.t 30) },
      { dst := some 32, op := .bin .lss .sc (.t 31) (.k (.int .i64 0)) },
      { dst := some 33, op := .mv (.t 32) },
      { dst := some 34, op := .fld 1 (.t 5), guard := some (33, false) },
      { dst := some 35, op := .ld 1 false (.t 34), guard := some (33, false) },
      { dst := some 36, op := .mv (.t 0), guard := some (33, false) },
      { dst := some 37, op := .nilck (.t 36), guard := some (33, false) },
      { dst := some 38, op := .fld 4 (.t 37), guard := some (33, false) },
      { dst := some 39, op := .ld 1 false (.t 38), guard := some (33, false) },
      { dst := some 40, op := .len (.t 39), guard := some (33, false) },
      { dst := some 41, op := .bin .geq .sc (.t 35) (.t 40), guard := some (33, false) },
      { dst := some 42, op := .pick (.t 33) (.k (.bool true)) (.t 41) },
      { dst := some 29, op := .mv (.t 42) }] [[], [], [], [], [], [1], [], [], [], [1], [], [], [], []]) <|
    .cond (.t 29)
      (.seq (.reg [
        { dst := some 6, op := .mv (.k (.int .i64 5)) }]) <|
      .ret)
      (.seq (.reg [
        { dst := some 44, op := .fld 0 (.t 5) },
        { dst := some 45, op := .ld 1 false (.t 44) },
        { dst := some 46, op := .bin .eql .sc (.t 45) (.k (.int .i64 1)) },
        { dst := some 43, op := .mv (.t 46) }]) <|
      .cond (.t 43)
        (.seq (.reg [
          { dst := some 47, op := .mv (.t 0) },
          { dst := some 48, op := .ld 2 true (.t 4) },
          { dst := some 49, op := .fld 1 (.t 5) },
          { dst := some 50, op := .ld 1 false (.t 49) },
          { dst := some 51, op := .call .eff 31 [(.t 47), (.t 48), (.t 50)] },
          { dst := some 6, op := .mv (.t 51) }]) <|
        .ret)
        (.skip)))) <|
  .seq (.reg [
    { dst := some 52, op := .mv (.t 0) },
    { dst := some 53, op := .fld 1 (.t 5) },
    { dst := some 54, op := .ld 1 false (.t 53) },
    { dst := some 55, op := .call .eff 32 [(.t 52), (.t 54)] },
    { dst := some 6, op := .mv (.t 55) }]) <|
  .ret⟩

def f12 : DFn := ⟨2, [.cell 4 2 true],
  .seq (.reg [
    { dst := some 4, op := .alL [.nils, .nils] }]) <|
  .seq (.reg [
    { dst := some 7, op := .mv (.t 1) },
    { dst := some 8, op := .bsl false 1 [.int .i64 0] 1 [(0, (.t 7))] },
    { dst := some 9, op := .build [.nils, .nils] [(1, 1, (.t 8))] },
    { dst := some 5, op := .alL [.nils, .nils] },
    { dst := none, op := .st 2 (.t 5) (.t 9) }]) <|
  .seq (.seq (.reg [
    { dst := some 6, op := .mv (.k (.int .i64 0)) }]) <|
  .block 0 <|
  .loop [0, 4, 5, 6] [4, 5] <|
  .seq (.seq (.reg [
    { dst := some 10, op := .mv (.t 6) },
    { dst := some 11, op := .bin .lss .sc (.t 10) (.k (.int .i64 3)) }]) <|
  .cond (.t 11)
    (.skip)
    (.exit 0)) <|
  .seq (.block 1 <|
  .reg [
    { dst := some 14, op := .fld 0 (.t 5) },
    { dst := some 15, op := .ld 1 false (.t 14) },
    { dst := some 16, op := .mv (.t 0) },
    { dst := some 17, op := .mv (.t 6) },
    { dst := some 18, op := .cvI .u64 (.t 17) },
    { dst := some 19, op := .bin .shr .sc (.t 16) (.t 18) },
    { dst := some 20, op := .bin .and .sc (.t 19) (.k (.int .i64 1)) },
    { dst := some 21, op := .bin .eql .sc (.t 20) (.k (.int .i64 1)) },
    { dst := some 22, op := .bsl false 1 [.bool false] 1 [(0, (.t 21))] },
    { dst := some 23, op := .app 1 1 (.t 15) (.t 22) },
    { dst := some 24, op := .fld 0 (.t 5) },
    { dst := none, op := .st 1 (.t 24) (.t 23) }]) <|
  .reg [
    { dst := some 12, op := .mv (.t 6) },
    { dst := some 13, op := .bin .add .sc (.t 12) (.k (.int .i64 1)) },
    { dst := some 6, op := .mv (.t 13) }]) <|
  .seq (.reg [
    { dst := some 25, op := .ld 2 true (.t 5) },
    { dst := none, op := .st 2 (.t 4) (.t 25) }]) <|
  .ret⟩

def f13 : DFn := ⟨2, [.cell 4 2 true],
  .seq (.reg [
    { dst := some 3, op := .boxL (.t 1) },
    { dst := some 4, op := .alL [.nils, .nils] }]) <|
  .seq (.reg [
    { dst := some 10, op := .mv (.t 0) },
    { dst := some 11, op := .call .eff 21 [(.t 10)] },
    { dst := some 5, op := .alL [.nils, .nils] },
    { dst := none, op := .st 2 (.t 5) (.t 11) }]) <|
  .seq (.seq (.drw [
    { dst := some 12, op := .mv (.t 0) },
    { dst := some 13, op := .bin .eql .np (.t 12) (.k (.nilp)) },
    { dst := some 14, op := .mv (.t 13) },
    { dst := some 15, op := .mv (.t 0), guard := some (14, false) },
    { dst := some 16, op := .nilck (.t 15), guard := some (14, false) },
    { dst := some 17, op := .fld 0 (.t 16), guard := some (14, false) },
    { dst := some 18, op := .ld 4 true (.t 17), guard := some (14, false) },
    { dst := some 19, op := .ld 2 true (.t 3), guard := some (14, false) },
    { dst := some 20, op := .call .blind 19 [(.t 18), (.t 19)], guard := some (14, false) },
    { dst := some 21, op := .un .not (.t 20), guard := some (14, false) },
    { dst := some 22, op := .pick (.t 14) (.k (.bool true)) (.t 21) }] [[], [], [], [], [], [], [], [], [6, 7], [], []]) <|
  .cond (.t 22)
    (.seq (.reg [
      { dst := some 23, op := .ld 2 true (.t 5) },
      { dst := none, op := .st 2 (.t 4) (.t 23) }]) <|
    .ret)
    (.skip)) <|
  .seq (.seq (.reg [
    { dst := some 24, op := .mv (.t 0) },
    { dst := some 25, op := .nilck (.t 24) },
    { dst := some 26, op := .fld 4 (.t 25) },
    { dst := some 27, op := .ld 1 false (.t 26) },
    { dst := some 28, op := .len (.t 27) },
    { dst := some 29, op := .mv (.k (.int .i64 0)) }]) <|
  .block 0 <|
  .loop [0, 3, 4, 5, 28, 29] [3, 4, 5] <|
  .seq (.reg [
    { dst := some 30, op := .bin .lss .sc (.t 29) (.t 28) }]) <|
  .seq (.cond (.t 30)
    (.skip)
    (.exit 0)) <|
  .seq (.block 1 <|
  .seq (.reg [
    { dst := some 31, op := .mv (.t 29) },
    { dst := some 6, op := .mv (.t 31) }]) <|
  .drw [
    { dst := some 32, op := .mv (.t 0) },
    { dst := some 33, op := .nilck (.t 32) },
    { dst := some 34, op := .fld 4 (.t 33) },
    { dst := some 35, op := .ld 1 false (.t 34) },
    { dst := some 36, op := .mv (.t 6) },
    { dst := some 37, op := .mv (.t 0) },
    { dst := some 38, op := .ld 2 true (.t 3) },
    { dst := some 39, op := .mv (.t 6) },
    { dst := some 40, op := .call .ro 33 [(.t 37), (.t 38), (.t 39)] },
    { dst := some 41, op := .idx 4 (.t 35) (.t 36) },
    { dst := none, op := .st 4 (.t 41) (.t 40) }] [[], [], [], [], [], [], [], [], [6], [3, 6, 8], [3, 6, 8, 9]]) <|
  .reg [
    { dst := some 42, op := .bin .add .sc (.t 29) (.k (.int .i64 1)) },
    { dst := some 29, op := .mv (.t 42) }]) <|
  .seq (.reg [
    { dst := some 43, op := .mv (.t 0) },
    { dst := some 44, op := .ld 2 true (.t 3) },
    { dst := some 45, op := .ld 2 true (.t 5) },
    { dst := some 46, op := .call .eff 34 [(.t 43), (.t 44), (.t 45)] }]) <|
  .seq (.seq (.reg [
    { dst := some 47, op := .mv (.t 0) },
    { dst := some 48, op := .nilck (.t 47) },
    { dst := some 49, op := .fld 4 (.t 48) },
    { dst := some 50, op := .ld 1 false (.t 49) },
    { dst := some 51, op := .len (.t 50) },
    { dst := some 52, op := .mv (.k (.int .i64 0)) }]) <|
  .block 2 <|
  .loop [0, 3, 4, 5, 50, 51, 52] [3, 4, 5] <|
  .seq (.reg [
    { dst := some 53, op := .bin .lss .sc (.t 52) (.t 51) }]) <|
  .seq (.cond (.t 53)
    (.skip)
    (.exit 2)) <|
  .seq (.block 3 <|
  .seq (.reg [
    { dst := some 54, op := .mv (.t 52) },
    { dst := some 55, op := .idx 4 (.t 50) (.t 52) },
    { dst := some 56, op := .ld 4 true (.t 55) },
    { dst := some 8, op := .alL [.int .i64 0, .int .i64 0, .int .i64 0, .bool false] },
    { dst := some 7, op := .mv (.t 54) },
    { dst := none, op := .st 4 (.t 8) (.t 56) }]) <|
  .seq (.reg [
    { dst := some 57, op := .mv (.t 0) },
    { dst := some 58, op := .nilck (.t 57) },
    { dst := some 59, op := .fld 0 (.t 58) },
    { dst := some 60, op := .fld 3 (.t 59) },
    { dst := some 61, op := .ld 1 false (.t 60) },
    { dst := some 62, op := .mv (.t 7) },
    { dst := some 63, op := .idx 6 (.t 61) (.t 62) },
    { dst := some 64, op := .ld 6 true (.t 63) },
    { dst := some 9, op := .alL [.str [], .int .i64 0, .int .i64 0, .nils, .nils, .nils] },
    { dst := none, op := .st 6 (.t 9) (.t 64) }]) <|
  .seq (.reg [
    { dst := some 65, op := .fld 0 (.t 8) },
    { dst := some 66, op := .ld 1 false (.t 65) },
    { dst := some 67, op := .bin .eql .sc (.t 66) (.k (.int .i64 2)) },
    { dst := some 68, op := .mv (.t 67) },
    { dst := some 69, op := .ld 2 true (.t 3), guard := some (68, true) },
    { dst := some 70, op := .fld 3 (.t 9), guard := some (68, true) },
    { dst := some 71, op := .ld 1 false (.t 70), guard := some (68, true) },
    { dst := some 72, op := .call .blind 35 [(.t 69), (.t 71)], guard := some (68, true) },
    { dst := some 73, op := .un .not (.t 72), guard := some (68, true) },
    { dst := some 74, op := .pick (.t 68) (.t 73) (.k (.bool false)) },
    { dst := some 75, op := .mv (.t 74) },
    { dst := some 76, op := .mv (.t 0), guard := some (75, true) },
    { dst := some 77, op := .ld 2 true (.t 3), guard := some (75, true) },
    { dst := some 78, op := .mv (.t 7), guard := some (75, true) },
    { dst := some 79, op := .call .ro 36 [(.t 76), (.t 77), (.t 78)], guard := some (75, true) },
    { dst := some 80, op := .pick (.t 75) (.t 79) (.k (.bool false)) }]) <|
  .cond (.t 80)
    (.reg [
      { dst := some 81, op := .fld 1 (.t 5) },
      { dst := some 82, op := .ld 1 false (.t 81) },
      { dst := some 83, op := .fld 1 (.t 9) },
      { dst := some 84, op := .ld 1 false (.t 83) },
      { dst := some 85, op := .idx 1 (.t 82) (.t 84) },
      { dst := none, op := .st 1 (.t 85) (.k (.bool true)) }])
    (.skip)) <|
  .reg [
    { dst := some 86, op := .bin .add .sc (.t 52) (.k (.int .i64 1)) },
    { dst := some 52, op := .mv (.t 86) }]) <|
  .seq (.reg [
    { dst := some 87, op := .ld 2 true (.t 5) },
    { dst := none, op := .st 2 (.t 4) (.t 87) }]) <|
  .ret⟩

def f14 : DFn := ⟨0, [.t 0],
  .seq (.reg [
    { dst := some 0, op := .mv (.k (.bool false)) }]) <|
  .seq (.reg [
    { dst := some 7, op := .call .blind 10 [] },
    { dst := some 8, op := .call .eff 9 [(.t 7)] },
    { dst := some 6, op := .mv (.t 8) },
    { dst := some 9, op := .ext 0 (.t 6) },
    { dst := some 10, op := .ext 1 (.t 6) },
    { dst := some 1, op := .mv (.t 9) },
    { dst := some 2, op := .mv (.t 10) }]) <|
  .seq (.reg [
    { dst := some 11, op := .mks false 1 1 [.bool false] (.k (.int .i64 3)) },
    { dst := some 12, op := .bsl false 1 [.int .i64 0] 1 [(0, (.k (.int .i64 1)))] },
    { dst := some 13, op := .build [.nils, .nils] [(0, 1, (.t 11)), (1, 1, (.t 12))] },
    { dst := some 3, op := .alL [.nils, .nils] },
    { dst := none, op := .st 2 (.t 3) (.t 13) }]) <|
  .seq (.seq (.reg [
    { dst := some 14, op := .mv (.t 2) },
    { dst := some 15, op := .bin .neq .sc (.t 14) (.k (.int .i64 0)) },
    { dst := some 16, op := .mv (.t 15) },
    { dst := some 17, op := .mv (.t 1), guard := some (16, false) },
    { dst := some 18, op := .bin .eql .np (.t 17) (.k (.nilp)), guard := some (16, false) },
    { dst := some 19, op := .pick (.t 16) (.k (.bool true)) (.t 18) },
    { dst := some 20, op := .mv (.t 19) },
    { dst := some 21, op := .mv (.t 1), guard := some (20, false) },
    { dst := some 22, op := .ld 2 true (.t 3), guard := some (20, false) },
    { dst := some 23, op := .build [.int .i64 0, .int .i64 0] [(0, 1, (.k (.int .i64 1)))], guard := some (20, false) },
    { dst := some 24, op := .call .eff 11 [(.t 21), (.t 22), (.t 23)], guard := some (20, false) },
    { dst := some 25, op := .bin .neq .sc (.t 24) (.k (.int .i64 0)), guard := some (20, false) },
    { dst := some 26, op := .pick (.t 20) (.k (.bool true)) (.t 25) },
    { dst := some 27, op := .mv (.t 26) },
    { dst := some 28, op := .mv (.t 1), guard := some (27, false) },
    { dst := some 29, op := .call .ro 27 [(.t 28), (.k (.int .i64 1))], guard := some (27, false) },
    { dst := some 30, op := .bin .neq .sc (.t 29) (.k (.int .i64 0)), guard := some (27, false) },
    { dst := some 31, op := .pick (.t 27) (.k (.bool true)) (.t 30) }]) <|
  .cond (.t 31)
    (.seq (.reg [
      { dst := some 0, op := .mv (.k (.bool false)) }]) <|
    .ret)
    (.skip)) <|
  .seq (.reg [
    { dst := some 32, op := .mv (.t 1) },
    { dst := some 33, op := .ld 2 true (.t 3) },
    { dst := some 34, op := .call .eff 13 [(.t 32), (.t 33)] },
    { dst := some 4, op := .alL [.nils, .nils] },
    { dst := none, op := .st 2 (.t 4) (.t 34) }]) <|
  .seq (.reg [
    { dst := some 35, op := .mv (.t 1) },
    { dst := some 36, op := .call .ro 24 [(.t 35)] },
    { dst := some 5, op := .mv (.t 36) }]) <|
  .seq (.reg [
    { dst := some 37, op := .mv (.t 5) },
    { dst := some 38, op := .len (.t 37) },
    { dst := some 39, op := .bin .eql .sc (.t 38) (.k (.int .i64 2)) },
    { dst := some 40, op := .mv (.t 39) },
    { dst := some 41, op := .mv (.t 5), guard := some (40, true) },
    { dst := some 42, op := .idx 4 (.t 41) (.k (.int .i64 0)), guard := some (40, true) },
    { dst := some 43, op := .fld 0 (.t 42), guard := some (40, true) },
    { dst := some 44, op := .ld 1 false (.t 43), guard := some (40, true) },
    { dst := some 45, op := .bin .eql .sc (.t 44) (.k (.int .i64 2)), guard := some (40, true) },
    { dst := some 46, op := .pick (.t 40) (.t 45) (.k (.bool false)) },
    { dst := some 47, op := .mv (.t 46) },
    { dst := some 48, op := .fld 1 (.t 4), guard := some (47, true) },
    { dst := some 49, op := .ld 1 false (.t 48), guard := some (47, true) },
    { dst := some 50, op := .len (.t 49), guard := some (47, true) },
    { dst := some 51, op := .bin .eql .sc (.t 50) (.k (.int .i64 3)), guard := some (47, true) },
    { dst := some 52, op := .pick (.t 47) (.t 51) (.k (.bool false)) },
    { dst := some 53, op := .mv (.t 52) },
    { dst := some 54, op := .fld 1 (.t 4), guard := some (53, true) },
    { dst := some 55, op := .ld 1 false (.t 54), guard := some (53, true) },
    { dst := some 56, op := .idx 1 (.t 55) (.k (.int .i64 0)), guard := some (53, true) },
    { dst := some 57, op := .ld 1 false (.t 56), guard := some (53, true) },
    { dst := some 58, op := .pick (.t 53) (.t 57) (.k (.bool false)) },
    { dst := some 59, op := .mv (.t 58) },
    { dst := some 60, op := .fld 1 (.t 4), guard := some (59, true) },
    { dst := some 61, op := .ld 1 false (.t 60), guard := some (59, true) },
    { dst := some 62, op := .idx 1 (.t 61) (.k (.int .i64 1)), guard := some (59, true) },
    { dst := some 63, op := .ld 1 false (.t 62), guard := some (59, true) },
    { dst := some 64, op := .un .not (.t 63), guard := some (59, true) },
    { dst := some 65, op := .pick (.t 59) (.t 64) (.k (.bool false)) },
    { dst := some 66, op := .mv (.t 65) },
    { dst := some 67, op := .fld 0 (.t 4), guard := some (66, true) },
    { dst := some 68, op := .ld 1 false (.t 67), guard := some (66, true) },
    { dst := some 69, op := .len (.t 68), guard := some (66, true) },
    { dst := some 70, op := .bin .eql .sc (.t 69) (.k (.int .i64 1)), guard := some (66, true) },
    { dst := some 71, op := .pick (.t 66) (.t 70) (.k (.bool false)) },
    { dst := some 72, op := .mv (.t 71) },
    { dst := some 73, op := .fld 0 (.t 4), guard := some (72, true) },
    { dst := some 74, op := .ld 1 false (.t 73), guard := some (72, true) },
    { dst := some 75, op := .idx 1 (.t 74) (.k (.int .i64 0)), guard := some (72, true) },
    { dst := some 76, op := .ld 1 false (.t 75), guard := some (72, true) },
    { dst := some 77, op := .bin .eql .sc (.t 76) (.k (.int .i64 0)), guard := some (72, true) },
    { dst := some 78, op := .pick (.t 72) (.t 77) (.k (.bool false)) },
    { dst := some 0, op := .mv (.t 78) }]) <|
  .ret⟩

def f15 : DFn := ⟨1, [.t 2],
  .seq (.reg [
    { dst := some 1, op := .boxL (.t 0) },
    { dst := some 2, op := .mv (.k (.int .i64 0)) }]) <|
  .seq (.reg [
    { dst := some 9, op := .fld 0 (.t 1) },
    { dst := some 10, op := .ld 1 false (.t 9) },
    { dst := some 11, op := .len (.t 10) },
    { dst := some 12, op := .fld 1 (.t 1) },
    { dst := some 13, op := .ld 1 false (.t 12) },
    { dst := some 14, op := .len (.t 13) },
    { dst := some 15, op := .bin .add .sc (.t 11) (.t 14) },
    { dst := some 16, op := .fld 2 (.t 1) },
    { dst := some 17, op := .ld 1 false (.t 16) },
    { dst := some 18, op := .len (.t 17) },
    { dst := some 19, op := .bin .add .sc (.t 15) (.t 18) },
    { dst := some 20, op := .fld 3 (.t 1) },
    { dst := some 21, op := .ld 1 false (.t 20) },
    { dst := some 22, op := .len (.t 21) },
    { dst := some 23, op := .bin .add .sc (.t 19) (.t 22) },
    { dst := some 3, op := .mv (.t 23) }]) <|
  .seq (.seq (.reg [
    { dst := some 4, op := .mv (.k (.int .i64 0)) }]) <|
  .block 0 <|
  .loop [1, 3, 4] [1] <|
  .seq (.seq (.reg [
    { dst := some 24, op := .mv (.t 4) },
    { dst := some 25, op := .fld 0 (.t 1) },
    { dst := some 26, op := .ld 1 false (.t 25) },
    { dst := some 27, op := .len (.t 26) },
    { dst := some 28, op := .bin .lss .sc (.t 24) (.t 27) },
    { dst := some 29, op := .mv (.t 28) },
    { dst := some 30, op := .mv (.t 3), guard := some (29, true) },
    { dst := some 31, op := .bin .lss .sc (.t 30) (.k (.int .i64 3000)), guard := some (29, true) },
    { dst := some 32, op := .pick (.t 29) (.t 31) (.k (.bool false)) }]) <|
  .cond (.t 32)
    (.skip)
    (.exit 0)) <|
  .seq (.block 1 <|
  .reg [
    { dst := some 35, op := .mv (.t 3) },
    { dst := some 36, op := .fld 0 (.t 1) },
    { dst := some 37, op := .ld 1 false (.t 36) },
    { dst := some 38, op := .mv (.t 4) },
    { dst := some 39, op := .idx 1 (.t 37) (.t 38) },
    { dst := some 40, op := .ld 1 false (.t 39) },
    { dst := some 41, op := .lenS (.t 40) },
    { dst := some 42, op := .bin .add .sc (.t 35) (.t 41) },
    { dst := some 3, op := .mv (.t 42) }]) <|
  .reg [
    { dst := some 33, op := .mv (.t 4) },
    { dst := some 34, op := .bin .add .sc (.t 33) (.k (.int .i64 1)) },
    { dst := some 4, op := .mv (.t 34) }]) <|
  .seq (.seq (.reg [
    { dst := some 5, op := .mv (.k (.int .i64 0)) }]) <|
  .block 2 <|
  .loop [1, 3, 5] [1] <|
  .seq (.seq (.reg [
    { dst := some 43, op := .mv (.t 5) },
    { dst := some 44, op := .fld 1 (.t 1) },
    { dst := some 45, op := .ld 1 false (.t 44) },
    { dst := some 46, op := .len (.t 45) },
    { dst := some 47, op := .bin .lss .sc (.t 43) (.t 46) },
    { dst := some 48, op := .mv (.t 47) },
    { dst := some 49, op := .mv (.t 3), guard := some (48, true) },
    { dst := some 50, op := .bin .lss .sc (.t 49) (.k (.int .i64 3000)), guard := some (48, true) },
    { dst := some 51, op := .pick (.t 48) (.t 50) (.k (.bool false)) }]) <|
  .cond (.t 51)
    (.skip)
    (.exit 2)) <|
  .seq (.block 3 <|
  .reg [
    { dst := some 54, op := .mv (.t 3) },
    { dst := some 55, op := .fld 1 (.t 1) },
    { dst := some 56, op := .ld 1 false (.t 55) },
    { dst := some 57, op := .mv (.t 5) },
    { dst := some 58, op := .idx 2 (.t 56) (.t 57) },
    { dst := some 59, op := .fld 0 (.t 58) },
    { dst := some 60, op := .ld 1 false (.t 59) },
    { dst := some 61, op := .lenS (.t 60) },
    { dst := some 62, op := .bin .add .sc (.t 54) (.t 61) },
    { dst := some 3, op := .mv (.t 62) }]) <|
  .reg [
    { dst := some 52, op := .mv (.t 5) },
    { dst := some 53, op := .bin .add .sc (.t 52) (.k (.int .i64 1)) },
    { dst := some 5, op := .mv (.t 53) }]) <|
  .seq (.seq (.reg [
    { dst := some 6, op := .mv (.k (.int .i64 0)) }]) <|
  .block 4 <|
  .loop [1, 3, 6] [1] <|
  .seq (.seq (.reg [
    { dst := some 63, op := .mv (.t 6) },
    { dst := some 64, op := .fld 2 (.t 1) },
    { dst := some 65, op := .ld 1 false (.t 64) },
    { dst := some 66, op := .len (.t 65) },
    { dst := some 67, op := .bin .lss .sc (.t 63) (.t 66) },
    { dst := some 68, op := .mv (.t 67) },
    { dst := some 69, op := .mv (.t 3), guard := some (68, true) },
    { dst := some 70, op := .bin .lss .sc (.t 69) (.k (.int .i64 3000)), guard := some (68, true) },
    { dst := some 71, op := .pick (.t 68) (.t 70) (.k (.bool false)) }]) <|
  .cond (.t 71)
    (.skip)
    (.exit 4)) <|
  .seq (.block 5 <|
  .reg [
    { dst := some 74, op := .mv (.t 3) },
    { dst := some 75, op := .fld 2 (.t 1) },
    { dst := some 76, op := .ld 1 false (.t 75) },
    { dst := some 77, op := .mv (.t 6) },
    { dst := some 78, op := .idx 1 (.t 76) (.t 77) },
    { dst := some 79, op := .ld 1 false (.t 78) },
    { dst := some 80, op := .lenS (.t 79) },
    { dst := some 81, op := .bin .add .sc (.t 74) (.t 80) },
    { dst := some 3, op := .mv (.t 81) }]) <|
  .reg [
    { dst := some 72, op := .mv (.t 6) },
    { dst := some 73, op := .bin .add .sc (.t 72) (.k (.int .i64 1)) },
    { dst := some 6, op := .mv (.t 73) }]) <|
  .seq (.seq (.reg [
    { dst := some 7, op := .mv (.k (.int .i64 0)) }]) <|
  .block 6 <|
  .loop [1, 3, 7] [1] <|
  .seq (.seq (.reg [
    { dst := some 82, op := .mv (.t 7) },
    { dst := some 83, op := .fld 3 (.t 1) },
    { dst := some 84, op := .ld 1 false (.t 83) },
    { dst := some 85, op := .len (.t 84) },
    { dst := some 86, op := .bin .lss .sc (.t 82) (.t 85) },
    { dst := some 87, op := .mv (.t 86) },
    { dst := some 88, op := .mv (.t 3), guard := some (87, true) },
    { dst := some 89, op := .bin .lss .sc (.t 88) (.k (.int .i64 3000)), guard := some (87, true) },
    { dst := some 90, op := .pick (.t 87) (.t 89) (.k (.bool false)) }]) <|
  .cond (.t 90)
    (.skip)
    (.exit 6)) <|
  .seq (.block 7 <|
  .seq (.reg [
    { dst := some 93, op := .fld 3 (.t 1) },
    { dst := some 94, op := .ld 1 false (.t 93) },
    { dst := some 95, op := .mv (.t 7) },
    { dst := some 96, op := .idx 6 (.t 94) (.t 95) },
    { dst := some 97, op := .ld 6 true (.t 96) },
    { dst := some 8, op := .alL [.str [], .int .i64 0, .int .i64 0, .nils, .nils, .nils] },
    { dst := none, op := .st 6 (.t 8) (.t 97) }]) <|
  .reg [
    { dst := some 98, op := .mv (.t 3) },
    { dst := some 99, op := .fld 0 (.t 8) },
    { dst := some 100, op := .ld 1 false (.t 99) },
    { dst := some 101, op := .lenS (.t 100) },
    { dst := some 102, op := .bin .add .sc (.t 98) (.t 101) },
    { dst := some 103, op := .fld 3 (.t 8) },
    { dst := some 104, op := .ld 1 false (.t 103) },
    { dst := some 105, op := .len (.t 104) },
    { dst := some 106, op := .bin .add .sc (.t 102) (.t 105) },
    { dst := some 107, op := .fld 4 (.t 8) },
    { dst := some 108, op := .ld 1 false (.t 107) },
    { dst := some 109, op := .len (.t 108) },
    { dst := some 110, op := .bin .add .sc (.t 106) (.t 109) },
    { dst := some 111, op := .fld 5 (.t 8) },
    { dst := some 112, op := .ld 1 false (.t 111) },
    { dst := some 113, op := .len (.t 112) },
    { dst := some 114, op := .bin .add .sc (.t 110) (.t 113) },
    { dst := some 3, op := .mv (.t 114) }]) <|
  .reg [
    { dst := some 91, op := .mv (.t 7) },
    { dst := some 92, op := .bin .add .sc (.t 91) (.k (.int .i64 1)) },
    { dst := some 7, op := .mv (.t 92) }]) <|
  .seq (.reg [
    { dst := some 115, op := .mv (.t 3) },
    { dst := some 2, op := .mv (.t 115) }]) <|
  .ret⟩

def f16 : DFn := ⟨1, [.t 2],
  .seq (.reg [
    { dst := some 1, op := .boxL (.t 0) },
    { dst := some 2, op := .mv (.k (.bool false)) }]) <|
  .seq (.reg [
    { dst := some 3, op := .fld 0 (.t 1) },
    { dst := some 4, op := .ld 1 false (.t 3) },
    { dst := some 5, op := .len (.t 4) },
    { dst := some 6, op := .bin .gtr .sc (.t 5) (.k (.int .i64 50)) },
    { dst := some 7, op := .mv (.t 6) },
    { dst := some 8, op := .fld 1 (.t 1), guard := some (7, false) },
    { dst := some 9, op := .ld 1 false (.t 8), guard := some (7, false) },
    { dst := some 10, op := .len (.t 9), guard := some (7, false) },
    { dst := some 11, op := .bin .gtr .sc (.t 10) (.k (.int .i64 50)), guard := some (7, false) },
    { dst := some 12, op := .pick (.t 7) (.k (.bool true)) (.t 11) },
    { dst := some 2, op := .mv (.t 12) }]) <|
  .ret⟩

def f17 : DFn := ⟨1, [.t 2],
  .seq (.reg [
    { dst := some 1, op := .boxL (.t 0) },
    { dst := some 2, op := .mv (.k (.bool false)) }]) <|
  .seq (.seq (.reg [
    { dst := some 8, op := .fld 0 (.t 1) },
    { dst := some 9, op := .ld 1 false (.t 8) },
    { dst := some 10, op := .len (.t 9) },
    { dst := some 11, op := .bin .lss .sc (.t 10) (.k (.int .i64 1)) },
    { dst := some 12, op := .mv (.t 11) },
    { dst := some 13, op := .fld 0 (.t 1), guard := some (12, false) },
    { dst := some 14, op := .ld 1 false (.t 13), guard := some (12, false) },
    { dst := some 15, op := .len (.t 14), guard := some (12, false) },
    { dst := some 16, op := .bin .gtr .sc (.t 15) (.k (.int .i64 10)), guard := some (12, false) },
    { dst := some 17, op := .pick (.t 12) (.k (.bool true)) (.t 16) },
    { dst := some 18, op := .mv (.t 17) },
    { dst := some 19, op := .fld 2 (.t 1), guard := some (18, false) },
    { dst := some 20, op := .ld 1 false (.t 19), guard := some (18, false) },
    { dst := some 21, op := .len (.t 20), guard := some (18, false) },
    { dst := some 22, op := .bin .lss .sc (.t 21) (.k (.int .i64 1)), guard := some (18, false) },
    { dst := some 23, op := .pick (.t 18) (.k (.bool true)) (.t 22) },
    { dst := some 24, op := .mv (.t 23) },
    { dst := some 25, op := .fld 2 (.t 1), guard := some (24, false) },
    { dst := some 26, op := .ld 1 false (.t 25), guard := some (24, false) },
    { dst := some 27, op := .len (.t 26), guard := some (24, false) },
    { dst := some 28, op := .bin .gtr .sc (.t 27) (.k (.int .i64 6)), guard := some (24, false) },
    { dst := some 29, op := .pick (.t 24) (.k (.bool true)) (.t 28) },
    { dst := some 30, op := .mv (.t 29) },
    { dst := some 31, op := .fld 1 (.t 1), guard := some (30, false) },
    { dst := some 32, op := .ld 1 false (.t 31), guard := some (30, false) },
    { dst := some 33, op := .len (.t 32), guard := some (30, false) },
    { dst := some 34, op := .bin .gtr .sc (.t 33) (.k (.int .i64 5)), guard := some (30, false) },
    { dst := some 35, op := .pick (.t 30) (.k (.bool true)) (.t 34) },
    { dst := some 36, op := .mv (.t 35) },
    { dst := some 37, op := .fld 3 (.t 1), guard := some (36, false) },
    { dst := some 38, op := .ld 1 false (.t 37), guard := some (36, false) },
    { dst := some 39, op := .len (.t 38), guard := some (36, false) },
    { dst := some 40, op := .bin .gtr .sc (.t 39) (.k (.int .i64 6)), guard := some (36, false) },
    { dst := some 41, op := .pick (.t 36) (.k (.bool true)) (.t 40) }]) <|
  .cond (.t 41)
    (.seq (.reg [
      { dst := some 2, op := .mv (.k (.bool false)) }]) <|
    .ret)
    (.skip)) <|
  .seq (.reg [
    { dst := some 3, op := .mv (.k (.nils)) },
    { dst := some 4, op := .mv (.k (.nils)) }]) <|
  .seq (.seq (.reg [
    { dst := some 5, op := .mv (.k (.int .i64 0)) }]) <|
  .block 0 <|
  .loop [1, 3, 4, 5] [1] <|
  .seq (.seq (.reg [
    { dst := some 42, op := .mv (.t 5) },
    { dst := some 43, op := .fld 1 (.t 1) },
    { dst := some 44, op := .ld 1 false (.t 43) },
    { dst := some 45, op := .len (.t 44) },
    { dst := some 46, op := .bin .lss .sc (.t 42) (.t 45) }]) <|
  .cond (.t 46)
    (.skip)
    (.exit 0)) <|
  .seq (.block 1 <|
  .seq (.reg [
    { dst := some 49, op := .mv (.t 3) },
    { dst := some 50, op := .fld 1 (.t 1) },
    { dst := some 51, op := .ld 1 false (.t 50) },
    { dst := some 52, op := .mv (.t 5) },
    { dst := some 53, op := .idx 2 (.t 51) (.t 52) },
    { dst := some 54, op := .fld 0 (.t 53) },
    { dst := some 55, op := .ld 1 false (.t 54) },
    { dst := some 56, op := .bsl false 1 [.str []] 1 [(0, (.t 55))] },
    { dst := some 57, op := .app 1 16 (.t 49) (.t 56) },
    { dst := some 3, op := .mv (.t 57) }]) <|
  .seq (.drw [
    { dst := some 58, op := .fld 1 (.t 1) },
    { dst := some 59, op := .ld 1 false (.t 58) },
    { dst := some 60, op := .mv (.t 5) },
    { dst := some 61, op := .idx 2 (.t 59) (.t 60) },
    { dst := some 62, op := .fld 1 (.t 61) },
    { dst := some 63, op := .ld 1 false (.t 62) },
    { dst := some 64, op := .bin .lss .sc (.t 63) (.k (.int .i64 0)) },
    { dst := some 65, op := .mv (.t 64) },
    { dst := some 66, op := .fld 1 (.t 1), guard := some (65, false) },
    { dst := some 67, op := .ld 1 false (.t 66), guard := some (65, false) },
    { dst := some 68, op := .mv (.t 5), guard := some (65, false) },
    { dst := some 69, op := .idx 2 (.t 67) (.t 68), guard := some (65, false) },
    { dst := some 70, op := .fld 1 (.t 69), guard := some (65, false) },
    { dst := some 71, op := .ld 1 false (.t 70), guard := some (65, false) },
    { dst := some 72, op := .fld 0 (.t 1), guard := some (65, false) },
    { dst := some 73, op := .ld 1 false (.t 72), guard := some (65, false) },
    { dst := some 74, op := .len (.t 73), guard := some (65, false) },
    { dst := some 75, op := .bin .geq .sc (.t 71) (.t 74), guard := some (65, false) },
    { dst := some 76, op := .pick (.t 65) (.k (.bool true)) (.t 75) }] [[], [], [], [1], [], [1, 3], [], [], [], [1, 3, 5], [], [1, 3, 5, 9], [], [1, 3, 5, 9, 11], [], [1, 3, 5], [], [], []]) <|
  .cond (.t 76)
    (.seq (.reg [
      { dst := some 2, op := .mv (.k (.bool false)) }]) <|
    .ret)
    (.skip)) <|
  .reg [
    { dst := some 47, op := .mv (.t 5) },
    { dst := some 48, op := .bin .add .sc (.t 47) (.k (.int .i64 1)) },
    { dst := some 5, op := .mv (.t 48) }]) <|
  .seq (.seq (.reg [
    { dst := some 6, op := .mv (.k (.int .i64 0)) }]) <|
  .block 2 <|
  .loop [1, 3, 4, 6] [1] <|
  .seq (.seq (.reg [
    { dst := some 77, op := .mv (.t 6) },
    { dst := some 78, op := .fld 3 (.t 1) },
    { dst := some 79, op := .ld 1 false (.t 78) },
    { dst := some 80, op := .len (.t 79) },
    { dst := some 81, op := .bin .lss .sc (.t 77) (.t 80) }]) <|
  .cond (.t 81)
    (.skip)
    (.exit 2)) <|
  .seq (.block 3 <|
  .reg [
    { dst := some 84, op := .mv (.t 4) },
    { dst := some 85, op := .fld 3 (.t 1) },
    { dst := some 86, op := .ld 1 false (.t 85) },
    { dst := some 87, op := .mv (.t 6) },
    { dst := some 88, op := .idx 6 (.t 86) (.t 87) },
    { dst := some 89, op := .fld 0 (.t 88) },
    { dst := some 90, op := .ld 1 false (.t 89) },
    { dst := some 91, op := .bsl false 1 [.str []] 1 [(0, (.t 90))] },
    { dst := some 92, op := .app 1 16 (.t 84) (.t 91) },
    { dst := some 4, op := .mv (.t 92) }]) <|
  .reg [
    { dst := some 82, op := .mv (.t 6) },
    { dst := some 83, op := .bin .add .sc (.t 82) (.k (.int .i64 1)) },
    { dst := some 6, op := .mv (.t 83) }]) <|
  .seq (.seq (.reg [
    { dst := some 93, op := .fld 0 (.t 1) },
    { dst := some 94, op := .ld 1 false (.t 93) },
    { dst := some 95, op := .call .blind 37 [(.t 94)] },
    { dst := some 96, op := .un .not (.t 95) },
    { dst := some 97, op := .mv (.t 96) },
    { dst := some 98, op := .fld 2 (.t 1), guard := some (97, false) },
    { dst := some 99, op := .ld 1 false (.t 98), guard := some (97, false) },
    { dst := some 100, op := .call .blind 37 [(.t 99)], guard := some (97, false) },
    { dst := some 101, op := .un .not (.t 100), guard := some (97, false) },
    { dst := some 102, op := .pick (.t 97) (.k (.bool true)) (.t 101) },
    { dst := some 103, op := .mv (.t 102) },
    { dst := some 104, op := .mv (.t 3), guard := some (103, false) },
    { dst := some 105, op := .call .blind 37 [(.t 104)], guard := some (103, false) },
    { dst := some 106, op := .un .not (.t 105), guard := some (103, false) },
    { dst := some 107, op := .pick (.t 103) (.k (.bool true)) (.t 106) },
    { dst := some 108, op := .mv (.t 107) },
    { dst := some 109, op := .mv (.t 4), guard := some (108, false) },
    { dst := some 110, op := .call .blind 37 [(.t 109)], guard := some (108, false) },
    { dst := some 111, op := .un .not (.t 110), guard := some (108, false) },
    { dst := some 112, op := .pick (.t 108) (.k (.bool true)) (.t 111) }]) <|
  .cond (.t 112)
    (.seq (.reg [
      { dst := some 2, op := .mv (.k (.bool false)) }]) <|
    .ret)
    (.skip)) <|
  .seq (.seq (.reg [
    { dst := some 7, op := .mv (.k (.int .i64 0)) }]) <|
  .block 4 <|
  .loop [1, 7] [1] <|
  .seq (.seq (.reg [
    { dst := some 113, op := .mv (.t 7) },
    { dst := some 114, op := .fld 3 (.t 1) },
    { dst := some 115, op := .ld 1 false (.t 114) },
    { dst := some 116, op := .len (.t 115) },
    { dst := some 117, op := .bin .lss .sc (.t 113) (.t 116) }]) <|
  .cond (.t 117)
    (.skip)
    (.exit 4)) <|
  .seq (.block 5 <|
  .seq (.drw [
    { dst := some 120, op := .ld 4 true (.t 1) },
    { dst := some 121, op := .fld 3 (.t 1) },
    { dst := some 122, op := .ld 1 false (.t 121) },
    { dst := some 123, op := .mv (.t 7) },
    { dst := some 124, op := .idx 6 (.t 122) (.t 123) },
    { dst := some 125, op := .ld 6 true (.t 124) },
    { dst := some 126, op := .call .blind 38 [(.t 120), (.t 125)] },
    { dst := some 127, op := .un .not (.t 126) }] [[], [], [], [], [2], [2, 4], [0, 2, 4, 5], []]) <|
  .cond (.t 127)
    (.seq (.reg [
      { dst := some 2, op := .mv (.k (.bool false)) }]) <|
    .ret)
    (.skip)) <|
  .reg [
    { dst := some 118, op := .mv (.t 7) },
    { dst := some 119, op := .bin .add .sc (.t 118) (.k (.int .i64 1)) },
    { dst := some 7, op := .mv (.t 119) }]) <|
  .seq (.reg [
    { dst := some 2, op := .mv (.k (.bool true)) }]) <|
  .ret⟩

def f18 : DFn := ⟨2, [.t 4],
  .seq (.reg [
    { dst := some 2, op := .boxL (.t 0) },
    { dst := some 3, op := .boxL (.t 1) },
    { dst := some 4, op := .mv (.k (.bool false)) }]) <|
  .seq (.seq (.reg [
    { dst := some 5, op := .mv (.k (.int .i64 0)) }]) <|
  .block 0 <|
  .loop [2, 3, 5] [2, 3] <|
  .seq (.seq (.reg [
    { dst := some 6, op := .mv (.t 5) },
    { dst := some 7, op := .fld 1 (.t 3) },
    { dst := some 8, op := .ld 1 false (.t 7) },
    { dst := some 9, op := .len (.t 8) },
    { dst := some 10, op := .bin .lss .sc (.t 6) (.t 9) }]) <|
  .cond (.t 10)
    (.skip)
    (.exit 0)) <|
  .seq (.block 1 <|
  .seq (.reg [
    { dst := some 13, op := .fld 1 (.t 3) },
    { dst := some 14, op := .ld 1 false (.t 13) },
    { dst := some 15, op := .mv (.t 5) },
    { dst := some 16, op := .idx 1 (.t 14) (.t 15) },
    { dst := some 17, op := .ld 1 false (.t 16) },
    { dst := some 18, op := .bin .lss .sc (.t 17) (.k (.int .i64 0)) },
    { dst := some 19, op := .mv (.t 18) },
    { dst := some 20, op := .fld 1 (.t 3), guard := some (19, false) },
    { dst := some 21, op := .ld 1 false (.t 20), guard := some (19, false) },
    { dst := some 22, op := .mv (.t 5), guard := some (19, false) },
    { dst := some 23, op := .idx 1 (.t 21) (.t 22), guard := some (19, false) },
    { dst := some 24, op := .ld 1 false (.t 23), guard := some (19, false) },
    { dst := some 25, op := .bin .gtr .sc (.t 24) (.k (.int .i64 2)), guard := some (19, false) },
    { dst := some 26, op := .pick (.t 19) (.k (.bool true)) (.t 25) }]) <|
  .cond (.t 26)
    (.seq (.reg [
      { dst := some 4, op := .mv (.k (.bool false)) }]) <|
    .ret)
    (.skip)) <|
  .reg [
    { dst := some 11, op := .mv (.t 5) },
    { dst := some 12, op := .bin .add .sc (.t 11) (.k (.int .i64 1)) },
    { dst := some 5, op := .mv (.t 12) }]) <|
  .seq (.reg [
    { dst := some 27, op := .fld 0 (.t 3) },
    { dst := some 28, op := .ld 1 false (.t 27) },
    { dst := some 29, op := .len (.t 28) },
    { dst := some 30, op := .fld 0 (.t 2) },
    { dst := some 31, op := .ld 1 false (.t 30) },
    { dst := some 32, op := .len (.t 31) },
    { dst := some 33, op := .bin .eql .sc (.t 29) (.t 32) },
    { dst := some 34, op := .mv (.t 33) },
    { dst := some 35, op := .fld 1 (.t 3), guard := some (34, true) },
    { dst := some 36, op := .ld 1 false (.t 35), guard := some (34, true) },
    { dst := some 37, op := .len (.t 36), guard := some (34, true) },
    { dst := some 38, op := .fld 1 (.t 2), guard := some (34, true) },
    { dst := some 39, op := .ld 1 false (.t 38), guard := some (34, true) },
    { dst := some 40, op := .len (.t 39), guard := some (34, true) },
    { dst := some 41, op := .bin .eql .sc (.t 37) (.t 40), guard := some (34, true) },
    { dst := some 42, op := .pick (.t 34) (.t 41) (.k (.bool false)) },
    { dst := some 4, op := .mv (.t 42) }]) <|
  .ret⟩

def f19 : DFn := ⟨2, [.t 4],
  .seq (.reg [
    { dst := some 2, op := .boxL (.t 0) },
    { dst := some 3, op := .boxL (.t 1) },
    { dst := some 4, op := .mv (.k (.bool false)) }]) <|
  .seq (.reg [
    { dst := some 5, op := .mv (.f 39) }]) <|
  .seq (.reg [
    { dst := some 6, op := .fld 0 (.t 3) },
    { dst := some 7, op := .ld 1 false (.t 6) },
    { dst := some 8, op := .len (.t 7) },
    { dst := some 9, op := .fld 0 (.t 2) },
    { dst := some 10, op := .ld 1 false (.t 9) },
    { dst := some 11, op := .len (.t 10) },
    { dst := some 12, op := .bin .eql .sc (.t 8) (.t 11) },
    { dst := some 13, op := .mv (.t 12) },
    { dst := some 14, op := .fld 1 (.t 3), guard := some (13, true) },
    { dst := some 15, op := .ld 1 false (.t 14), guard := some (13, true) },
    { dst := some 16, op := .len (.t 15), guard := some (13, true) },
    { dst := some 17, op := .fld 1 (.t 2), guard := some (13, true) },
    { dst := some 18, op := .ld 1 false (.t 17), guard := some (13, true) },
    { dst := some 19, op := .len (.t 18), guard := some (13, true) },
    { dst := some 20, op := .bin .eql .sc (.t 16) (.t 19), guard := some (13, true) },
    { dst := some 21, op := .pick (.t 13) (.t 20) (.k (.bool false)) },
    { dst := some 22, op := .mv (.t 21) },
    { dst := some 23, op := .fld 1 (.t 3), guard := some (22, true) },
    { dst := some 24, op := .ld 1 false (.t 23), guard := some (22, true) },
    { dst := some 25, op := .mv (.t 5), guard := some (22, true) },
    { dst := some 26, op := .call .ro 40 [(.t 24), (.t 25)], guard := some (22, true) },
    { dst := some 27, op := .un .not (.t 26), guard := some (22, true) },
    { dst := some 28, op := .pick (.t 22) (.t 27) (.k (.bool false)) },
    { dst := some 4, op := .mv (.t 28) }]) <|
  .ret⟩

def f20 : DFn := ⟨2, [.t 4],
  .seq (.reg [
    { dst := some 2, op := .boxL (.t 0) },
    { dst := some 3, op := .boxL (.t 1) },
    { dst := some 4, op := .mv (.k (.bool false)) }]) <|
  .seq (.seq (.reg [
    { dst := some 7, op := .fld 0 (.t 2) },
    { dst := some 8, op := .ld 1 false (.t 7) },
    { dst := some 9, op := .len (.t 8) },
    { dst := some 10, op := .fld 0 (.t 3) },
    { dst := some 11, op := .ld 1 false (.t 10) },
    { dst := some 12, op := .len (.t 11) },
    { dst := some 13, op := .bin .neq .sc (.t 9) (.t 12) },
    { dst := some 14, op := .mv (.t 13) },
    { dst := some 15, op := .fld 1 (.t 2), guard := some (14, false) },
    { dst := some 16, op := .ld 1 false (.t 15), guard := some (14, false) },
    { dst := some 17, op := .len (.t 16), guard := some (14, false) },
    { dst := some 18, op := .fld 1 (.t 3), guard := some (14, false) },
    { dst := some 19, op := .ld 1 false (.t 18), guard := some (14, false) },
    { dst := some 20, op := .len (.t 19), guard := some (14, false) },
    { dst := some 21, op := .bin .neq .sc (.t 17) (.t 20), guard := some (14, false) },
    { dst := some 22, op := .pick (.t 14) (.k (.bool true)) (.t 21) }]) <|
  .cond (.t 22)
    (.seq (.reg [
      { dst := some 4, op := .mv (.k (.bool false)) }]) <|
    .ret)
    (.skip)) <|
  .seq (.seq (.reg [
    { dst := some 5, op := .mv (.k (.int .i64 0)) }]) <|
  .block 0 <|
  .loop [2, 3, 5] [2, 3] <|
  .seq (.seq (.reg [
    { dst := some 23, op := .mv (.t 5) },
    { dst := some 24, op := .fld 0 (.t 2) },
    { dst := some 25, op := .ld 1 false (.t 24) },
    { dst := some 26, op := .len (.t 25) },
    { dst := some 27, op := .bin .lss .sc (.t 23) (.t 26) }]) <|
  .cond (.t 27)
    (.skip)
    (.exit 0)) <|
  .seq (.block 1 <|
  .seq (.drw [
    { dst := some 30, op := .fld 0 (.t 2) },
    { dst := some 31, op := .ld 1 false (.t 30) },
    { dst := some 32, op := .mv (.t 5) },
    { dst := some 33, op := .idx 1 (.t 31) (.t 32) },
    { dst := some 34, op := .ld 1 false (.t 33) },
    { dst := some 35, op := .fld 0 (.t 3) },
    { dst := some 36, op := .ld 1 false (.t 35) },
    { dst := some 37, op := .mv (.t 5) },
    { dst := some 38, op := .idx 1 (.t 36) (.t 37) },
    { dst := some 39, op := .ld 1 false (.t 38) },
    { dst := some 40, op := .bin .neq .sc (.t 34) (.t 39) }] [[], [], [], [1], [1, 3], [], [], [], [6], [6, 8], []]) <|
  .cond (.t 40)
    (.seq (.reg [
      { dst := some 4, op := .mv (.k (.bool false)) }]) <|
    .ret)
    (.skip)) <|
  .reg [
    { dst := some 28, op := .mv (.t 5) },
    { dst := some 29, op := .bin .add .sc (.t 28) (.k (.int .i64 1)) },
    { dst := some 5, op := .mv (.t 29) }]) <|
  .seq (.seq (.reg [
    { dst := some 6, op := .mv (.k (.int .i64 0)) }]) <|
  .block 2 <|
  .loop [2, 3, 6] [2, 3] <|
  .seq (.seq (.reg [
    { dst := some 41, op := .mv (.t 6) },
    { dst := some 42, op := .fld 1 (.t 2) },
    { dst := some 43, op := .ld 1 false (.t 42) },
    { dst := some 44, op := .len (.t 43) },
    { dst := some 45, op := .bin .lss .sc (.t 41) (.t 44) }]) <|
  .cond (.t 45)
    (.skip)
    (.exit 2)) <|
  .seq (.block 3 <|
  .seq (.drw [
    { dst := some 48, op := .fld 1 (.t 2) },
    { dst := some 49, op := .ld 1 false (.t 48) },
    { dst := some 50, op := .mv (.t 6) },
    { dst := some 51, op := .idx 1 (.t 49) (.t 50) },
    { dst := some 52, op := .ld 1 false (.t 51) },
    { dst := some 53, op := .fld 1 (.t 3) },
    { dst := some 54, op := .ld 1 false (.t 53) },
    { dst := some 55, op := .mv (.t 6) },
    { dst := some 56, op := .idx 1 (.t 54) (.t 55) },
    { dst := some 57, op := .ld 1 false (.t 56) },
    { dst := some 58, op := .bin .neq .bl (.t 52) (.t 57) }] [[], [], [], [1], [1, 3], [], [], [], [6], [6, 8], []]) <|
  .cond (.t 58)
    (.seq (.reg [
      { dst := some 4, op := .mv (.k (.bool false)) }]) <|
    .ret)
    (.skip)) <|
  .reg [
    { dst := some 46, op := .mv (.t 6) },
    { dst := some 47, op := .bin .add .sc (.t 46) (.k (.int .i64 1)) },
    { dst := some 6, op := .mv (.t 47) }]) <|
  .seq (.reg [
    { dst := some 4, op := .mv (.k (.bool true)) }]) <|
  .ret⟩

def f21 : DFn := ⟨1, [.cell 2 2 true],
  .seq (.reg [
    { dst := some 2, op := .alL [.nils, .nils] }]) <|
  .seq (.seq (.reg [
    { dst := some 3, op := .mv (.t 0) },
    { dst := some 4, op := .bin .eql .np (.t 3) (.k (.nilp)) }]) <|
  .cond (.t 4)
    (.seq (.reg [
      { dst := some 5, op := .build [.nils, .nils] [] },
      { dst := none, op := .st 2 (.t 2) (.t 5) }]) <|
    .ret)
    (.skip)) <|
  .seq (.drw [
    { dst := some 6, op := .mv (.t 0) },
    { dst := some 7, op := .nilck (.t 6) },
    { dst := some 8, op := .fld 0 (.t 7) },
    { dst := some 9, op := .fld 1 (.t 8) },
    { dst := some 10, op := .ld 1 false (.t 9) },
    { dst := some 11, op := .len (.t 10) },
    { dst := some 12, op := .mks true 1 8 [.int .i64 0] (.t 11) },
    { dst := some 13, op := .mv (.t 0) },
    { dst := some 14, op := .nilck (.t 13) },
    { dst := some 15, op := .fld 0 (.t 14) },
    { dst := some 16, op := .fld 2 (.t 15) },
    { dst := some 17, op := .ld 1 false (.t 16) },
    { dst := some 18, op := .len (.t 17) },
    { dst := some 19, op := .mks true 1 1 [.bool false] (.t 18) },
    { dst := some 20, op := .build [.nils, .nils] [(0, 1, (.t 12)), (1, 1, (.t 19))] },
    { dst := none, op := .st 2 (.t 2) (.t 20) }] [[], [], [], [], [], [], [4], [], [], [], [], [], [], [11], [], [4, 6, 11, 13]]) <|
  .ret⟩

def f22 : DFn := ⟨1, [.t 2],
  .seq (.reg [
    { dst := some 2, op := .mv (.k (.bool false)) }]) <|
  .seq (.seq (.reg [
    { dst := some 3, op := .mv (.k (.int .i64 0)) }]) <|
  .block 0 <|
  .loop [0, 3] [] <|
  .seq (.seq (.reg [
    { dst := some 4, op := .mv (.t 3) },
    { dst := some 5, op := .mv (.t 0) },
    { dst := some 6, op := .len (.t 5) },
    { dst := some 7, op := .bin .lss .sc (.t 4) (.t 6) },
    { dst := some 8, op := .mv (.t 7) },
    { dst := some 9, op := .mv (.t 3), guard := some (8, true) },
    { dst := some 10, op := .bin .lss .sc (.t 9) (.k (.int .i64 60)), guard := some (8, true) },
    { dst := some 11, op := .pick (.t 8) (.t 10) (.k (.bool false)) }]) <|
  .cond (.t 11)
    (.skip)
    (.exit 0)) <|
  .seq (.block 1 <|
  .seq (.reg [
    { dst := some 14, op := .mv (.t 0) },
    { dst := some 15, op := .mv (.t 3) },
    { dst := some 16, op := .idx 6 (.t 14) (.t 15) },
    { dst := some 17, op := .fld 1 (.t 16) },
    { dst := some 18, op := .ld 2 true (.t 17) },
    { dst := some 19, op := .call .blind 16 [(.t 18)] },
    { dst := some 20, op := .mv (.t 19) },
    { dst := some 21, op := .mv (.t 0), guard := some (20, false) },
    { dst := some 22, op := .mv (.t 3), guard := some (20, false) },
    { dst := some 23, op := .idx 6 (.t 21) (.t 22), guard := some (20, false) },
    { dst := some 24, op := .fld 5 (.t 23), guard := some (20, false) },
    { dst := some 25, op := .ld 1 false (.t 24), guard := some (20, false) },
    { dst := some 26, op := .len (.t 25), guard := some (20, false) },
    { dst := some 27, op := .bin .gtr .sc (.t 26) (.k (.int .i64 50)), guard := some (20, false) },
    { dst := some 28, op := .pick (.t 20) (.k (.bool true)) (.t 27) }]) <|
  .cond (.t 28)
    (.seq (.reg [
      { dst := some 2, op := .mv (.k (.bool true)) }]) <|
    .ret)
    (.skip)) <|
  .reg [
    { dst := some 12, op := .mv (.t 3) },
    { dst := some 13, op := .bin .add .sc (.t 12) (.k (.int .i64 1)) },
    { dst := some 3, op := .mv (.t 13) }]) <|
  .seq (.reg [
    { dst := some 2, op := .mv (.k (.bool false)) }]) <|
  .ret⟩

def f23 : DFn := ⟨2, [.t 4],
  .seq (.reg [
    { dst := some 4, op := .mv (.k (.bool false)) }]) <|
  .seq (.seq (.reg [
    { dst := some 9, op := .mv (.t 0) },
    { dst := some 10, op := .bin .eql .np (.t 9) (.k (.nilp)) },
    { dst := some 11, op := .mv (.t 10) },
    { dst := some 12, op := .mv (.t 1), guard := some (11, false) },
    { dst := some 13, op := .len (.t 12), guard := some (11, false) },
    { dst := some 14, op := .mv (.t 0), guard := some (11, false) },
    { dst := some 15, op := .nilck (.t 14), guard := some (11, false) },
    { dst := some 16, op := .fld 4 (.t 15), guard := some (11, false) },
    { dst := some 17, op := .ld 1 false (.t 16), guard := some (11, false) },
    { dst := some 18, op := .len (.t 17), guard := some (11, false) },
    { dst := some 19, op := .bin .neq .sc (.t 13) (.t 18), guard := some (11, false) },
    { dst := some 20, op := .pick (.t 11) (.k (.bool true)) (.t 19) }]) <|
  .cond (.t 20)
    (.seq (.reg [
      { dst := some 4, op := .mv (.k (.bool false)) }]) <|
    .ret)
    (.skip)) <|
  .seq (.seq (.reg [
    { dst := some 21, op := .mv (.t 1) },
    { dst := some 22, op := .len (.t 21) },
    { dst := some 23, op := .mv (.k (.int .i64 0)) }]) <|
  .block 0 <|
  .loop [0, 1, 21, 22, 23] [] <|
  .seq (.reg [
    { dst := some 24, op := .bin .lss .sc (.t 23) (.t 22) }]) <|
  .seq (.cond (.t 24)
    (.skip)
    (.exit 0)) <|
  .seq (.block 1 <|
  .seq (.reg [
    { dst := some 25, op := .mv (.t 23) },
    { dst := some 26, op := .idx 4 (.t 21) (.t 23) },
    { dst := some 27, op := .ld 4 true (.t 26) },
    { dst := some 6, op := .alL [.int .i64 0, .int .i64 0, .int .i64 0, .bool false] },
    { dst := some 5, op := .mv (.t 25) },
    { dst := none, op := .st 4 (.t 6) (.t 27) }]) <|
  .seq (.seq (.reg [
    { dst := some 28, op := .mv (.t 0) },
    { dst := some 29, op := .mv (.t 5) },
    { dst := some 30, op := .ld 4 true (.t 6) },
    { dst := some 31, op := .call .ro 41 [(.t 28), (.t 29), (.t 30)] },
    { dst := some 32, op := .un .not (.t 31) }]) <|
  .cond (.t 32)
    (.seq (.reg [
      { dst := some 4, op := .mv (.k (.bool false)) }]) <|
    .ret)
    (.skip)) <|
  .seq (.reg [
    { dst := some 33, op := .mv (.t 1) },
    { dst := some 34, op := .mv (.t 5) },
    { dst := some 35, op := .slc 4 (.t 33) none (some (.t 34)) none },
    { dst := some 36, op := .len (.t 35) },
    { dst := some 37, op := .mv (.k (.int .i64 0)) }]) <|
  .block 2 <|
  .loop [0, 1, 5, 6, 21, 22, 23, 35, 36, 37] [6] <|
  .seq (.reg [
    { dst := some 38, op := .bin .lss .sc (.t 37) (.t 36) }]) <|
  .seq (.cond (.t 38)
    (.skip)
    (.exit 2)) <|
  .seq (.block 3 <|
  .seq (.reg [
    { dst := some 39, op := .mv (.t 37) },
    { dst := some 40, op := .idx 4 (.t 35) (.t 37) },
    { dst := some 41, op := .ld 4 true (.t 40) },
    { dst := some 8, op := .alL [.int .i64 0, .int .i64 0, .int .i64 0, .bool false] },
    { dst := some 7, op := .mv (.t 39) },
    { dst := none, op := .st 4 (.t 8) (.t 41) }]) <|
  .seq (.reg [
    { dst := some 42, op := .fld 0 (.t 6) },
    { dst := some 43, op := .ld 1 false (.t 42) },
    { dst := some 44, op := .bin .neq .sc (.t 43) (.k (.int .i64 0)) },
    { dst := some 45, op := .mv (.t 44) },
    { dst := some 46, op := .fld 0 (.t 8), guard := some (45, true) },
    { dst := some 47, op := .ld 1 false (.t 46), guard := some (45, true) },
    { dst := some 48, op := .bin .neq .sc (.t 47) (.k (.int .i64 0)), guard := some (45, true) },
    { dst := some 49, op := .pick (.t 45) (.t 48) (.k (.bool false)) },
    { dst := some 50, op := .mv (.t 49) },
    { dst := some 51, op := .mv (.t 0), guard := some (50, true) },
    { dst := some 52, op := .nilck (.t 51), guard := some (50, true) },
    { dst := some 53, op := .fld 0 (.t 52), guard := some (50, true) },
    { dst := some 54, op := .ld 4 true (.t 53), guard := some (50, true) },
    { dst := some 55, op := .mv (.t 5), guard := some (50, true) },
    { dst := some 56, op := .mv (.t 7), guard := some (50, true) },
    { dst := some 57, op := .call .blind 42 [(.t 54), (.t 55), (.t 56)], guard := some (50, true) },
    { dst := some 58, op := .pick (.t 50) (.t 57) (.k (.bool false)) }]) <|
  .cond (.t 58)
    (.seq (.reg [
      { dst := some 4, op := .mv (.k (.bool false)) }]) <|
    .ret)
    (.skip)) <|
  .reg [
    { dst := some 59, op := .bin .add .sc (.t 37) (.k (.int .i64 1)) },
    { dst := some 37, op := .mv (.t 59) }]) <|
  .reg [
    { dst := some 60, op := .bin .add .sc (.t 23) (.k (.int .i64 1)) },
    { dst := some 23, op := .mv (.t 60) }]) <|
  .seq (.reg [
    { dst := some 61, op := .mv (.t 0) },
    { dst := some 62, op := .mv (.t 1) },
    { dst := some 63, op := .call .eff 43 [(.t 62)] },
    { dst := some 64, op := .nilck (.t 61) },
    { dst := some 65, op := .fld 4 (.t 64) },
    { dst := none, op := .st 1 (.t 65) (.t 63) }]) <|
  .seq (.reg [
    { dst := some 4, op := .mv (.k (.bool true)) }]) <|
  .ret⟩

def f24 : DFn := ⟨1, [.t 2],
  .seq (.reg [
    { dst := some 2, op := .mv (.k (.nils)) }]) <|
  .seq (.seq (.reg [
    { dst := some 3, op := .mv (.t 0) },
    { dst := some 4, op := .bin .eql .np (.t 3) (.k (.nilp)) }]) <|
  .cond (.t 4)
    (.seq (.reg [
      { dst := some 2, op := .mv (.k (.nils)) }]) <|
    .ret)
    (.skip)) <|
  .seq (.reg [
    { dst := some 5, op := .mv (.t 0) },
    { dst := some 6, op := .nilck (.t 5) },
    { dst := some 7, op := .fld 4 (.t 6) },
    { dst := some 8, op := .ld 1 false (.t 7) },
    { dst := some 9, op := .call .eff 43 [(.t 8)] },
    { dst := some 2, op := .mv (.t 9) }]) <|
  .ret⟩

def f25 : DFn := ⟨2, [.t 4],
  .seq (.reg [
    { dst := some 2, op := .boxL (.t 0) },
    { dst := some 4, op := .mv (.k (.bool false)) }]) <|
  .seq (.seq (.reg [
    { dst := some 7, op := .mv (.t 1) },
    { dst := some 8, op := .len (.t 7) },
    { dst := some 9, op := .fld 3 (.t 2) },
    { dst := some 10, op := .ld 1 false (.t 9) },
    { dst := some 11, op := .len (.t 10) },
    { dst := some 12, op := .bin .neq .sc (.t 8) (.t 11) }]) <|
  .cond (.t 12)
    (.seq (.reg [
      { dst := some 4, op := .mv (.k (.bool false)) }]) <|
    .ret)
    (.skip)) <|
  .seq (.seq (.reg [
    { dst := some 5, op := .mv (.k (.int .i64 0)) }]) <|
  .block 0 <|
  .loop [1, 2, 5] [2] <|
  .seq (.seq (.reg [
    { dst := some 13, op := .mv (.t 5) },
    { dst := some 14, op := .mv (.t 1) },
    { dst := some 15, op := .len (.t 14) },
    { dst := some 16, op := .bin .lss .sc (.t 13) (.t 15) }]) <|
  .cond (.t 16)
    (.skip)
    (.exit 0)) <|
  .seq (.block 1 <|
  .seq (.seq (.drw [
    { dst := some 19, op := .mv (.t 1) },
    { dst := some 20, op := .mv (.t 5) },
    { dst := some 21, op := .idx 4 (.t 19) (.t 20) },
    { dst := some 22, op := .ld 4 true (.t 21) },
    { dst := some 23, op := .fld 3 (.t 2) },
    { dst := some 24, op := .ld 1 false (.t 23) },
    { dst := some 25, op := .mv (.t 5) },
    { dst := some 26, op := .idx 6 (.t 24) (.t 25) },
    { dst := some 27, op := .fld 3 (.t 26) },
    { dst := some 28, op := .ld 1 false (.t 27) },
    { dst := some 29, op := .call .blind 44 [(.t 22), (.t 28)] },
    { dst := some 30, op := .un .not (.t 29) }] [[], [], [], [2], [], [], [], [5], [], [5, 7], [2, 3, 5, 7, 9], []]) <|
  .cond (.t 30)
    (.seq (.reg [
      { dst := some 4, op := .mv (.k (.bool false)) }]) <|
    .ret)
    (.skip)) <|
  .seq (.reg [
    { dst := some 6, op := .mv (.k (.int .i64 0)) }]) <|
  .block 2 <|
  .loop [1, 2, 5, 6] [2] <|
  .seq (.seq (.reg [
    { dst := some 31, op := .mv (.t 6) },
    { dst := some 32, op := .mv (.t 5) },
    { dst := some 33, op := .bin .lss .sc (.t 31) (.t 32) }]) <|
  .cond (.t 33)
    (.skip)
    (.exit 2)) <|
  .seq (.block 3 <|
  .seq (.reg [
    { dst := some 36, op := .mv (.t 1) },
    { dst := some 37, op := .mv (.t 5) },
    { dst := some 38, op := .idx 4 (.t 36) (.t 37) },
    { dst := some 39, op := .fld 0 (.t 38) },
    { dst := some 40, op := .ld 1 false (.t 39) },
    { dst := some 41, op := .bin .neq .sc (.t 40) (.k (.int .i64 0)) },
    { dst := some 42, op := .mv (.t 41) },
    { dst := some 43, op := .mv (.t 1), guard := some (42, true) },
    { dst := some 44, op := .mv (.t 6), guard := some (42, true) },
    { dst := some 45, op := .idx 4 (.t 43) (.t 44), guard := some (42, true) },
    { dst := some 46, op := .fld 0 (.t 45), guard := some (42, true) },
    { dst := some 47, op := .ld 1 false (.t 46), guard := some (42, true) },
    { dst := some 48, op := .bin .neq .sc (.t 47) (.k (.int .i64 0)), guard := some (42, true) },
    { dst := some 49, op := .pick (.t 42) (.t 48) (.k (.bool false)) },
    { dst := some 50, op := .mv (.t 49) },
    { dst := some 51, op := .ld 4 true (.t 2), guard := some (50, true) },
    { dst := some 52, op := .mv (.t 5), guard := some (50, true) },
    { dst := some 53, op := .mv (.t 6), guard := some (50, true) },
    { dst := some 54, op := .call .blind 45 [(.t 51), (.t 52), (.t 53)], guard := some (50, true) },
    { dst := some 55, op := .pick (.t 50) (.t 54) (.k (.bool false)) }]) <|
  .cond (.t 55)
    (.seq (.reg [
      { dst := some 4, op := .mv (.k (.bool false)) }]) <|
    .ret)
    (.skip)) <|
  .reg [
    { dst := some 34, op := .mv (.t 6) },
    { dst := some 35, op := .bin .add .sc (.t 34) (.k (.int .i64 1)) },
    { dst := some 6, op := .mv (.t 35) }]) <|
  .reg [
    { dst := some 17, op := .mv (.t 5) },
    { dst := some 18, op := .bin .add .sc (.t 17) (.k (.int .i64 1)) },
    { dst := some 5, op := .mv (.t 18) }]) <|
  .seq (.reg [
    { dst := some 4, op := .mv (.k (.bool true)) }]) <|
  .ret⟩

def f26 : DFn := ⟨4, [.t 8],
  .seq (.reg [
    { dst := some 4, op := .boxL (.t 0) },
    { dst := some 6, op := .boxL (.t 2) },
    { dst := some 8, op := .mv (.k (.bool false)) }]) <|
  .seq (.seq (.reg [
    { dst := some 9, op := .fld 0 (.t 6) },
    { dst := some 10, op := .ld 1 false (.t 9) }]) <|
  .block 0 <|
  .seq (.seq (.reg [
    { dst := some 12, op := .bin .eql .sc (.t 10) (.k (.int .i64 1)) },
    { dst := some 11, op := .mv (.t 12) }]) <|
  .cond (.t 11)
    (.skip)
    (.seq (.reg [
      { dst := some 13, op := .bin .eql .sc (.t 10) (.k (.int .i64 2)) },
      { dst := some 11, op := .mv (.t 13) }]) <|
    .cond (.t 11)
      (.skip)
      (.reg [
        { dst := some 14, op := .bin .eql .sc (.t 10) (.k (.int .i64 4)) },
        { dst := some 11, op := .mv (.t 14) }]))) <|
  .cond (.t 11)
    (.seq (.reg [
      { dst := some 15, op := .fld 3 (.t 4) },
      { dst := some 16, op := .ld 1 false (.t 15) },
      { dst := some 17, op := .mv (.t 1) },
      { dst := some 18, op := .idx 6 (.t 16) (.t 17) },
      { dst := some 19, op := .fld 3 (.t 18) },
      { dst := some 20, op := .ld 1 false (.t 19) },
      { dst := some 21, op := .mv (.t 3) },
      { dst := some 22, op := .call .blind 46 [(.t 20), (.t 21)] },
      { dst := some 8, op := .mv (.t 22) }]) <|
    .ret)
    (.seq (.reg [
      { dst := some 24, op := .bin .eql .sc (.t 10) (.k (.int .i64 3)) },
      { dst := some 23, op := .mv (.t 24) }]) <|
    .cond (.t 23)
      (.seq (.drw [
        { dst := some 25, op := .fld 3 (.t 4) },
        { dst := some 26, op := .ld 1 false (.t 25) },
        { dst := some 27, op := .mv (.t 1) },
        { dst := some 28, op := .idx 6 (.t 26) (.t 27) },
        { dst := some 29, op := .fld 3 (.t 28) },
        { dst := some 30, op := .ld 1 false (.t 29) },
        { dst := some 31, op := .fld 2 (.t 6) },
        { dst := some 32, op := .ld 1 false (.t 31) },
        { dst := some 33, op := .slc 1 (.t 30) (some (.t 32)) none none },
        { dst := some 34, op := .mv (.t 3) },
        { dst := some 35, op := .call .blind 46 [(.t 33), (.t 34)] },
        { dst := some 8, op := .mv (.t 35) }] [[], [], [], [1], [], [1, 3], [], [], [], [], [1, 3, 5, 7], []]) <|
      .ret)
      (.skip))) <|
  .seq (.reg [
    { dst := some 8, op := .mv (.k (.bool false)) }]) <|
  .ret⟩

def f27 : DFn := ⟨2, [.t 4],
  .seq (.reg [
    { dst := some 4, op := .mv (.k (.int .i64 0)) }]) <|
  .seq (.seq (.reg [
    { dst := some 6, op := .mv (.t 0) },
    { dst := some 7, op := .bin .eql .np (.t 6) (.k (.nilp)) }]) <|
  .cond (.t 7)
    (.seq (.reg [
      { dst := some 4, op := .mv (.k (.int .i64 (-1))) }]) <|
    .ret)
    (.skip)) <|
  .seq (.seq (.reg [
    { dst := some 8, op := .mv (.t 0) },
    { dst := some 9, op := .nilck (.t 8) },
    { dst := some 10, op := .fld 4 (.t 9) },
    { dst := some 11, op := .ld 1 false (.t 10) },
    { dst := some 12, op := .len (.t 11) },
    { dst := some 13, op := .mv (.k (.int .i64 0)) }]) <|
  .block 0 <|
  .loop [0, 1, 12, 13] [] <|
  .seq (.reg [
    { dst := some 14, op := .bin .lss .sc (.t 13) (.t 12) }]) <|
  .seq (.cond (.t 14)
    (.skip)
    (.exit 0)) <|
  .seq (.block 1 <|
  .seq (.reg [
    { dst := some 15, op := .mv (.t 13) },
    { dst := some 5, op := .mv (.t 15) }]) <|
  .seq (.reg [
    { dst := some 16, op := .mv (.t 0) },
    { dst := some 17, op := .mv (.t 5) },
    { dst := some 18, op := .call .ro 48 [(.t 16), (.t 17)] },
    { dst := some 19, op := .mv (.t 1) },
    { dst := some 20, op := .call .blind 47 [(.t 18), (.t 19)] }]) <|
  .cond (.t 20)
    (.seq (.reg [
      { dst := some 21, op := .mv (.t 5) },
      { dst := some 4, op := .mv (.t 21) }]) <|
    .ret)
    (.skip)) <|
  .reg [
    { dst := some 22, op := .bin .add .sc (.t 13) (.k (.int .i64 1)) },
    { dst := some 13, op := .mv (.t 22) }]) <|
  .seq (.reg [
    { dst := some 4, op := .mv (.k (.int .i64 (-1))) }]) <|
  .ret⟩

def f28 : DFn := ⟨2, [.t 4],
  .seq (.reg [
    { dst := some 4, op := .mv (.k (.bool false)) }]) <|
  .seq (.seq (.reg [
    { dst := some 6, op := .mv (.t 0) },
    { dst := some 7, op := .len (.t 6) },
    { dst := some 8, op := .mv (.t 1) },
    { dst := some 9, op := .len (.t 8) },
    { dst := some 10, op := .bin .neq .sc (.t 7) (.t 9) }]) <|
  .cond (.t 10)
    (.seq (.reg [
      { dst := some 4, op := .mv (.k (.bool false)) }]) <|
    .ret)
    (.skip)) <|
  .seq (.seq (.reg [
    { dst := some 5, op := .mv (.k (.int .i64 0)) }]) <|
  .block 0 <|
  .loop [0, 1, 5] [] <|
  .seq (.seq (.reg [
    { dst := some 11, op := .mv (.t 5) },
    { dst := some 12, op := .mv (.t 0) },
    { dst := some 13, op := .len (.t 12) },
    { dst := some 14, op := .bin .lss .sc (.t 11) (.t 13) }]) <|
  .cond (.t 14)
    (.skip)
    (.exit 0)) <|
  .seq (.block 1 <|
  .seq (.drw [
    { dst := some 17, op := .mv (.t 0) },
    { dst := some 18, op := .mv (.t 5) },
    { dst := some 19, op := .idx 4 (.t 17) (.t 18) },
    { dst := some 20, op := .ld 4 true (.t 19) },
    { dst := some 21, op := .mv (.t 1) },
    { dst := some 22, op := .mv (.t 5) },
    { dst := some 23, op := .idx 4 (.t 21) (.t 22) },
    { dst := some 24, op := .ld 4 true (.t 23) },
    { dst := some 25, op := .bin .neq (.st [.i, .i, .i, .b]) (.t 20) (.t 24) }] [[], [], [], [2], [], [], [], [6], []]) <|
  .cond (.t 25)
    (.seq (.reg [
      { dst := some 4, op := .mv (.k (.bool false)) }]) <|
    .ret)
    (.skip)) <|
  .reg [
    { dst := some 15, op := .mv (.t 5) },
    { dst := some 16, op := .bin .add .sc (.t 15) (.k (.int .i64 1)) },
    { dst := some 5, op := .mv (.t 16) }]) <|
  .seq (.reg [
    { dst := some 4, op := .mv (.k (.bool true)) }]) <|
  .ret⟩

def f29 : DFn := ⟨1, [.t 2],
  .seq (.reg [
    { dst := some 1, op := .boxL (.t 0) },
    { dst := some 2, op := .mv (.k (.bool false)) }]) <|
  .seq (.reg [
    { dst := some 3, op := .mv (.k (.nils)) },
    { dst := some 4, op := .mv (.k (.nils)) }]) <|
  .seq (.seq (.reg [
    { dst := some 9, op := .fld 0 (.t 1) },
    { dst := some 10, op := .ld 1 false (.t 9) },
    { dst := some 11, op := .len (.t 10) },
    { dst := some 12, op := .call .blind 49 [(.t 11), (.k (.int .i64 1)), (.k (.int .i64 10))] },
    { dst := some 13, op := .un .not (.t 12) },
    { dst := some 14, op := .mv (.t 13) },
    { dst := some 15, op := .fld 2 (.t 1), guard := some (14, false) },
    { dst := some 16, op := .ld 1 false (.t 15), guard := some (14, false) },
    { dst := some 17, op := .len (.t 16), guard := some (14, false) },
    { dst := some 18, op := .call .blind 49 [(.t 17), (.k (.int .i64 1)), (.k (.int .i64 6))], guard := some (14, false) },
    { dst := some 19, op := .un .not (.t 18), guard := some (14, false) },
    { dst := some 20, op := .pick (.t 14) (.k (.bool true)) (.t 19) },
    { dst := some 21, op := .mv (.t 20) },
    { dst := some 22, op := .fld 1 (.t 1), guard := some (21, false) },
    { dst := some 23, op := .ld 1 false (.t 22), guard := some (21, false) },
    { dst := some 24, op := .len (.t 23), guard := some (21, false) },
    { dst := some 25, op := .bin .gtr .sc (.t 24) (.k (.int .i64 5)), guard := some (21, false) },
    { dst := some 26, op := .pick (.t 21) (.k (.bool true)) (.t 25) },
    { dst := some 27, op := .mv (.t 26) },
    { dst := some 28, op := .fld 3 (.t 1), guard := some (27, false) },
    { dst := some 29, op := .ld 1 false (.t 28), guard := some (27, false) },
    { dst := some 30, op := .len (.t 29), guard := some (27, false) },
    { dst := some 31, op := .bin .gtr .sc (.t 30) (.k (.int .i64 6)), guard := some (27, false) },
    { dst := some 32, op := .pick (.t 27) (.k (.bool true)) (.t 31) }]) <|
  .cond (.t 32)
    (.seq (.reg [
      { dst := some 2, op := .mv (.k (.bool false)) }]) <|
    .ret)
    (.skip)) <|
  .seq (.seq (.reg [
    { dst := some 33, op := .fld 1 (.t 1) },
    { dst := some 34, op := .ld 1 false (.t 33) },
    { dst := some 35, op := .len (.t 34) },
    { dst := some 36, op := .mv (.k (.int .i64 0)) }]) <|
  .block 0 <|
  .loop [1, 3, 4, 34, 35, 36] [1] <|
  .seq (.reg [
    { dst := some 37, op := .bin .lss .sc (.t 36) (.t 35) }]) <|
  .seq (.cond (.t 37)
    (.skip)
    (.exit 0)) <|
  .seq (.block 1 <|
  .seq (.reg [
    { dst := some 38, op := .idx 2 (.t 34) (.t 36) },
    { dst := some 39, op := .ld 2 true (.t 38) },
    { dst := some 6, op := .alL [.str [], .int .i64 0] },
    { dst := none, op := .st 2 (.t 6) (.t 39) }]) <|
  .seq (.reg [
    { dst := some 40, op := .mv (.t 3) },
    { dst := some 41, op := .fld 0 (.t 6) },
    { dst := some 42, op := .ld 1 false (.t 41) },
    { dst := some 43, op := .bsl false 1 [.str []] 1 [(0, (.t 42))] },
    { dst := some 44, op := .app 1 16 (.t 40) (.t 43) },
    { dst := some 3, op := .mv (.t 44) }]) <|
  .seq (.reg [
    { dst := some 45, op := .fld 1 (.t 6) },
    { dst := some 46, op := .ld 1 false (.t 45) },
    { dst := some 47, op := .fld 0 (.t 1) },
    { dst := some 48, op := .ld 1 false (.t 47) },
    { dst := some 49, op := .len (.t 48) },
    { dst := some 50, op := .bin .sub .sc (.t 49) (.k (.int .i64 1)) },
    { dst := some 51, op := .call .blind 49 [(.t 46), (.k (.int .i64 0)), (.t 50)] },
    { dst := some 52, op := .un .not (.t 51) }]) <|
  .cond (.t 52)
    (.seq (.reg [
      { dst := some 2, op := .mv (.k (.bool false)) }]) <|
    .ret)
    (.skip)) <|
  .reg [
    { dst := some 53, op := .bin .add .sc (.t 36) (.k (.int .i64 1)) },
    { dst := some 36, op := .mv (.t 53) }]) <|
  .seq (.seq (.reg [
    { dst := some 54, op := .fld 3 (.t 1) },
    { dst := some 55, op := .ld 1 false (.t 54) },
    { dst := some 56, op := .len (.t 55) },
    { dst := some 57, op := .mv (.k (.int .i64 0)) }]) <|
  .block 2 <|
  .loop [1, 3, 4, 55, 56, 57] [1] <|
  .seq (.reg [
    { dst := some 58, op := .bin .lss .sc (.t 57) (.t 56) }]) <|
  .seq (.cond (.t 58)
    (.skip)
    (.exit 2)) <|
  .seq (.block 3 <|
  .seq (.reg [
    { dst := some 59, op := .idx 6 (.t 55) (.t 57) },
    { dst := some 60, op := .ld 6 true (.t 59) },
    { dst := some 8, op := .alL [.str [], .int .i64 0, .int .i64 0, .nils, .nils, .nils] },
    { dst := none, op := .st 6 (.t 8) (.t 60) }]) <|
  .seq (.reg [
    { dst := some 61, op := .mv (.t 4) },
    { dst := some 62, op := .fld 0 (.t 8) },
    { dst := some 63, op := .ld 1 false (.t 62) },
    { dst := some 64, op := .bsl false 1 [.str []] 1 [(0, (.t 63))] },
    { dst := some 65, op := .app 1 16 (.t 61) (.t 64) },
    { dst := some 4, op := .mv (.t 65) }]) <|
  .seq (.reg [
    { dst := some 66, op := .ld 4 true (.t 1) },
    { dst := some 67, op := .ld 6 true (.t 8) },
    { dst := some 68, op := .call .blind 50 [(.t 66), (.t 67)] },
    { dst := some 69, op := .un .not (.t 68) }]) <|
  .cond (.t 69)
    (.seq (.reg [
      { dst := some 2, op := .mv (.k (.bool false)) }]) <|
    .ret)
    (.skip)) <|
  .reg [
    { dst := some 70, op := .bin .add .sc (.t 57) (.k (.int .i64 1)) },
    { dst := some 57, op := .mv (.t 70) }]) <|
  .seq (.reg [
    { dst := some 71, op := .fld 0 (.t 1) },
    { dst := some 72, op := .ld 1 false (.t 71) },
    { dst := some 73, op := .call .blind 51 [(.t 72)] },
    { dst := some 74, op := .mv (.t 73) },
    { dst := some 75, op := .fld 2 (.t 1), guard := some (74, true) },
    { dst := some 76, op := .ld 1 false (.t 75), guard := some (74, true) },
    { dst := some 77, op := .call .blind 51 [(.t 76)], guard := some (74, true) },
    { dst := some 78, op := .pick (.t 74) (.t 77) (.k (.bool false)) },
    { dst := some 79, op := .mv (.t 78) },
    { dst := some 80, op := .mv (.t 3), guard := some (79, true) },
    { dst := some 81, op := .call .blind 51 [(.t 80)], guard := some (79, true) },
    { dst := some 82, op := .pick (.t 79) (.t 81) (.k (.bool false)) },
    { dst := some 83, op := .mv (.t 82) },
    { dst := some 84, op := .mv (.t 4), guard := some (83, true) },
    { dst := some 85, op := .call .blind 51 [(.t 84)], guard := some (83, true) },
    { dst := some 86, op := .pick (.t 83) (.t 85) (.k (.bool false)) },
    { dst := some 2, op := .mv (.t 86) }]) <|
  .ret⟩

def f30 : DFn := ⟨1, [.cell 2 4 true],
  .seq (.reg [
    { dst := some 1, op := .boxL (.t 0) },
    { dst := some 2, op := .alL [.nils, .nils, .nils, .nils] }]) <|
  .seq (.drw [
    { dst := some 5, op := .fld 0 (.t 1) },
    { dst := some 6, op := .ld 1 false (.t 5) },
    { dst := some 7, op := .call .blind 52 [(.t 6)] },
    { dst := some 8, op := .fld 1 (.t 1) },
    { dst := some 9, op := .ld 1 false (.t 8) },
    { dst := some 10, op := .call .blind 53 [(.t 9)] },
    { dst := some 11, op := .fld 2 (.t 1) },
    { dst := some 12, op := .ld 1 false (.t 11) },
    { dst := some 13, op := .call .blind 52 [(.t 12)] },
    { dst := some 14, op := .fld 3 (.t 1) },
    { dst := some 15, op := .ld 1 false (.t 14) },
    { dst := some 16, op := .call .eff 54 [(.t 15)] },
    { dst := some 17, op := .fld 0 (.t 1) },
    { dst := none, op := .st 1 (.t 17) (.t 7) },
    { dst := some 18, op := .fld 1 (.t 1) },
    { dst := none, op := .st 1 (.t 18) (.t 10) },
    { dst := some 19, op := .fld 2 (.t 1) },
    { dst := none, op := .st 1 (.t 19) (.t 13) },
    { dst := some 20, op := .fld 3 (.t 1) },
    { dst := none, op := .st 1 (.t 20) (.t 16) }] [[], [], [1], [], [], [1, 2, 4], [], [], [1, 2, 4, 5, 7], [], [], [1, 2, 4, 5, 7, 8, 10], [], [1, 2, 4, 5, 7, 8, 10, 11], [], [1, 2, 4, 5, 7, 8, 10, 11, 13], [], [1, 2, 4, 5, 7, 8, 10, 11, 13, 15], [], [1, 2, 4, 5, 7, 8, 10, 11, 13, 15, 17]]) <|
  .seq (.seq (.reg [
    { dst := some 21, op := .fld 3 (.t 1) },
    { dst := some 22, op := .ld 1 false (.t 21) },
    { dst := some 23, op := .len (.t 22) },
    { dst := some 24, op := .mv (.k (.int .i64 0)) }]) <|
  .block 0 <|
  .loop [1, 2, 22, 23, 24] [1, 2] <|
  .seq (.reg [
    { dst := some 25, op := .bin .lss .sc (.t 24) (.t 23) }]) <|
  .seq (.cond (.t 25)
    (.skip)
    (.exit 0)) <|
  .seq (.block 1 <|
  .seq (.reg [
    { dst := some 26, op := .mv (.t 24) },
    { dst := some 27, op := .idx 6 (.t 22) (.t 24) },
    { dst := some 28, op := .ld 6 true (.t 27) },
    { dst := some 4, op := .alL [.str [], .int .i64 0, .int .i64 0, .nils, .nils, .nils] },
    { dst := some 3, op := .mv (.t 26) },
    { dst := none, op := .st 6 (.t 4) (.t 28) }]) <|
  .seq (.drw [
    { dst := some 29, op := .fld 3 (.t 4) },
    { dst := some 30, op := .ld 1 false (.t 29) },
    { dst := some 31, op := .call .blind 55 [(.t 30)] },
    { dst := some 32, op := .fld 4 (.t 4) },
    { dst := some 33, op := .ld 1 false (.t 32) },
    { dst := some 34, op := .call .blind 56 [(.t 33)] },
    { dst := some 35, op := .fld 5 (.t 4) },
    { dst := some 36, op := .ld 1 false (.t 35) },
    { dst := some 37, op := .call .blind 56 [(.t 36)] },
    { dst := some 38, op := .fld 3 (.t 4) },
    { dst := none, op := .st 1 (.t 38) (.t 31) },
    { dst := some 39, op := .fld 4 (.t 4) },
    { dst := none, op := .st 1 (.t 39) (.t 34) },
    { dst := some 40, op := .fld 5 (.t 4) },
    { dst := none, op := .st 1 (.t 40) (.t 37) }] [[], [], [1], [], [], [1, 2, 4], [], [], [1, 2, 4, 5, 7], [], [1, 2, 4, 5, 7, 8], [], [1, 2, 4, 5, 7, 8, 10], [], [1, 2, 4, 5, 7, 8, 10, 12]]) <|
  .reg [
    { dst := some 41, op := .fld 3 (.t 1) },
    { dst := some 42, op := .ld 1 false (.t 41) },
    { dst := some 43, op := .mv (.t 3) },
    { dst := some 44, op := .ld 6 true (.t 4) },
    { dst := some 45, op := .idx 6 (.t 42) (.t 43) },
    { dst := none, op := .st 6 (.t 45) (.t 44) }]) <|
  .reg [
    { dst := some 46, op := .bin .add .sc (.t 24) (.k (.int .i64 1)) },
    { dst := some 24, op := .mv (.t 46) }]) <|
  .seq (.reg [
    { dst := some 47, op := .ld 4 true (.t 1) },
    { dst := none, op := .st 4 (.t 2) (.t 47) }]) <|
  .ret⟩

def f31 : DFn := ⟨3, [.t 6],
  .seq (.reg [
    { dst := some 4, op := .boxL (.t 1) },
    { dst := some 6, op := .mv (.k (.int .i64 0)) }]) <|
  .seq (.block 0 <|
  .seq (.reg [
    { dst := some 8, op := .mv (.t 0) },
    { dst := some 9, op := .nilck (.t 8) },
    { dst := some 10, op := .fld 4 (.t 9) },
    { dst := some 11, op := .ld 1 false (.t 10) },
    { dst := some 12, op := .mv (.t 2) },
    { dst := some 13, op := .idx 4 (.t 11) (.t 12) },
    { dst := some 14, op := .fld 0 (.t 13) },
    { dst := some 15, op := .ld 1 false (.t 14) },
    { dst := some 16, op := .bin .neq .sc (.t 15) (.k (.int .i64 0)) },
    { dst := some 7, op := .mv (.t 16) }]) <|
  .cond (.t 7)
    (.seq (.reg [
      { dst := some 6, op := .mv (.k (.int .i64 7)) }]) <|
    .ret)
    (.seq (.reg [
      { dst := some 18, op := .mv (.t 0) },
      { dst := some 19, op := .ld 2 true (.t 4) },
      { dst := some 20, op := .mv (.t 2) },
      { dst := some 21, op := .call .ro 57 [(.t 18), (.t 19), (.t 20)] },
      { dst := some 22, op := .un .not (.t 21) },
      { dst := some 17, op := .mv (.t 22) }]) <|
    .cond (.t 17)
      (.seq (.reg [
        { dst := some 6, op := .mv (.k (.int .i64 8)) }]) <|
      .ret)
      (.skip))) <|
  .seq (.reg [
    { dst := some 23, op := .mv (.t 0) },
    { dst := some 24, op := .nilck (.t 23) },
    { dst := some 25, op := .fld 4 (.t 24) },
    { dst := some 26, op := .ld 1 false (.t 25) },
    { dst := some 27, op := .mv (.t 2) },
    { dst := some 28, op := .build [.int .i64 0, .int .i64 0, .int .i64 0, .bool false] [(0, 1, (.k (.int .i64 1)))] },
    { dst := some 29, op := .idx 4 (.t 26) (.t 27) },
    { dst := none, op := .st 4 (.t 29) (.t 28) }]) <|
  .seq (.reg [
    { dst := some 6, op := .mv (.k (.int .i64 0)) }]) <|
  .ret⟩

def f32 : DFn := ⟨2, [.t 4],
  .seq (.reg [
    { dst := some 4, op := .mv (.k (.int .i64 0)) }]) <|
  .seq (.seq (.reg [
    { dst := some 5, op := .mv (.t 0) },
    { dst := some 6, op := .nilck (.t 5) },
    { dst := some 7, op := .fld 4 (.t 6) },
    { dst := some 8, op := .ld 1 false (.t 7) },
    { dst := some 9, op := .mv (.t 1) },
    { dst := some 10, op := .idx 4 (.t 8) (.t 9) },
    { dst := some 11, op := .fld 0 (.t 10) },
    { dst := some 12, op := .ld 1 false (.t 11) }]) <|
  .block 0 <|
  .seq (.reg [
    { dst := some 14, op := .bin .eql .sc (.t 12) (.k (.int .i64 1)) },
    { dst := some 13, op := .mv (.t 14) }]) <|
  .cond (.t 13)
    (.reg [
      { dst := some 15, op := .mv (.t 0) },
      { dst := some 16, op := .nilck (.t 15) },
      { dst := some 17, op := .fld 4 (.t 16) },
      { dst := some 18, op := .ld 1 false (.t 17) },
      { dst := some 19, op := .mv (.t 1) },
      { dst := some 20, op := .build [.int .i64 0, .int .i64 0, .int .i64 0, .bool false] [] },
      { dst := some 21, op := .idx 4 (.t 18) (.t 19) },
      { dst := none, op := .st 4 (.t 21) (.t 20) }])
    (.seq (.reg [
      { dst := some 23, op := .bin .eql .sc (.t 12) (.k (.int .i64 2)) },
      { dst := some 22, op := .mv (.t 23) }]) <|
    .cond (.t 22)
      (.reg [
        { dst := some 24, op := .mv (.t 0) },
        { dst := some 25, op := .nilck (.t 24) },
        { dst := some 26, op := .fld 4 (.t 25) },
        { dst := some 27, op := .ld 1 false (.t 26) },
        { dst := some 28, op := .mv (.t 1) },
        { dst := some 29, op := .build [.int .i64 0, .int .i64 0, .int .i64 0, .bool false] [(0, 1, (.k (.int .i64 4)))] },
        { dst := some 30, op := .idx 4 (.t 27) (.t 28) },
        { dst := none, op := .st 4 (.t 30) (.t 29) }])
      (.seq (.reg [
        { dst := some 4, op := .mv (.k (.int .i64 7)) }]) <|
      .ret))) <|
  .seq (.reg [
    { dst := some 4, op := .mv (.k (.int .i64 0)) }]) <|
  .ret⟩

def f33 : DFn := ⟨3, [.cell 6 4 true],
  .seq (.reg [
    { dst := some 4, op := .boxL (.t 1) },
    { dst := some 6, op := .alL [.int .i64 0, .int .i64 0, .int .i64 0, .bool false] }]) <|
  .seq (.reg [
    { dst := some 9, op := .mv (.t 0) },
    { dst := some 10, op := .nilck (.t 9) },
    { dst := some 11, op := .fld 4 (.t 10) },
    { dst := some 12, op := .ld 1 false (.t 11) },
    { dst := some 13, op := .mv (.t 2) },
    { dst := some 14, op := .idx 4 (.t 12) (.t 13) },
    { dst := some 15, op := .ld 4 true (.t 14) },
    { dst := some 7, op := .alL [.int .i64 0, .int .i64 0, .int .i64 0, .bool false] },
    { dst := none, op := .st 4 (.t 7) (.t 15) }]) <|
  .seq (.drw [
    { dst := some 16, op := .fld 0 (.t 4) },
    { dst := some 17, op := .ld 1 false (.t 16) },
    { dst := some 18, op := .mv (.t 0) },
    { dst := some 19, op := .nilck (.t 18) },
    { dst := some 20, op := .fld 0 (.t 19) },
    { dst := some 21, op := .fld 3 (.t 20) },
    { dst := some 22, op := .ld 1 false (.t 21) },
    { dst := some 23, op := .mv (.t 2) },
    { dst := some 24, op := .idx 6 (.t 22) (.t 23) },
    { dst := some 25, op := .fld 3 (.t 24) },
    { dst := some 26, op := .ld 1 false (.t 25) },
    { dst := some 27, op := .idx 1 (.t 26) (.k (.int .i64 0)) },
    { dst := some 28, op := .ld 1 false (.t 27) },
    { dst := some 29, op := .idx 1 (.t 17) (.t 28) },
    { dst := some 30, op := .ld 1 false (.t 29) },
    { dst := some 8, op := .mv (.t 30) }] [[], [], [], [], [], [], [], [], [6], [], [6, 8], [6, 8, 10], [6, 8, 10, 11], [1, 6, 8, 10, 11, 12], [1, 6, 8, 10, 11, 12, 13], []]) <|
  .seq (.seq (.reg [
    { dst := some 31, op := .fld 0 (.t 7) },
    { dst := some 32, op := .ld 1 false (.t 31) }]) <|
  .block 0 <|
  .seq (.reg [
    { dst := some 34, op := .bin .eql .sc (.t 32) (.k (.int .i64 1)) },
    { dst := some 33, op := .mv (.t 34) }]) <|
  .cond (.t 33)
    (.seq (.seq (.reg [
      { dst := some 35, op := .mv (.t 0) },
      { dst := some 36, op := .ld 2 true (.t 4) },
      { dst := some 37, op := .mv (.t 2) },
      { dst := some 38, op := .call .ro 36 [(.t 35), (.t 36), (.t 37)] }]) <|
    .cond (.t 38)
      (.seq (.reg [
        { dst := some 39, op := .build [.int .i64 0, .int .i64 0, .int .i64 0, .bool false] [(0, 1, (.k (.int .i64 2)))] },
        { dst := none, op := .st 4 (.t 6) (.t 39) }]) <|
      .ret)
      (.skip)) <|
    .seq (.reg [
      { dst := some 40, op := .ld 4 true (.t 7) },
      { dst := some 41, op := .call .blind 58 [(.t 40), (.k (.int .i64 8))] },
      { dst := none, op := .st 4 (.t 6) (.t 41) }]) <|
    .ret)
    (.seq (.seq (.reg [
      { dst := some 43, op := .bin .eql .sc (.t 32) (.k (.int .i64 2)) },
      { dst := some 42, op := .mv (.t 43) }]) <|
    .cond (.t 42)
      (.skip)
      (.reg [
        { dst := some 44, op := .bin .eql .sc (.t 32) (.k (.int .i64 4)) },
        { dst := some 42, op := .mv (.t 44) }])) <|
    .cond (.t 42)
      (.block 1 <|
      .seq (.reg [
        { dst := some 46, op := .mv (.t 8) },
        { dst := some 45, op := .mv (.t 46) }]) <|
      .cond (.t 45)
        (.seq (.reg [
          { dst := some 47, op := .build [.int .i64 0, .int .i64 0, .int .i64 0, .bool false] [(0, 1, (.k (.int .i64 3))), (3, 1, (.k (.bool true)))] },
          { dst := none, op := .st 4 (.t 6) (.t 47) }]) <|
        .ret)
        (.seq (.reg [
          { dst := some 49, op := .fld 0 (.t 7) },
          { dst := some 50, op := .ld 1 false (.t 49) },
          { dst := some 51, op := .bin .eql .sc (.t 50) (.k (.int .i64 4)) },
          { dst := some 48, op := .mv (.t 51) }]) <|
        .cond (.t 48)
          (.seq (.reg [
            { dst := some 52, op := .ld 4 true (.t 7) },
            { dst := some 53, op := .call .blind 58 [(.t 52), (.k (.int .i64 5))] },
            { dst := none, op := .st 4 (.t 6) (.t 53) }]) <|
          .ret)
          (.skip)))
      (.seq (.reg [
        { dst := some 55, op := .bin .eql .sc (.t 32) (.k (.int .i64 3)) },
        { dst := some 54, op := .mv (.t 55) }]) <|
      .cond (.t 54)
        (.seq (.reg [
          { dst := some 56, op := .mv (.t 0) },
          { dst := some 57, op := .ld 2 true (.t 4) },
          { dst := some 58, op := .mv (.t 2) },
          { dst := some 59, op := .call .ro 59 [(.t 56), (.t 57), (.t 58)] },
          { dst := none, op := .st 4 (.t 6) (.t 59) }]) <|
        .ret)
        (.skip)))) <|
  .seq (.reg [
    { dst := some 60, op := .ld 4 true (.t 7) },
    { dst := none, op := .st 4 (.t 6) (.t 60) }]) <|
  .ret⟩

def f34 : DFn := ⟨3, [],
  .seq (.reg [
    { dst := some 4, op := .boxL (.t 1) },
    { dst := some 5, op := .boxL (.t 2) }]) <|
  .seq (.reg [
    { dst := some 12, op := .mv (.t 0) },
    { dst := some 13, op := .nilck (.t 12) },
    { dst := some 14, op := .fld 4 (.t 13) },
    { dst := some 15, op := .ld 1 false (.t 14) },
    { dst := some 16, op := .len (.t 15) },
    { dst := some 17, op := .mv (.k (.int .i64 0)) }]) <|
  .block 0 <|
  .loop [0, 4, 5, 15, 16, 17] [4, 5] <|
  .seq (.reg [
    { dst := some 18, op := .bin .lss .sc (.t 17) (.t 16) }]) <|
  .seq (.cond (.t 18)
    (.skip)
    (.exit 0)) <|
  .seq (.block 1 <|
  .seq (.reg [
    { dst := some 19, op := .mv (.t 17) },
    { dst := some 20, op := .idx 4 (.t 15) (.t 17) },
    { dst := some 21, op := .ld 4 true (.t 20) },
    { dst := some 7, op := .alL [.int .i64 0, .int .i64 0, .int .i64 0, .bool false] },
    { dst := some 6, op := .mv (.t 19) },
    { dst := none, op := .st 4 (.t 7) (.t 21) }]) <|
  .seq (.seq (.reg [
    { dst := some 22, op := .fld 0 (.t 7) },
    { dst := some 23, op := .ld 1 false (.t 22) },
    { dst := some 24, op := .bin .neq .sc (.t 23) (.k (.int .i64 1)) }]) <|
  .cond (.t 24)
    (.exit 1)
    (.skip)) <|
  .seq (.reg [
    { dst := some 25, op := .mv (.t 0) },
    { dst := some 26, op := .nilck (.t 25) },
    { dst := some 27, op := .fld 0 (.t 26) },
    { dst := some 28, op := .ld 4 true (.t 27) },
    { dst := some 29, op := .mv (.t 6) },
    { dst := some 30, op := .call .blind 60 [(.t 28), (.t 29)] },
    { dst := some 31, op := .len (.t 30) },
    { dst := some 32, op := .mv (.k (.int .i64 0)) }]) <|
  .block 2 <|
  .loop [0, 4, 5, 6, 15, 16, 17, 30, 31, 32] [4, 5] <|
  .seq (.reg [
    { dst := some 33, op := .bin .lss .sc (.t 32) (.t 31) }]) <|
  .seq (.cond (.t 33)
    (.skip)
    (.exit 2)) <|
  .seq (.block 3 <|
  .seq (.reg [
    { dst := some 34, op := .idx 2 (.t 30) (.t 32) },
    { dst := some 35, op := .ld 2 true (.t 34) },
    { dst := some 9, op := .alL [.int .i64 0, .bool false] },
    { dst := none, op := .st 2 (.t 9) (.t 35) }]) <|
  .seq (.drw [
    { dst := some 36, op := .mv (.t 0) },
    { dst := some 37, op := .nilck (.t 36) },
    { dst := some 38, op := .fld 0 (.t 37) },
    { dst := some 39, op := .fld 1 (.t 38) },
    { dst := some 40, op := .ld 1 false (.t 39) },
    { dst := some 41, op := .fld 0 (.t 9) },
    { dst := some 42, op := .ld 1 false (.t 41) },
    { dst := some 43, op := .idx 2 (.t 40) (.t 42) },
    { dst := some 44, op := .fld 1 (.t 43) },
    { dst := some 45, op := .ld 1 false (.t 44) },
    { dst := some 10, op := .mv (.t 45) }] [[], [], [], [], [], [], [], [4, 6], [], [4, 6, 7], []]) <|
  .seq (.reg [
    { dst := some 46, op := .mv (.t 0) },
    { dst := some 47, op := .mv (.t 10) },
    { dst := some 48, op := .call .ro 27 [(.t 46), (.t 47)] },
    { dst := some 11, op := .mv (.t 48) }]) <|
  .seq (.reg [
    { dst := some 49, op := .ld 2 true (.t 4) },
    { dst := some 50, op := .ld 2 true (.t 9) },
    { dst := some 51, op := .call .blind 61 [(.t 49), (.t 50)] },
    { dst := some 52, op := .un .not (.t 51) },
    { dst := some 53, op := .mv (.t 52) },
    { dst := some 54, op := .fld 0 (.t 4), guard := some (53, true) },
    { dst := some 55, op := .ld 1 false (.t 54), guard := some (53, true) },
    { dst := some 56, op := .mv (.t 10), guard := some (53, true) },
    { dst := some 57, op := .idx 1 (.t 55) (.t 56), guard := some (53, true) },
    { dst := some 58, op := .ld 1 false (.t 57), guard := some (53, true) },
    { dst := some 59, op := .un .not (.t 58), guard := some (53, true) },
    { dst := some 60, op := .pick (.t 53) (.t 59) (.k (.bool false)) },
    { dst := some 61, op := .mv (.t 60) },
    { dst := some 62, op := .mv (.t 11), guard := some (61, true) },
    { dst := some 63, op := .bin .lss .sc (.t 62) (.k (.int .i64 0)), guard := some (61, true) },
    { dst := some 64, op := .mv (.t 63), guard := some (61, true) },
    { dst := some 65, op := .mv (.t 11), guard := some (64, false) },
    { dst := some 66, op := .mv (.t 6), guard := some (64, false) },
    { dst := some 67, op := .bin .eql .sc (.t 65) (.t 66), guard := some (64, false) },
    { dst := some 68, op := .pick (.t 64) (.k (.bool true)) (.t 67), guard := some (61, true) },
    { dst := some 69, op := .pick (.t 61) (.t 68) (.k (.bool false)) }]) <|
  .cond (.t 69)
    (.drw [
      { dst := some 70, op := .fld 0 (.t 5) },
      { dst := some 71, op := .ld 1 false (.t 70) },
      { dst := some 72, op := .fld 0 (.t 9) },
      { dst := some 73, op := .ld 1 false (.t 72) },
      { dst := some 74, op := .ld 2 true (.t 9) },
      { dst := some 75, op := .call .blind 62 [(.t 74)] },
      { dst := some 76, op := .idx 1 (.t 71) (.t 73) },
      { dst := none, op := .st 1 (.t 76) (.t 75) }] [[], [], [], [], [], [4], [1, 3, 4, 5], [1, 3, 4, 5, 6]])
    (.skip)) <|
  .reg [
    { dst := some 77, op := .bin .add .sc (.t 32) (.k (.int .i64 1)) },
    { dst := some 32, op := .mv (.t 77) }]) <|
  .reg [
    { dst := some 78, op := .bin .add .sc (.t 17) (.k (.int .i64 1)) },
    { dst := some 17, op := .mv (.t 78) }]⟩

def f35 : DFn := ⟨2, [.t 4],
  .seq (.reg [
    { dst := some 2, op := .boxH (.t 0) },
    { dst := some 4, op := .mv (.k (.bool false)) }]) <|
  .seq (.reg [
    { dst := some 5, op := .mv (.t 1) },
    { dst := some 6, op := .mkF 63 [(.t 2)] },
    { dst := some 7, op := .call .ro 40 [(.t 5), (.t 6)] },
    { dst := some 4, op := .mv (.t 7) }]) <|
  .ret⟩

def f36 : DFn := ⟨3, [.t 6],
  .seq (.reg [
    { dst := some 4, op := .boxH (.t 1) },
    { dst := some 6, op := .mv (.k (.bool false)) }]) <|
  .seq (.reg [
    { dst := some 7, op := .mv (.t 0) },
    { dst := some 8, op := .nilck (.t 7) },
    { dst := some 9, op := .fld 0 (.t 8) },
    { dst := some 10, op := .ld 4 true (.t 9) },
    { dst := some 11, op := .mv (.t 2) },
    { dst := some 12, op := .call .blind 60 [(.t 10), (.t 11)] },
    { dst := some 13, op := .mkF 65 [(.t 4)] },
    { dst := some 14, op := .call .ro 64 [(.t 12), (.t 13)] },
    { dst := some 15, op := .un .not (.t 14) },
    { dst := some 6, op := .mv (.t 15) }]) <|
  .ret⟩

def f37 : DFn := ⟨1, [.t 2],
  .seq (.reg [
    { dst := some 2, op := .mv (.k (.bool false)) }]) <|
  .seq (.seq (.reg [
    { dst := some 3, op := .mv (.k (.int .i64 0)) }]) <|
  .block 0 <|
  .loop [0, 3] [] <|
  .seq (.seq (.reg [
    { dst := some 5, op := .mv (.t 3) },
    { dst := some 6, op := .mv (.t 0) },
    { dst := some 7, op := .len (.t 6) },
    { dst := some 8, op := .bin .lss .sc (.t 5) (.t 7) }]) <|
  .cond (.t 8)
    (.skip)
    (.exit 0)) <|
  .seq (.block 1 <|
  .seq (.seq (.reg [
    { dst := some 11, op := .mv (.t 0) },
    { dst := some 12, op := .mv (.t 3) },
    { dst := some 13, op := .idx 1 (.t 11) (.t 12) },
    { dst := some 14, op := .ld 1 false (.t 13) },
    { dst := some 15, op := .call .blind 66 [(.t 14)] },
    { dst := some 16, op := .un .not (.t 15) }]) <|
  .cond (.t 16)
    (.seq (.reg [
      { dst := some 2, op := .mv (.k (.bool false)) }]) <|
    .ret)
    (.skip)) <|
  .seq (.reg [
    { dst := some 4, op := .mv (.k (.int .i64 0)) }]) <|
  .block 2 <|
  .loop [0, 3, 4] [] <|
  .seq (.seq (.reg [
    { dst := some 17, op := .mv (.t 4) },
    { dst := some 18, op := .mv (.t 3) },
    { dst := some 19, op := .bin .lss .sc (.t 17) (.t 18) }]) <|
  .cond (.t 19)
    (.skip)
    (.exit 2)) <|
  .seq (.block 3 <|
  .seq (.drw [
    { dst := some 22, op := .mv (.t 0) },
    { dst := some 23, op := .mv (.t 4) },
    { dst := some 24, op := .idx 1 (.t 22) (.t 23) },
    { dst := some 25, op := .ld 1 false (.t 24) },
    { dst := some 26, op := .mv (.t 0) },
    { dst := some 27, op := .mv (.t 3) },
    { dst := some 28, op := .idx 1 (.t 26) (.t 27) },
    { dst := some 29, op := .ld 1 false (.t 28) },
    { dst := some 30, op := .bin .eql .sc (.t 25) (.t 29) }] [[], [], [], [2], [], [], [], [6], []]) <|
  .cond (.t 30)
    (.seq (.reg [
      { dst := some 2, op := .mv (.k (.bool false)) }]) <|
    .ret)
    (.skip)) <|
  .reg [
    { dst := some 20, op := .mv (.t 4) },
    { dst := some 21, op := .bin .add .sc (.t 20) (.k (.int .i64 1)) },
    { dst := some 4, op := .mv (.t 21) }]) <|
  .reg [
    { dst := some 9, op := .mv (.t 3) },
    { dst := some 10, op := .bin .add .sc (.t 9) (.k (.int .i64 1)) },
    { dst := some 3, op := .mv (.t 10) }]) <|
  .seq (.reg [
    { dst := some 2, op := .mv (.k (.bool true)) }]) <|
  .ret⟩

def f38 : DFn := ⟨2, [.t 4],
  .seq (.reg [
    { dst := some 2, op := .boxL (.t 0) },
    { dst := some 3, op := .boxL (.t 1) },
    { dst := some 4, op := .mv (.k (.bool false)) }]) <|
  .seq (.seq (.reg [
    { dst := some 8, op := .fld 1 (.t 3) },
    { dst := some 9, op := .ld 1 false (.t 8) },
    { dst := some 10, op := .bin .lss .sc (.t 9) (.k (.int .i64 0)) },
    { dst := some 11, op := .mv (.t 10) },
    { dst := some 12, op := .fld 1 (.t 3), guard := some (11, false) },
    { dst := some 13, op := .ld 1 false (.t 12), guard := some (11, false) },
    { dst := some 14, op := .fld 2 (.t 2), guard := some (11, false) },
    { dst := some 15, op := .ld 1 false (.t 14), guard := some (11, false) },
    { dst := some 16, op := .len (.t 15), guard := some (11, false) },
    { dst := some 17, op := .bin .geq .sc (.t 13) (.t 16), guard := some (11, false) },
    { dst := some 18, op := .pick (.t 11) (.k (.bool true)) (.t 17) },
    { dst := some 19, op := .mv (.t 18) },
    { dst := some 20, op := .fld 2 (.t 3), guard := some (19, false) },
    { dst := some 21, op := .ld 1 false (.t 20), guard := some (19, false) },
    { dst := some 22, op := .bin .lss .sc (.t 21) (.k (.int .i64 0)), guard := some (19, false) },
    { dst := some 23, op := .pick (.t 19) (.k (.bool true)) (.t 22) },
    { dst := some 24, op := .mv (.t 23) },
    { dst := some 25, op := .fld 2 (.t 3), guard := some (24, false) },
    { dst := some 26, op := .ld 1 false (.t 25), guard := some (24, false) },
    { dst := some 27, op := .fld 2 (.t 2), guard := some (24, false) },
    { dst := some 28, op := .ld 1 false (.t 27), guard := some (24, false) },
    { dst := some 29, op := .len (.t 28), guard := some (24, false) },
    { dst := some 30, op := .bin .geq .sc (.t 26) (.t 29), guard := some (24, false) },
    { dst := some 31, op := .pick (.t 24) (.k (.bool true)) (.t 30) },
    { dst := some 32, op := .mv (.t 31) },
    { dst := some 33, op := .fld 1 (.t 3), guard := some (32, false) },
    { dst := some 34, op := .ld 1 false (.t 33), guard := some (32, false) },
    { dst := some 35, op := .fld 2 (.t 3), guard := some (32, false) },
    { dst := some 36, op := .ld 1 false (.t 35), guard := some (32, false) },
    { dst := some 37, op := .bin .eql .sc (.t 34) (.t 36), guard := some (32, false) },
    { dst := some 38, op := .pick (.t 32) (.k (.bool true)) (.t 37) },
    { dst := some 39, op := .mv (.t 38) },
    { dst := some 40, op := .fld 3 (.t 3), guard := some (39, false) },
    { dst := some 41, op := .ld 1 false (.t 40), guard := some (39, false) },
    { dst := some 42, op := .len (.t 41), guard := some (39, false) },
    { dst := some 43, op := .bin .lss .sc (.t 42) (.k (.int .i64 1)), guard := some (39, false) },
    { dst := some 44, op := .pick (.t 39) (.k (.bool true)) (.t 43) },
    { dst := some 45, op := .mv (.t 44) },
    { dst := some 46, op := .fld 3 (.t 3), guard := some (45, false) },
    { dst := some 47, op := .ld 1 false (.t 46), guard := some (45, false) },
    { dst := some 48, op := .len (.t 47), guard := some (45, false) },
    { dst := some 49, op := .bin .gtr .sc (.t 48) (.k (.int .i64 5)), guard := some (45, false) },
    { dst := some 50, op := .pick (.t 45) (.k (.bool true)) (.t 49) }]) <|
  .cond (.t 50)
    (.seq (.reg [
      { dst := some 4, op := .mv (.k (.bool false)) }]) <|
    .ret)
    (.skip)) <|
  .seq (.seq (.reg [
    { dst := some 5, op := .mv (.k (.int .i64 0)) }]) <|
  .block 0 <|
  .loop [2, 3, 5] [2, 3] <|
  .seq (.seq (.reg [
    { dst := some 51, op := .mv (.t 5) },
    { dst := some 52, op := .fld 3 (.t 3) },
    { dst := some 53, op := .ld 1 false (.t 52) },
    { dst := some 54, op := .len (.t 53) },
    { dst := some 55, op := .bin .lss .sc (.t 51) (.t 54) }]) <|
  .cond (.t 55)
    (.skip)
    (.exit 0)) <|
  .seq (.block 1 <|
  .seq (.drw [
    { dst := some 58, op := .fld 3 (.t 3) },
    { dst := some 59, op := .ld 1 false (.t 58) },
    { dst := some 60, op := .mv (.t 5) },
    { dst := some 61, op := .idx 1 (.t 59) (.t 60) },
    { dst := some 62, op := .ld 1 false (.t 61) },
    { dst := some 63, op := .bin .lss .sc (.t 62) (.k (.int .i64 0)) },
    { dst := some 64, op := .mv (.t 63) },
    { dst := some 65, op := .fld 3 (.t 3), guard := some (64, false) },
    { dst := some 66, op := .ld 1 false (.t 65), guard := some (64, false) },
    { dst := some 67, op := .mv (.t 5), guard := some (64, false) },
    { dst := some 68, op := .idx 1 (.t 66) (.t 67), guard := some (64, false) },
    { dst := some 69, op := .ld 1 false (.t 68), guard := some (64, false) },
    { dst := some 70, op := .fld 0 (.t 2), guard := some (64, false) },
    { dst := some 71, op := .ld 1 false (.t 70), guard := some (64, false) },
    { dst := some 72, op := .len (.t 71), guard := some (64, false) },
    { dst := some 73, op := .bin .geq .sc (.t 69) (.t 72), guard := some (64, false) },
    { dst := some 74, op := .pick (.t 64) (.k (.bool true)) (.t 73) },
    { dst := some 75, op := .mv (.t 74) },
    { dst := some 76, op := .fld 3 (.t 3), guard := some (75, false) },
    { dst := some 77, op := .ld 1 false (.t 76), guard := some (75, false) },
    { dst := some 78, op := .mv (.t 5), guard := some (75, false) },
    { dst := some 79, op := .slc 1 (.t 77) none (some (.t 78)) none, guard := some (75, false) },
    { dst := some 80, op := .fld 3 (.t 3), guard := some (75, false) },
    { dst := some 81, op := .ld 1 false (.t 80), guard := some (75, false) },
    { dst := some 82, op := .mv (.t 5), guard := some (75, false) },
    { dst := some 83, op := .idx 1 (.t 81) (.t 82), guard := some (75, false) },
    { dst := some 84, op := .ld 1 false (.t 83), guard := some (75, false) },
    { dst := some 85, op := .call .blind 46 [(.t 79), (.t 84)], guard := some (75, false) },
    { dst := some 86, op := .pick (.t 75) (.k (.bool true)) (.t 85) }] [[], [], [], [1], [1, 3], [], [], [], [1, 3, 4], [], [1, 3, 4, 8], [1, 3, 4, 8, 10], [], [1, 3, 4], [], [], [], [], [], [1, 3, 4, 8, 10, 11, 13], [], [], [], [1, 3, 4, 8, 10, 11, 13], [], [1, 3, 4, 8, 10, 11, 13, 23], [1, 3, 4, 8, 10, 11, 13, 23, 25], [1, 3, 4, 8, 10, 11, 13, 19, 23, 25, 26], []]) <|
  .cond (.t 86)
    (.seq (.reg [
      { dst := some 4, op := .mv (.k (.bool false)) }]) <|
    .ret)
    (.skip)) <|
  .reg [
    { dst := some 56, op := .mv (.t 5) },
    { dst := some 57, op := .bin .add .sc (.t 56) (.k (.int .i64 1)) },
    { dst := some 5, op := .mv (.t 57) }]) <|
  .seq (.reg [
    { dst := some 6, op := .mv (.k (.int .i64 0)) }]) <|
  .seq (.seq (.reg [
    { dst := some 7, op := .mv (.k (.int .i64 0)) }]) <|
  .block 2 <|
  .loop [2, 3, 6, 7] [2, 3] <|
  .seq (.seq (.reg [
    { dst := some 87, op := .mv (.t 7) },
    { dst := some 88, op := .fld 1 (.t 2) },
    { dst := some 89, op := .ld 1 false (.t 88) },
    { dst := some 90, op := .len (.t 89) },
    { dst := some 91, op := .bin .lss .sc (.t 87) (.t 90) }]) <|
  .cond (.t 91)
    (.skip)
    (.exit 2)) <|
  .seq (.block 3 <|
  .seq (.drw [
    { dst := some 94, op := .fld 3 (.t 3) },
    { dst := some 95, op := .ld 1 false (.t 94) },
    { dst := some 96, op := .fld 1 (.t 2) },
    { dst := some 97, op := .ld 1 false (.t 96) },
    { dst := some 98, op := .mv (.t 7) },
    { dst := some 99, op := .idx 2 (.t 97) (.t 98) },
    { dst := some 100, op := .fld 1 (.t 99) },
    { dst := some 101, op := .ld 1 false (.t 100) },
    { dst := some 102, op := .call .blind 46 [(.t 95), (.t 101)] }] [[], [], [], [], [], [3], [], [3, 5], [1, 3, 5, 7]]) <|
  .cond (.t 102)
    (.reg [
      { dst := some 103, op := .mv (.t 6) },
      { dst := some 104, op := .bin .add .sc (.t 103) (.k (.int .i64 1)) },
      { dst := some 6, op := .mv (.t 104) }])
    (.skip)) <|
  .reg [
    { dst := some 92, op := .mv (.t 7) },
    { dst := some 93, op := .bin .add .sc (.t 92) (.k (.int .i64 1)) },
    { dst := some 7, op := .mv (.t 93) }]) <|
  .seq (.reg [
    { dst := some 105, op := .fld 4 (.t 3) },
    { dst := some 106, op := .ld 1 false (.t 105) },
    { dst := some 107, op := .len (.t 106) },
    { dst := some 108, op := .mv (.t 6) },
    { dst := some 109, op := .bin .eql .sc (.t 107) (.t 108) },
    { dst := some 110, op := .mv (.t 109) },
    { dst := some 111, op := .ld 4 true (.t 2), guard := some (110, true) },
    { dst := some 112, op := .fld 4 (.t 3), guard := some (110, true) },
    { dst := some 113, op := .ld 1 false (.t 112), guard := some (110, true) },
    { dst := some 114, op := .fld 3 (.t 3), guard := some (110, true) },
    { dst := some 115, op := .ld 1 false (.t 114), guard := some (110, true) },
    { dst := some 116, op := .call .blind 67 [(.t 111), (.t 113), (.t 115), (.k (.bool true))], guard := some (110, true) },
    { dst := some 117, op := .pick (.t 110) (.t 116) (.k (.bool false)) },
    { dst := some 118, op := .mv (.t 117) },
    { dst := some 119, op := .ld 4 true (.t 2), guard := some (118, true) },
    { dst := some 120, op := .fld 5 (.t 3), guard := some (118, true) },
    { dst := some 121, op := .ld 1 false (.t 120), guard := some (118, true) },
    { dst := some 122, op := .fld 3 (.t 3), guard := some (118, true) },
    { dst := some 123, op := .ld 1 false (.t 122), guard := some (118, true) },
    { dst := some 124, op := .call .blind 67 [(.t 119), (.t 121), (.t 123), (.k (.bool false))], guard := some (118, true) },
    { dst := some 125, op := .pick (.t 118) (.t 124) (.k (.bool false)) },
    { dst := some 4, op := .mv (.t 125) }]) <|
  .ret⟩

def f39 : DFn := ⟨1, [.t 2],
  .seq (.reg [
    { dst := some 2, op := .mv (.k (.bool false)) }]) <|
  .seq (.reg [
    { dst := some 3, op := .mv (.t 0) },
    { dst := some 4, op := .bin .lss .sc (.t 3) (.k (.int .i64 0)) },
    { dst := some 5, op := .mv (.t 4) },
    { dst := some 6, op := .mv (.t 0), guard := some (5, false) },
    { dst := some 7, op := .bin .gtr .sc (.t 6) (.k (.int .i64 2)), guard := some (5, false) },
    { dst := some 8, op := .pick (.t 5) (.k (.bool true)) (.t 7) },
    { dst := some 2, op := .mv (.t 8) }]) <|
  .ret⟩

def f40 : DFn := ⟨2, [.t 4],
  .seq (.reg [
    { dst := some 4, op := .mv (.k (.bool false)) }]) <|
  .seq (.reg [
    { dst := some 5, op := .mv (.t 0) },
    { dst := some 6, op := .mv (.t 1) },
    { dst := some 7, op := .call .ro 68 [(.t 5), (.t 6)] },
    { dst := some 8, op := .bin .geq .sc (.t 7) (.k (.int .i64 0)) },
    { dst := some 4, op := .mv (.t 8) }]) <|
  .ret⟩

def f41 : DFn := ⟨3, [.t 6],
  .seq (.reg [
    { dst := some 5, op := .boxL (.t 2) },
    { dst := some 6, op := .mv (.k (.bool false)) }]) <|
  .seq (.reg [
    { dst := some 8, op := .fld 0 (.t 5) },
    { dst := some 9, op := .ld 1 false (.t 8) },
    { dst := some 10, op := .build [.int .i64 0, .int .i64 0, .int .i64 0, .bool false] [(0, 1, (.t 9))] },
    { dst := some 7, op := .alL [.int .i64 0, .int .i64 0, .int .i64 0, .bool false] },
    { dst := none, op := .st 4 (.t 7) (.t 10) }]) <|
  .seq (.seq (.reg [
    { dst := some 11, op := .fld 0 (.t 5) },
    { dst := some 12, op := .ld 1 false (.t 11) }]) <|
  .block 0 <|
  .seq (.seq (.reg [
    { dst := some 14, op := .bin .eql .sc (.t 12) (.k (.int .i64 0)) },
    { dst := some 13, op := .mv (.t 14) }]) <|
  .cond (.t 13)
    (.skip)
    (.reg [
      { dst := some 15, op := .bin .eql .sc (.t 12) (.k (.int .i64 2)) },
      { dst := some 13, op := .mv (.t 15) }])) <|
  .cond (.t 13)
    (.skip)
    (.seq (.reg [
      { dst := some 17, op := .bin .eql .sc (.t 12) (.k (.int .i64 1)) },
      { dst := some 16, op := .mv (.t 17) }]) <|
    .cond (.t 16)
      (.reg [
        { dst := some 18, op := .fld 1 (.t 5) },
        { dst := some 19, op := .ld 1 false (.t 18) },
        { dst := some 20, op := .mx (.t 19) (.k (.int .i64 0)) },
        { dst := some 21, op := .mn (.t 20) (.k (.int .i64 8)) },
        { dst := some 22, op := .fld 1 (.t 7) },
        { dst := none, op := .st 1 (.t 22) (.t 21) }])
      (.seq (.reg [
        { dst := some 24, op := .bin .eql .sc (.t 12) (.k (.int .i64 4)) },
        { dst := some 23, op := .mv (.t 24) }]) <|
      .cond (.t 23)
        (.reg [
          { dst := some 25, op := .fld 1 (.t 5) },
          { dst := some 26, op := .ld 1 false (.t 25) },
          { dst := some 27, op := .mx (.t 26) (.k (.int .i64 0)) },
          { dst := some 28, op := .mn (.t 27) (.k (.int .i64 5)) },
          { dst := some 29, op := .fld 1 (.t 7) },
          { dst := none, op := .st 1 (.t 29) (.t 28) }])
        (.seq (.reg [
          { dst := some 31, op := .bin .eql .sc (.t 12) (.k (.int .i64 3)) },
          { dst := some 30, op := .mv (.t 31) }]) <|
        .cond (.t 30)
          (.drw [
            { dst := some 32, op := .fld 2 (.t 5) },
            { dst := some 33, op := .ld 1 false (.t 32) },
            { dst := some 34, op := .mx (.t 33) (.k (.int .i64 0)) },
            { dst := some 35, op := .mv (.t 0) },
            { dst := some 36, op := .nilck (.t 35) },
            { dst := some 37, op := .fld 0 (.t 36) },
            { dst := some 38, op := .fld 3 (.t 37) },
            { dst := some 39, op := .ld 1 false (.t 38) },
            { dst := some 40, op := .mv (.t 1) },
            { dst := some 41, op := .idx 6 (.t 39) (.t 40) },
            { dst := some 42, op := .fld 3 (.t 41) },
            { dst := some 43, op := .ld 1 false (.t 42) },
            { dst := some 44, op := .len (.t 43) },
            { dst := some 45, op := .bin .sub .sc (.t 44) (.k (.int .i64 1)) },
            { dst := some 46, op := .mn (.t 34) (.t 45) },
            { dst := some 47, op := .fld 3 (.t 5) },
            { dst := some 48, op := .ld 1 false (.t 47) },
            { dst := some 49, op := .fld 2 (.t 7) },
            { dst := none, op := .st 1 (.t 49) (.t 46) },
            { dst := some 50, op := .fld 3 (.t 7) },
            { dst := none, op := .st 1 (.t 50) (.t 48) }] [[], [], [], [], [], [], [], [], [], [7], [], [7, 9], [], [], [], [], [], [], [1, 7, 9, 11], [], [1, 7, 9, 11, 16, 18]])
          (.seq (.reg [
            { dst := some 6, op := .mv (.k (.bool false)) }]) <|
          .ret))))) <|
  .seq (.reg [
    { dst := some 51, op := .ld 4 true (.t 5) },
    { dst := some 52, op := .ld 4 true (.t 7) },
    { dst := some 53, op := .bin .eql (.st [.i, .i, .i, .b]) (.t 51) (.t 52) },
    { dst := some 6, op := .mv (.t 53) }]) <|
  .ret⟩

def f42 : DFn := ⟨3, [.t 6],
  .seq (.reg [
    { dst := some 3, op := .boxH (.t 0) },
    { dst := some 5, op := .boxH (.t 2) },
    { dst := some 6, op := .mv (.k (.bool false)) }]) <|
  .seq (.drw [
    { dst := some 11, op := .fld 3 (.t 3) },
    { dst := some 12, op := .ld 1 false (.t 11) },
    { dst := some 13, op := .mv (.t 1) },
    { dst := some 14, op := .idx 6 (.t 12) (.t 13) },
    { dst := some 15, op := .ld 6 true (.t 14) },
    { dst := some 16, op := .fld 3 (.t 3) },
    { dst := some 17, op := .ld 1 false (.t 16) },
    { dst := some 18, op := .ld 1 false (.t 5) },
    { dst := some 19, op := .idx 6 (.t 17) (.t 18) },
    { dst := some 20, op := .ld 6 true (.t 19) },
    { dst := some 7, op := .alL [.str [], .int .i64 0, .int .i64 0, .nils, .nils, .nils] },
    { dst := some 8, op := .alH [.str [], .int .i64 0, .int .i64 0, .nils, .nils, .nils] },
    { dst := none, op := .st 6 (.t 7) (.t 15) },
    { dst := none, op := .st 6 (.t 8) (.t 20) }] [[], [], [], [1], [1, 3], [], [], [], [6, 7], [6, 7, 8], [], [], [1, 3, 4, 10, 11], [1, 3, 4, 6, 7, 8, 9, 10, 11, 12]]) <|
  .seq (.reg [
    { dst := some 21, op := .fld 3 (.t 7) },
    { dst := some 22, op := .ld 1 false (.t 21) },
    { dst := some 23, op := .mkF 69 [(.t 8)] },
    { dst := some 24, op := .call .ro 40 [(.t 22), (.t 23)] },
    { dst := some 9, op := .mv (.t 24) }]) <|
  .seq (.reg [
    { dst := some 25, op := .ld 4 true (.t 3) },
    { dst := some 26, op := .mv (.t 1) },
    { dst := some 27, op := .call .blind 60 [(.t 25), (.t 26)] },
    { dst := some 28, op := .mkF 70 [(.t 3), (.t 5)] },
    { dst := some 29, op := .call .ro 64 [(.t 27), (.t 28)] },
    { dst := some 10, op := .mv (.t 29) }]) <|
  .seq (.reg [
    { dst := some 30, op := .mv (.t 1) },
    { dst := some 31, op := .ld 1 false (.t 5) },
    { dst := some 32, op := .bin .eql .sc (.t 30) (.t 31) },
    { dst := some 33, op := .mv (.t 32) },
    { dst := some 34, op := .fld 1 (.t 7), guard := some (33, false) },
    { dst := some 35, op := .ld 1 false (.t 34), guard := some (33, false) },
    { dst := some 36, op := .fld 1 (.t 8), guard := some (33, false) },
    { dst := some 37, op := .ld 1 false (.t 36), guard := some (33, false) },
    { dst := some 38, op := .bin .eql .sc (.t 35) (.t 37), guard := some (33, false) },
    { dst := some 39, op := .pick (.t 33) (.k (.bool true)) (.t 38) },
    { dst := some 40, op := .mv (.t 39) },
    { dst := some 41, op := .mv (.t 9), guard := some (40, false) },
    { dst := some 42, op := .pick (.t 40) (.k (.bool true)) (.t 41) },
    { dst := some 43, op := .mv (.t 42) },
    { dst := some 44, op := .mv (.t 10), guard := some (43, false) },
    { dst := some 45, op := .pick (.t 43) (.k (.bool true)) (.t 44) },
    { dst := some 6, op := .mv (.t 45) }]) <|
  .ret⟩

def f43 : DFn := ⟨1, [.t 2],
  .seq (.reg [
    { dst := some 2, op := .mv (.k (.nils)) }]) <|
  .seq (.seq (.reg [
    { dst := some 3, op := .mv (.t 0) },
    { dst := some 4, op := .bin .eql .ns (.t 3) (.k (.nils)) }]) <|
  .cond (.t 4)
    (.seq (.reg [
      { dst := some 2, op := .mv (.k (.nils)) }]) <|
    .ret)
    (.skip)) <|
  .seq (.reg [
    { dst := some 5, op := .bsl false 4 [.int .i64 0, .int .i64 0, .int .i64 0, .bool false] 0 [] },
    { dst := some 6, op := .mv (.t 0) },
    { dst := some 7, op := .app 4 32 (.t 5) (.t 6) },
    { dst := some 2, op := .mv (.t 7) }]) <|
  .ret⟩

def f44 : DFn := ⟨2, [.t 4],
  .seq (.reg [
    { dst := some 2, op := .boxL (.t 0) },
    { dst := some 4, op := .mv (.k (.bool false)) }]) <|
  .seq (.seq (.reg [
    { dst := some 5, op := .fld 0 (.t 2) },
    { dst := some 6, op := .ld 1 false (.t 5) }]) <|
  .block 0 <|
  .seq (.reg [
    { dst := some 8, op := .bin .eql .sc (.t 6) (.k (.int .i64 1)) },
    { dst := some 7, op := .mv (.t 8) }]) <|
  .cond (.t 7)
    (.seq (.reg [
      { dst := some 9, op := .fld 1 (.t 2) },
      { dst := some 10, op := .ld 1 false (.t 9) },
      { dst := some 11, op := .bin .geq .sc (.t 10) (.k (.int .i64 0)) },
      { dst := some 12, op := .mv (.t 11) },
      { dst := some 13, op := .fld 1 (.t 2), guard := some (12, true) },
      { dst := some 14, op := .ld 1 false (.t 13), guard := some (12, true) },
      { dst := some 15, op := .bin .leq .sc (.t 14) (.k (.int .i64 8)), guard := some (12, true) },
      { dst := some 16, op := .pick (.t 12) (.t 15) (.k (.bool false)) },
      { dst := some 17, op := .mv (.t 16) },
      { dst := some 18, op := .fld 2 (.t 2), guard := some (17, true) },
      { dst := some 19, op := .ld 1 false (.t 18), guard := some (17, true) },
      { dst := some 20, op := .bin .eql .sc (.t 19) (.k (.int .i64 0)), guard := some (17, true) },
      { dst := some 21, op := .pick (.t 17) (.t 20) (.k (.bool false)) },
      { dst := some 22, op := .mv (.t 21) },
      { dst := some 23, op := .fld 3 (.t 2), guard := some (22, true) },
      { dst := some 24, op := .ld 1 false (.t 23), guard := some (22, true) },
      { dst := some 25, op := .un .not (.t 24), guard := some (22, true) },
      { dst := some 26, op := .pick (.t 22) (.t 25) (.k (.bool false)) },
      { dst := some 4, op := .mv (.t 26) }]) <|
    .ret)
    (.seq (.reg [
      { dst := some 28, op := .bin .eql .sc (.t 6) (.k (.int .i64 4)) },
      { dst := some 27, op := .mv (.t 28) }]) <|
    .cond (.t 27)
      (.seq (.reg [
        { dst := some 29, op := .fld 1 (.t 2) },
        { dst := some 30, op := .ld 1 false (.t 29) },
        { dst := some 31, op := .bin .geq .sc (.t 30) (.k (.int .i64 0)) },
        { dst := some 32, op := .mv (.t 31) },
        { dst := some 33, op := .fld 1 (.t 2), guard := some (32, true) },
        { dst := some 34, op := .ld 1 false (.t 33), guard := some (32, true) },
        { dst := some 35, op := .bin .lss .sc (.t 34) (.k (.int .i64 6)), guard := some (32, true) },
        { dst := some 36, op := .pick (.t 32) (.t 35) (.k (.bool false)) },
        { dst := some 37, op := .mv (.t 36) },
        { dst := some 38, op := .fld 2 (.t 2), guard := some (37, true) },
        { dst := some 39, op := .ld 1 false (.t 38), guard := some (37, true) },
        { dst := some 40, op := .bin .eql .sc (.t 39) (.k (.int .i64 0)), guard := some (37, true) },
        { dst := some 41, op := .pick (.t 37) (.t 40) (.k (.bool false)) },
        { dst := some 42, op := .mv (.t 41) },
        { dst := some 43, op := .fld 3 (.t 2), guard := some (42, true) },
        { dst := some 44, op := .ld 1 false (.t 43), guard := some (42, true) },
        { dst := some 45, op := .un .not (.t 44), guard := some (42, true) },
        { dst := some 46, op := .pick (.t 42) (.t 45) (.k (.bool false)) },
        { dst := some 4, op := .mv (.t 46) }]) <|
      .ret)
      (.seq (.reg [
        { dst := some 48, op := .bin .eql .sc (.t 6) (.k (.int .i64 3)) },
        { dst := some 47, op := .mv (.t 48) }]) <|
      .cond (.t 47)
        (.seq (.reg [
          { dst := some 49, op := .fld 1 (.t 2) },
          { dst := some 50, op := .ld 1 false (.t 49) },
          { dst := some 51, op := .bin .eql .sc (.t 50) (.k (.int .i64 0)) },
          { dst := some 52, op := .mv (.t 51) },
          { dst := some 53, op := .fld 2 (.t 2), guard := some (52, true) },
          { dst := some 54, op := .ld 1 false (.t 53), guard := some (52, true) },
          { dst := some 55, op := .bin .geq .sc (.t 54) (.k (.int .i64 0)), guard := some (52, true) },
          { dst := some 56, op := .pick (.t 52) (.t 55) (.k (.bool false)) },
          { dst := some 57, op := .mv (.t 56) },
          { dst := some 58, op := .fld 2 (.t 2), guard := some (57, true) },
          { dst := some 59, op := .ld 1 false (.t 58), guard := some (57, true) },
          { dst := some 60, op := .mv (.t 1), guard := some (57, true) },
          { dst := some 61, op := .len (.t 60), guard := some (57, true) },
          { dst := some 62, op := .bin .lss .sc (.t 59) (.t 61), guard := some (57, true) },
          { dst := some 63, op := .pick (.t 57) (.t 62) (.k (.bool false)) },
          { dst := some 4, op := .mv (.t 63) }]) <|
        .ret)
        (.seq (.seq (.reg [
          { dst := some 65, op := .bin .eql .sc (.t 6) (.k (.int .i64 0)) },
          { dst := some 64, op := .mv (.t 65) }]) <|
        .cond (.t 64)
          (.skip)
          (.reg [
            { dst := some 66, op := .bin .eql .sc (.t 6) (.k (.int .i64 2)) },
            { dst := some 64, op := .mv (.t 66) }])) <|
        .cond (.t 64)
          (.seq (.reg [
            { dst := some 67, op := .fld 1 (.t 2) },
            { dst := some 68, op := .ld 1 false (.t 67) },
            { dst := some 69, op := .bin .eql .sc (.t 68) (.k (.int .i64 0)) },
            { dst := some 70, op := .mv (.t 69) },
            { dst := some 71, op := .fld 2 (.t 2), guard := some (70, true) },
            { dst := some 72, op := .ld 1 false (.t 71), guard := some (70, true) },
            { dst := some 73, op := .bin .eql .sc (.t 72) (.k (.int .i64 0)), guard := some (70, true) },
            { dst := some 74, op := .pick (.t 70) (.t 73) (.k (.bool false)) },
            { dst := some 75, op := .mv (.t 74) },
            { dst := some 76, op := .fld 3 (.t 2), guard := some (75, true) },
            { dst := some 77, op := .ld 1 false (.t 76), guard := some (75, true) },
            { dst := some 78, op := .un .not (.t 77), guard := some (75, true) },
            { dst := some 79, op := .pick (.t 75) (.t 78) (.k (.bool false)) },
            { dst := some 4, op := .mv (.t 79) }]) <|
          .ret)
          (.skip))))) <|
  .seq (.reg [
    { dst := some 4, op := .mv (.k (.bool false)) }]) <|
  .ret⟩

def f45 : DFn := ⟨3, [.t 6],
  .seq (.reg [
    { dst := some 3, op := .boxL (.t 0) },
    { dst := some 6, op := .mv (.k (.bool false)) }]) <|
  .seq (.drw [
    { dst := some 14, op := .fld 3 (.t 3) },
    { dst := some 15, op := .ld 1 false (.t 14) },
    { dst := some 16, op := .mv (.t 1) },
    { dst := some 17, op := .idx 6 (.t 15) (.t 16) },
    { dst := some 18, op := .ld 6 true (.t 17) },
    { dst := some 19, op := .fld 3 (.t 3) },
    { dst := some 20, op := .ld 1 false (.t 19) },
    { dst := some 21, op := .mv (.t 2) },
    { dst := some 22, op := .idx 6 (.t 20) (.t 21) },
    { dst := some 23, op := .ld 6 true (.t 22) },
    { dst := some 7, op := .alL [.str [], .int .i64 0, .int .i64 0, .nils, .nils, .nils] },
    { dst := some 8, op := .alL [.str [], .int .i64 0, .int .i64 0, .nils, .nils, .nils] },
    { dst := none, op := .st 6 (.t 7) (.t 18) },
    { dst := none, op := .st 6 (.t 8) (.t 23) }] [[], [], [], [1], [1, 3], [], [], [], [6], [6, 8], [], [], [1, 3, 4, 10, 11], [1, 3, 4, 6, 8, 9, 10, 11, 12]]) <|
  .seq (.seq (.reg [
    { dst := some 24, op := .mv (.t 1) },
    { dst := some 25, op := .mv (.t 2) },
    { dst := some 26, op := .bin .eql .sc (.t 24) (.t 25) },
    { dst := some 27, op := .mv (.t 26) },
    { dst := some 28, op := .fld 1 (.t 7), guard := some (27, false) },
    { dst := some 29, op := .ld 1 false (.t 28), guard := some (27, false) },
    { dst := some 30, op := .fld 1 (.t 8), guard := some (27, false) },
    { dst := some 31, op := .ld 1 false (.t 30), guard := some (27, false) },
    { dst := some 32, op := .bin .eql .sc (.t 29) (.t 31), guard := some (27, false) },
    { dst := some 33, op := .pick (.t 27) (.k (.bool true)) (.t 32) }]) <|
  .cond (.t 33)
    (.seq (.reg [
      { dst := some 6, op := .mv (.k (.bool true)) }]) <|
    .ret)
    (.skip)) <|
  .seq (.seq (.reg [
    { dst := some 9, op := .mv (.k (.int .i64 0)) }]) <|
  .block 0 <|
  .loop [1, 2, 3, 7, 8, 9] [3, 7, 8] <|
  .seq (.seq (.reg [
    { dst := some 34, op := .mv (.t 9) },
    { dst := some 35, op := .fld 3 (.t 7) },
    { dst := some 36, op := .ld 1 false (.t 35) },
    { dst := some 37, op := .len (.t 36) },
    { dst := some 38, op := .bin .lss .sc (.t 34) (.t 37) }]) <|
  .cond (.t 38)
    (.skip)
    (.exit 0)) <|
  .seq (.block 1 <|
  .seq (.drw [
    { dst := some 41, op := .fld 3 (.t 8) },
    { dst := some 42, op := .ld 1 false (.t 41) },
    { dst := some 43, op := .fld 3 (.t 7) },
    { dst := some 44, op := .ld 1 false (.t 43) },
    { dst := some 45, op := .mv (.t 9) },
    { dst := some 46, op := .idx 1 (.t 44) (.t 45) },
    { dst := some 47, op := .ld 1 false (.t 46) },
    { dst := some 48, op := .call .blind 46 [(.t 42), (.t 47)] }] [[], [], [], [], [], [3], [3, 5], [1, 3, 5, 6]]) <|
  .cond (.t 48)
    (.seq (.reg [
      { dst := some 6, op := .mv (.k (.bool true)) }]) <|
    .ret)
    (.skip)) <|
  .reg [
    { dst := some 39, op := .mv (.t 9) },
    { dst := some 40, op := .bin .add .sc (.t 39) (.k (.int .i64 1)) },
    { dst := some 9, op := .mv (.t 40) }]) <|
  .seq (.drw [
    { dst := some 49, op := .ld 4 true (.t 3) },
    { dst := some 50, op := .mv (.t 1) },
    { dst := some 51, op := .call .blind 72 [(.t 49), (.t 50)] },
    { dst := some 52, op := .ld 4 true (.t 3) },
    { dst := some 53, op := .mv (.t 2) },
    { dst := some 54, op := .call .blind 72 [(.t 52), (.t 53)] },
    { dst := some 10, op := .mv (.t 51) },
    { dst := some 11, op := .mv (.t 54) }] [[], [], [0], [], [], [0, 2, 3], [], []]) <|
  .seq (.seq (.reg [
    { dst := some 12, op := .mv (.k (.int .i64 0)) }]) <|
  .block 2 <|
  .loop [10, 11, 12] [] <|
  .seq (.seq (.reg [
    { dst := some 55, op := .mv (.t 12) },
    { dst := some 56, op := .mv (.t 10) },
    { dst := some 57, op := .len (.t 56) },
    { dst := some 58, op := .bin .lss .sc (.t 55) (.t 57) }]) <|
  .cond (.t 58)
    (.skip)
    (.exit 2)) <|
  .seq (.block 3 <|
  .seq (.reg [
    { dst := some 13, op := .mv (.k (.int .i64 0)) }]) <|
  .block 4 <|
  .loop [10, 11, 12, 13] [] <|
  .seq (.seq (.reg [
    { dst := some 61, op := .mv (.t 13) },
    { dst := some 62, op := .mv (.t 11) },
    { dst := some 63, op := .len (.t 62) },
    { dst := some 64, op := .bin .lss .sc (.t 61) (.t 63) }]) <|
  .cond (.t 64)
    (.skip)
    (.exit 4)) <|
  .seq (.block 5 <|
  .seq (.drw [
    { dst := some 67, op := .mv (.t 10) },
    { dst := some 68, op := .mv (.t 12) },
    { dst := some 69, op := .idx 2 (.t 67) (.t 68) },
    { dst := some 70, op := .fld 0 (.t 69) },
    { dst := some 71, op := .ld 1 false (.t 70) },
    { dst := some 72, op := .mv (.t 11) },
    { dst := some 73, op := .mv (.t 13) },
    { dst := some 74, op := .idx 2 (.t 72) (.t 73) },
    { dst := some 75, op := .fld 0 (.t 74) },
    { dst := some 76, op := .ld 1 false (.t 75) },
    { dst := some 77, op := .bin .eql .sc (.t 71) (.t 76) },
    { dst := some 78, op := .mv (.t 77) },
    { dst := some 79, op := .mv (.t 10), guard := some (78, true) },
    { dst := some 80, op := .mv (.t 12), guard := some (78, true) },
    { dst := some 81, op := .idx 2 (.t 79) (.t 80), guard := some (78, true) },
    { dst := some 82, op := .fld 1 (.t 81), guard := some (78, true) },
    { dst := some 83, op := .ld 1 false (.t 82), guard := some (78, true) },
    { dst := some 84, op := .mv (.t 11), guard := some (78, true) },
    { dst := some 85, op := .mv (.t 13), guard := some (78, true) },
    { dst := some 86, op := .idx 2 (.t 84) (.t 85), guard := some (78, true) },
    { dst := some 87, op := .fld 1 (.t 86), guard := some (78, true) },
    { dst := some 88, op := .ld 1 false (.t 87), guard := some (78, true) },
    { dst := some 89, op := .bin .neq .bl (.t 83) (.t 88), guard := some (78, true) },
    { dst := some 90, op := .pick (.t 78) (.t 89) (.k (.bool false)) }] [[], [], [], [], [2], [], [], [], [], [7], [], [], [], [], [2, 4, 7, 9], [], [2, 4, 7, 9, 14], [], [], [2, 4, 7, 9], [], [2, 4, 7, 9, 19], [], []]) <|
  .cond (.t 90)
    (.seq (.reg [
      { dst := some 6, op := .mv (.k (.bool true)) }]) <|
    .ret)
    (.skip)) <|
  .reg [
    { dst := some 65, op := .mv (.t 13) },
    { dst := some 66, op := .bin .add .sc (.t 65) (.k (.int .i64 1)) },
    { dst := some 13, op := .mv (.t 66) }]) <|
  .reg [
    { dst := some 59, op := .mv (.t 12) },
    { dst := some 60, op := .bin .add .sc (.t 59) (.k (.int .i64 1)) },
    { dst := some 12, op := .mv (.t 60) }]) <|
  .seq (.reg [
    { dst := some 6, op := .mv (.k (.bool false)) }]) <|
  .ret⟩

def f46 : DFn := ⟨2, [.t 4],
  .seq (.reg [
    { dst := some 4, op := .mv (.k (.bool false)) }]) <|
  .seq (.seq (.reg [
    { dst := some 5, op := .mv (.k (.int .i64 0)) }]) <|
  .block 0 <|
  .loop [0, 1, 5] [] <|
  .seq (.seq (.reg [
    { dst := some 6, op := .mv (.t 5) },
    { dst := some 7, op := .mv (.t 0) },
    { dst := some 8, op := .len (.t 7) },
    { dst := some 9, op := .bin .lss .sc (.t 6) (.t 8) }]) <|
  .cond (.t 9)
    (.skip)
    (.exit 0)) <|
  .seq (.block 1 <|
  .seq (.reg [
    { dst := some 12, op := .mv (.t 0) },
    { dst := some 13, op := .mv (.t 5) },
    { dst := some 14, op := .idx 1 (.t 12) (.t 13) },
    { dst := some 15, op := .ld 1 false (.t 14) },
    { dst := some 16, op := .mv (.t 1) },
    { dst := some 17, op := .bin .eql .sc (.t 15) (.t 16) }]) <|
  .cond (.t 17)
    (.seq (.reg [
      { dst := some 4, op := .mv (.k (.bool true)) }]) <|
    .ret)
    (.skip)) <|
  .reg [
    { dst := some 10, op := .mv (.t 5) },
    { dst := some 11, op := .bin .add .sc (.t 10) (.k (.int .i64 1)) },
    { dst := some 5, op := .mv (.t 11) }]) <|
  .seq (.reg [
    { dst := some 4, op := .mv (.k (.bool false)) }]) <|
  .ret⟩

def f47 : DFn := ⟨2, [.t 4],
  .seq (.reg [
    { dst := some 4, op := .mv (.k (.bool false)) }]) <|
  .seq (.reg [
    { dst := some 5, op := .mv (.t 0) },
    { dst := some 6, op := .mv (.t 1) },
    { dst := some 7, op := .call .blind 73 [(.t 5), (.t 6)] },
    { dst := some 8, op := .bin .geq .sc (.t 7) (.k (.int .i64 0)) },
    { dst := some 4, op := .mv (.t 8) }]) <|
  .ret⟩

def f48 : DFn := ⟨2, [.t 4],
  .seq (.reg [
    { dst := some 4, op := .mv (.k (.nils)) }]) <|
  .seq (.drw [
    { dst := some 7, op := .mv (.t 0) },
    { dst := some 8, op := .nilck (.t 7) },
    { dst := some 9, op := .fld 4 (.t 8) },
    { dst := some 10, op := .ld 1 false (.t 9) },
    { dst := some 11, op := .mv (.t 1) },
    { dst := some 12, op := .idx 4 (.t 10) (.t 11) },
    { dst := some 13, op := .ld 4 true (.t 12) },
    { dst := some 14, op := .mv (.t 0) },
    { dst := some 15, op := .nilck (.t 14) },
    { dst := some 16, op := .fld 0 (.t 15) },
    { dst := some 17, op := .fld 3 (.t 16) },
    { dst := some 18, op := .ld 1 false (.t 17) },
    { dst := some 19, op := .mv (.t 1) },
    { dst := some 20, op := .idx 6 (.t 18) (.t 19) },
    { dst := some 21, op := .fld 3 (.t 20) },
    { dst := some 22, op := .ld 1 false (.t 21) },
    { dst := some 5, op := .alL [.int .i64 0, .int .i64 0, .int .i64 0, .bool false] },
    { dst := none, op := .st 4 (.t 5) (.t 13) },
    { dst := some 6, op := .mv (.t 22) }] [[], [], [], [], [], [3], [3, 5], [], [], [], [], [], [], [11], [], [11, 13], [], [3, 5, 6, 16], []]) <|
  .seq (.seq (.reg [
    { dst := some 23, op := .fld 0 (.t 5) },
    { dst := some 24, op := .ld 1 false (.t 23) }]) <|
  .block 0 <|
  .seq (.seq (.reg [
    { dst := some 26, op := .bin .eql .sc (.t 24) (.k (.int .i64 1)) },
    { dst := some 25, op := .mv (.t 26) }]) <|
  .cond (.t 25)
    (.skip)
    (.seq (.reg [
      { dst := some 27, op := .bin .eql .sc (.t 24) (.k (.int .i64 2)) },
      { dst := some 25, op := .mv (.t 27) }]) <|
    .cond (.t 25)
      (.skip)
      (.reg [
        { dst := some 28, op := .bin .eql .sc (.t 24) (.k (.int .i64 4)) },
        { dst := some 25, op := .mv (.t 28) }]))) <|
  .cond (.t 25)
    (.seq (.reg [
      { dst := some 29, op := .mv (.t 6) },
      { dst := some 4, op := .mv (.t 29) }]) <|
    .ret)
    (.seq (.reg [
      { dst := some 31, op := .bin .eql .sc (.t 24) (.k (.int .i64 3)) },
      { dst := some 30, op := .mv (.t 31) }]) <|
    .cond (.t 30)
      (.seq (.reg [
        { dst := some 32, op := .mv (.t 6) },
        { dst := some 33, op := .fld 2 (.t 5) },
        { dst := some 34, op := .ld 1 false (.t 33) },
        { dst := some 35, op := .slc 1 (.t 32) (some (.t 34)) none none },
        { dst := some 4, op := .mv (.t 35) }]) <|
      .ret)
      (.skip))) <|
  .seq (.reg [
    { dst := some 4, op := .mv (.k (.nils)) }]) <|
  .ret⟩

def f49 : DFn := ⟨3, [.t 6],
  .seq (.reg [
    { dst := some 6, op := .mv (.k (.bool false)) }]) <|
  .seq (.reg [
    { dst := some 7, op := .mv (.t 0) },
    { dst := some 8, op := .mv (.t 1) },
    { dst := some 9, op := .bin .geq .sc (.t 7) (.t 8) },
    { dst := some 10, op := .mv (.t 9) },
    { dst := some 11, op := .mv (.t 0), guard := some (10, true) },
    { dst := some 12, op := .mv (.t 2), guard := some (10, true) },
    { dst := some 13, op := .bin .leq .sc (.t 11) (.t 12), guard := some (10, true) },
    { dst := some 14, op := .pick (.t 10) (.t 13) (.k (.bool false)) },
    { dst := some 6, op := .mv (.t 14) }]) <|
  .ret⟩

def f50 : DFn := ⟨2, [.t 4],
  .seq (.reg [
    { dst := some 2, op := .boxL (.t 0) },
    { dst := some 3, op := .boxL (.t 1) },
    { dst := some 4, op := .mv (.k (.bool false)) }]) <|
  .seq (.reg [
    { dst := some 9, op := .fld 2 (.t 2) },
    { dst := some 10, op := .ld 1 false (.t 9) },
    { dst := some 11, op := .len (.t 10) },
    { dst := some 12, op := .bin .sub .sc (.t 11) (.k (.int .i64 1)) },
    { dst := some 5, op := .mv (.t 12) }]) <|
  .seq (.seq (.reg [
    { dst := some 13, op := .fld 1 (.t 3) },
    { dst := some 14, op := .ld 1 false (.t 13) },
    { dst := some 15, op := .mv (.t 5) },
    { dst := some 16, op := .call .blind 49 [(.t 14), (.k (.int .i64 0)), (.t 15)] },
    { dst := some 17, op := .un .not (.t 16) },
    { dst := some 18, op := .mv (.t 17) },
    { dst := some 19, op := .fld 2 (.t 3), guard := some (18, false) },
    { dst := some 20, op := .ld 1 false (.t 19), guard := some (18, false) },
    { dst := some 21, op := .mv (.t 5), guard := some (18, false) },
    { dst := some 22, op := .call .blind 49 [(.t 20), (.k (.int .i64 0)), (.t 21)], guard := some (18, false) },
    { dst := some 23, op := .un .not (.t 22), guard := some (18, false) },
    { dst := some 24, op := .pick (.t 18) (.k (.bool true)) (.t 23) },
    { dst := some 25, op := .mv (.t 24) },
    { dst := some 26, op := .fld 1 (.t 3), guard := some (25, false) },
    { dst := some 27, op := .ld 1 false (.t 26), guard := some (25, false) },
    { dst := some 28, op := .fld 2 (.t 3), guard := some (25, false) },
    { dst := some 29, op := .ld 1 false (.t 28), guard := some (25, false) },
    { dst := some 30, op := .bin .eql .sc (.t 27) (.t 29), guard := some (25, false) },
    { dst := some 31, op := .pick (.t 25) (.k (.bool true)) (.t 30) },
    { dst := some 32, op := .mv (.t 31) },
    { dst := some 33, op := .ld 4 true (.t 2), guard := some (32, false) },
    { dst := some 34, op := .fld 3 (.t 3), guard := some (32, false) },
    { dst := some 35, op := .ld 1 false (.t 34), guard := some (32, false) },
    { dst := some 36, op := .call .blind 74 [(.t 33), (.t 35)], guard := some (32, false) },
    { dst := some 37, op := .un .not (.t 36), guard := some (32, false) },
    { dst := some 38, op := .pick (.t 32) (.k (.bool true)) (.t 37) },
    { dst := some 39, op := .mv (.t 38) },
    { dst := some 40, op := .ld 4 true (.t 2), guard := some (39, false) },
    { dst := some 41, op := .fld 4 (.t 3), guard := some (39, false) },
    { dst := some 42, op := .ld 1 false (.t 41), guard := some (39, false) },
    { dst := some 43, op := .fld 3 (.t 3), guard := some (39, false) },
    { dst := some 44, op := .ld 1 false (.t 43), guard := some (39, false) },
    { dst := some 45, op := .call .blind 75 [(.t 40), (.t 42), (.t 44), (.k (.bool true))], guard := some (39, false) },
    { dst := some 46, op := .un .not (.t 45), guard := some (39, false) },
    { dst := some 47, op := .pick (.t 39) (.k (.bool true)) (.t 46) },
    { dst := some 48, op := .mv (.t 47) },
    { dst := some 49, op := .ld 4 true (.t 2), guard := some (48, false) },
    { dst := some 50, op := .fld 5 (.t 3), guard := some (48, false) },
    { dst := some 51, op := .ld 1 false (.t 50), guard := some (48, false) },
    { dst := some 52, op := .fld 3 (.t 3), guard := some (48, false) },
    { dst := some 53, op := .ld 1 false (.t 52), guard := some (48, false) },
    { dst := some 54, op := .call .blind 75 [(.t 49), (.t 51), (.t 53), (.k (.bool false))], guard := some (48, false) },
    { dst := some 55, op := .un .not (.t 54), guard := some (48, false) },
    { dst := some 56, op := .pick (.t 48) (.k (.bool true)) (.t 55) }]) <|
  .cond (.t 56)
    (.seq (.reg [
      { dst := some 4, op := .mv (.k (.bool false)) }]) <|
    .ret)
    (.skip)) <|
  .seq (.reg [
    { dst := some 6, op := .mv (.k (.int .i64 0)) }]) <|
  .seq (.seq (.reg [
    { dst := some 57, op := .fld 1 (.t 2) },
    { dst := some 58, op := .ld 1 false (.t 57) },
    { dst := some 59, op := .len (.t 58) },
    { dst := some 60, op := .mv (.k (.int .i64 0)) }]) <|
  .block 0 <|
  .loop [3, 6, 58, 59, 60] [3] <|
  .seq (.reg [
    { dst := some 61, op := .bin .lss .sc (.t 60) (.t 59) }]) <|
  .seq (.cond (.t 61)
    (.skip)
    (.exit 0)) <|
  .seq (.block 1 <|
  .seq (.reg [
    { dst := some 62, op := .idx 2 (.t 58) (.t 60) },
    { dst := some 63, op := .ld 2 true (.t 62) },
    { dst := some 8, op := .alL [.str [], .int .i64 0] },
    { dst := none, op := .st 2 (.t 8) (.t 63) }]) <|
  .seq (.reg [
    { dst := some 64, op := .fld 3 (.t 3) },
    { dst := some 65, op := .ld 1 false (.t 64) },
    { dst := some 66, op := .fld 1 (.t 8) },
    { dst := some 67, op := .ld 1 false (.t 66) },
    { dst := some 68, op := .call .blind 47 [(.t 65), (.t 67)] }]) <|
  .cond (.t 68)
    (.reg [
      { dst := some 69, op := .mv (.t 6) },
      { dst := some 70, op := .bin .add .sc (.t 69) (.k (.int .i64 1)) },
      { dst := some 6, op := .mv (.t 70) }])
    (.skip)) <|
  .reg [
    { dst := some 71, op := .bin .add .sc (.t 60) (.k (.int .i64 1)) },
    { dst := some 60, op := .mv (.t 71) }]) <|
  .seq (.reg [
    { dst := some 72, op := .mv (.t 6) },
    { dst := some 73, op := .fld 4 (.t 3) },
    { dst := some 74, op := .ld 1 false (.t 73) },
    { dst := some 75, op := .len (.t 74) },
    { dst := some 76, op := .bin .eql .sc (.t 72) (.t 75) },
    { dst := some 4, op := .mv (.t 76) }]) <|
  .ret⟩

def f51 : DFn := ⟨1, [.t 2],
  .seq (.reg [
    { dst := some 2, op := .mv (.k (.bool false)) }]) <|
  .seq (.seq (.reg [
    { dst := some 5, op := .mv (.t 0) },
    { dst := some 6, op := .len (.t 5) },
    { dst := some 7, op := .mv (.k (.int .i64 0)) }]) <|
  .block 0 <|
  .loop [0, 5, 6, 7] [] <|
  .seq (.reg [
    { dst := some 8, op := .bin .lss .sc (.t 7) (.t 6) }]) <|
  .seq (.cond (.t 8)
    (.skip)
    (.exit 0)) <|
  .seq (.block 1 <|
  .seq (.reg [
    { dst := some 9, op := .mv (.t 7) },
    { dst := some 10, op := .idx 1 (.t 5) (.t 7) },
    { dst := some 11, op := .ld 1 false (.t 10) },
    { dst := some 3, op := .mv (.t 9) },
    { dst := some 4, op := .mv (.t 11) }]) <|
  .seq (.reg [
    { dst := some 12, op := .mv (.t 4) },
    { dst := some 13, op := .call .blind 76 [(.t 12)] },
    { dst := some 14, op := .un .not (.t 13) },
    { dst := some 15, op := .mv (.t 14) },
    { dst := some 16, op := .mv (.t 4), guard := some (15, false) },
    { dst := some 17, op := .bin .eql .sc (.t 16) (.k (.str [115, 101, 116])), guard := some (15, false) },
    { dst := some 18, op := .pick (.t 15) (.k (.bool true)) (.t 17) },
    { dst := some 19, op := .mv (.t 18) },
    { dst := some 20, op := .mv (.t 4), guard := some (19, false) },
    { dst := some 21, op := .bin .eql .sc (.t 20) (.k (.str [102, 108, 97, 110, 107])), guard := some (19, false) },
    { dst := some 22, op := .pick (.t 19) (.k (.bool true)) (.t 21) },
    { dst := some 23, op := .mv (.t 22) },
    { dst := some 24, op := .mv (.t 0), guard := some (23, false) },
    { dst := some 25, op := .mv (.t 3), guard := some (23, false) },
    { dst := some 26, op := .slc 1 (.t 24) none (some (.t 25)) none, guard := some (23, false) },
    { dst := some 27, op := .mv (.t 4), guard := some (23, false) },
    { dst := some 28, op := .call .blind 77 [(.t 26), (.t 27)], guard := some (23, false) },
    { dst := some 29, op := .pick (.t 23) (.k (.bool true)) (.t 28) }]) <|
  .cond (.t 29)
    (.seq (.reg [
      { dst := some 2, op := .mv (.k (.bool false)) }]) <|
    .ret)
    (.skip)) <|
  .reg [
    { dst := some 30, op := .bin .add .sc (.t 7) (.k (.int .i64 1)) },
    { dst := some 7, op := .mv (.t 30) }]) <|
  .seq (.reg [
    { dst := some 2, op := .mv (.k (.bool true)) }]) <|
  .ret⟩

def f52 : DFn := ⟨1, [.t 2],
  .seq (.reg [
    { dst := some 2, op := .mv (.k (.nils)) }]) <|
  .seq (.seq (.reg [
    { dst := some 3, op := .mv (.t 0) },
    { dst := some 4, op := .bin .eql .ns (.t 3) (.k (.nils)) }]) <|
  .cond (.t 4)
    (.seq (.reg [
      { dst := some 2, op := .mv (.k (.nils)) }]) <|
    .ret)
    (.skip)) <|
  .seq (.reg [
    { dst := some 5, op := .bsl false 1 [.str []] 0 [] },
    { dst := some 6, op := .mv (.t 0) },
    { dst := some 7, op := .app 1 16 (.t 5) (.t 6) },
    { dst := some 2, op := .mv (.t 7) }]) <|
  .ret⟩

def f53 : DFn := ⟨1, [.t 2],
  .seq (.reg [
    { dst := some 2, op := .mv (.k (.nils)) }]) <|
  .seq (.seq (.reg [
    { dst := some 3, op := .mv (.t 0) },
    { dst := some 4, op := .bin .eql .ns (.t 3) (.k (.nils)) }]) <|
  .cond (.t 4)
    (.seq (.reg [
      { dst := some 2, op := .mv (.k (.nils)) }]) <|
    .ret)
    (.skip)) <|
  .seq (.reg [
    { dst := some 5, op := .bsl false 2 [.str [], .int .i64 0] 0 [] },
    { dst := some 6, op := .mv (.t 0) },
    { dst := some 7, op := .app 2 24 (.t 5) (.t 6) },
    { dst := some 2, op := .mv (.t 7) }]) <|
  .ret⟩

def f54 : DFn := ⟨1, [.t 2],
  .seq (.reg [
    { dst := some 2, op := .mv (.k (.nils)) }]) <|
  .seq (.seq (.reg [
    { dst := some 3, op := .mv (.t 0) },
    { dst := some 4, op := .bin .eql .ns (.t 3) (.k (.nils)) }]) <|
  .cond (.t 4)
    (.seq (.reg [
      { dst := some 2, op := .mv (.k (.nils)) }]) <|
    .ret)
    (.skip)) <|
  .seq (.reg [
    { dst := some 5, op := .bsl false 6 [.str [], .int .i64 0, .int .i64 0, .nils, .nils, .nils] 0 [] },
    { dst := some 6, op := .mv (.t 0) },
    { dst := some 7, op := .app 6 104 (.t 5) (.t 6) },
    { dst := some 2, op := .mv (.t 7) }]) <|
  .ret⟩

def f55 : DFn := ⟨1, [.t 2],
  .seq (.reg [
    { dst := some 2, op := .mv (.k (.nils)) }]) <|
  .seq (.seq (.reg [
    { dst := some 3, op := .mv (.t 0) },
    { dst := some 4, op := .bin .eql .ns (.t 3) (.k (.nils)) }]) <|
  .cond (.t 4)
    (.seq (.reg [
      { dst := some 2, op := .mv (.k (.nils)) }]) <|
    .ret)
    (.skip)) <|
  .seq (.reg [
    { dst := some 5, op := .bsl false 1 [.int .i64 0] 0 [] },
    { dst := some 6, op := .mv (.t 0) },
    { dst := some 7, op := .app 1 8 (.t 5) (.t 6) },
    { dst := some 2, op := .mv (.t 7) }]) <|
  .ret⟩

def f56 : DFn := ⟨1, [.t 2],
  .seq (.reg [
    { dst := some 2, op := .mv (.k (.nils)) }]) <|
  .seq (.seq (.reg [
    { dst := some 3, op := .mv (.t 0) },
    { dst := some 4, op := .bin .eql .ns (.t 3) (.k (.nils)) }]) <|
  .cond (.t 4)
    (.seq (.reg [
      { dst := some 2, op := .mv (.k (.nils)) }]) <|
    .ret)
    (.skip)) <|
  .seq (.reg [
    { dst := some 5, op := .bsl false 2 [.int .i64 0, .bool false] 0 [] },
    { dst := some 6, op := .mv (.t 0) },
    { dst := some 7, op := .app 2 16 (.t 5) (.t 6) },
    { dst := some 2, op := .mv (.t 7) }]) <|
  .ret⟩

def f57 : DFn := ⟨3, [.t 6],
  .seq (.reg [
    { dst := some 4, op := .boxL (.t 1) },
    { dst := some 6, op := .mv (.k (.bool false)) }]) <|
  .seq (.seq (.reg [
    { dst := some 12, op := .mv (.t 0) },
    { dst := some 13, op := .nilck (.t 12) },
    { dst := some 14, op := .fld 4 (.t 13) },
    { dst := some 15, op := .ld 1 false (.t 14) },
    { dst := some 16, op := .len (.t 15) },
    { dst := some 17, op := .mv (.k (.int .i64 0)) }]) <|
  .block 0 <|
  .loop [0, 2, 4, 15, 16, 17] [4] <|
  .seq (.reg [
    { dst := some 18, op := .bin .lss .sc (.t 17) (.t 16) }]) <|
  .seq (.cond (.t 18)
    (.skip)
    (.exit 0)) <|
  .seq (.block 1 <|
  .seq (.reg [
    { dst := some 19, op := .mv (.t 17) },
    { dst := some 20, op := .idx 4 (.t 15) (.t 17) },
    { dst := some 21, op := .ld 4 true (.t 20) },
    { dst := some 8, op := .alL [.int .i64 0, .int .i64 0, .int .i64 0, .bool false] },
    { dst := some 7, op := .mv (.t 19) },
    { dst := none, op := .st 4 (.t 8) (.t 21) }]) <|
  .seq (.reg [
    { dst := some 22, op := .fld 0 (.t 8) },
    { dst := some 23, op := .ld 1 false (.t 22) },
    { dst := some 24, op := .bin .neq .sc (.t 23) (.k (.int .i64 0)) },
    { dst := some 25, op := .mv (.t 24) },
    { dst := some 26, op := .mv (.t 0), guard := some (25, true) },
    { dst := some 27, op := .nilck (.t 26), guard := some (25, true) },
    { dst := some 28, op := .fld 0 (.t 27), guard := some (25, true) },
    { dst := some 29, op := .ld 4 true (.t 28), guard := some (25, true) },
    { dst := some 30, op := .mv (.t 2), guard := some (25, true) },
    { dst := some 31, op := .mv (.t 7), guard := some (25, true) },
    { dst := some 32, op := .call .blind 42 [(.t 29), (.t 30), (.t 31)], guard := some (25, true) },
    { dst := some 33, op := .pick (.t 25) (.t 32) (.k (.bool false)) }]) <|
  .cond (.t 33)
    (.seq (.reg [
      { dst := some 6, op := .mv (.k (.bool false)) }]) <|
    .ret)
    (.skip)) <|
  .reg [
    { dst := some 34, op := .bin .add .sc (.t 17) (.k (.int .i64 1)) },
    { dst := some 17, op := .mv (.t 34) }]) <|
  .seq (.seq (.reg [
    { dst := some 35, op := .mv (.t 0) },
    { dst := some 36, op := .nilck (.t 35) },
    { dst := some 37, op := .fld 0 (.t 36) },
    { dst := some 38, op := .ld 4 true (.t 37) },
    { dst := some 39, op := .mv (.t 2) },
    { dst := some 40, op := .call .blind 60 [(.t 38), (.t 39)] },
    { dst := some 41, op := .len (.t 40) },
    { dst := some 42, op := .mv (.k (.int .i64 0)) }]) <|
  .block 2 <|
  .loop [0, 2, 4, 40, 41, 42] [4] <|
  .seq (.reg [
    { dst := some 43, op := .bin .lss .sc (.t 42) (.t 41) }]) <|
  .seq (.cond (.t 43)
    (.skip)
    (.exit 2)) <|
  .seq (.block 3 <|
  .seq (.reg [
    { dst := some 44, op := .idx 2 (.t 40) (.t 42) },
    { dst := some 45, op := .ld 2 true (.t 44) },
    { dst := some 10, op := .alL [.int .i64 0, .bool false] },
    { dst := none, op := .st 2 (.t 10) (.t 45) }]) <|
  .seq (.drw [
    { dst := some 46, op := .mv (.t 0) },
    { dst := some 47, op := .nilck (.t 46) },
    { dst := some 48, op := .fld 0 (.t 47) },
    { dst := some 49, op := .fld 1 (.t 48) },
    { dst := some 50, op := .ld 1 false (.t 49) },
    { dst := some 51, op := .fld 0 (.t 10) },
    { dst := some 52, op := .ld 1 false (.t 51) },
    { dst := some 53, op := .idx 2 (.t 50) (.t 52) },
    { dst := some 54, op := .fld 1 (.t 53) },
    { dst := some 55, op := .ld 1 false (.t 54) },
    { dst := some 11, op := .mv (.t 55) }] [[], [], [], [], [], [], [], [4, 6], [], [4, 6, 7], []]) <|
  .seq (.reg [
    { dst := some 56, op := .ld 2 true (.t 4) },
    { dst := some 57, op := .ld 2 true (.t 10) },
    { dst := some 58, op := .call .blind 61 [(.t 56), (.t 57)] },
    { dst := some 59, op := .un .not (.t 58) },
    { dst := some 60, op := .mv (.t 59) },
    { dst := some 61, op := .fld 0 (.t 4), guard := some (60, true) },
    { dst := some 62, op := .ld 1 false (.t 61), guard := some (60, true) },
    { dst := some 63, op := .mv (.t 11), guard := some (60, true) },
    { dst := some 64, op := .idx 1 (.t 62) (.t 63), guard := some (60, true) },
    { dst := some 65, op := .ld 1 false (.t 64), guard := some (60, true) },
    { dst := some 66, op := .mv (.t 65), guard := some (60, true) },
    { dst := some 67, op := .mv (.t 0), guard := some (66, false) },
    { dst := some 68, op := .mv (.t 11), guard := some (66, false) },
    { dst := some 69, op := .call .ro 27 [(.t 67), (.t 68)], guard := some (66, false) },
    { dst := some 70, op := .bin .geq .sc (.t 69) (.k (.int .i64 0)), guard := some (66, false) },
    { dst := some 71, op := .pick (.t 66) (.k (.bool true)) (.t 70), guard := some (60, true) },
    { dst := some 72, op := .pick (.t 60) (.t 71) (.k (.bool false)) }]) <|
  .cond (.t 72)
    (.seq (.reg [
      { dst := some 6, op := .mv (.k (.bool false)) }]) <|
    .ret)
    (.skip)) <|
  .reg [
    { dst := some 73, op := .bin .add .sc (.t 42) (.k (.int .i64 1)) },
    { dst := some 42, op := .mv (.t 73) }]) <|
  .seq (.drw [
    { dst := some 74, op := .ld 2 true (.t 4) },
    { dst := some 75, op := .mv (.t 0) },
    { dst := some 76, op := .nilck (.t 75) },
    { dst := some 77, op := .fld 0 (.t 76) },
    { dst := some 78, op := .fld 3 (.t 77) },
    { dst := some 79, op := .ld 1 false (.t 78) },
    { dst := some 80, op := .mv (.t 2) },
    { dst := some 81, op := .idx 6 (.t 79) (.t 80) },
    { dst := some 82, op := .fld 3 (.t 81) },
    { dst := some 83, op := .ld 1 false (.t 82) },
    { dst := some 84, op := .call .blind 35 [(.t 74), (.t 83)] },
    { dst := some 85, op := .un .not (.t 84) },
    { dst := some 6, op := .mv (.t 85) }] [[], [], [], [], [], [], [], [5], [], [5, 7], [0, 5, 7, 9], [], []]) <|
  .ret⟩

def f58 : DFn := ⟨2, [.cell 4 4 true],
  .seq (.reg [
    { dst := some 2, op := .boxL (.t 0) },
    { dst := some 4, op := .alL [.int .i64 0, .int .i64 0, .int .i64 0, .bool false] }]) <|
  .seq (.reg [
    { dst := some 5, op := .fld 1 (.t 2) },
    { dst := some 6, op := .ld 1 false (.t 5) },
    { dst := some 7, op := .bin .add .sc (.t 6) (.k (.int .i64 1)) },
    { dst := some 8, op := .fld 1 (.t 2) },
    { dst := none, op := .st 1 (.t 8) (.t 7) }]) <|
  .seq (.seq (.reg [
    { dst := some 9, op := .fld 1 (.t 2) },
    { dst := some 10, op := .ld 1 false (.t 9) },
    { dst := some 11, op := .mv (.t 1) },
    { dst := some 12, op := .bin .gtr .sc (.t 10) (.t 11) }]) <|
  .cond (.t 12)
    (.seq (.reg [
      { dst := some 13, op := .build [.int .i64 0, .int .i64 0, .int .i64 0, .bool false] [] },
      { dst := none, op := .st 4 (.t 4) (.t 13) }]) <|
    .ret)
    (.skip)) <|
  .seq (.reg [
    { dst := some 14, op := .ld 4 true (.t 2) },
    { dst := none, op := .st 4 (.t 4) (.t 14) }]) <|
  .ret⟩

def f59 : DFn := ⟨3, [.cell 6 4 true],
  .seq (.reg [
    { dst := some 4, op := .boxL (.t 1) },
    { dst := some 6, op := .alL [.int .i64 0, .int .i64 0, .int .i64 0, .bool false] }]) <|
  .seq (.drw [
    { dst := some 9, op := .mv (.t 0) },
    { dst := some 10, op := .nilck (.t 9) },
    { dst := some 11, op := .fld 4 (.t 10) },
    { dst := some 12, op := .ld 1 false (.t 11) },
    { dst := some 13, op := .mv (.t 2) },
    { dst := some 14, op := .idx 4 (.t 12) (.t 13) },
    { dst := some 15, op := .ld 4 true (.t 14) },
    { dst := some 16, op := .mv (.t 0) },
    { dst := some 17, op := .nilck (.t 16) },
    { dst := some 18, op := .fld 0 (.t 17) },
    { dst := some 19, op := .fld 3 (.t 18) },
    { dst := some 20, op := .ld 1 false (.t 19) },
    { dst := some 21, op := .mv (.t 2) },
    { dst := some 22, op := .idx 6 (.t 20) (.t 21) },
    { dst := some 23, op := .fld 3 (.t 22) },
    { dst := some 24, op := .ld 1 false (.t 23) },
    { dst := some 7, op := .alL [.int .i64 0, .int .i64 0, .int .i64 0, .bool false] },
    { dst := none, op := .st 4 (.t 7) (.t 15) },
    { dst := some 8, op := .mv (.t 24) }] [[], [], [], [], [], [3], [3, 5], [], [], [], [], [], [], [11], [], [11, 13], [], [3, 5, 6, 16], []]) <|
  .seq (.block 0 <|
  .seq (.drw [
    { dst := some 26, op := .fld 0 (.t 4) },
    { dst := some 27, op := .ld 1 false (.t 26) },
    { dst := some 28, op := .mv (.t 8) },
    { dst := some 29, op := .fld 2 (.t 7) },
    { dst := some 30, op := .ld 1 false (.t 29) },
    { dst := some 31, op := .idx 1 (.t 28) (.t 30) },
    { dst := some 32, op := .ld 1 false (.t 31) },
    { dst := some 33, op := .idx 1 (.t 27) (.t 32) },
    { dst := some 34, op := .ld 1 false (.t 33) },
    { dst := some 25, op := .mv (.t 34) }] [[], [], [], [], [], [4], [4, 5], [1, 4, 5, 6], [1, 4, 5, 6, 7], []]) <|
  .cond (.t 25)
    (.reg [
      { dst := some 35, op := .fld 3 (.t 7) },
      { dst := none, op := .st 1 (.t 35) (.k (.bool true)) }])
    (.seq (.reg [
      { dst := some 37, op := .fld 3 (.t 7) },
      { dst := some 38, op := .ld 1 false (.t 37) },
      { dst := some 36, op := .mv (.t 38) }]) <|
    .cond (.t 36)
      (.reg [
        { dst := some 39, op := .fld 2 (.t 7) },
        { dst := some 40, op := .ld 1 false (.t 39) },
        { dst := some 41, op := .bin .add .sc (.t 40) (.k (.int .i64 1)) },
        { dst := some 42, op := .fld 2 (.t 7) },
        { dst := none, op := .st 1 (.t 42) (.t 41) },
        { dst := some 43, op := .fld 3 (.t 7) },
        { dst := none, op := .st 1 (.t 43) (.k (.bool false)) }])
      (.skip))) <|
  .seq (.seq (.reg [
    { dst := some 44, op := .fld 2 (.t 7) },
    { dst := some 45, op := .ld 1 false (.t 44) },
    { dst := some 46, op := .mv (.t 8) },
    { dst := some 47, op := .len (.t 46) },
    { dst := some 48, op := .bin .geq .sc (.t 45) (.t 47) }]) <|
  .cond (.t 48)
    (.seq (.reg [
      { dst := some 49, op := .build [.int .i64 0, .int .i64 0, .int .i64 0, .bool false] [] },
      { dst := none, op := .st 4 (.t 6) (.t 49) }]) <|
    .ret)
    (.skip)) <|
  .seq (.reg [
    { dst := some 50, op := .ld 4 true (.t 7) },
    { dst := none, op := .st 4 (.t 6) (.t 50) }]) <|
  .ret⟩

def f60 : DFn := ⟨2, [.t 4],
  .seq (.reg [
    { dst := some 2, op := .boxL (.t 0) },
    { dst := some 4, op := .mv (.k (.nils)) }]) <|
  .seq (.drw [
    { dst := some 5, op := .fld 3 (.t 2) },
    { dst := some 6, op := .ld 1 false (.t 5) },
    { dst := some 7, op := .mv (.t 1) },
    { dst := some 8, op := .idx 6 (.t 6) (.t 7) },
    { dst := some 9, op := .fld 4 (.t 8) },
    { dst := some 10, op := .ld 1 false (.t 9) },
    { dst := some 11, op := .fld 3 (.t 2) },
    { dst := some 12, op := .ld 1 false (.t 11) },
    { dst := some 13, op := .mv (.t 1) },
    { dst := some 14, op := .idx 6 (.t 12) (.t 13) },
    { dst := some 15, op := .fld 5 (.t 14) },
    { dst := some 16, op := .ld 1 false (.t 15) },
    { dst := some 17, op := .bsl false 1 [.nils] 2 [(0, (.t 10)), (1, (.t 16))] },
    { dst := some 18, op := .call .blind 78 [(.t 17)] },
    { dst := some 4, op := .mv (.t 18) }] [[], [], [], [1], [], [1, 3], [], [], [], [7], [], [7, 9], [1, 3, 5, 7, 9, 11], [1, 3, 5, 7, 9, 11, 12], []]) <|
  .ret⟩

def f61 : DFn := ⟨2, [.t 4],
  .seq (.reg [
    { dst := some 2, op := .boxL (.t 0) },
    { dst := some 3, op := .boxL (.t 1) },
    { dst := some 4, op := .mv (.k (.bool false)) }]) <|
  .seq (.drw [
    { dst := some 5, op := .fld 1 (.t 2) },
    { dst := some 6, op := .ld 1 false (.t 5) },
    { dst := some 7, op := .fld 0 (.t 3) },
    { dst := some 8, op := .ld 1 false (.t 7) },
    { dst := some 9, op := .idx 1 (.t 6) (.t 8) },
    { dst := some 10, op := .ld 1 false (.t 9) },
    { dst := some 11, op := .ld 2 true (.t 3) },
    { dst := some 12, op := .call .blind 62 [(.t 11)] },
    { dst := some 13, op := .bin .eql .sc (.t 10) (.t 12) },
    { dst := some 4, op := .mv (.t 13) }] [[], [], [], [], [1, 3], [1, 3, 4], [], [6], [], []]) <|
  .ret⟩

def f62 : DFn := ⟨1, [.t 2],
  .seq (.reg [
    { dst := some 1, op := .boxL (.t 0) },
    { dst := some 2, op := .mv (.k (.int .i64 0)) }]) <|
  .seq (.seq (.reg [
    { dst := some 3, op := .fld 1 (.t 1) },
    { dst := some 4, op := .ld 1 false (.t 3) }]) <|
  .cond (.t 4)
    (.seq (.reg [
      { dst := some 2, op := .mv (.k (.int .i64 2)) }]) <|
    .ret)
    (.skip)) <|
  .seq (.reg [
    { dst := some 2, op := .mv (.k (.int .i64 1)) }]) <|
  .ret⟩

def f63 : DFn := ⟨2, [.t 3],
  .seq (.reg [
    { dst := some 3, op := .mv (.k (.bool false)) }]) <|
  .seq (.reg [
    { dst := some 4, op := .fld 0 (.t 1) },
    { dst := some 5, op := .ld 1 false (.t 4) },
    { dst := some 6, op := .mv (.t 0) },
    { dst := some 7, op := .idx 1 (.t 5) (.t 6) },
    { dst := some 8, op := .ld 1 false (.t 7) },
    { dst := some 3, op := .mv (.t 8) }]) <|
  .ret⟩

def f64 : DFn := ⟨2, [.t 4],
  .seq (.reg [
    { dst := some 4, op := .mv (.k (.bool false)) }]) <|
  .seq (.reg [
    { dst := some 5, op := .mv (.t 0) },
    { dst := some 6, op := .mv (.t 1) },
    { dst := some 7, op := .call .ro 79 [(.t 5), (.t 6)] },
    { dst := some 8, op := .bin .geq .sc (.t 7) (.k (.int .i64 0)) },
    { dst := some 4, op := .mv (.t 8) }]) <|
  .ret⟩

def f65 : DFn := ⟨2, [.t 3],
  .seq (.reg [
    { dst := some 2, op := .boxL (.t 0) },
    { dst := some 3, op := .mv (.k (.bool false)) }]) <|
  .seq (.reg [
    { dst := some 4, op := .ld 2 true (.t 1) },
    { dst := some 5, op := .ld 2 true (.t 2) },
    { dst := some 6, op := .call .blind 61 [(.t 4), (.t 5)] },
    { dst := some 7, op := .un .not (.t 6) },
    { dst := some 3, op := .mv (.t 7) }]) <|
  .ret⟩

def f66 : DFn := ⟨1, [.t 2],
  .seq (.reg [
    { dst := some 2, op := .mv (.k (.bool false)) }]) <|
  .seq (.reg [
    { dst := some 3, op := .mv (.t 0) },
    { dst := some 4, op := .call .blind 80 [(.t 3)] },
    { dst := some 5, op := .mv (.t 4) },
    { dst := some 6, op := .mv (.t 0), guard := some (5, true) },
    { dst := some 7, op := .bin .neq .sc (.t 6) (.k (.str [115, 101, 116])), guard := some (5, true) },
    { dst := some 8, op := .pick (.t 5) (.t 7) (.k (.bool false)) },
    { dst := some 9, op := .mv (.t 8) },
    { dst := some 10, op := .mv (.t 0), guard := some (9, true) },
    { dst := some 11, op := .bin .neq .sc (.t 10) (.k (.str [102, 108, 97, 110, 107])), guard := some (9, true) },
    { dst := some 12, op := .pick (.t 9) (.t 11) (.k (.bool false)) },
    { dst := some 2, op := .mv (.t 12) }]) <|
  .ret⟩

def f67 : DFn := ⟨4, [.t 8],
  .seq (.reg [
    { dst := some 4, op := .boxL (.t 0) },
    { dst := some 8, op := .mv (.k (.bool false)) }]) <|
  .seq (.seq (.reg [
    { dst := some 9, op := .mv (.k (.int .i64 0)) }]) <|
  .block 0 <|
  .loop [1, 2, 3, 4, 9] [4] <|
  .seq (.seq (.reg [
    { dst := some 11, op := .mv (.t 9) },
    { dst := some 12, op := .mv (.t 1) },
    { dst := some 13, op := .len (.t 12) },
    { dst := some 14, op := .bin .lss .sc (.t 11) (.t 13) }]) <|
  .cond (.t 14)
    (.skip)
    (.exit 0)) <|
  .seq (.block 1 <|
  .seq (.reg [
    { dst := some 17, op := .mv (.t 1) },
    { dst := some 18, op := .mv (.t 9) },
    { dst := some 19, op := .idx 2 (.t 17) (.t 18) },
    { dst := some 20, op := .fld 0 (.t 19) },
    { dst := some 21, op := .ld 1 false (.t 20) },
    { dst := some 10, op := .mv (.t 21) }]) <|
  .seq (.reg [
    { dst := some 22, op := .mv (.t 10) },
    { dst := some 23, op := .bin .lss .sc (.t 22) (.k (.int .i64 0)) },
    { dst := some 24, op := .mv (.t 23) },
    { dst := some 25, op := .mv (.t 10), guard := some (24, false) },
    { dst := some 26, op := .fld 1 (.t 4), guard := some (24, false) },
    { dst := some 27, op := .ld 1 false (.t 26), guard := some (24, false) },
    { dst := some 28, op := .len (.t 27), guard := some (24, false) },
    { dst := some 29, op := .bin .geq .sc (.t 25) (.t 28), guard := some (24, false) },
    { dst := some 30, op := .pick (.t 24) (.k (.bool true)) (.t 29) },
    { dst := some 31, op := .mv (.t 30) },
    { dst := some 32, op := .mv (.t 9), guard := some (31, false) },
    { dst := some 33, op := .bin .gtr .sc (.t 32) (.k (.int .i64 0)), guard := some (31, false) },
    { dst := some 34, op := .mv (.t 33), guard := some (31, false) },
    { dst := some 35, op := .mv (.t 1), guard := some (34, true) },
    { dst := some 36, op := .mv (.t 9), guard := some (34, true) },
    { dst := some 37, op := .bin .sub .sc (.t 36) (.k (.int .i64 1)), guard := some (34, true) },
    { dst := some 38, op := .idx 2 (.t 35) (.t 37), guard := some (34, true) },
    { dst := some 39, op := .fld 0 (.t 38), guard := some (34, true) },
    { dst := some 40, op := .ld 1 false (.t 39), guard := some (34, true) },
    { dst := some 41, op := .mv (.t 10), guard := some (34, true) },
    { dst := some 42, op := .bin .geq .sc (.t 40) (.t 41), guard := some (34, true) },
    { dst := some 43, op := .pick (.t 34) (.t 42) (.k (.bool false)), guard := some (31, false) },
    { dst := some 44, op := .pick (.t 31) (.k (.bool true)) (.t 43) },
    { dst := some 45, op := .mv (.t 44) },
    { dst := some 46, op := .mv (.t 2), guard := some (45, false) },
    { dst := some 47, op := .fld 1 (.t 4), guard := some (45, false) },
    { dst := some 48, op := .ld 1 false (.t 47), guard := some (45, false) },
    { dst := some 49, op := .mv (.t 10), guard := some (45, false) },
    { dst := some 50, op := .idx 2 (.t 48) (.t 49), guard := some (45, false) },
    { dst := some 51, op := .fld 1 (.t 50), guard := some (45, false) },
    { dst := some 52, op := .ld 1 false (.t 51), guard := some (45, false) },
    { dst := some 53, op := .call .blind 46 [(.t 46), (.t 52)], guard := some (45, false) },
    { dst := some 54, op := .mv (.t 3), guard := some (45, false) },
    { dst := some 55, op := .bin .neq .bl (.t 53) (.t 54), guard := some (45, false) },
    { dst := some 56, op := .pick (.t 45) (.k (.bool true)) (.t 55) }]) <|
  .cond (.t 56)
    (.seq (.reg [
      { dst := some 8, op := .mv (.k (.bool false)) }]) <|
    .ret)
    (.skip)) <|
  .reg [
    { dst := some 15, op := .mv (.t 9) },
    { dst := some 16, op := .bin .add .sc (.t 15) (.k (.int .i64 1)) },
    { dst := some 9, op := .mv (.t 16) }]) <|
  .seq (.reg [
    { dst := some 8, op := .mv (.k (.bool true)) }]) <|
  .ret⟩

def f68 : DFn := ⟨2, [.t 4],
  .seq (.reg [
    { dst := some 4, op := .mv (.k (.int .i64 0)) }]) <|
  .seq (.seq (.reg [
    { dst := some 6, op := .mv (.t 0) },
    { dst := some 7, op := .len (.t 6) },
    { dst := some 8, op := .mv (.k (.int .i64 0)) }]) <|
  .block 0 <|
  .loop [0, 1, 7, 8] [] <|
  .seq (.reg [
    { dst := some 9, op := .bin .lss .sc (.t 8) (.t 7) }]) <|
  .seq (.cond (.t 9)
    (.skip)
    (.exit 0)) <|
  .seq (.block 1 <|
  .seq (.reg [
    { dst := some 10, op := .mv (.t 8) },
    { dst := some 5, op := .mv (.t 10) }]) <|
  .seq (.reg [
    { dst := some 11, op := .mv (.t 1) },
    { dst := some 12, op := .mv (.t 0) },
    { dst := some 13, op := .mv (.t 5) },
    { dst := some 14, op := .idx 1 (.t 12) (.t 13) },
    { dst := some 15, op := .ld 1 false (.t 14) },
    { dst := some 16, op := .calld .ro (.t 11) [(.t 15)] }]) <|
  .cond (.t 16)
    (.seq (.reg [
      { dst := some 17, op := .mv (.t 5) },
      { dst := some 4, op := .mv (.t 17) }]) <|
    .ret)
    (.skip)) <|
  .reg [
    { dst := some 18, op := .bin .add .sc (.t 8) (.k (.int .i64 1)) },
    { dst := some 8, op := .mv (.t 18) }]) <|
  .seq (.reg [
    { dst := some 4, op := .mv (.k (.int .i64 (-1))) }]) <|
  .ret⟩

def f69 : DFn := ⟨2, [.t 3],
  .seq (.reg [
    { dst := some 3, op := .mv (.k (.bool false)) }]) <|
  .seq (.reg [
    { dst := some 4, op := .fld 3 (.t 1) },
    { dst := some 5, op := .ld 1 false (.t 4) },
    { dst := some 6, op := .mv (.t 0) },
    { dst := some 7, op := .call .blind 47 [(.t 5), (.t 6)] },
    { dst := some 3, op := .mv (.t 7) }]) <|
  .ret⟩

def f70 : DFn := ⟨3, [.t 4],
  .seq (.reg [
    { dst := some 3, op := .boxL (.t 0) },
    { dst := some 4, op := .mv (.k (.bool false)) }]) <|
  .seq (.drw [
    { dst := some 5, op := .ld 4 true (.t 1) },
    { dst := some 6, op := .ld 1 false (.t 2) },
    { dst := some 7, op := .call .blind 60 [(.t 5), (.t 6)] },
    { dst := some 8, op := .fld 0 (.t 3) },
    { dst := some 9, op := .ld 1 false (.t 8) },
    { dst := some 10, op := .fld 1 (.t 3) },
    { dst := some 11, op := .ld 1 false (.t 10) },
    { dst := some 12, op := .un .not (.t 11) },
    { dst := some 13, op := .build [.int .i64 0, .bool false] [(0, 1, (.t 9)), (1, 1, (.t 12))] },
    { dst := some 14, op := .call .blind 71 [(.t 7), (.t 13)] },
    { dst := some 4, op := .mv (.t 14) }] [[], [], [0, 1], [], [], [], [], [], [], [0, 1, 2, 4, 6], []]) <|
  .ret⟩

def f71 : DFn := ⟨2, [.t 4],
  .seq (.reg [
    { dst := some 3, op := .boxL (.t 1) },
    { dst := some 4, op := .mv (.k (.bool false)) }]) <|
  .seq (.reg [
    { dst := some 5, op := .mv (.t 0) },
    { dst := some 6, op := .ld 2 true (.t 3) },
    { dst := some 7, op := .call .blind 81 [(.t 5), (.t 6)] },
    { dst := some 8, op := .bin .geq .sc (.t 7) (.k (.int .i64 0)) },
    { dst := some 4, op := .mv (.t 8) }]) <|
  .ret⟩

def f72 : DFn := ⟨2, [.t 4],
  .seq (.reg [
    { dst := some 2, op := .boxL (.t 0) },
    { dst := some 4, op := .mv (.k (.nils)) }]) <|
  .seq (.drw [
    { dst := some 5, op := .bsl false 2 [.int .i64 0, .bool false] 0 [] },
    { dst := some 6, op := .fld 3 (.t 2) },
    { dst := some 7, op := .ld 1 false (.t 6) },
    { dst := some 8, op := .mv (.t 1) },
    { dst := some 9, op := .idx 6 (.t 7) (.t 8) },
    { dst := some 10, op := .fld 4 (.t 9) },
    { dst := some 11, op := .ld 1 false (.t 10) },
    { dst := some 12, op := .app 2 16 (.t 5) (.t 11) },
    { dst := some 13, op := .fld 3 (.t 2) },
    { dst := some 14, op := .ld 1 false (.t 13) },
    { dst := some 15, op := .mv (.t 1) },
    { dst := some 16, op := .idx 6 (.t 14) (.t 15) },
    { dst := some 17, op := .fld 5 (.t 16) },
    { dst := some 18, op := .ld 1 false (.t 17) },
    { dst := some 19, op := .app 2 16 (.t 12) (.t 18) },
    { dst := some 4, op := .mv (.t 19) }] [[], [], [], [], [2], [], [2, 4], [0, 2, 4, 6], [], [], [], [9], [], [9, 11], [0, 2, 4, 6, 7, 9, 11, 13], []]) <|
  .ret⟩

def f73 : DFn := ⟨2, [.t 4],
  .seq (.reg [
    { dst := some 4, op := .mv (.k (.int .i64 0)) }]) <|
  .seq (.seq (.reg [
    { dst := some 6, op := .mv (.t 0) },
    { dst := some 7, op := .len (.t 6) },
    { dst := some 8, op := .mv (.k (.int .i64 0)) }]) <|
  .block 0 <|
  .loop [0, 1, 7, 8] [] <|
  .seq (.reg [
    { dst := some 9, op := .bin .lss .sc (.t 8) (.t 7) }]) <|
  .seq (.cond (.t 9)
    (.skip)
    (.exit 0)) <|
  .seq (.block 1 <|
  .seq (.reg [
    { dst := some 10, op := .mv (.t 8) },
    { dst := some 5, op := .mv (.t 10) }]) <|
  .seq (.reg [
    { dst := some 11, op := .mv (.t 1) },
    { dst := some 12, op := .mv (.t 0) },
    { dst := some 13, op := .mv (.t 5) },
    { dst := some 14, op := .idx 1 (.t 12) (.t 13) },
    { dst := some 15, op := .ld 1 false (.t 14) },
    { dst := some 16, op := .bin .eql .sc (.t 11) (.t 15) }]) <|
  .cond (.t 16)
    (.seq (.reg [
      { dst := some 17, op := .mv (.t 5) },
      { dst := some 4, op := .mv (.t 17) }]) <|
    .ret)
    (.skip)) <|
  .reg [
    { dst := some 18, op := .bin .add .sc (.t 8) (.k (.int .i64 1)) },
    { dst := some 8, op := .mv (.t 18) }]) <|
  .seq (.reg [
    { dst := some 4, op := .mv (.k (.int .i64 (-1))) }]) <|
  .ret⟩

def f74 : DFn := ⟨2, [.t 4],
  .seq (.reg [
    { dst := some 2, op := .boxL (.t 0) },
    { dst := some 4, op := .mv (.k (.bool false)) }]) <|
  .seq (.seq (.reg [
    { dst := some 7, op := .mv (.t 1) },
    { dst := some 8, op := .len (.t 7) },
    { dst := some 9, op := .mv (.k (.int .i64 0)) }]) <|
  .block 0 <|
  .loop [1, 2, 7, 8, 9] [2] <|
  .seq (.reg [
    { dst := some 10, op := .bin .lss .sc (.t 9) (.t 8) }]) <|
  .seq (.cond (.t 10)
    (.skip)
    (.exit 0)) <|
  .seq (.block 1 <|
  .seq (.reg [
    { dst := some 11, op := .mv (.t 9) },
    { dst := some 12, op := .idx 1 (.t 7) (.t 9) },
    { dst := some 13, op := .ld 1 false (.t 12) },
    { dst := some 5, op := .mv (.t 11) },
    { dst := some 6, op := .mv (.t 13) }]) <|
  .seq (.reg [
    { dst := some 14, op := .mv (.t 6) },
    { dst := some 15, op := .fld 0 (.t 2) },
    { dst := some 16, op := .ld 1 false (.t 15) },
    { dst := some 17, op := .len (.t 16) },
    { dst := some 18, op := .bin .sub .sc (.t 17) (.k (.int .i64 1)) },
    { dst := some 19, op := .call .blind 49 [(.t 14), (.k (.int .i64 0)), (.t 18)] },
    { dst := some 20, op := .un .not (.t 19) },
    { dst := some 21, op := .mv (.t 20) },
    { dst := some 22, op := .mv (.t 1), guard := some (21, false) },
    { dst := some 23, op := .mv (.t 5), guard := some (21, false) },
    { dst := some 24, op := .slc 1 (.t 22) none (some (.t 23)) none, guard := some (21, false) },
    { dst := some 25, op := .mv (.t 6), guard := some (21, false) },
    { dst := some 26, op := .call .blind 47 [(.t 24), (.t 25)], guard := some (21, false) },
    { dst := some 27, op := .pick (.t 21) (.k (.bool true)) (.t 26) }]) <|
  .cond (.t 27)
    (.seq (.reg [
      { dst := some 4, op := .mv (.k (.bool false)) }]) <|
    .ret)
    (.skip)) <|
  .reg [
    { dst := some 28, op := .bin .add .sc (.t 9) (.k (.int .i64 1)) },
    { dst := some 9, op := .mv (.t 28) }]) <|
  .seq (.reg [
    { dst := some 29, op := .mv (.t 1) },
    { dst := some 30, op := .len (.t 29) },
    { dst := some 31, op := .call .blind 49 [(.t 30), (.k (.int .i64 1)), (.k (.int .i64 5))] },
    { dst := some 4, op := .mv (.t 31) }]) <|
  .ret⟩

def f75 : DFn := ⟨4, [.t 8],
  .seq (.reg [
    { dst := some 4, op := .boxL (.t 0) },
    { dst := some 8, op := .mv (.k (.bool false)) }]) <|
  .seq (.seq (.reg [
    { dst := some 11, op := .mv (.t 1) },
    { dst := some 12, op := .len (.t 11) },
    { dst := some 13, op := .mv (.k (.int .i64 0)) }]) <|
  .block 0 <|
  .loop [1, 2, 3, 4, 11, 12, 13] [4] <|
  .seq (.reg [
    { dst := some 14, op := .bin .lss .sc (.t 13) (.t 12) }]) <|
  .seq (.cond (.t 14)
    (.skip)
    (.exit 0)) <|
  .seq (.block 1 <|
  .seq (.reg [
    { dst := some 15, op := .mv (.t 13) },
    { dst := some 16, op := .idx 2 (.t 11) (.t 13) },
    { dst := some 17, op := .ld 2 true (.t 16) },
    { dst := some 10, op := .alL [.int .i64 0, .bool false] },
    { dst := some 9, op := .mv (.t 15) },
    { dst := none, op := .st 2 (.t 10) (.t 17) }]) <|
  .seq (.drw [
    { dst := some 18, op := .fld 0 (.t 10) },
    { dst := some 19, op := .ld 1 false (.t 18) },
    { dst := some 20, op := .fld 1 (.t 4) },
    { dst := some 21, op := .ld 1 false (.t 20) },
    { dst := some 22, op := .len (.t 21) },
    { dst := some 23, op := .bin .sub .sc (.t 22) (.k (.int .i64 1)) },
    { dst := some 24, op := .call .blind 49 [(.t 19), (.k (.int .i64 0)), (.t 23)] },
    { dst := some 25, op := .un .not (.t 24) },
    { dst := some 26, op := .mv (.t 25) },
    { dst := some 27, op := .mv (.t 9), guard := some (26, false) },
    { dst := some 28, op := .bin .gtr .sc (.t 27) (.k (.int .i64 0)), guard := some (26, false) },
    { dst := some 29, op := .mv (.t 28), guard := some (26, false) },
    { dst := some 30, op := .mv (.t 1), guard := some (29, true) },
    { dst := some 31, op := .mv (.t 9), guard := some (29, true) },
    { dst := some 32, op := .bin .sub .sc (.t 31) (.k (.int .i64 1)), guard := some (29, true) },
    { dst := some 33, op := .idx 2 (.t 30) (.t 32), guard := some (29, true) },
    { dst := some 34, op := .fld 0 (.t 33), guard := some (29, true) },
    { dst := some 35, op := .ld 1 false (.t 34), guard := some (29, true) },
    { dst := some 36, op := .fld 0 (.t 10), guard := some (29, true) },
    { dst := some 37, op := .ld 1 false (.t 36), guard := some (29, true) },
    { dst := some 38, op := .bin .geq .sc (.t 35) (.t 37), guard := some (29, true) },
    { dst := some 39, op := .pick (.t 29) (.t 38) (.k (.bool false)), guard := some (26, false) },
    { dst := some 40, op := .pick (.t 26) (.k (.bool true)) (.t 39) },
    { dst := some 41, op := .mv (.t 40) },
    { dst := some 42, op := .mv (.t 2), guard := some (41, false) },
    { dst := some 43, op := .fld 1 (.t 4), guard := some (41, false) },
    { dst := some 44, op := .ld 1 false (.t 43), guard := some (41, false) },
    { dst := some 45, op := .fld 0 (.t 10), guard := some (41, false) },
    { dst := some 46, op := .ld 1 false (.t 45), guard := some (41, false) },
    { dst := some 47, op := .idx 2 (.t 44) (.t 46), guard := some (41, false) },
    { dst := some 48, op := .fld 1 (.t 47), guard := some (41, false) },
    { dst := some 49, op := .ld 1 false (.t 48), guard := some (41, false) },
    { dst := some 50, op := .call .blind 47 [(.t 42), (.t 49)], guard := some (41, false) },
    { dst := some 51, op := .mv (.t 3), guard := some (41, false) },
    { dst := some 52, op := .bin .neq .bl (.t 50) (.t 51), guard := some (41, false) },
    { dst := some 53, op := .pick (.t 41) (.k (.bool true)) (.t 52) }] [[], [], [], [], [], [], [1, 3], [], [], [], [], [], [], [], [], [1, 3, 6], [], [1, 3, 6, 15], [], [1, 3, 6], [], [], [], [], [], [], [1, 3, 6, 15, 17, 19], [], [1, 3, 6, 15, 17, 19], [1, 3, 6, 15, 17, 19, 26, 28], [], [1, 3, 6, 15, 17, 19, 26, 28, 29], [1, 3, 6, 15, 17, 19, 26, 28, 29, 31], [], [], []]) <|
  .cond (.t 53)
    (.seq (.reg [
      { dst := some 8, op := .mv (.k (.bool false)) }]) <|
    .ret)
    (.skip)) <|
  .reg [
    { dst := some 54, op := .bin .add .sc (.t 13) (.k (.int .i64 1)) },
    { dst := some 13, op := .mv (.t 54) }]) <|
  .seq (.reg [
    { dst := some 8, op := .mv (.k (.bool true)) }]) <|
  .ret⟩

def f76 : DFn := ⟨1, [.t 2],
  .seq (.reg [
    { dst := some 2, op := .mv (.k (.bool false)) }]) <|
  .seq (.reg [
    { dst := some 3, op := .mv (.k (.int .i64 0)) }]) <|
  .seq (.seq (.reg [
    { dst := some 7, op := .mv (.t 0) },
    { dst := some 8, op := .rng (.t 7) }]) <|
  .block 0 <|
  .loop [0, 3, 8] [8] <|
  .seq (.reg [
    { dst := some 9, op := .nxt 8 },
    { dst := some 10, op := .ext 0 (.t 9) }]) <|
  .seq (.cond (.t 10)
    (.skip)
    (.exit 0)) <|
  .block 1 <|
  .seq (.reg [
    { dst := some 11, op := .ext 1 (.t 9) },
    { dst := some 12, op := .ext 2 (.t 9) },
    { dst := some 4, op := .mv (.t 11) },
    { dst := some 5, op := .mv (.t 12) }]) <|
  .seq (.reg [
    { dst := some 13, op := .mv (.t 5) },
    { dst := some 14, op := .bin .geq .sc (.t 13) (.k (.int .i32 48)) },
    { dst := some 15, op := .mv (.t 14) },
    { dst := some 16, op := .mv (.t 5), guard := some (15, true) },
    { dst := some 17, op := .bin .leq .sc (.t 16) (.k (.int .i32 57)), guard := some (15, true) },
    { dst := some 18, op := .pick (.t 15) (.t 17) (.k (.bool false)) },
    { dst := some 19, op := .mv (.t 18) },
    { dst := some 20, op := .mv (.t 4), guard := some (19, true) },
    { dst := some 21, op := .bin .gtr .sc (.t 20) (.k (.int .i64 0)), guard := some (19, true) },
    { dst := some 22, op := .pick (.t 19) (.t 21) (.k (.bool false)) },
    { dst := some 6, op := .mv (.t 22) }]) <|
  .seq (.seq (.reg [
    { dst := some 23, op := .mv (.t 0) },
    { dst := some 24, op := .mv (.t 4) },
    { dst := some 25, op := .call .blind 82 [(.t 23), (.t 24)] },
    { dst := some 26, op := .mv (.t 25) },
    { dst := some 27, op := .mv (.t 5), guard := some (26, false) },
    { dst := some 28, op := .call .blind 83 [(.t 27)], guard := some (26, false) },
    { dst := some 29, op := .un .not (.t 28), guard := some (26, false) },
    { dst := some 30, op := .mv (.t 29), guard := some (26, false) },
    { dst := some 31, op := .mv (.t 6), guard := some (30, true) },
    { dst := some 32, op := .un .not (.t 31), guard := some (30, true) },
    { dst := some 33, op := .pick (.t 30) (.t 32) (.k (.bool false)), guard := some (26, false) },
    { dst := some 34, op := .pick (.t 26) (.k (.bool true)) (.t 33) }]) <|
  .cond (.t 34)
    (.seq (.reg [
      { dst := some 2, op := .mv (.k (.bool false)) }]) <|
    .ret)
    (.skip)) <|
  .reg [
    { dst := some 35, op := .mv (.t 3) },
    { dst := some 36, op := .bin .add .sc (.t 35) (.k (.int .i64 1)) },
    { dst := some 3, op := .mv (.t 36) }]) <|
  .seq (.reg [
    { dst := some 37, op := .mv (.t 3) },
    { dst := some 38, op := .bin .geq .sc (.t 37) (.k (.int .i64 1)) },
    { dst := some 39, op := .mv (.t 38) },
    { dst := some 40, op := .mv (.t 3), guard := some (39, true) },
    { dst := some 41, op := .bin .leq .sc (.t 40) (.k (.int .i64 8)), guard := some (39, true) },
    { dst := some 42, op := .pick (.t 39) (.t 41) (.k (.bool false)) },
    { dst := some 2, op := .mv (.t 42) }]) <|
  .ret⟩

def f77 : DFn := ⟨2, [.t 4],
  .seq (.reg [
    { dst := some 4, op := .mv (.k (.bool false)) }]) <|
  .seq (.reg [
    { dst := some 5, op := .mv (.t 0) },
    { dst := some 6, op := .mv (.t 1) },
    { dst := some 7, op := .call .blind 84 [(.t 5), (.t 6)] },
    { dst := some 8, op := .bin .geq .sc (.t 7) (.k (.int .i64 0)) },
    { dst := some 4, op := .mv (.t 8) }]) <|
  .ret⟩

def f78 : DFn := ⟨1, [.t 2],
  .seq (.reg [
    { dst := some 2, op := .mv (.k (.nils)) }]) <|
  .seq (.reg [
    { dst := some 3, op := .mv (.k (.int .i64 0)) }]) <|
  .seq (.seq (.reg [
    { dst := some 9, op := .mv (.t 0) },
    { dst := some 10, op := .len (.t 9) },
    { dst := some 11, op := .mv (.k (.int .i64 0)) }]) <|
  .block 0 <|
  .loop [0, 3, 9, 10, 11] [] <|
  .seq (.reg [
    { dst := some 12, op := .bin .lss .sc (.t 11) (.t 10) }]) <|
  .seq (.cond (.t 12)
    (.skip)
    (.exit 0)) <|
  .seq (.block 1 <|
  .seq (.reg [
    { dst := some 13, op := .idx 1 (.t 9) (.t 11) },
    { dst := some 14, op := .ld 1 false (.t 13) },
    { dst := some 5, op := .mv (.t 14) }]) <|
  .seq (.reg [
    { dst := some 15, op := .mv (.t 3) },
    { dst := some 16, op := .mv (.t 5) },
    { dst := some 17, op := .len (.t 16) },
    { dst := some 18, op := .bin .add .sc (.t 15) (.t 17) },
    { dst := some 3, op := .mv (.t 18) }]) <|
  .seq (.reg [
    { dst := some 19, op := .mv (.t 3) },
    { dst := some 20, op := .bin .lss .sc (.t 19) (.k (.int .i64 0)) }]) <|
  .cond (.t 20)
    (.reg [
      { dst := some 21, op := .mkI 9 (.k (.str [108, 101, 110, 32, 111, 117, 116, 32, 111, 102, 32, 114, 97, 110, 103, 101])) },
      { dst := none, op := .nilck (.k .nilp) }])
    (.skip)) <|
  .reg [
    { dst := some 22, op := .bin .add .sc (.t 11) (.k (.int .i64 1)) },
    { dst := some 11, op := .mv (.t 22) }]) <|
  .seq (.reg [
    { dst := some 23, op := .mv (.t 3) },
    { dst := some 24, op := .call .eff 85 [(.k (.nils)), (.t 23)] },
    { dst := some 6, op := .mv (.t 24) }]) <|
  .seq (.seq (.reg [
    { dst := some 25, op := .mv (.t 0) },
    { dst := some 26, op := .len (.t 25) },
    { dst := some 27, op := .mv (.k (.int .i64 0)) }]) <|
  .block 2 <|
  .loop [6, 25, 26, 27] [] <|
  .seq (.reg [
    { dst := some 28, op := .bin .lss .sc (.t 27) (.t 26) }]) <|
  .seq (.cond (.t 28)
    (.skip)
    (.exit 2)) <|
  .seq (.block 3 <|
  .seq (.reg [
    { dst := some 29, op := .idx 1 (.t 25) (.t 27) },
    { dst := some 30, op := .ld 1 false (.t 29) },
    { dst := some 8, op := .mv (.t 30) }]) <|
  .reg [
    { dst := some 31, op := .mv (.t 6) },
    { dst := some 32, op := .mv (.t 8) },
    { dst := some 33, op := .app 2 16 (.t 31) (.t 32) },
    { dst := some 6, op := .mv (.t 33) }]) <|
  .reg [
    { dst := some 34, op := .bin .add .sc (.t 27) (.k (.int .i64 1)) },
    { dst := some 27, op := .mv (.t 34) }]) <|
  .seq (.reg [
    { dst := some 35, op := .mv (.t 6) },
    { dst := some 2, op := .mv (.t 35) }]) <|
  .ret⟩

def f79 : DFn := ⟨2, [.t 4],
  .seq (.reg [
    { dst := some 4, op := .mv (.k (.int .i64 0)) }]) <|
  .seq (.seq (.reg [
    { dst := some 6, op := .mv (.t 0) },
    { dst := some 7, op := .len (.t 6) },
    { dst := some 8, op := .mv (.k (.int .i64 0)) }]) <|
  .block 0 <|
  .loop [0, 1, 7, 8] [] <|
  .seq (.reg [
    { dst := some 9, op := .bin .lss .sc (.t 8) (.t 7) }]) <|
  .seq (.cond (.t 9)
    (.skip)
    (.exit 0)) <|
  .seq (.block 1 <|
  .seq (.reg [
    { dst := some 10, op := .mv (.t 8) },
    { dst := some 5, op := .mv (.t 10) }]) <|
  .seq (.reg [
    { dst := some 11, op := .mv (.t 1) },
    { dst := some 12, op := .mv (.t 0) },
    { dst := some 13, op := .mv (.t 5) },
    { dst := some 14, op := .idx 2 (.t 12) (.t 13) },
    { dst := some 15, op := .ld 2 true (.t 14) },
    { dst := some 16, op := .calld .ro (.t 11) [(.t 15)] }]) <|
  .cond (.t 16)
    (.seq (.reg [
      { dst := some 17, op := .mv (.t 5) },
      { dst := some 4, op := .mv (.t 17) }]) <|
    .ret)
    (.skip)) <|
  .reg [
    { dst := some 18, op := .bin .add .sc (.t 8) (.k (.int .i64 1)) },
    { dst := some 8, op := .mv (.t 18) }]) <|
  .seq (.reg [
    { dst := some 4, op := .mv (.k (.int .i64 (-1))) }]) <|
  .ret⟩

def f80 : DFn := ⟨1, [.t 2],
  .seq (.reg [
    { dst := some 2, op := .mv (.k (.bool false)) }]) <|
  .seq (.reg [
    { dst := some 5, op := .mv (.t 0) },
    { dst := some 6, op := .call .blind 86 [(.t 5)] },
    { dst := some 3, op := .mv (.t 6) }]) <|
  .seq (.seq (.reg [
    { dst := some 4, op := .mv (.k (.int .i64 0)) }]) <|
  .block 0 <|
  .loop [3, 4] [] <|
  .seq (.seq (.reg [
    { dst := some 7, op := .mv (.t 4) },
    { dst := some 8, op := .mv (.t 3) },
    { dst := some 9, op := .len (.t 8) },
    { dst := some 10, op := .bin .lss .sc (.t 7) (.t 9) }]) <|
  .cond (.t 10)
    (.skip)
    (.exit 0)) <|
  .seq (.block 1 <|
  .seq (.reg [
    { dst := some 13, op := .mv (.t 3) },
    { dst := some 14, op := .mv (.t 4) },
    { dst := some 15, op := .idx 3 (.t 13) (.t 14) },
    { dst := some 16, op := .fld 2 (.t 15) },
    { dst := some 17, op := .ld 1 false (.t 16) },
    { dst := some 18, op := .mv (.t 17) },
    { dst := some 19, op := .mv (.t 3), guard := some (18, false) },
    { dst := some 20, op := .mv (.t 4), guard := some (18, false) },
    { dst := some 21, op := .idx 3 (.t 19) (.t 20), guard := some (18, false) },
    { dst := some 22, op := .fld 0 (.t 21), guard := some (18, false) },
    { dst := some 23, op := .ld 1 false (.t 22), guard := some (18, false) },
    { dst := some 24, op := .call .blind 87 [(.t 23)], guard := some (18, false) },
    { dst := some 25, op := .un .not (.t 24), guard := some (18, false) },
    { dst := some 26, op := .mv (.t 25), guard := some (18, false) },
    { dst := some 27, op := .mv (.t 4), guard := some (26, true) },
    { dst := some 28, op := .bin .eql .sc (.t 27) (.k (.int .i64 0)), guard := some (26, true) },
    { dst := some 29, op := .mv (.t 28), guard := some (26, true) },
    { dst := some 30, op := .mv (.t 3), guard := some (29, false) },
    { dst := some 31, op := .mv (.t 4), guard := some (29, false) },
    { dst := some 32, op := .idx 3 (.t 30) (.t 31), guard := some (29, false) },
    { dst := some 33, op := .fld 0 (.t 32), guard := some (29, false) },
    { dst := some 34, op := .ld 1 false (.t 33), guard := some (29, false) },
    { dst := some 35, op := .bin .lss .sc (.t 34) (.k (.int .i32 48)), guard := some (29, false) },
    { dst := some 36, op := .pick (.t 29) (.k (.bool true)) (.t 35), guard := some (26, true) },
    { dst := some 37, op := .mv (.t 36), guard := some (26, true) },
    { dst := some 38, op := .mv (.t 3), guard := some (37, false) },
    { dst := some 39, op := .mv (.t 4), guard := some (37, false) },
    { dst := some 40, op := .idx 3 (.t 38) (.t 39), guard := some (37, false) },
    { dst := some 41, op := .fld 0 (.t 40), guard := some (37, false) },
    { dst := some 42, op := .ld 1 false (.t 41), guard := some (37, false) },
    { dst := some 43, op := .bin .gtr .sc (.t 42) (.k (.int .i32 57)), guard := some (37, false) },
    { dst := some 44, op := .pick (.t 37) (.k (.bool true)) (.t 43), guard := some (26, true) },
    { dst := some 45, op := .pick (.t 26) (.t 44) (.k (.bool false)), guard := some (18, false) },
    { dst := some 46, op := .pick (.t 18) (.k (.bool true)) (.t 45) }]) <|
  .cond (.t 46)
    (.seq (.reg [
      { dst := some 2, op := .mv (.k (.bool false)) }]) <|
    .ret)
    (.skip)) <|
  .reg [
    { dst := some 11, op := .mv (.t 4) },
    { dst := some 12, op := .bin .add .sc (.t 11) (.k (.int .i64 1)) },
    { dst := some 4, op := .mv (.t 12) }]) <|
  .seq (.reg [
    { dst := some 47, op := .mv (.t 3) },
    { dst := some 48, op := .len (.t 47) },
    { dst := some 49, op := .bin .geq .sc (.t 48) (.k (.int .i64 1)) },
    { dst := some 50, op := .mv (.t 49) },
    { dst := some 51, op := .mv (.t 3), guard := some (50, true) },
    { dst := some 52, op := .len (.t 51), guard := some (50, true) },
    { dst := some 53, op := .bin .leq .sc (.t 52) (.k (.int .i64 8)), guard := some (50, true) },
    { dst := some 54, op := .pick (.t 50) (.t 53) (.k (.bool false)) },
    { dst := some 2, op := .mv (.t 54) }]) <|
  .ret⟩

def f81 : DFn := ⟨2, [.t 4],
  .seq (.reg [
    { dst := some 3, op := .boxL (.t 1) },
    { dst := some 4, op := .mv (.k (.int .i64 0)) }]) <|
  .seq (.seq (.reg [
    { dst := some 6, op := .mv (.t 0) },
    { dst := some 7, op := .len (.t 6) },
    { dst := some 8, op := .mv (.k (.int .i64 0)) }]) <|
  .block 0 <|
  .loop [0, 3, 7, 8] [3] <|
  .seq (.reg [
    { dst := some 9, op := .bin .lss .sc (.t 8) (.t 7) }]) <|
  .seq (.cond (.t 9)
    (.skip)
    (.exit 0)) <|
  .seq (.block 1 <|
  .seq (.reg [
    { dst := some 10, op := .mv (.t 8) },
    { dst := some 5, op := .mv (.t 10) }]) <|
  .seq (.drw [
    { dst := some 11, op := .ld 2 true (.t 3) },
    { dst := some 12, op := .mv (.t 0) },
    { dst := some 13, op := .mv (.t 5) },
    { dst := some 14, op := .idx 2 (.t 12) (.t 13) },
    { dst := some 15, op := .ld 2 true (.t 14) },
    { dst := some 16, op := .bin .eql (.st [.i, .b]) (.t 11) (.t 15) }] [[], [], [], [], [3], []]) <|
  .cond (.t 16)
    (.seq (.reg [
      { dst := some 17, op := .mv (.t 5) },
      { dst := some 4, op := .mv (.t 17) }]) <|
    .ret)
    (.skip)) <|
  .reg [
    { dst := some 18, op := .bin .add .sc (.t 8) (.k (.int .i64 1)) },
    { dst := some 8, op := .mv (.t 18) }]) <|
  .seq (.reg [
    { dst := some 4, op := .mv (.k (.int .i64 (-1))) }]) <|
  .ret⟩

def f82 : DFn := ⟨2, [.t 4],
  .seq (.reg [
    { dst := some 4, op := .mv (.k (.bool false)) }]) <|
  .seq (.reg [
    { dst := some 8, op := .mv (.t 0) },
    { dst := some 9, op := .mv (.t 1) },
    { dst := some 10, op := .slS (.t 8) (some (.t 9)) none },
    { dst := some 11, op := .call .blind 88 [(.t 10)] },
    { dst := some 7, op := .mv (.t 11) },
    { dst := some 12, op := .ext 0 (.t 7) },
    { dst := some 13, op := .ext 1 (.t 7) },
    { dst := some 5, op := .mv (.t 12) },
    { dst := some 6, op := .mv (.t 13) }]) <|
  .seq (.reg [
    { dst := some 14, op := .mv (.t 5) },
    { dst := some 15, op := .bin .eql .sc (.t 14) (.k (.int .i32 65533)) },
    { dst := some 16, op := .mv (.t 15) },
    { dst := some 17, op := .mv (.t 6), guard := some (16, true) },
    { dst := some 18, op := .bin .eql .sc (.t 17) (.k (.int .i64 1)), guard := some (16, true) },
    { dst := some 19, op := .pick (.t 16) (.t 18) (.k (.bool false)) },
    { dst := some 4, op := .mv (.t 19) }]) <|
  .ret⟩

def f83 : DFn := ⟨1, [.t 2],
  .seq (.reg [
    { dst := some 2, op := .mv (.k (.bool false)) }]) <|
  .seq (.block 0 <|
  .seq (.seq (.reg [
    { dst := some 4, op := .mv (.t 0) },
    { dst := some 5, op := .bin .geq .sc (.t 4) (.k (.int .i32 97)) },
    { dst := some 6, op := .mv (.t 5) },
    { dst := some 7, op := .mv (.t 0), guard := some (6, true) },
    { dst := some 8, op := .bin .leq .sc (.t 7) (.k (.int .i32 122)), guard := some (6, true) },
    { dst := some 9, op := .pick (.t 6) (.t 8) (.k (.bool false)) },
    { dst := some 3, op := .mv (.t 9) }]) <|
  .cond (.t 3)
    (.skip)
    (.reg [
      { dst := some 10, op := .mv (.t 0) },
      { dst := some 11, op := .bin .geq .sc (.t 10) (.k (.int .i32 65)) },
      { dst := some 12, op := .mv (.t 11) },
      { dst := some 13, op := .mv (.t 0), guard := some (12, true) },
      { dst := some 14, op := .bin .leq .sc (.t 13) (.k (.int .i32 90)), guard := some (12, true) },
      { dst := some 15, op := .pick (.t 12) (.t 14) (.k (.bool false)) },
      { dst := some 3, op := .mv (.t 15) }])) <|
  .cond (.t 3)
    (.seq (.reg [
      { dst := some 2, op := .mv (.k (.bool true)) }]) <|
    .ret)
    (.skip)) <|
  .seq (.reg [
    { dst := some 16, op := .mv (.t 0) },
    { dst := some 17, op := .bin .geq .sc (.t 16) (.k (.int .i32 192)) },
    { dst := some 18, op := .mv (.t 17) },
    { dst := some 19, op := .mv (.t 0), guard := some (18, true) },
    { dst := some 20, op := .bin .leq .sc (.t 19) (.k (.int .i32 591)), guard := some (18, true) },
    { dst := some 21, op := .pick (.t 18) (.t 20) (.k (.bool false)) },
    { dst := some 22, op := .mv (.t 21) },
    { dst := some 23, op := .mv (.t 0), guard := some (22, true) },
    { dst := some 24, op := .bin .neq .sc (.t 23) (.k (.int .i32 215)), guard := some (22, true) },
    { dst := some 25, op := .pick (.t 22) (.t 24) (.k (.bool false)) },
    { dst := some 26, op := .mv (.t 25) },
    { dst := some 27, op := .mv (.t 0), guard := some (26, true) },
    { dst := some 28, op := .bin .neq .sc (.t 27) (.k (.int .i32 247)), guard := some (26, true) },
    { dst := some 29, op := .pick (.t 26) (.t 28) (.k (.bool false)) },
    { dst := some 2, op := .mv (.t 29) }]) <|
  .ret⟩

def f84 : DFn := ⟨2, [.t 4],
  .seq (.reg [
    { dst := some 4, op := .mv (.k (.int .i64 0)) }]) <|
  .seq (.seq (.reg [
    { dst := some 6, op := .mv (.t 0) },
    { dst := some 7, op := .len (.t 6) },
    { dst := some 8, op := .mv (.k (.int .i64 0)) }]) <|
  .block 0 <|
  .loop [0, 1, 7, 8] [] <|
  .seq (.reg [
    { dst := some 9, op := .bin .lss .sc (.t 8) (.t 7) }]) <|
  .seq (.cond (.t 9)
    (.skip)
    (.exit 0)) <|
  .seq (.block 1 <|
  .seq (.reg [
    { dst := some 10, op := .mv (.t 8) },
    { dst := some 5, op := .mv (.t 10) }]) <|
  .seq (.reg [
    { dst := some 11, op := .mv (.t 1) },
    { dst := some 12, op := .mv (.t 0) },
    { dst := some 13, op := .mv (.t 5) },
    { dst := some 14, op := .idx 1 (.t 12) (.t 13) },
    { dst := some 15, op := .ld 1 false (.t 14) },
    { dst := some 16, op := .bin .eql .sc (.t 11) (.t 15) }]) <|
  .cond (.t 16)
    (.seq (.reg [
      { dst := some 17, op := .mv (.t 5) },
      { dst := some 4, op := .mv (.t 17) }]) <|
    .ret)
    (.skip)) <|
  .reg [
    { dst := some 18, op := .bin .add .sc (.t 8) (.k (.int .i64 1)) },
    { dst := some 8, op := .mv (.t 18) }]) <|
  .seq (.reg [
    { dst := some 4, op := .mv (.k (.int .i64 (-1))) }]) <|
  .ret⟩

def f85 : DFn := ⟨2, [.t 4],
  .seq (.reg [
    { dst := some 4, op := .mv (.k (.nils)) }]) <|
  .seq (.seq (.reg [
    { dst := some 5, op := .mv (.t 1) },
    { dst := some 6, op := .bin .lss .sc (.t 5) (.k (.int .i64 0)) }]) <|
  .cond (.t 6)
    (.reg [
      { dst := some 7, op := .mkI 9 (.k (.str [99, 97, 110, 110, 111, 116, 32, 98, 101, 32, 110, 101, 103, 97, 116, 105, 118, 101])) },
      { dst := none, op := .nilck (.k .nilp) }])
    (.skip)) <|
  .seq (.seq (.reg [
    { dst := some 8, op := .mv (.t 1) },
    { dst := some 9, op := .mv (.t 0) },
    { dst := some 10, op := .cap (.t 9) },
    { dst := some 11, op := .mv (.t 0) },
    { dst := some 12, op := .len (.t 11) },
    { dst := some 13, op := .bin .sub .sc (.t 10) (.t 12) },
    { dst := some 14, op := .bin .sub .sc (.t 8) (.t 13) },
    { dst := some 1, op := .mv (.t 14) }]) <|
  .seq (.reg [
    { dst := some 15, op := .mv (.t 1) },
    { dst := some 16, op := .bin .gtr .sc (.t 15) (.k (.int .i64 0)) }]) <|
  .cond (.t 16)
    (.reg [
      { dst := some 17, op := .mv (.t 0) },
      { dst := some 18, op := .mv (.t 0) },
      { dst := some 19, op := .cap (.t 18) },
      { dst := some 20, op := .slc 2 (.t 17) none (some (.t 19)) none },
      { dst := some 21, op := .mv (.t 1) },
      { dst := some 22, op := .appZ 2 16 [.int .i64 0, .bool false] (.t 20) (.t 21) },
      { dst := some 23, op := .mv (.t 0) },
      { dst := some 24, op := .len (.t 23) },
      { dst := some 25, op := .slc 2 (.t 22) none (some (.t 24)) none },
      { dst := some 0, op := .mv (.t 25) }])
    (.skip)) <|
  .seq (.reg [
    { dst := some 26, op := .mv (.t 0) },
    { dst := some 4, op := .mv (.t 26) }]) <|
  .ret⟩

def f86 : DFn := ⟨1, [.t 2],
  .seq (.reg [
    { dst := some 2, op := .mv (.k (.nils)) }]) <|
  .seq (.reg [
    { dst := some 3, op := .mv (.k (.nils)) }]) <|
  .seq (.seq (.reg [
    { dst := some 4, op := .mv (.k (.int .i64 0)) }]) <|
  .block 0 <|
  .loop [0, 3, 4] [] <|
  .seq (.seq (.reg [
    { dst := some 7, op := .mv (.t 4) },
    { dst := some 8, op := .mv (.t 0) },
    { dst := some 9, op := .lenS (.t 8) },
    { dst := some 10, op := .bin .lss .sc (.t 7) (.t 9) }]) <|
  .cond (.t 10)
    (.skip)
    (.exit 0)) <|
  .block 1 <|
  .seq (.reg [
    { dst := some 12, op := .mv (.t 0) },
    { dst := some 13, op := .mv (.t 4) },
    { dst := some 14, op := .slS (.t 12) (some (.t 13)) none },
    { dst := some 15, op := .call .blind 88 [(.t 14)] },
    { dst := some 11, op := .mv (.t 15) },
    { dst := some 16, op := .ext 0 (.t 11) },
    { dst := some 17, op := .ext 1 (.t 11) },
    { dst := some 5, op := .mv (.t 16) },
    { dst := some 6, op := .mv (.t 17) }]) <|
  .seq (.reg [
    { dst := some 18, op := .mv (.t 3) },
    { dst := some 19, op := .mv (.t 5) },
    { dst := some 20, op := .mv (.t 6) },
    { dst := some 21, op := .mv (.t 5) },
    { dst := some 22, op := .bin .eql .sc (.t 21) (.k (.int .i32 65533)) },
    { dst := some 23, op := .mv (.t 22) },
    { dst := some 24, op := .mv (.t 6), guard := some (23, true) },
    { dst := some 25, op := .bin .eql .sc (.t 24) (.k (.int .i64 1)), guard := some (23, true) },
    { dst := some 26, op := .pick (.t 23) (.t 25) (.k (.bool false)) },
    { dst := some 27, op := .build [.int .i32 0, .int .i64 0, .bool false] [(0, 1, (.t 19)), (1, 1, (.t 20)), (2, 1, (.t 26))] },
    { dst := some 28, op := .bsl false 3 [.int .i32 0, .int .i64 0, .bool false] 1 [(0, (.t 27))] },
    { dst := some 29, op := .app 3 24 (.t 18) (.t 28) },
    { dst := some 3, op := .mv (.t 29) }]) <|
  .reg [
    { dst := some 30, op := .mv (.t 4) },
    { dst := some 31, op := .mv (.t 6) },
    { dst := some 32, op := .bin .add .sc (.t 30) (.t 31) },
    { dst := some 4, op := .mv (.t 32) }]) <|
  .seq (.reg [
    { dst := some 33, op := .mv (.t 3) },
    { dst := some 2, op := .mv (.t 33) }]) <|
  .ret⟩

def f87 : DFn := ⟨1, [.t 2],
  .seq (.reg [
    { dst := some 2, op := .mv (.k (.bool false)) }]) <|
  .seq (.reg [
    { dst := some 3, op := .mv (.t 0) },
    { dst := some 4, op := .bin .geq .sc (.t 3) (.k (.int .i32 97)) },
    { dst := some 5, op := .mv (.t 4) },
    { dst := some 6, op := .mv (.t 0), guard := some (5, true) },
    { dst := some 7, op := .bin .leq .sc (.t 6) (.k (.int .i32 122)), guard := some (5, true) },
    { dst := some 8, op := .pick (.t 5) (.t 7) (.k (.bool false)) },
    { dst := some 9, op := .mv (.t 8) },
    { dst := some 10, op := .mv (.t 0), guard := some (9, false) },
    { dst := some 11, op := .bin .geq .sc (.t 10) (.k (.int .i32 65)), guard := some (9, false) },
    { dst := some 12, op := .mv (.t 11), guard := some (9, false) },
    { dst := some 13, op := .mv (.t 0), guard := some (12, true) },
    { dst := some 14, op := .bin .leq .sc (.t 13) (.k (.int .i32 90)), guard := some (12, true) },
    { dst := some 15, op := .pick (.t 12) (.t 14) (.k (.bool false)), guard := some (9, false) },
    { dst := some 16, op := .pick (.t 9) (.k (.bool true)) (.t 15) },
    { dst := some 17, op := .mv (.t 16) },
    { dst := some 18, op := .mv (.t 0), guard := some (17, false) },
    { dst := some 19, op := .bin .geq .sc (.t 18) (.k (.int .i32 192)), guard := some (17, false) },
    { dst := some 20, op := .mv (.t 19), guard := some (17, false) },
    { dst := some 21, op := .mv (.t 0), guard := some (20, true) },
    { dst := some 22, op := .bin .leq .sc (.t 21) (.k (.int .i32 591)), guard := some (20, true) },
    { dst := some 23, op := .pick (.t 20) (.t 22) (.k (.bool false)), guard := some (17, false) },
    { dst := some 24, op := .mv (.t 23), guard := some (17, false) },
    { dst := some 25, op := .mv (.t 0), guard := some (24, true) },
    { dst := some 26, op := .bin .neq .sc (.t 25) (.k (.int .i32 215)), guard := some (24, true) },
    { dst := some 27, op := .pick (.t 24) (.t 26) (.k (.bool false)), guard := some (17, false) },
    { dst := some 28, op := .mv (.t 27), guard := some (17, false) },
    { dst := some 29, op := .mv (.t 0), guard := some (28, true) },
    { dst := some 30, op := .bin .neq .sc (.t 29) (.k (.int .i32 247)), guard := some (28, true) },
    { dst := some 31, op := .pick (.t 28) (.t 30) (.k (.bool false)), guard := some (17, false) },
    { dst := some 32, op := .pick (.t 17) (.k (.bool true)) (.t 31) },
    { dst := some 2, op := .mv (.t 32) }]) <|
  .ret⟩

def f88 : DFn := ⟨1, [.t 2, .t 3],
  .seq (.reg [
    { dst := some 2, op := .mv (.k (.int .i32 0)) },
    { dst := some 3, op := .mv (.k (.int .i64 0)) }]) <|
  .seq (.seq (.reg [
    { dst := some 4, op := .mv (.t 0) },
    { dst := some 5, op := .bin .neq .sc (.t 4) (.k (.str [])) },
    { dst := some 6, op := .mv (.t 5) },
    { dst := some 7, op := .mv (.t 0), guard := some (6, true) },
    { dst := some 8, op := .idxS (.t 7) (.k (.int .i64 0)), guard := some (6, true) },
    { dst := some 9, op := .bin .lss .sc (.t 8) (.k (.int .u8 128)), guard := some (6, true) },
    { dst := some 10, op := .pick (.t 6) (.t 9) (.k (.bool false)) }]) <|
  .cond (.t 10)
    (.seq (.reg [
      { dst := some 11, op := .mv (.t 0) },
      { dst := some 12, op := .idxS (.t 11) (.k (.int .i64 0)) },
      { dst := some 13, op := .cvI .i32 (.t 12) },
      { dst := some 2, op := .mv (.t 13) },
      { dst := some 3, op := .mv (.k (.int .i64 1)) }]) <|
    .ret)
    (.reg [
      { dst := some 15, op := .mv (.t 0) },
      { dst := some 16, op := .call .blind 89 [(.t 15)] },
      { dst := some 14, op := .mv (.t 16) },
      { dst := some 17, op := .ext 0 (.t 14) },
      { dst := some 18, op := .ext 1 (.t 14) },
      { dst := some 2, op := .mv (.t 17) },
      { dst := some 3, op := .mv (.t 18) }])) <|
  .ret⟩

def f89 : DFn := ⟨1, [.t 2, .t 3],
  .seq (.reg [
    { dst := some 2, op := .mv (.k (.int .i32 0)) },
    { dst := some 3, op := .mv (.k (.int .i64 0)) }]) <|
  .seq (.reg [
    { dst := some 13, op := .mv (.t 0) },
    { dst := some 14, op := .lenS (.t 13) },
    { dst := some 4, op := .mv (.t 14) }]) <|
  .seq (.seq (.reg [
    { dst := some 15, op := .mv (.t 4) },
    { dst := some 16, op := .bin .lss .sc (.t 15) (.k (.int .i64 1)) }]) <|
  .cond (.t 16)
    (.seq (.reg [
      { dst := some 2, op := .mv (.k (.int .i32 65533)) },
      { dst := some 3, op := .mv (.k (.int .i64 0)) }]) <|
    .ret)
    (.skip)) <|
  .seq (.reg [
    { dst := some 17, op := .mv (.t 0) },
    { dst := some 18, op := .idxS (.t 17) (.k (.int .i64 0)) },
    { dst := some 5, op := .mv (.t 18) }]) <|
  .seq (.reg [
    { dst := some 19, op := .mv (.t 5) },
    { dst := some 20, op := .idxA 1 256 (.g 0) (.t 19) },
    { dst := some 21, op := .ld 1 false (.t 20) },
    { dst := some 6, op := .mv (.t 21) }]) <|
  .seq (.seq (.reg [
    { dst := some 22, op := .mv (.t 6) },
    { dst := some 23, op := .bin .geq .sc (.t 22) (.k (.int .u8 240)) }]) <|
  .cond (.t 23)
    (.seq (.reg [
      { dst := some 24, op := .mv (.t 6) },
      { dst := some 25, op := .cvI .i32 (.t 24) },
      { dst := some 26, op := .bin .shl .sc (.t 25) (.k (.int .u64 31)) },
      { dst := some 27, op := .bin .shr .sc (.t 26) (.k (.int .u64 31)) },
      { dst := some 7, op := .mv (.t 27) }]) <|
    .seq (.reg [
      { dst := some 28, op := .mv (.t 0) },
      { dst := some 29, op := .idxS (.t 28) (.k (.int .i64 0)) },
      { dst := some 30, op := .cvI .i32 (.t 29) },
      { dst := some 31, op := .mv (.t 7) },
      { dst := some 32, op := .bin .andNot .sc (.t 30) (.t 31) },
      { dst := some 33, op := .mv (.t 7) },
      { dst := some 34, op := .bin .and .sc (.k (.int .i32 65533)) (.t 33) },
      { dst := some 35, op := .bin .or .sc (.t 32) (.t 34) },
      { dst := some 2, op := .mv (.t 35) },
      { dst := some 3, op := .mv (.k (.int .i64 1)) }]) <|
    .ret)
    (.skip)) <|
  .seq (.reg [
    { dst := some 36, op := .mv (.t 6) },
    { dst := some 37, op := .bin .and .sc (.t 36) (.k (.int .u8 7)) },
    { dst := some 38, op := .cvI .i64 (.t 37) },
    { dst := some 8, op := .mv (.t 38) }]) <|
  .seq (.reg [
    { dst := some 39, op := .mv (.t 6) },
    { dst := some 40, op := .bin .shr .sc (.t 39) (.k (.int .u64 4)) },
    { dst := some 41, op := .idxA 2 16 (.g 1) (.t 40) },
    { dst := some 42, op := .ld 2 true (.t 41) },
    { dst := some 9, op := .alL [.int .u8 0, .int .u8 0] },
    { dst := none, op := .st 2 (.t 9) (.t 42) }]) <|
  .seq (.seq (.reg [
    { dst := some 43, op := .mv (.t 4) },
    { dst := some 44, op := .mv (.t 8) },
    { dst := some 45, op := .bin .lss .sc (.t 43) (.t 44) }]) <|
  .cond (.t 45)
    (.seq (.reg [
      { dst := some 2, op := .mv (.k (.int .i32 65533)) },
      { dst := some 3, op := .mv (.k (.int .i64 1)) }]) <|
    .ret)
    (.skip)) <|
  .seq (.reg [
    { dst := some 46, op := .mv (.t 0) },
    { dst := some 47, op := .idxS (.t 46) (.k (.int .i64 1)) },
    { dst := some 10, op := .mv (.t 47) }]) <|
  .seq (.seq (.reg [
    { dst := some 48, op := .mv (.t 10) },
    { dst := some 49, op := .fld 0 (.t 9) },
    { dst := some 50, op := .ld 1 false (.t 49) },
    { dst := some 51, op := .bin .lss .sc (.t 48) (.t 50) },
    { dst := some 52, op := .mv (.t 51) },
    { dst := some 53, op := .fld 1 (.t 9), guard := some (52, false) },
    { dst := some 54, op := .ld 1 false (.t 53), guard := some (52, false) },
    { dst := some 55, op := .mv (.t 10), guard := some (52, false) },
    { dst := some 56, op := .bin .lss .sc (.t 54) (.t 55), guard := some (52, false) },
    { dst := some 57, op := .pick (.t 52) (.k (.bool true)) (.t 56) }]) <|
  .cond (.t 57)
    (.seq (.reg [
      { dst := some 2, op := .mv (.k (.int .i32 65533)) },
      { dst := some 3, op := .mv (.k (.int .i64 1)) }]) <|
    .ret)
    (.skip)) <|
  .seq (.seq (.reg [
    { dst := some 58, op := .mv (.t 8) },
    { dst := some 59, op := .bin .leq .sc (.t 58) (.k (.int .i64 2)) }]) <|
  .cond (.t 59)
    (.seq (.reg [
      { dst := some 60, op := .mv (.t 5) },
      { dst := some 61, op := .bin .and .sc (.t 60) (.k (.int .u8 31)) },
      { dst := some 62, op := .cvI .i32 (.t 61) },
      { dst := some 63, op := .bin .shl .sc (.t 62) (.k (.int .u64 6)) },
      { dst := some 64, op := .mv (.t 10) },
      { dst := some 65, op := .bin .and .sc (.t 64) (.k (.int .u8 63)) },
      { dst := some 66, op := .cvI .i32 (.t 65) },
      { dst := some 67, op := .bin .or .sc (.t 63) (.t 66) },
      { dst := some 2, op := .mv (.t 67) },
      { dst := some 3, op := .mv (.k (.int .i64 2)) }]) <|
    .ret)
    (.skip)) <|
  .seq (.reg [
    { dst := some 68, op := .mv (.t 0) },
    { dst := some 69, op := .idxS (.t 68) (.k (.int .i64 2)) },
    { dst := some 11, op := .mv (.t 69) }]) <|
  .seq (.seq (.reg [
    { dst := some 70, op := .mv (.t 11) },
    { dst := some 71, op := .bin .lss .sc (.t 70) (.k (.int .u8 128)) },
    { dst := some 72, op := .mv (.t 71) },
    { dst := some 73, op := .mv (.t 11), guard := some (72, false) },
    { dst := some 74, op := .bin .lss .sc (.k (.int .u8 191)) (.t 73), guard := some (72, false) },
    { dst := some 75, op := .pick (.t 72) (.k (.bool true)) (.t 74) }]) <|
  .cond (.t 75)
    (.seq (.reg [
      { dst := some 2, op := .mv (.k (.int .i32 65533)) },
      { dst := some 3, op := .mv (.k (.int .i64 1)) }]) <|
    .ret)
    (.skip)) <|
  .seq (.seq (.reg [
    { dst := some 76, op := .mv (.t 8) },
    { dst := some 77, op := .bin .leq .sc (.t 76) (.k (.int .i64 3)) }]) <|
  .cond (.t 77)
    (.seq (.reg [
      { dst := some 78, op := .mv (.t 5) },
      { dst := some 79, op := .bin .and .sc (.t 78) (.k (.int .u8 15)) },
      { dst := some 80, op := .cvI .i32 (.t 79) },
      { dst := some 81, op := .bin .shl .sc (.t 80) (.k (.int .u64 12)) },
      { dst := some 82, op := .mv (.t 10) },
      { dst := some 83, op := .bin .and .sc (.t 82) (.k (.int .u8 63)) },
      { dst := some 84, op := .cvI .i32 (.t 83) },
      { dst := some 85, op := .bin .shl .sc (.t 84) (.k (.int .u64 6)) },
      { dst := some 86, op := .bin .or .sc (.t 81) (.t 85) },
      { dst := some 87, op := .mv (.t 11) },
      { dst := some 88, op := .bin .and .sc (.t 87) (.k (.int .u8 63)) },
      { dst := some 89, op := .cvI .i32 (.t 88) },
      { dst := some 90, op := .bin .or .sc (.t 86) (.t 89) },
      { dst := some 2, op := .mv (.t 90) },
      { dst := some 3, op := .mv (.k (.int .i64 3)) }]) <|
    .ret)
    (.skip)) <|
  .seq (.reg [
    { dst := some 91, op := .mv (.t 0) },
    { dst := some 92, op := .idxS (.t 91) (.k (.int .i64 3)) },
    { dst := some 12, op := .mv (.t 92) }]) <|
  .seq (.seq (.reg [
    { dst := some 93, op := .mv (.t 12) },
    { dst := some 94, op := .bin .lss .sc (.t 93) (.k (.int .u8 128)) },
    { dst := some 95, op := .mv (.t 94) },
    { dst := some 96, op := .mv (.t 12), guard := some (95, false) },
    { dst := some 97, op := .bin .lss .sc (.k (.int .u8 191)) (.t 96), guard := some (95, false) },
    { dst := some 98, op := .pick (.t 95) (.k (.bool true)) (.t 97) }]) <|
  .cond (.t 98)
    (.seq (.reg [
      { dst := some 2, op := .mv (.k (.int .i32 65533)) },
      { dst := some 3, op := .mv (.k (.int .i64 1)) }]) <|
    .ret)
    (.skip)) <|
  .seq (.reg [
    { dst := some 99, op := .mv (.t 5) },
    { dst := some 100, op := .bin .and .sc (.t 99) (.k (.int .u8 7)) },
    { dst := some 101, op := .cvI .i32 (.t 100) },
    { dst := some 102, op := .bin .shl .sc (.t 101) (.k (.int .u64 18)) },
    { dst := some 103, op := .mv (.t 10) },
    { dst := some 104, op := .bin .and .sc (.t 103) (.k (.int .u8 63)) },
    { dst := some 105, op := .cvI .i32 (.t 104) },
    { dst := some 106, op := .bin .shl .sc (.t 105) (.k (.int .u64 12)) },
    { dst := some 107, op := .bin .or .sc (.t 102) (.t 106) },
    { dst := some 108, op := .mv (.t 11) },
    { dst := some 109, op := .bin .and .sc (.t 108) (.k (.int .u8 63)) },
    { dst := some 110, op := .cvI .i32 (.t 109) },
    { dst := some 111, op := .bin .shl .sc (.t 110) (.k (.int .u64 6)) },
    { dst := some 112, op := .bin .or .sc (.t 107) (.t 111) },
    { dst := some 113, op := .mv (.t 12) },
    { dst := some 114, op := .bin .and .sc (.t 113) (.k (.int .u8 63)) },
    { dst := some 115, op := .cvI .i32 (.t 114) },
    { dst := some 116, op := .bin .or .sc (.t 112) (.t 115) },
    { dst := some 2, op := .mv (.t 116) },
    { dst := some 3, op := .mv (.k (.int .i64 4)) }]) <|
  .ret⟩


def tab : PT Entry := (.nd (.nd (.nd (.nd (.nd (.nd (.nd .lf (some (.fn f63)) .lf) (some (.fn f31)) .lf) (some (.fn f15)) (.nd (.nd .lf (some (.fn f79)) .lf) (some (.fn f47)) .lf)) (some (.fn f7)) (.nd (.nd (.nd .lf (some (.fn f71)) .lf) (some (.fn f39)) .lf) (some (.fn f23)) (.nd (.nd .lf (some (.fn f87)) .lf) (some (.fn f55)) .lf))) (some (.fn f3)) (.nd (.nd (.nd (.nd .lf (some (.fn f67)) .lf) (some (.fn f35)) .lf) (some (.fn f19)) (.nd (.nd .lf (some (.fn f83)) .lf) (some (.fn f51)) .lf)) (some (.fn f11)) (.nd (.nd (.nd .lf (some (.fn f75)) .lf) (some (.fn f43)) .lf) (some (.fn f27)) (.nd .lf (some (.fn f59)) .lf)))) none (.nd (.nd (.nd (.nd (.nd .lf (some (.fn f65)) .lf) (some (.fn f33)) .lf) (some (.fn f17)) (.nd (.nd .lf (some (.fn f81)) .lf) (some (.fn f49)) .lf)) (some (.fn f9)) (.nd (.nd (.nd .lf (some (.fn f73)) .lf) (some (.fn f41)) .lf) (some (.fn f25)) (.nd (.nd .lf (some (.fn f89)) .lf) (some (.fn f57)) .lf))) (some (.fn f5)) (.nd (.nd (.nd (.nd .lf (some (.fn f69)) .lf) (some (.fn f37)) .lf) (some (.fn f21)) (.nd (.nd .lf (some (.fn f85)) .lf) (some (.fn f53)) .lf)) (some (.fn f13)) (.nd (.nd (.nd .lf (some (.fn f77)) .lf) (some (.fn f45)) .lf) (some (.fn f29)) (.nd .lf (some (.fn f61)) .lf))))) none (.nd (.nd (.nd (.nd (.nd (.nd .lf (some (.fn f64)) .lf) (some (.fn f32)) .lf) (some (.fn f16)) (.nd (.nd .lf (some (.fn f80)) .lf) (some (.fn f48)) .lf)) (some (.fn f8)) (.nd (.nd (.nd .lf (some (.fn f72)) .lf) (some (.fn f40)) .lf) (some (.fn f24)) (.nd (.nd .lf (some (.fn f88)) .lf) (some (.fn f56)) .lf))) (some (.fn f4)) (.nd (.nd (.nd (.nd .lf (some (.fn f68)) .lf) (some (.fn f36)) .lf) (some (.fn f20)) (.nd (.nd .lf (some (.fn f84)) .lf) (some (.fn f52)) .lf)) (some (.fn f12)) (.nd (.nd (.nd .lf (some (.fn f76)) .lf) (some (.fn f44)) .lf) (some (.fn f28)) (.nd .lf (some (.fn f60)) .lf)))) none (.nd (.nd (.nd (.nd (.nd .lf (some (.fn f66)) .lf) (some (.fn f34)) .lf) (some (.fn f18)) (.nd (.nd .lf (some (.fn f82)) .lf) (some (.fn f50)) .lf)) (some (.fn f10)) (.nd (.nd (.nd .lf (some (.fn f74)) .lf) (some (.fn f42)) .lf) (some (.fn f26)) (.nd .lf (some (.fn f58)) .lf))) (some (.fn f6)) (.nd (.nd (.nd (.nd .lf (some (.fn f70)) .lf) (some (.fn f38)) .lf) (some (.fn f22)) (.nd (.nd .lf (some (.fn f86)) .lf) (some (.fn f54)) .lf)) (some (.fn f14)) (.nd (.nd (.nd .lf (some (.fn f78)) .lf) (some (.fn f46)) .lf) (some (.fn f30)) (.nd .lf (some (.fn f62)) .lf))))))
abbrev K (G : Nat → Option (List IV)) (d : Nat) : Go.PM.Callee := dcall G (fun f => tab.get f) d
theorem k3 {G : Nat → Option (List IV)} {d : Nat} {args : List DV} {H : PT HB} {n lo : Nat} : K G (d + 1) 3 args H n lo = f3.run G (K G d) args H n lo := dcall_fn rfl
theorem k4 {G : Nat → Option (List IV)} {d : Nat} {args : List DV} {H : PT HB} {n lo : Nat} : K G (d + 1) 4 args H n lo = f4.run G (K G d) args H n lo := dcall_fn rfl
theorem k5 {G : Nat → Option (List IV)} {d : Nat} {args : List DV} {H : PT HB} {n lo : Nat} : K G (d + 1) 5 args H n lo = f5.run G (K G d) args H n lo := dcall_fn rfl
theorem k6 {G : Nat → Option (List IV)} {d : Nat} {args : List DV} {H : PT HB} {n lo : Nat} : K G (d + 1) 6 args H n lo = f6.run G (K G d) args H n lo := dcall_fn rfl
theorem k7 {G : Nat → Option (List IV)} {d : Nat} {args : List DV} {H : PT HB} {n lo : Nat} : K G (d + 1) 7 args H n lo = f7.run G (K G d) args H n lo := dcall_fn rfl
theorem k8 {G : Nat → Option (List IV)} {d : Nat} {args : List DV} {H : PT HB} {n lo : Nat} : K G (d + 1) 8 args H n lo = f8.run G (K G d) args H n lo := dcall_fn rfl
theorem k9 {G : Nat → Option (List IV)} {d : Nat} {args : List DV} {H : PT HB} {n lo : Nat} : K G (d + 1) 9 args H n lo = f9.run G (K G d) args H n lo := dcall_fn rfl
theorem k10 {G : Nat → Option (List IV)} {d : Nat} {args : List DV} {H : PT HB} {n lo : Nat} : K G (d + 1) 10 args H n lo = f10.run G (K G d) args H n lo := dcall_fn rfl
theorem k11 {G : Nat → Option (List IV)} {d : Nat} {args : List DV} {H : PT HB} {n lo : Nat} : K G (d + 1) 11 args H n lo = f11.run G (K G d) args H n lo := dcall_fn rfl
theorem k12 {G : Nat → Option (List IV)} {d : Nat} {args : List DV} {H : PT HB} {n lo : Nat} : K G (d + 1) 12 args H n lo = f12.run G (K G d) args H n lo := dcall_fn rfl
theorem k13 {G : Nat → Option (List IV)} {d : Nat} {args : List DV} {H : PT HB} {n lo : Nat} : K G (d + 1) 13 args H n lo = f13.run G (K G d) args H n lo := dcall_fn rfl
theorem k14 {G : Nat → Option (List IV)} {d : Nat} {args : List DV} {H : PT HB} {n lo : Nat} : K G (d + 1) 14 args H n lo = f14.run G (K G d) args H n lo := dcall_fn rfl
theorem k15 {G : Nat → Option (List IV)} {d : Nat} {args : List DV} {H : PT HB} {n lo : Nat} : K G (d + 1) 15 args H n lo = f15.run G (K G d) args H n lo := dcall_fn rfl
theorem k16 {G : Nat → Option (List IV)} {d : Nat} {args : List DV} {H : PT HB} {n lo : Nat} : K G (d + 1) 16 args H n lo = f16.run G (K G d) args H n lo := dcall_fn rfl
theorem k17 {G : Nat → Option (List IV)} {d : Nat} {args : List DV} {H : PT HB} {n lo : Nat} : K G (d + 1) 17 args H n lo = f17.run G (K G d) args H n lo := dcall_fn rfl
theorem k18 {G : Nat → Option (List IV)} {d : Nat} {args : List DV} {H : PT HB} {n lo : Nat} : K G (d + 1) 18 args H n lo = f18.run G (K G d) args H n lo := dcall_fn rfl
theorem k19 {G : Nat → Option (List IV)} {d : Nat} {args : List DV} {H : PT HB} {n lo : Nat} : K G (d + 1) 19 args H n lo = f19.run G (K G d) args H n lo := dcall_fn rfl
theorem k20 {G : Nat → Option (List IV)} {d : Nat} {args : List DV} {H : PT HB} {n lo : Nat} : K G (d + 1) 20 args H n lo = f20.run G (K G d) args H n lo := dcall_fn rfl
theorem k21 {G : Nat → Option (List IV)} {d : Nat} {args : List DV} {H : PT HB} {n lo : Nat} : K G (d + 1) 21 args H n lo = f21.run G (K G d) args H n lo := dcall_fn rfl
theorem k22 {G : Nat → Option (List IV)} {d : Nat} {args : List DV} {H : PT HB} {n lo : Nat} : K G (d + 1) 22 args H n lo = f22.run G (K G d) args H n lo := dcall_fn rfl
theorem k23 {G : Nat → Option (List IV)} {d : Nat} {args : List DV} {H : PT HB} {n lo : Nat} : K G (d + 1) 23 args H n lo = f23.run G (K G d) args H n lo := dcall_fn rfl
theorem k24 {G : Nat → Option (List IV)} {d : Nat} {args : List DV} {H : PT HB} {n lo : Nat} : K G (d + 1) 24 args H n lo = f24.run G (K G d) args H n lo := dcall_fn rfl
theorem k25 {G : Nat → Option (List IV)} {d : Nat} {args : List DV} {H : PT HB} {n lo : Nat} : K G (d + 1) 25 args H n lo = f25.run G (K G d) args H n lo := dcall_fn rfl
theorem k26 {G : Nat → Option (List IV)} {d : Nat} {args : List DV} {H : PT HB} {n lo : Nat} : K G (d + 1) 26 args H n lo = f26.run G (K G d) args H n lo := dcall_fn rfl
theorem k27 {G : Nat → Option (List IV)} {d : Nat} {args : List DV} {H : PT HB} {n lo : Nat} : K G (d + 1) 27 args H n lo = f27.run G (K G d) args H n lo := dcall_fn rfl
theorem k28 {G : Nat → Option (List IV)} {d : Nat} {args : List DV} {H : PT HB} {n lo : Nat} : K G (d + 1) 28 args H n lo = f28.run G (K G d) args H n lo := dcall_fn rfl
theorem k29 {G : Nat → Option (List IV)} {d : Nat} {args : List DV} {H : PT HB} {n lo : Nat} : K G (d + 1) 29 args H n lo = f29.run G (K G d) args H n lo := dcall_fn rfl
theorem k30 {G : Nat → Option (List IV)} {d : Nat} {args : List DV} {H : PT HB} {n lo : Nat} : K G (d + 1) 30 args H n lo = f30.run G (K G d) args H n lo := dcall_fn rfl
theorem k31 {G : Nat → Option (List IV)} {d : Nat} {args : List DV} {H : PT HB} {n lo : Nat} : K G (d + 1) 31 args H n lo = f31.run G (K G d) args H n lo := dcall_fn rfl
theorem k32 {G : Nat → Option (List IV)} {d : Nat} {args : List DV} {H : PT HB} {n lo : Nat} : K G (d + 1) 32 args H n lo = f32.run G (K G d) args H n lo := dcall_fn rfl
theorem k33 {G : Nat → Option (List IV)} {d : Nat} {args : List DV} {H : PT HB} {n lo : Nat} : K G (d + 1) 33 args H n lo = f33.run G (K G d) args H n lo := dcall_fn rfl
theorem k34 {G : Nat → Option (List IV)} {d : Nat} {args : List DV} {H : PT HB} {n lo : Nat} : K G (d + 1) 34 args H n lo = f34.run G (K G d) args H n lo := dcall_fn rfl
theorem k35 {G : Nat → Option (List IV)} {d : Nat} {args : List DV} {H : PT HB} {n lo : Nat} : K G (d + 1) 35 args H n lo = f35.run G (K G d) args H n lo := dcall_fn rfl
theorem k36 {G : Nat → Option (List IV)} {d : Nat} {args : List DV} {H : PT HB} {n lo : Nat} : K G (d + 1) 36 args H n lo = f36.run G (K G d) args H n lo := dcall_fn rfl
theorem k37 {G : Nat → Option (List IV)} {d : Nat} {args : List DV} {H : PT HB} {n lo : Nat} : K G (d + 1) 37 args H n lo = f37.run G (K G d) args H n lo := dcall_fn rfl
theorem k38 {G : Nat → Option (List IV)} {d : Nat} {args : List DV} {H : PT HB} {n lo : Nat} : K G (d + 1) 38 args H n lo = f38.run G (K G d) args H n lo := dcall_fn rfl
theorem k39 {G : Nat → Option (List IV)} {d : Nat} {args : List DV} {H : PT HB} {n lo : Nat} : K G (d + 1) 39 args H n lo = f39.run G (K G d) args H n lo := dcall_fn rfl
theorem k40 {G : Nat → Option (List IV)} {d : Nat} {args : List DV} {H : PT HB} {n lo : Nat} : K G (d + 1) 40 args H n lo = f40.run G (K G d) args H n lo := dcall_fn rfl
theorem k41 {G : Nat → Option (List IV)} {d : Nat} {args : List DV} {H : PT HB} {n lo : Nat} : K G (d + 1) 41 args H n lo = f41.run G (K G d) args H n lo := dcall_fn rfl
theorem k42 {G : Nat → Option (List IV)} {d : Nat} {args : List DV} {H : PT HB} {n lo : Nat} : K G (d + 1) 42 args H n lo = f42.run G (K G d) args H n lo := dcall_fn rfl
theorem k43 {G : Nat → Option (List IV)} {d : Nat} {args : List DV} {H : PT HB} {n lo : Nat} : K G (d + 1) 43 args H n lo = f43.run G (K G d) args H n lo := dcall_fn rfl
theorem k44 {G : Nat → Option (List IV)} {d : Nat} {args : List DV} {H : PT HB} {n lo : Nat} : K G (d + 1) 44 args H n lo = f44.run G (K G d) args H n lo := dcall_fn rfl
theorem k45 {G : Nat → Option (List IV)} {d : Nat} {args : List DV} {H : PT HB} {n lo : Nat} : K G (d + 1) 45 args H n lo = f45.run G (K G d) args H n lo := dcall_fn rfl
theorem k46 {G : Nat → Option (List IV)} {d : Nat} {args : List DV} {H : PT HB} {n lo : Nat} : K G (d + 1) 46 args H n lo = f46.run G (K G d) args H n lo := dcall_fn rfl
theorem k47 {G : Nat → Option (List IV)} {d : Nat} {args : List DV} {H : PT HB} {n lo : Nat} : K G (d + 1) 47 args H n lo = f47.run G (K G d) args H n lo := dcall_fn rfl
theorem k48 {G : Nat → Option (List IV)} {d : Nat} {args : List DV} {H : PT HB} {n lo : Nat} : K G (d + 1) 48 args H n lo = f48.run G (K G d) args H n lo := dcall_fn rfl
theorem k49 {G : Nat → Option (List IV)} {d : Nat} {args : List DV} {H : PT HB} {n lo : Nat} : K G (d + 1) 49 args H n lo = f49.run G (K G d) args H n lo := dcall_fn rfl
theorem k50 {G : Nat → Option (List IV)} {d : Nat} {args : List DV} {H : PT HB} {n lo : Nat} : K G (d + 1) 50 args H n lo = f50.run G (K G d) args H n lo := dcall_fn rfl
theorem k51 {G : Nat → Option (List IV)} {d : Nat} {args : List DV} {H : PT HB} {n lo : Nat} : K G (d + 1) 51 args H n lo = f51.run G (K G d) args H n lo := dcall_fn rfl
theorem k52 {G : Nat → Option (List IV)} {d : Nat} {args : List DV} {H : PT HB} {n lo : Nat} : K G (d + 1) 52 args H n lo = f52.run G (K G d) args H n lo := dcall_fn rfl
theorem k53 {G : Nat → Option (List IV)} {d : Nat} {args : List DV} {H : PT HB} {n lo : Nat} : K G (d + 1) 53 args H n lo = f53.run G (K G d) args H n lo := dcall_fn rfl
theorem k54 {G : Nat → Option (List IV)} {d : Nat} {args : List DV} {H : PT HB} {n lo : Nat} : K G (d + 1) 54 args H n lo = f54.run G (K G d) args H n lo := dcall_fn rfl
theorem k55 {G : Nat → Option (List IV)} {d : Nat} {args : List DV} {H : PT HB} {n lo : Nat} : K G (d + 1) 55 args H n lo = f55.run G (K G d) args H n lo := dcall_fn rfl
theorem k56 {G : Nat → Option (List IV)} {d : Nat} {args : List DV} {H : PT HB} {n lo : Nat} : K G (d + 1) 56 args H n lo = f56.run G (K G d) args H n lo := dcall_fn rfl
theorem k57 {G : Nat → Option (List IV)} {d : Nat} {args : List DV} {H : PT HB} {n lo : Nat} : K G (d + 1) 57 args H n lo = f57.run G (K G d) args H n lo := dcall_fn rfl
theorem k58 {G : Nat → Option (List IV)} {d : Nat} {args : List DV} {H : PT HB} {n lo : Nat} : K G (d + 1) 58 args H n lo = f58.run G (K G d) args H n lo := dcall_fn rfl
theorem k59 {G : Nat → Option (List IV)} {d : Nat} {args : List DV} {H : PT HB} {n lo : Nat} : K G (d + 1) 59 args H n lo = f59.run G (K G d) args H n lo := dcall_fn rfl
theorem k60 {G : Nat → Option (List IV)} {d : Nat} {args : List DV} {H : PT HB} {n lo : Nat} : K G (d + 1) 60 args H n lo = f60.run G (K G d) args H n lo := dcall_fn rfl
theorem k61 {G : Nat → Option (List IV)} {d : Nat} {args : List DV} {H : PT HB} {n lo : Nat} : K G (d + 1) 61 args H n lo = f61.run G (K G d) args H n lo := dcall_fn rfl
theorem k62 {G : Nat → Option (List IV)} {d : Nat} {args : List DV} {H : PT HB} {n lo : Nat} : K G (d + 1) 62 args H n lo = f62.run G (K G d) args H n lo := dcall_fn rfl
theorem k63 {G : Nat → Option (List IV)} {d : Nat} {args : List DV} {H : PT HB} {n lo : Nat} : K G (d + 1) 63 args H n lo = f63.run G (K G d) args H n lo := dcall_fn rfl
theorem k64 {G : Nat → Option (List IV)} {d : Nat} {args : List DV} {H : PT HB} {n lo : Nat} : K G (d + 1) 64 args H n lo = f64.run G (K G d) args H n lo := dcall_fn rfl
theorem k65 {G : Nat → Option (List IV)} {d : Nat} {args : List DV} {H : PT HB} {n lo : Nat} : K G (d + 1) 65 args H n lo = f65.run G (K G d) args H n lo := dcall_fn rfl
theorem k66 {G : Nat → Option (List IV)} {d : Nat} {args : List DV} {H : PT HB} {n lo : Nat} : K G (d + 1) 66 args H n lo = f66.run G (K G d) args H n lo := dcall_fn rfl
theorem k67 {G : Nat → Option (List IV)} {d : Nat} {args : List DV} {H : PT HB} {n lo : Nat} : K G (d + 1) 67 args H n lo = f67.run G (K G d) args H n lo := dcall_fn rfl
theorem k68 {G : Nat → Option (List IV)} {d : Nat} {args : List DV} {H : PT HB} {n lo : Nat} : K G (d + 1) 68 args H n lo = f68.run G (K G d) args H n lo := dcall_fn rfl
theorem k69 {G : Nat → Option (List IV)} {d : Nat} {args : List DV} {H : PT HB} {n lo : Nat} : K G (d + 1) 69 args H n lo = f69.run G (K G d) args H n lo := dcall_fn rfl
theorem k70 {G : Nat → Option (List IV)} {d : Nat} {args : List DV} {H : PT HB} {n lo : Nat} : K G (d + 1) 70 args H n lo = f70.run G (K G d) args H n lo := dcall_fn rfl
theorem k71 {G : Nat → Option (List IV)} {d : Nat} {args : List DV} {H : PT HB} {n lo : Nat} : K G (d + 1) 71 args H n lo = f71.run G (K G d) args H n lo := dcall_fn rfl
theorem k72 {G : Nat → Option (List IV)} {d : Nat} {args : List DV} {H : PT HB} {n lo : Nat} : K G (d + 1) 72 args H n lo = f72.run G (K G d) args H n lo := dcall_fn rfl
theorem k73 {G : Nat → Option (List IV)} {d : Nat} {args : List DV} {H : PT HB} {n lo : Nat} : K G (d + 1) 73 args H n lo = f73.run G (K G d) args H n lo := dcall_fn rfl
theorem k74 {G : Nat → Option (List IV)} {d : Nat} {args : List DV} {H : PT HB} {n lo : Nat} : K G (d + 1) 74 args H n lo = f74.run G (K G d) args H n lo := dcall_fn rfl
theorem k75 {G : Nat → Option (List IV)} {d : Nat} {args : List DV} {H : PT HB} {n lo : Nat} : K G (d + 1) 75 args H n lo = f75.run G (K G d) args H n lo := dcall_fn rfl
theorem k76 {G : Nat → Option (List IV)} {d : Nat} {args : List DV} {H : PT HB} {n lo : Nat} : K G (d + 1) 76 args H n lo = f76.run G (K G d) args H n lo := dcall_fn rfl
theorem k77 {G : Nat → Option (List IV)} {d : Nat} {args : List DV} {H : PT HB} {n lo : Nat} : K G (d + 1) 77 args H n lo = f77.run G (K G d) args H n lo := dcall_fn rfl
theorem k78 {G : Nat → Option (List IV)} {d : Nat} {args : List DV} {H : PT HB} {n lo : Nat} : K G (d + 1) 78 args H n lo = f78.run G (K G d) args H n lo := dcall_fn rfl
theorem k79 {G : Nat → Option (List IV)} {d : Nat} {args : List DV} {H : PT HB} {n lo : Nat} : K G (d + 1) 79 args H n lo = f79.run G (K G d) args H n lo := dcall_fn rfl
theorem k80 {G : Nat → Option (List IV)} {d : Nat} {args : List DV} {H : PT HB} {n lo : Nat} : K G (d + 1) 80 args H n lo = f80.run G (K G d) args H n lo := dcall_fn rfl
theorem k81 {G : Nat → Option (List IV)} {d : Nat} {args : List DV} {H : PT HB} {n lo : Nat} : K G (d + 1) 81 args H n lo = f81.run G (K G d) args H n lo := dcall_fn rfl
theorem k82 {G : Nat → Option (List IV)} {d : Nat} {args : List DV} {H : PT HB} {n lo : Nat} : K G (d + 1) 82 args H n lo = f82.run G (K G d) args H n lo := dcall_fn rfl
theorem k83 {G : Nat → Option (List IV)} {d : Nat} {args : List DV} {H : PT HB} {n lo : Nat} : K G (d + 1) 83 args H n lo = f83.run G (K G d) args H n lo := dcall_fn rfl
theorem k84 {G : Nat → Option (List IV)} {d : Nat} {args : List DV} {H : PT HB} {n lo : Nat} : K G (d + 1) 84 args H n lo = f84.run G (K G d) args H n lo := dcall_fn rfl
theorem k85 {G : Nat → Option (List IV)} {d : Nat} {args : List DV} {H : PT HB} {n lo : Nat} : K G (d + 1) 85 args H n lo = f85.run G (K G d) args H n lo := dcall_fn rfl
theorem k86 {G : Nat → Option (List IV)} {d : Nat} {args : List DV} {H : PT HB} {n lo : Nat} : K G (d + 1) 86 args H n lo = f86.run G (K G d) args H n lo := dcall_fn rfl
theorem k87 {G : Nat → Option (List IV)} {d : Nat} {args : List DV} {H : PT HB} {n lo : Nat} : K G (d + 1) 87 args H n lo = f87.run G (K G d) args H n lo := dcall_fn rfl
theorem k88 {G : Nat → Option (List IV)} {d : Nat} {args : List DV} {H : PT HB} {n lo : Nat} : K G (d + 1) 88 args H n lo = f88.run G (K G d) args H n lo := dcall_fn rfl
theorem k89 {G : Nat → Option (List IV)} {d : Nat} {args : List DV} {H : PT HB} {n lo : Nat} : K G (d + 1) 89 args H n lo = f89.run G (K G d) args H n lo := dcall_fn rfl
end Go.Proofs.YtkgjgehffijepabDoor.D
