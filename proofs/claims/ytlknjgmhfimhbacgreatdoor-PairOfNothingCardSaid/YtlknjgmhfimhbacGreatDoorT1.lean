/-
  Rows of numbers, names, needs: whether something is among them. Over D.
  unicode/utf8.DecodeRuneInString over D: it is the model's own decoding.
  Runes: letters, wrong bytes. Over D.
  Names: what glyph.IsName tells of a text.
  glyph.IsName over D.
  Rows that grow; the runes of pointsmanref1. Over D.
  pointsmanref1.IsName over D: as glyph.IsName.
  Texts among texts; names. Over D.
  Rows of names: table.areNames. Over D.
  Rows of names: pointsmanref4.names. Over D.
  pointsmanref4.In over D.
  table.isPath over D.
  A layout among the arguments, as lists.
-/
import Derived.Test.YtlknjgmhfimhbacGreatDoorFn
import Derived.Test.YtlknjgmhfimhbacGreatDoorSl
import Derived.Test.YtlknjgmhfimhbacGreatDoorRun
import Derived.Test.YtlknjgmhfimhbacGreatDoorDoor
import Derived.Lib.DecodeNEq
-- TabA
set_option linter.unusedVariables false
set_option linter.unusedSimpArgs false
set_option maxHeartbeats 8000000
namespace Go.Proofs.YtlknjgmhfimhbacGreatDoor.D
open Go Go.PM

def ivI (z : Int) : List IV := [.int .i64 z]
def ivS (s : List UInt8) : List IV := [.str s]
structure Need where
  pt : Int
  rev : Bool
  deriving DecidableEq, BEq, ReflBEq, LawfulBEq, Inhabited
def ivN (x : Need) : List IV := [.int .i64 x.pt, .bool x.rev]
theorem isIn_eq (G : Nat → Option (List IV)) {D : Nat} (hD : 1 ≤ D) (n lo hi : Int) : bl (K G D) 157 [.imm (.int .i64 n), .imm (.int .i64 lo), .imm (.int .i64 hi)] = some (.imm (.bool (decide (lo ≤ n ∧ n ≤ hi)))) := by
  obtain ⟨d, rfl⟩ : ∃ d, D = d + 1 := ⟨D - 1, by omega⟩
  refine bl_imm (H' := .lf) (n' := 0) ?_
  rw [D.k157]
  by_cases h1 : lo ≤ n
  · by_cases h2 : n ≤ hi
    · simp only [D.f157, fn_run, B4, fnEnd, argsT, opRun, PT.get_put, dstep, ev, evs, evO, give, giveI, binOf, isNilK, PM.flip, putT, putL, putH, callM, loadOf, storeOf, cut, over, ofCells, asNat, natOr, calm, clashes, Acc.clash, ressOf, resOf, frz, frz.frzs, snap, snap.snaps, DV.pure, DV.pure.pures, DV.flat, DV.flat.flats, binStr, ansT, Option.map, List.length_cons, List.length_nil, reduceIte, Nat.reduceEqDiff, Nat.reduceAdd]
      simp [h1, h2, B4, fnEnd, argsT, opRun, PT.get_put, dstep, ev, evs, evO, give, giveI, binOf, isNilK, PM.flip, putT, putL, putH, callM, loadOf, storeOf, cut, over, ofCells, asNat, natOr, calm, clashes, Acc.clash, ressOf, resOf, frz, frz.frzs, snap, snap.snaps, DV.pure, DV.pure.pures, DV.flat, DV.flat.flats, binStr, ansT, Option.map, List.length_cons, List.length_nil, reduceIte, Nat.reduceEqDiff, Nat.reduceAdd]
    · simp only [D.f157, fn_run, B4, fnEnd, argsT, opRun, PT.get_put, dstep, ev, evs, evO, give, giveI, binOf, isNilK, PM.flip, putT, putL, putH, callM, loadOf, storeOf, cut, over, ofCells, asNat, natOr, calm, clashes, Acc.clash, ressOf, resOf, frz, frz.frzs, snap, snap.snaps, DV.pure, DV.pure.pures, DV.flat, DV.flat.flats, binStr, ansT, Option.map, List.length_cons, List.length_nil, reduceIte, Nat.reduceEqDiff, Nat.reduceAdd]
      simp [h1, h2, B4, fnEnd, argsT, opRun, PT.get_put, dstep, ev, evs, evO, give, giveI, binOf, isNilK, PM.flip, putT, putL, putH, callM, loadOf, storeOf, cut, over, ofCells, asNat, natOr, calm, clashes, Acc.clash, ressOf, resOf, frz, frz.frzs, snap, snap.snaps, DV.pure, DV.pure.pures, DV.flat, DV.flat.flats, binStr, ansT, Option.map, List.length_cons, List.length_nil, reduceIte, Nat.reduceEqDiff, Nat.reduceAdd]
  · simp only [D.f157, fn_run, B4, fnEnd, argsT, opRun, PT.get_put, dstep, ev, evs, evO, give, giveI, binOf, isNilK, PM.flip, putT, putL, putH, callM, loadOf, storeOf, cut, over, ofCells, asNat, natOr, calm, clashes, Acc.clash, ressOf, resOf, frz, frz.frzs, snap, snap.snaps, DV.pure, DV.pure.pures, DV.flat, DV.flat.flats, binStr, ansT, Option.map, List.length_cons, List.length_nil, reduceIte, Nat.reduceEqDiff, Nat.reduceAdd]
    simp [h1, B4, fnEnd, argsT, opRun, PT.get_put, dstep, ev, evs, evO, give, giveI, binOf, isNilK, PM.flip, putT, putL, putH, callM, loadOf, storeOf, cut, over, ofCells, asNat, natOr, calm, clashes, Acc.clash, ressOf, resOf, frz, frz.frzs, snap, snap.snaps, DV.pure, DV.pure.pures, DV.flat, DV.flat.flats, binStr, ansT, Option.map, List.length_cons, List.length_nil, reduceIte, Nat.reduceEqDiff, Nat.reduceAdd]

/-! ### Numbers -/
theorem index_ints (G : Nat → Option (List IV)) {D : Nat} (hD : 1 ≤ D) {v : IV} {zs : List Int} (hv : Sl 1 v (zs.map ivI)) (hl : zs.length ≤ reachBytes) (z : Int) :
    ∃ r : Int, bl (K G D) 228 [.imm v, .imm (.int .i64 z)] = some (.imm (.int .i64 r)) ∧ (0 ≤ r ↔ z ∈ zs) := by
  obtain ⟨d, rfl⟩ : ∃ d, D = d + 1 := ⟨D - 1, by omega⟩
  rcases hv with ⟨rfl, hz⟩ | ⟨f, rfl⟩
  · obtain rfl : zs = [] := by simpa using hz
    refine ⟨-1, bl_imm (H' := .lf) (n' := 0) ?_, by simp⟩
    rw [D.k228]
    obtain ⟨k, hL⟩ : ∃ k, LOOP = k + 1 := ⟨2 ^ 62 - 1, rfl⟩
    simp only [D.f228, D.l228_0, fn_run, B4, fnEnd, argsT, opRun, PT.get_put, dstep, ev, evs, evO, give, giveI, binOf, isNilK, PM.flip, putT, putL, putH, callM, loadOf, storeOf, cut, over, ofCells, asNat, natOr, calm, clashes, Acc.clash, ressOf, resOf, frz, frz.frzs, snap, snap.snaps, DV.pure, DV.pure.pures, DV.flat, DV.flat.flats, binStr, ansT, Option.map, List.length_cons, List.length_nil, reduceIte, Nat.reduceEqDiff, Nat.reduceAdd]
    simp [run_loop, hL, iter, loopRun_eq, keep, D.l228_0b, B4, fnEnd, argsT, opRun, PT.get_put, dstep, ev, evs, evO, give, giveI, binOf, isNilK, PM.flip, putT, putL, putH, callM, loadOf, storeOf, cut, over, ofCells, asNat, natOr, calm, clashes, Acc.clash, ressOf, resOf, frz, frz.frzs, snap, snap.snaps, DV.pure, DV.pure.pures, DV.flat, DV.flat.flats, binStr, ansT, Option.map, List.length_cons, List.length_nil, reduceIte, Nat.reduceEqDiff, Nat.reduceAdd]
  · have loop : ∀ s : St, (s.T.get 0 = some (.imm (.lst f 1 (zs.map ivI))) ∧ s.T.get 1 = some (.imm (.int .i64 z)) ∧ s.T.get 7 = some (.imm (.int .i64 zs.length)) ∧ s.T.get 8 = some (.imm (.int .i64 (0 : Nat))) ∧ s.H = .lf ∧ s.n = 0) →
        ∃ e s', D.l228_0.run G (K G d) 0 s = some (e, s') ∧ ((e = .ret ∧ s'.H = .lf ∧ s'.n = 0 ∧ z ∈ zs ∧ ∃ r : Nat, s'.T.get 4 = some (.imm (.int .i64 r))) ∨ (e = .exit 0 ∧ s'.H = .lf ∧ s'.n = 0 ∧ z ∉ zs)) := fun s hs => by
      refine rng_loop (N := zs.length) (small hl) (fun i s => s.T.get 0 = some (.imm (.lst f 1 (zs.map ivI))) ∧ s.T.get 1 = some (.imm (.int .i64 z)) ∧ s.T.get 7 = some (.imm (.int .i64 zs.length)) ∧ s.T.get 8 = some (.imm (.int .i64 i)) ∧ s.H = .lf ∧ s.n = 0 ∧
        ∀ j, j < i → zs[j]? ≠ some z) _ (fun i s ⟨h0, h1, h7, h8, hH, hn, hj⟩ hle => ?_) s ⟨hs.1, hs.2.1, hs.2.2.1, hs.2.2.2.1, hs.2.2.2.2.1, hs.2.2.2.2.2, fun j hj => by omega⟩
      by_cases hi : i < zs.length
      · have hi' : (i : Int) < zs.length := by omega
        have hw := wr_succ hi hl
        have hx : zs[i]? = some zs[i] := List.getElem?_eq_getElem hi
        generalize hxe : zs[i] = x at hx
        by_cases hzx : z = x
        · right
          subst hzx
          refine ⟨.ret, ?_⟩
          simp only [D.l228_0b, keep, B4, fnEnd, argsT, opRun, PT.get_put, dstep, ev, evs, evO, give, giveI, binOf, isNilK, PM.flip, putT, putL, putH, callM, loadOf, storeOf, cut, over, ofCells, asNat, natOr, calm, clashes, Acc.clash, ressOf, resOf, frz, frz.frzs, snap, snap.snaps, DV.pure, DV.pure.pures, DV.flat, DV.flat.flats, binStr, ansT, Option.map, List.length_cons, List.length_nil, reduceIte, Nat.reduceEqDiff, Nat.reduceAdd]
          simp [h0, h1, h7, h8, hi', hi, hx, hxe, hH, hn, ivI, imms, B4, fnEnd, argsT, opRun, PT.get_put, dstep, ev, evs, evO, give, giveI, binOf, isNilK, PM.flip, putT, putL, putH, callM, loadOf, storeOf, cut, over, ofCells, asNat, natOr, calm, clashes, Acc.clash, ressOf, resOf, frz, frz.frzs, snap, snap.snaps, DV.pure, DV.pure.pures, DV.flat, DV.flat.flats, binStr, ansT, Option.map, List.length_cons, List.length_nil, reduceIte, Nat.reduceEqDiff, Nat.reduceAdd]
          exact ⟨List.mem_of_getElem? hx, i, by simp [PT.get_put]⟩
        · left
          refine ⟨hi, ?_⟩
          have hb := beqF hzx
          simp only [D.l228_0b, keep, B4, fnEnd, argsT, opRun, PT.get_put, dstep, ev, evs, evO, give, giveI, binOf, isNilK, PM.flip, putT, putL, putH, callM, loadOf, storeOf, cut, over, ofCells, asNat, natOr, calm, clashes, Acc.clash, ressOf, resOf, frz, frz.frzs, snap, snap.snaps, DV.pure, DV.pure.pures, DV.flat, DV.flat.flats, binStr, ansT, Option.map, List.length_cons, List.length_nil, reduceIte, Nat.reduceEqDiff, Nat.reduceAdd]
          simp [h0, h1, h7, h8, hi', hi, hx, hxe, hw, hb, hH, hn, ivI, imms, B4, fnEnd, argsT, opRun, PT.get_put, dstep, ev, evs, evO, give, giveI, binOf, isNilK, PM.flip, putT, putL, putH, callM, loadOf, storeOf, cut, over, ofCells, asNat, natOr, calm, clashes, Acc.clash, ressOf, resOf, frz, frz.frzs, snap, snap.snaps, DV.pure, DV.pure.pures, DV.flat, DV.flat.flats, binStr, ansT, Option.map, List.length_cons, List.length_nil, reduceIte, Nat.reduceEqDiff, Nat.reduceAdd]
          intro j hj1
          by_cases e : j = i
          · subst e; rw [hx]; exact fun e => hzx (Option.some.inj e).symm
          · exact hj j (by omega)
      · obtain rfl : i = zs.length := by omega
        right
        refine ⟨.exit 0, ?_⟩
        simp only [D.l228_0b, keep, B4, fnEnd, argsT, opRun, PT.get_put, dstep, ev, evs, evO, give, giveI, binOf, isNilK, PM.flip, putT, putL, putH, callM, loadOf, storeOf, cut, over, ofCells, asNat, natOr, calm, clashes, Acc.clash, ressOf, resOf, frz, frz.frzs, snap, snap.snaps, DV.pure, DV.pure.pures, DV.flat, DV.flat.flats, binStr, ansT, Option.map, List.length_cons, List.length_nil, reduceIte, Nat.reduceEqDiff, Nat.reduceAdd]
        simp [h0, h1, h7, h8, hH, hn, B4, fnEnd, argsT, opRun, PT.get_put, dstep, ev, evs, evO, give, giveI, binOf, isNilK, PM.flip, putT, putL, putH, callM, loadOf, storeOf, cut, over, ofCells, asNat, natOr, calm, clashes, Acc.clash, ressOf, resOf, frz, frz.frzs, snap, snap.snaps, DV.pure, DV.pure.pures, DV.flat, DV.flat.flats, binStr, ansT, Option.map, List.length_cons, List.length_nil, reduceIte, Nat.reduceEqDiff, Nat.reduceAdd]
        intro hm
        obtain ⟨j, hjj⟩ := List.getElem?_of_mem hm
        exact hj j (List.getElem?_eq_some_iff.1 hjj).1 hjj
    rw [show (∃ r : Int, bl (K G (d + 1)) 228 [.imm (.lst f 1 (zs.map ivI)), .imm (.int .i64 z)] = some (.imm (.int .i64 r)) ∧ (0 ≤ r ↔ z ∈ zs)) ↔ _ from Iff.rfl]
    have key : ∃ r : Int, K G (d + 1) 228 [.imm (.lst f 1 (zs.map ivI)), .imm (.int .i64 z)] .lf 0 0 = some (.imm (.int .i64 r), .lf, 0) ∧ (0 ≤ r ↔ z ∈ zs) := by
      rw [D.k228]
      simp only [D.f228, fn_run, B4, fnEnd, argsT, opRun, PT.get_put, dstep, ev, evs, evO, give, giveI, binOf, isNilK, PM.flip, putT, putL, putH, callM, loadOf, storeOf, cut, over, ofCells, asNat, natOr, calm, clashes, Acc.clash, ressOf, resOf, frz, frz.frzs, snap, snap.snaps, DV.pure, DV.pure.pures, DV.flat, DV.flat.flats, binStr, ansT, Option.map, List.length_cons, List.length_nil, reduceIte, Nat.reduceEqDiff, Nat.reduceAdd]
      simp [B4, fnEnd, argsT, opRun, PT.get_put, dstep, ev, evs, evO, give, giveI, binOf, isNilK, PM.flip, putT, putL, putH, callM, loadOf, storeOf, cut, over, ofCells, asNat, natOr, calm, clashes, Acc.clash, ressOf, resOf, frz, frz.frzs, snap, snap.snaps, DV.pure, DV.pure.pures, DV.flat, DV.flat.flats, binStr, ansT, Option.map, List.length_cons, List.length_nil, reduceIte, Nat.reduceEqDiff, Nat.reduceAdd]
      generalize hrun : D.l228_0.run G (K G d) 0 _ = r
      obtain ⟨e, s', rfl, hq⟩ : ∃ e s', r = some (e, s') ∧ ((e = .ret ∧ s'.H = .lf ∧ s'.n = 0 ∧ z ∈ zs ∧ ∃ r : Nat, s'.T.get 4 = some (.imm (.int .i64 r))) ∨ (e = .exit 0 ∧ s'.H = .lf ∧ s'.n = 0 ∧ z ∉ zs)) := by
        rw [← hrun]
        refine loop _ ⟨?_, ?_, ?_, ?_, rfl, rfl⟩ <;> simp [PT.get_put]
      clear hrun
      rcases hq with ⟨rfl, q1, q2, q3, r, q4⟩ | ⟨rfl, q1, q2, q3⟩
      · refine ⟨r, ?_⟩
        simp [q1, q2, q3, q4, B4, fnEnd, argsT, opRun, PT.get_put, dstep, ev, evs, evO, give, giveI, binOf, isNilK, PM.flip, putT, putL, putH, callM, loadOf, storeOf, cut, over, ofCells, asNat, natOr, calm, clashes, Acc.clash, ressOf, resOf, frz, frz.frzs, snap, snap.snaps, DV.pure, DV.pure.pures, DV.flat, DV.flat.flats, binStr, ansT, Option.map, List.length_cons, List.length_nil, reduceIte, Nat.reduceEqDiff, Nat.reduceAdd]
      · refine ⟨-1, ?_⟩
        simp [q1, q2, q3, B4, fnEnd, argsT, opRun, PT.get_put, dstep, ev, evs, evO, give, giveI, binOf, isNilK, PM.flip, putT, putL, putH, callM, loadOf, storeOf, cut, over, ofCells, asNat, natOr, calm, clashes, Acc.clash, ressOf, resOf, frz, frz.frzs, snap, snap.snaps, DV.pure, DV.pure.pures, DV.flat, DV.flat.flats, binStr, ansT, Option.map, List.length_cons, List.length_nil, reduceIte, Nat.reduceEqDiff, Nat.reduceAdd]
    obtain ⟨r, e1, e2⟩ := key
    exact ⟨r, bl_imm e1, e2⟩
theorem contains_ints (G : Nat → Option (List IV)) {D : Nat} (hD : 2 ≤ D) {v : IV} {zs : List Int} (hv : Sl 1 v (zs.map ivI)) (hl : zs.length ≤ reachBytes) (z : Int) :
    bl (K G D) 201 [.imm v, .imm (.int .i64 z)] = some (.imm (.bool (decide (z ∈ zs)))) := by
  obtain ⟨d, rfl⟩ : ∃ d, D = d + 1 := ⟨D - 1, by omega⟩
  obtain ⟨r, e1, e2⟩ := index_ints G (D := d) (by omega) hv hl z
  refine bl_imm (H' := .lf) (n' := 0) ?_
  rw [D.k201]
  simp only [D.f201, fn_run, B5, fnEnd, argsT, opRun, PT.get_put, dstep, ev, evs, evO, give, giveI, binOf, isNilK, PM.flip, putT, putL, putH, loadOf, storeOf, cut, over, ofCells, asNat, natOr, calm, clashes, Acc.clash, ressOf, resOf, frz, frz.frzs, DV.flat, DV.flat.flats, binStr, ansT, Option.map, List.length_cons, List.length_nil, reduceIte, Nat.reduceEqDiff, Nat.reduceAdd]
  simp [e1, e2, B5, fnEnd, argsT, opRun, PT.get_put, dstep, ev, evs, evO, give, giveI, binOf, isNilK, PM.flip, putT, putL, putH, loadOf, storeOf, cut, over, ofCells, asNat, natOr, calm, clashes, Acc.clash, ressOf, resOf, frz, frz.frzs, DV.flat, DV.flat.flats, binStr, ansT, Option.map, List.length_cons, List.length_nil, reduceIte, Nat.reduceEqDiff, Nat.reduceAdd]
end Go.Proofs.YtlknjgmhfimhbacGreatDoor.D

-- TabB
set_option linter.unusedVariables false
set_option linter.unusedSimpArgs false
set_option maxHeartbeats 16000000
set_option maxRecDepth 100000
namespace Go.Proofs.YtlknjgmhfimhbacGreatDoor.D
open Go Go.PM Go.Lib
noncomputable abbrev DG := doorG 0 1

/-! ### Bits -/
theorem and_u8 : ∀ b : Fin 256, (binInt .and .u8 (b.val : Int) 7 = some (.int .u8 (b.val % 8 : Nat))) ∧ (binInt .and .u8 (b.val : Int) 15 = some (.int .u8 (b.val % 16 : Nat))) ∧
    (binInt .and .u8 (b.val : Int) 31 = some (.int .u8 (b.val % 32 : Nat))) ∧ (binInt .and .u8 (b.val : Int) 63 = some (.int .u8 (b.val % 64 : Nat))) := by
  intro b
  simp only [binInt, Option.some.injEq, IV.int.injEq, true_and]
  revert b
  decide +kernel
theorem and7 {b : Nat} (h : b < 256) : ∃ v : Nat, v = b % 8 ∧ binInt .and .u8 (b : Int) 7 = some (.int .u8 (v : Int)) := ⟨_, rfl, (and_u8 ⟨b, h⟩).1⟩
theorem and15 {b : Nat} (h : b < 256) : ∃ v : Nat, v = b % 16 ∧ binInt .and .u8 (b : Int) 15 = some (.int .u8 (v : Int)) := ⟨_, rfl, (and_u8 ⟨b, h⟩).2.1⟩
theorem and31 {b : Nat} (h : b < 256) : ∃ v : Nat, v = b % 32 ∧ binInt .and .u8 (b : Int) 31 = some (.int .u8 (v : Int)) := ⟨_, rfl, (and_u8 ⟨b, h⟩).2.2.1⟩
theorem and63 {b : Nat} (h : b < 256) : ∃ v : Nat, v = b % 64 ∧ binInt .and .u8 (b : Int) 63 = some (.int .u8 (v : Int)) := ⟨_, rfl, (and_u8 ⟨b, h⟩).2.2.2⟩
theorem wr32 {z : Int} (h : 0 ≤ z) (h' : z < 2147483648) : IntKind.i32.wrap z = z := by
  simp only [IntKind.wrap, IntKind.bits, IntKind.signed]
  simp
  omega
theorem shl32 {a k : Nat} (ha : a < 4096) (hk : k ≤ 18) (hb : a * 2 ^ k < 2147483648) : ∃ v : Nat, v = a * 2 ^ k ∧ IntKind.i32.wrap ((a : Int) * (2 ^ k : Nat)) = (v : Int) := ⟨_, rfl, by rw [wr32] <;> omega⟩
theorem or32 {x y k : Nat} (hx : x % 2 ^ k = 0) (hy : y < 2 ^ k) (hs : x + y < 2147483648) : ∃ v : Nat, v = x + y ∧ binInt .or .i32 (x : Int) (y : Int) = some (.int .i32 (v : Int)) := by
  refine ⟨_, rfl, ?_⟩
  have e : (BitVec.ofInt 32 (x : Int) ||| BitVec.ofInt 32 (y : Int)).toNat = x + y := by
    rw [BitVec.toNat_or, BitVec.ofInt_natCast, BitVec.ofInt_natCast, BitVec.toNat_ofNat, BitVec.toNat_ofNat, Nat.mod_eq_of_lt (by omega), Nat.mod_eq_of_lt (by omega)]
    have hx' : x = (x / 2 ^ k) <<< k := by
      rw [Nat.shiftLeft_eq]
      have := Nat.div_add_mod x (2 ^ k)
      rw [hx] at this
      rw [Nat.mul_comm]; omega
    rw [hx', ← Nat.shiftLeft_add_eq_or_of_lt hy]
  show some (IV.int .i32 (IntKind.i32.wrap ((BitVec.ofInt 32 (x : Int) ||| BitVec.ofInt 32 (y : Int)).toNat : Nat))) = _
  rw [e, wr32 (by omega) (by omega)]

/-! ### The tables -/
theorem first_drop {j : Nat} (h : j < 256) : ∃ tl, firstCells.drop j = IV.int .u8 (firstT j : Int) :: tl := by
  have e : firstCells[j]? = some (.int .u8 (firstT j : Int)) := by simp [firstCells, firstTab, h]
  obtain ⟨hl, e⟩ := List.getElem?_eq_some_iff.1 e
  exact ⟨_, by rw [List.drop_eq_getElem_cons hl, e]⟩
theorem first_len : firstCells.length = 256 := by simp [firstCells, firstTab]
theorem acc_len : acceptCells.length = 32 := by decide
theorem acc_drop : ∀ k : Fin 5, ∃ tl, acceptCells.drop (k.val * 2) = IV.int .u8 (accLo k.val : Int) :: IV.int .u8 (accHi k.val : Int) :: tl := fun k =>
  match k with | ⟨0, _⟩ => ⟨_, rfl⟩ | ⟨1, _⟩ => ⟨_, rfl⟩ | ⟨2, _⟩ => ⟨_, rfl⟩ | ⟨3, _⟩ => ⟨_, rfl⟩ | ⟨4, _⟩ => ⟨_, rfl⟩
theorem dg0 : doorG 0 1 0 = some firstCells := rfl
theorem dg1 : doorG 0 1 1 = some acceptCells := rfl

theorem b8 : IntKind.u8.bits = 8 := rfl
theorem b32 : IntKind.i32.bits = 32 := rfl
def bAt (s : List UInt8) (i : Nat) : Nat := ((s[i]?).getD 0).toNat
theorem bAt_lt (s : List UInt8) (i : Nat) : bAt s i < 256 := UInt8.toNat_lt _

theorem x_facts {b : Nat} (hx : firstT b < 240) : ∃ sz k : Nat, firstT b % 8 = sz ∧ firstT b / 16 = k ∧ (sz = 2 ∨ sz = 3 ∨ sz = 4) ∧ k < 5 := by
  refine ⟨_, _, rfl, rfl, ?_⟩
  rcases firstT_low hx with h | h | h | h | h | h | h
  · rw [firstT_C2 h]; omega
  · rw [firstT_E0 h]; omega
  · rw [firstT_E1 h]; omega
  · rw [firstT_ED h]; omega
  · rw [firstT_F0 h]; omega
  · rw [firstT_F1 h]; omega
  · rw [firstT_F4 h]; omega

theorem slow_lead (d : Nat) {s : List UInt8} (hs : 0 < s.length) (hx : firstT (bAt s 0) < 240) (H : PT HB) (n lo : Nat) : ∃ r m : Nat, slowN s.length (bAt s 0) (bAt s 1) (bAt s 2) (bAt s 3) (firstT (bAt s 0) % 8) (accLo (firstT (bAt s 0) / 16)) (accHi (firstT (bAt s 0) / 16)) = (r, m) ∧
    ∃ n', K DG (d + 1) 250 [.imm (.str s)] H n lo = some (.tup [.imm (.int .i32 r), .imm (.int .i64 m)], H, n') := by
  obtain ⟨sz, k, e1, e2, hsz, hk⟩ := x_facts hx
  have l0 := bAt_lt s 0; have l1 := bAt_lt s 1; have l2 := bAt_lt s 2; have l3 := bAt_lt s 3
  obtain ⟨tl, hd⟩ := first_drop l0
  obtain ⟨tl2, hd2⟩ := acc_drop ⟨k, hk⟩
  have hd2 : acceptCells.drop (k * 2) = _ := hd2
  have i0 : s[0]? = some s[0] := List.getElem?_eq_getElem hs
  have b0 : (bAt s 0 : Int) = s[0].toNat := by simp [bAt, hs]
  generalize hX : firstT (bAt s 0) = x at *
  generalize hAlo : accLo k = alo at *
  generalize hAhi : accHi k = ahi at *
  have hx1 : ¬ (240 : Int) ≤ x := by omega
  have a7 : binInt .and .u8 (x : Int) 7 = some (.int .u8 (sz : Int)) := by
    obtain ⟨v, hv, e⟩ := and7 (b := x) (by omega)
    rw [e, hv, e1]
  have hk16 : (x : Int).fdiv 16 = (k : Int) := by rw [Int.fdiv_eq_ediv_of_nonneg _ (by omega)]; omega
  have hk2 : k < 16 := by omega
  have hk3 : k * 2 < 32 := by omega
  have wsz : IntKind.i64.wrap (sz : Int) = sz := wr_id (by omega) (by omega)
  have hb0 : s[0].toNat < 256 := UInt8.toNat_lt _
  have hn1 : ¬ (s.length : Int) < 1 := by omega
  rw [e1, e2, hAlo, hAhi]
  have nm : ∀ j : Nat, (j : Int).toNat = j := fun j => by omega
  rw [D.k250]
  by_cases c1 : s.length < sz
  · have c1' : (s.length : Int) < sz := by omega
    refine ⟨65533, 1, by simp [slowN, c1], ?_⟩
    simp only [D.f250, fn_run, B4, fnEnd, argsT, opRun, PT.get_put, dstep, ev, evs, evO, give, giveI, binOf, isNilK, PM.flip, putT, putL, putH, callM, loadOf, storeOf, cut, over, ofCells, asNat, natOr, calm, clashes, Acc.clash, ressOf, resOf, frz, frz.frzs, snap, snap.snaps, DV.pure, DV.pure.pures, DV.flat, DV.flat.flats, binStr, ansT, Option.map, List.length_cons, List.length_nil, reduceIte, Nat.reduceEqDiff, Nat.reduceAdd]
    simp [hs, hn1, i0, l0, dg0, dg1, first_len, acc_len, hb0, hd, ← b0, nm, hx1, a7, hk16, hk2, hk3, hd2, wsz, imms, b8, b32, c1', B4, fnEnd, argsT, opRun, PT.get_put, dstep, ev, evs, evO, give, giveI, binOf, isNilK, PM.flip, putT, putL, putH, callM, loadOf, storeOf, cut, over, ofCells, asNat, natOr, calm, clashes, Acc.clash, ressOf, resOf, frz, frz.frzs, snap, snap.snaps, DV.pure, DV.pure.pures, DV.flat, DV.flat.flats, binStr, ansT, Option.map, List.length_cons, List.length_nil, reduceIte, Nat.reduceEqDiff, Nat.reduceAdd]
  have c1' : ¬ (s.length : Int) < sz := by omega
  have h1 : 1 < s.length := by omega
  have i1 : s[1]? = some s[1] := List.getElem?_eq_getElem h1
  have b1 : (bAt s 1 : Int) = s[1].toNat := by simp [bAt, h1]
  by_cases c2 : bAt s 1 < alo
  · have c2' : (bAt s 1 : Int) < alo := by omega
    refine ⟨65533, 1, by simp [slowN, c1, c2], ?_⟩
    simp only [D.f250, fn_run, B4, fnEnd, argsT, opRun, PT.get_put, dstep, ev, evs, evO, give, giveI, binOf, isNilK, PM.flip, putT, putL, putH, callM, loadOf, storeOf, cut, over, ofCells, asNat, natOr, calm, clashes, Acc.clash, ressOf, resOf, frz, frz.frzs, snap, snap.snaps, DV.pure, DV.pure.pures, DV.flat, DV.flat.flats, binStr, ansT, Option.map, List.length_cons, List.length_nil, reduceIte, Nat.reduceEqDiff, Nat.reduceAdd]
    simp [hs, hn1, i0, l0, dg0, dg1, first_len, acc_len, hb0, hd, ← b0, nm, hx1, a7, hk16, hk2, hk3, hd2, wsz, imms, b8, b32, c1', h1, i1, ← b1, c2', B4, fnEnd, argsT, opRun, PT.get_put, dstep, ev, evs, evO, give, giveI, binOf, isNilK, PM.flip, putT, putL, putH, callM, loadOf, storeOf, cut, over, ofCells, asNat, natOr, calm, clashes, Acc.clash, ressOf, resOf, frz, frz.frzs, snap, snap.snaps, DV.pure, DV.pure.pures, DV.flat, DV.flat.flats, binStr, ansT, Option.map, List.length_cons, List.length_nil, reduceIte, Nat.reduceEqDiff, Nat.reduceAdd]
  have c2' : ¬ (bAt s 1 : Int) < alo := by omega
  by_cases c3 : ahi < bAt s 1
  · have c3' : (ahi : Int) < bAt s 1 := by omega
    refine ⟨65533, 1, by simp [slowN, c1, c2, c3], ?_⟩
    simp only [D.f250, fn_run, B4, fnEnd, argsT, opRun, PT.get_put, dstep, ev, evs, evO, give, giveI, binOf, isNilK, PM.flip, putT, putL, putH, callM, loadOf, storeOf, cut, over, ofCells, asNat, natOr, calm, clashes, Acc.clash, ressOf, resOf, frz, frz.frzs, snap, snap.snaps, DV.pure, DV.pure.pures, DV.flat, DV.flat.flats, binStr, ansT, Option.map, List.length_cons, List.length_nil, reduceIte, Nat.reduceEqDiff, Nat.reduceAdd]
    simp [hs, hn1, i0, l0, dg0, dg1, first_len, acc_len, hb0, hd, ← b0, nm, hx1, a7, hk16, hk2, hk3, hd2, wsz, imms, b8, b32, c1', h1, i1, ← b1, c2', c3', B4, fnEnd, argsT, opRun, PT.get_put, dstep, ev, evs, evO, give, giveI, binOf, isNilK, PM.flip, putT, putL, putH, callM, loadOf, storeOf, cut, over, ofCells, asNat, natOr, calm, clashes, Acc.clash, ressOf, resOf, frz, frz.frzs, snap, snap.snaps, DV.pure, DV.pure.pures, DV.flat, DV.flat.flats, binStr, ansT, Option.map, List.length_cons, List.length_nil, reduceIte, Nat.reduceEqDiff, Nat.reduceAdd]
  have c3' : ¬ (ahi : Int) < bAt s 1 := by omega
  by_cases c4 : sz ≤ 2
  · have c4' : (sz : Int) ≤ 2 := by omega
    obtain ⟨v0, hv0, a0⟩ := and31 l0
    obtain ⟨v1, hv1, a1⟩ := and63 l1
    have w0 : IntKind.i32.wrap (v0 : Int) = v0 := wr32 (by omega) (by omega)
    have w1 : IntKind.i32.wrap (v1 : Int) = v1 := wr32 (by omega) (by omega)
    obtain ⟨u0, hu0⟩ : ∃ u : Nat, u = v0 * 64 := ⟨_, rfl⟩
    have s0 : IntKind.i32.wrap ((v0 : Int) * 64) = u0 := by rw [wr32 (by omega) (by omega)]; omega
    obtain ⟨r, hr, o0⟩ := or32 (x := u0) (y := v1) (k := 6) (by omega) (by omega) (by omega)
    have er : r = bAt s 0 % 32 * 64 + bAt s 1 % 64 := by omega
    refine ⟨r, 2, by simp [slowN, c1, c2, c3, c4, er], ?_⟩
    simp only [D.f250, fn_run, B4, fnEnd, argsT, opRun, PT.get_put, dstep, ev, evs, evO, give, giveI, binOf, isNilK, PM.flip, putT, putL, putH, callM, loadOf, storeOf, cut, over, ofCells, asNat, natOr, calm, clashes, Acc.clash, ressOf, resOf, frz, frz.frzs, snap, snap.snaps, DV.pure, DV.pure.pures, DV.flat, DV.flat.flats, binStr, ansT, Option.map, List.length_cons, List.length_nil, reduceIte, Nat.reduceEqDiff, Nat.reduceAdd]
    simp [hs, hn1, i0, l0, dg0, dg1, first_len, acc_len, hb0, hd, ← b0, nm, hx1, a7, hk16, hk2, hk3, hd2, wsz, imms, b8, b32, c1', h1, i1, ← b1, c2', c3', c4', a0, a1, w0, w1, s0, o0, B4, fnEnd, argsT, opRun, PT.get_put, dstep, ev, evs, evO, give, giveI, binOf, isNilK, PM.flip, putT, putL, putH, callM, loadOf, storeOf, cut, over, ofCells, asNat, natOr, calm, clashes, Acc.clash, ressOf, resOf, frz, frz.frzs, snap, snap.snaps, DV.pure, DV.pure.pures, DV.flat, DV.flat.flats, binStr, ansT, Option.map, List.length_cons, List.length_nil, reduceIte, Nat.reduceEqDiff, Nat.reduceAdd]
  have c4' : ¬ (sz : Int) ≤ 2 := by omega
  have h2 : 2 < s.length := by omega
  have i2 : s[2]? = some s[2] := List.getElem?_eq_getElem h2
  have b2 : (bAt s 2 : Int) = s[2].toNat := by simp [bAt, h2]
  by_cases c5 : bAt s 2 < 128
  · have c5' : (bAt s 2 : Int) < 128 := by omega
    refine ⟨65533, 1, by simp [slowN, c1, c2, c3, c4, c5], ?_⟩
    simp only [D.f250, fn_run, B4, fnEnd, argsT, opRun, PT.get_put, dstep, ev, evs, evO, give, giveI, binOf, isNilK, PM.flip, putT, putL, putH, callM, loadOf, storeOf, cut, over, ofCells, asNat, natOr, calm, clashes, Acc.clash, ressOf, resOf, frz, frz.frzs, snap, snap.snaps, DV.pure, DV.pure.pures, DV.flat, DV.flat.flats, binStr, ansT, Option.map, List.length_cons, List.length_nil, reduceIte, Nat.reduceEqDiff, Nat.reduceAdd]
    simp [hs, hn1, i0, l0, dg0, dg1, first_len, acc_len, hb0, hd, ← b0, nm, hx1, a7, hk16, hk2, hk3, hd2, wsz, imms, b8, b32, c1', h1, i1, ← b1, c2', c3', c4', h2, i2, ← b2, c5', B4, fnEnd, argsT, opRun, PT.get_put, dstep, ev, evs, evO, give, giveI, binOf, isNilK, PM.flip, putT, putL, putH, callM, loadOf, storeOf, cut, over, ofCells, asNat, natOr, calm, clashes, Acc.clash, ressOf, resOf, frz, frz.frzs, snap, snap.snaps, DV.pure, DV.pure.pures, DV.flat, DV.flat.flats, binStr, ansT, Option.map, List.length_cons, List.length_nil, reduceIte, Nat.reduceEqDiff, Nat.reduceAdd]
  have c5' : ¬ (bAt s 2 : Int) < 128 := by omega
  by_cases c6 : 191 < bAt s 2
  · have c6' : (191 : Int) < bAt s 2 := by omega
    refine ⟨65533, 1, by simp [slowN, c1, c2, c3, c4, c5, c6], ?_⟩
    simp only [D.f250, fn_run, B4, fnEnd, argsT, opRun, PT.get_put, dstep, ev, evs, evO, give, giveI, binOf, isNilK, PM.flip, putT, putL, putH, callM, loadOf, storeOf, cut, over, ofCells, asNat, natOr, calm, clashes, Acc.clash, ressOf, resOf, frz, frz.frzs, snap, snap.snaps, DV.pure, DV.pure.pures, DV.flat, DV.flat.flats, binStr, ansT, Option.map, List.length_cons, List.length_nil, reduceIte, Nat.reduceEqDiff, Nat.reduceAdd]
    simp [hs, hn1, i0, l0, dg0, dg1, first_len, acc_len, hb0, hd, ← b0, nm, hx1, a7, hk16, hk2, hk3, hd2, wsz, imms, b8, b32, c1', h1, i1, ← b1, c2', c3', c4', h2, i2, ← b2, c5', c6', B4, fnEnd, argsT, opRun, PT.get_put, dstep, ev, evs, evO, give, giveI, binOf, isNilK, PM.flip, putT, putL, putH, callM, loadOf, storeOf, cut, over, ofCells, asNat, natOr, calm, clashes, Acc.clash, ressOf, resOf, frz, frz.frzs, snap, snap.snaps, DV.pure, DV.pure.pures, DV.flat, DV.flat.flats, binStr, ansT, Option.map, List.length_cons, List.length_nil, reduceIte, Nat.reduceEqDiff, Nat.reduceAdd]
  have c6' : ¬ (191 : Int) < bAt s 2 := by omega
  by_cases c7 : sz ≤ 3
  · have c7' : (sz : Int) ≤ 3 := by omega
    obtain ⟨v0, hv0, a0⟩ := and15 l0
    obtain ⟨v1, hv1, a1⟩ := and63 l1
    obtain ⟨v2, hv2, a2⟩ := and63 l2
    have w0 : IntKind.i32.wrap (v0 : Int) = v0 := wr32 (by omega) (by omega)
    have w1 : IntKind.i32.wrap (v1 : Int) = v1 := wr32 (by omega) (by omega)
    have w2 : IntKind.i32.wrap (v2 : Int) = v2 := wr32 (by omega) (by omega)
    obtain ⟨u0, hu0⟩ : ∃ u : Nat, u = v0 * 4096 := ⟨_, rfl⟩
    obtain ⟨u1, hu1⟩ : ∃ u : Nat, u = v1 * 64 := ⟨_, rfl⟩
    have s0 : IntKind.i32.wrap ((v0 : Int) * 4096) = u0 := by rw [wr32 (by omega) (by omega)]; omega
    have s1 : IntKind.i32.wrap ((v1 : Int) * 64) = u1 := by rw [wr32 (by omega) (by omega)]; omega
    obtain ⟨y, hy, o0⟩ := or32 (x := u0) (y := u1) (k := 12) (by omega) (by omega) (by omega)
    obtain ⟨r, hr, o1⟩ := or32 (x := y) (y := v2) (k := 6) (by omega) (by omega) (by omega)
    have er : r = bAt s 0 % 16 * 4096 + bAt s 1 % 64 * 64 + bAt s 2 % 64 := by omega
    refine ⟨r, 3, by simp [slowN, c1, c2, c3, c4, c5, c6, c7, er], ?_⟩
    simp only [D.f250, fn_run, B4, fnEnd, argsT, opRun, PT.get_put, dstep, ev, evs, evO, give, giveI, binOf, isNilK, PM.flip, putT, putL, putH, callM, loadOf, storeOf, cut, over, ofCells, asNat, natOr, calm, clashes, Acc.clash, ressOf, resOf, frz, frz.frzs, snap, snap.snaps, DV.pure, DV.pure.pures, DV.flat, DV.flat.flats, binStr, ansT, Option.map, List.length_cons, List.length_nil, reduceIte, Nat.reduceEqDiff, Nat.reduceAdd]
    simp [hs, hn1, i0, l0, dg0, dg1, first_len, acc_len, hb0, hd, ← b0, nm, hx1, a7, hk16, hk2, hk3, hd2, wsz, imms, b8, b32, c1', h1, i1, ← b1, c2', c3', c4', h2, i2, ← b2, c5', c6', c7', a0, a1, a2, w0, w1, w2, s0, s1, o0, o1, B4, fnEnd, argsT, opRun, PT.get_put, dstep, ev, evs, evO, give, giveI, binOf, isNilK, PM.flip, putT, putL, putH, callM, loadOf, storeOf, cut, over, ofCells, asNat, natOr, calm, clashes, Acc.clash, ressOf, resOf, frz, frz.frzs, snap, snap.snaps, DV.pure, DV.pure.pures, DV.flat, DV.flat.flats, binStr, ansT, Option.map, List.length_cons, List.length_nil, reduceIte, Nat.reduceEqDiff, Nat.reduceAdd]
  have c7' : ¬ (sz : Int) ≤ 3 := by omega
  have h3 : 3 < s.length := by omega
  have i3 : s[3]? = some s[3] := List.getElem?_eq_getElem h3
  have b3 : (bAt s 3 : Int) = s[3].toNat := by simp [bAt, h3]
  by_cases c8 : bAt s 3 < 128
  · have c8' : (bAt s 3 : Int) < 128 := by omega
    refine ⟨65533, 1, by simp [slowN, c1, c2, c3, c4, c5, c6, c7, c8], ?_⟩
    simp only [D.f250, fn_run, B4, fnEnd, argsT, opRun, PT.get_put, dstep, ev, evs, evO, give, giveI, binOf, isNilK, PM.flip, putT, putL, putH, callM, loadOf, storeOf, cut, over, ofCells, asNat, natOr, calm, clashes, Acc.clash, ressOf, resOf, frz, frz.frzs, snap, snap.snaps, DV.pure, DV.pure.pures, DV.flat, DV.flat.flats, binStr, ansT, Option.map, List.length_cons, List.length_nil, reduceIte, Nat.reduceEqDiff, Nat.reduceAdd]
    simp [hs, hn1, i0, l0, dg0, dg1, first_len, acc_len, hb0, hd, ← b0, nm, hx1, a7, hk16, hk2, hk3, hd2, wsz, imms, b8, b32, c1', h1, i1, ← b1, c2', c3', c4', h2, i2, ← b2, c5', c6', c7', h3, i3, ← b3, c8', B4, fnEnd, argsT, opRun, PT.get_put, dstep, ev, evs, evO, give, giveI, binOf, isNilK, PM.flip, putT, putL, putH, callM, loadOf, storeOf, cut, over, ofCells, asNat, natOr, calm, clashes, Acc.clash, ressOf, resOf, frz, frz.frzs, snap, snap.snaps, DV.pure, DV.pure.pures, DV.flat, DV.flat.flats, binStr, ansT, Option.map, List.length_cons, List.length_nil, reduceIte, Nat.reduceEqDiff, Nat.reduceAdd]
  have c8' : ¬ (bAt s 3 : Int) < 128 := by omega
  by_cases c9 : 191 < bAt s 3
  · have c9' : (191 : Int) < bAt s 3 := by omega
    refine ⟨65533, 1, by simp [slowN, c1, c2, c3, c4, c5, c6, c7, c8, c9], ?_⟩
    simp only [D.f250, fn_run, B4, fnEnd, argsT, opRun, PT.get_put, dstep, ev, evs, evO, give, giveI, binOf, isNilK, PM.flip, putT, putL, putH, callM, loadOf, storeOf, cut, over, ofCells, asNat, natOr, calm, clashes, Acc.clash, ressOf, resOf, frz, frz.frzs, snap, snap.snaps, DV.pure, DV.pure.pures, DV.flat, DV.flat.flats, binStr, ansT, Option.map, List.length_cons, List.length_nil, reduceIte, Nat.reduceEqDiff, Nat.reduceAdd]
    simp [hs, hn1, i0, l0, dg0, dg1, first_len, acc_len, hb0, hd, ← b0, nm, hx1, a7, hk16, hk2, hk3, hd2, wsz, imms, b8, b32, c1', h1, i1, ← b1, c2', c3', c4', h2, i2, ← b2, c5', c6', c7', h3, i3, ← b3, c8', c9', B4, fnEnd, argsT, opRun, PT.get_put, dstep, ev, evs, evO, give, giveI, binOf, isNilK, PM.flip, putT, putL, putH, callM, loadOf, storeOf, cut, over, ofCells, asNat, natOr, calm, clashes, Acc.clash, ressOf, resOf, frz, frz.frzs, snap, snap.snaps, DV.pure, DV.pure.pures, DV.flat, DV.flat.flats, binStr, ansT, Option.map, List.length_cons, List.length_nil, reduceIte, Nat.reduceEqDiff, Nat.reduceAdd]
  have c9' : ¬ (191 : Int) < bAt s 3 := by omega
  obtain ⟨v0, hv0, a0⟩ := and7 l0
  obtain ⟨v1, hv1, a1⟩ := and63 l1
  obtain ⟨v2, hv2, a2⟩ := and63 l2
  obtain ⟨v3, hv3, a3⟩ := and63 l3
  have w0 : IntKind.i32.wrap (v0 : Int) = v0 := wr32 (by omega) (by omega)
  have w1 : IntKind.i32.wrap (v1 : Int) = v1 := wr32 (by omega) (by omega)
  have w2 : IntKind.i32.wrap (v2 : Int) = v2 := wr32 (by omega) (by omega)
  have w3 : IntKind.i32.wrap (v3 : Int) = v3 := wr32 (by omega) (by omega)
  obtain ⟨u0, hu0⟩ : ∃ u : Nat, u = v0 * 262144 := ⟨_, rfl⟩
  obtain ⟨u1, hu1⟩ : ∃ u : Nat, u = v1 * 4096 := ⟨_, rfl⟩
  obtain ⟨u2, hu2⟩ : ∃ u : Nat, u = v2 * 64 := ⟨_, rfl⟩
  have s0 : IntKind.i32.wrap ((v0 : Int) * 262144) = u0 := by rw [wr32 (by omega) (by omega)]; omega
  have s1 : IntKind.i32.wrap ((v1 : Int) * 4096) = u1 := by rw [wr32 (by omega) (by omega)]; omega
  have s2 : IntKind.i32.wrap ((v2 : Int) * 64) = u2 := by rw [wr32 (by omega) (by omega)]; omega
  obtain ⟨y, hy, o0⟩ := or32 (x := u0) (y := u1) (k := 18) (by omega) (by omega) (by omega)
  obtain ⟨z, hz, o1⟩ := or32 (x := y) (y := u2) (k := 12) (by omega) (by omega) (by omega)
  obtain ⟨r, hr, o2⟩ := or32 (x := z) (y := v3) (k := 6) (by omega) (by omega) (by omega)
  have er : r = bAt s 0 % 8 * 262144 + bAt s 1 % 64 * 4096 + bAt s 2 % 64 * 64 + bAt s 3 % 64 := by omega
  refine ⟨r, 4, by simp [slowN, c1, c2, c3, c4, c5, c6, c7, c8, c9, er], ?_⟩
  simp only [D.f250, fn_run, B4, fnEnd, argsT, opRun, PT.get_put, dstep, ev, evs, evO, give, giveI, binOf, isNilK, PM.flip, putT, putL, putH, callM, loadOf, storeOf, cut, over, ofCells, asNat, natOr, calm, clashes, Acc.clash, ressOf, resOf, frz, frz.frzs, snap, snap.snaps, DV.pure, DV.pure.pures, DV.flat, DV.flat.flats, binStr, ansT, Option.map, List.length_cons, List.length_nil, reduceIte, Nat.reduceEqDiff, Nat.reduceAdd]
  simp [hs, hn1, i0, l0, dg0, dg1, first_len, acc_len, hb0, hd, ← b0, nm, hx1, a7, hk16, hk2, hk3, hd2, wsz, imms, b8, b32, c1', h1, i1, ← b1, c2', c3', c4', h2, i2, ← b2, c5', c6', c7', h3, i3, ← b3, c8', c9', a0, a1, a2, a3, w0, w1, w2, w3, s0, s1, s2, o0, o1, o2, B4, fnEnd, argsT, opRun, PT.get_put, dstep, ev, evs, evO, give, giveI, binOf, isNilK, PM.flip, putT, putL, putH, callM, loadOf, storeOf, cut, over, ofCells, asNat, natOr, calm, clashes, Acc.clash, ressOf, resOf, frz, frz.frzs, snap, snap.snaps, DV.pure, DV.pure.pures, DV.flat, DV.flat.flats, binStr, ansT, Option.map, List.length_cons, List.length_nil, reduceIte, Nat.reduceEqDiff, Nat.reduceAdd]
theorem bad_bits : ∀ b : Fin 256, binInt .andNot .i32 (b.val : Int) (-1) = some (.int .i32 0) ∧ IntKind.i32.wrap (b.val : Int) = b.val := by
  intro b
  simp only [binInt, Option.some.injEq, IV.int.injEq, true_and]
  revert b
  decide +kernel
theorem slow_bad (d : Nat) {s : List UInt8} (hs : 0 < s.length) (hx : firstT (bAt s 0) = 241) (H : PT HB) (n lo : Nat) :
    ∃ n', K DG (d + 1) 250 [.imm (.str s)] H n lo = some (.tup [.imm (.int .i32 65533), .imm (.int .i64 1)], H, n') := by
  have l0 := bAt_lt s 0
  obtain ⟨tl, hd⟩ := first_drop l0
  rw [hx] at hd
  have i0 : s[0]? = some s[0] := List.getElem?_eq_getElem hs
  have b0 : (bAt s 0 : Int) = s[0].toNat := by simp [bAt, hs]
  have hb0 : s[0].toNat < 256 := UInt8.toNat_lt _
  have hn1 : ¬ (s.length : Int) < 1 := by omega
  have nm : ∀ j : Nat, (j : Int).toNat = j := fun j => by omega
  obtain ⟨q1, q2⟩ := bad_bits ⟨bAt s 0, l0⟩
  have q1 : binInt .andNot .i32 (bAt s 0 : Int) (-1) = some (.int .i32 0) := q1
  have q2 : IntKind.i32.wrap (bAt s 0 : Int) = bAt s 0 := q2
  have q3 : IntKind.i32.wrap 241 = 241 := by decide
  have q4 : IntKind.i32.wrap 517543559168 = -2147483648 := by decide
  have q5 : binInt .and .i32 65533 (-1) = some (.int .i32 65533) := by rfl
  have q6 : binInt .or .i32 0 65533 = some (.int .i32 65533) := by rfl
  rw [D.k250]
  simp only [D.f250, fn_run, B4, fnEnd, argsT, opRun, PT.get_put, dstep, ev, evs, evO, give, giveI, binOf, isNilK, PM.flip, putT, putL, putH, callM, loadOf, storeOf, cut, over, ofCells, asNat, natOr, calm, clashes, Acc.clash, ressOf, resOf, frz, frz.frzs, snap, snap.snaps, DV.pure, DV.pure.pures, DV.flat, DV.flat.flats, binStr, ansT, Option.map, List.length_cons, List.length_nil, reduceIte, Nat.reduceEqDiff, Nat.reduceAdd]
  simp [hs, hn1, i0, l0, dg0, dg1, first_len, acc_len, hb0, hd, ← b0, nm, imms, b8, b32, q1, q2, q3, q4, q5, q6, B4, fnEnd, argsT, opRun, PT.get_put, dstep, ev, evs, evO, give, giveI, binOf, isNilK, PM.flip, putT, putL, putH, callM, loadOf, storeOf, cut, over, ofCells, asNat, natOr, calm, clashes, Acc.clash, ressOf, resOf, frz, frz.frzs, snap, snap.snaps, DV.pure, DV.pure.pures, DV.flat, DV.flat.flats, binStr, ansT, Option.map, List.length_cons, List.length_nil, reduceIte, Nat.reduceEqDiff, Nat.reduceAdd]

/-! ### DecodeRuneInString -/
def decD (s : List UInt8) : Nat × Nat := if s = [] then (65533, 0) else decodeN s.length (bAt s 0) (bAt s 1) (bAt s 2) (bAt s 3)
theorem slow_nil (d : Nat) (H : PT HB) (n lo : Nat) : K DG (d + 1) 250 [.imm (.str [])] H n lo = some (.tup [.imm (.int .i32 65533), .imm (.int .i64 0)], H, n) := by
  rw [D.k250]
  simp only [D.f250, fn_run, B4, fnEnd, argsT, opRun, PT.get_put, dstep, ev, evs, evO, give, giveI, binOf, isNilK, PM.flip, putT, putL, putH, callM, loadOf, storeOf, cut, over, ofCells, asNat, natOr, calm, clashes, Acc.clash, ressOf, resOf, frz, frz.frzs, snap, snap.snaps, DV.pure, DV.pure.pures, DV.flat, DV.flat.flats, binStr, ansT, Option.map, List.length_cons, List.length_nil, reduceIte, Nat.reduceEqDiff, Nat.reduceAdd]
  simp [B4, fnEnd, argsT, opRun, PT.get_put, dstep, ev, evs, evO, give, giveI, binOf, isNilK, PM.flip, putT, putL, putH, callM, loadOf, storeOf, cut, over, ofCells, asNat, natOr, calm, clashes, Acc.clash, ressOf, resOf, frz, frz.frzs, snap, snap.snaps, DV.pure, DV.pure.pures, DV.flat, DV.flat.flats, binStr, ansT, Option.map, List.length_cons, List.length_nil, reduceIte, Nat.reduceEqDiff, Nat.reduceAdd]
theorem slow_run (d : Nat) {s : List UInt8} (hs : s = [] ∨ 128 ≤ bAt s 0) (H : PT HB) (n lo : Nat) : ∃ n', K DG (d + 1) 250 [.imm (.str s)] H n lo = some (.tup [.imm (.int .i32 (decD s).1), .imm (.int .i64 (decD s).2)], H, n') := by
  by_cases h0 : s = []
  · subst h0
    exact ⟨n, slow_nil d H n lo⟩
  · have hl : 0 < s.length := List.length_pos_iff.2 h0
    have hb : 128 ≤ bAt s 0 := hs.resolve_left h0
    have l0 := bAt_lt s 0; have l1 := bAt_lt s 1; have l2 := bAt_lt s 2; have l3 := bAt_lt s 3
    by_cases hx : firstT (bAt s 0) < 240
    · obtain ⟨r, m, e1, n', e2⟩ := slow_lead d hl hx H n lo
      rw [slow_eq _ _ _ _ _ (by omega) l1 l2 l3 hx] at e1
      refine ⟨n', ?_⟩
      rw [e2]
      simp [decD, h0, e1]
    · have hx' : firstT (bAt s 0) = 241 := by
        unfold firstT at hx ⊢
        repeat' split at hx
        all_goals first | omega | (repeat' split) <;> omega
      obtain ⟨n', e2⟩ := slow_bad d hl hx' H n lo
      refine ⟨n', ?_⟩
      rw [e2]
      simp [decD, h0, bad_eq _ _ _ _ _ l0 hx']
theorem dec_run (d : Nat) (s : List UInt8) : ∃ n', K DG (d + 2) 232 [.imm (.str s)] .lf 0 0 = some (.tup [.imm (.int .i32 (decD s).1), .imm (.int .i64 (decD s).2)], .lf, n') := by
  rw [D.k232]
  match s with
  | [] =>
    obtain ⟨n', e⟩ := slow_run d (s := []) (.inl rfl) .lf 0 0
    have e' : bl (K DG (d + 1)) 250 [.imm (.str [])] = _ := bl_of e rfl
    simp only [D.f232, fn_run, B5, fnEnd, argsT, opRun, PT.get_put, dstep, ev, evs, evO, give, giveI, binOf, isNilK, PM.flip, putT, putL, putH, loadOf, storeOf, cut, over, ofCells, asNat, natOr, calm, clashes, Acc.clash, ressOf, resOf, frz, frz.frzs, DV.flat, DV.flat.flats, binStr, ansT, Option.map, List.length_cons, List.length_nil, reduceIte, Nat.reduceEqDiff, Nat.reduceAdd]
    simp [e', B5, fnEnd, argsT, opRun, PT.get_put, dstep, ev, evs, evO, give, giveI, binOf, isNilK, PM.flip, putT, putL, putH, loadOf, storeOf, cut, over, ofCells, asNat, natOr, calm, clashes, Acc.clash, ressOf, resOf, frz, frz.frzs, DV.flat, DV.flat.flats, binStr, ansT, Option.map, List.length_cons, List.length_nil, reduceIte, Nat.reduceEqDiff, Nat.reduceAdd]
  | c :: t =>
    have hb : bAt (c :: t) 0 = c.toNat := rfl
    have hc : c.toNat < 256 := UInt8.toNat_lt _
    by_cases h : c.toNat < 128
    · have h' : (c.toNat : Int) < 128 := by omega
      have w : IntKind.i32.wrap (c.toNat : Int) = c.toNat := wr32 (by omega) (by omega)
      have ed : decD (c :: t) = (c.toNat, 1) := by simp [decD, decodeN, hb, h]
      rw [ed]
      simp only [D.f232, fn_run, B5, fnEnd, argsT, opRun, PT.get_put, dstep, ev, evs, evO, give, giveI, binOf, isNilK, PM.flip, putT, putL, putH, loadOf, storeOf, cut, over, ofCells, asNat, natOr, calm, clashes, Acc.clash, ressOf, resOf, frz, frz.frzs, DV.flat, DV.flat.flats, binStr, ansT, Option.map, List.length_cons, List.length_nil, reduceIte, Nat.reduceEqDiff, Nat.reduceAdd]
      simp [h, h', w, B5, fnEnd, argsT, opRun, PT.get_put, dstep, ev, evs, evO, give, giveI, binOf, isNilK, PM.flip, putT, putL, putH, loadOf, storeOf, cut, over, ofCells, asNat, natOr, calm, clashes, Acc.clash, ressOf, resOf, frz, frz.frzs, DV.flat, DV.flat.flats, binStr, ansT, Option.map, List.length_cons, List.length_nil, reduceIte, Nat.reduceEqDiff, Nat.reduceAdd]
    · have h' : ¬ (c.toNat : Int) < 128 := by omega
      obtain ⟨n', e⟩ := slow_run d (s := c :: t) (.inr (by rw [hb]; omega)) .lf 0 0
      have e' : bl (K DG (d + 1)) 250 [.imm (.str (c :: t))] = _ := bl_of e rfl
      simp only [D.f232, fn_run, B5, fnEnd, argsT, opRun, PT.get_put, dstep, ev, evs, evO, give, giveI, binOf, isNilK, PM.flip, putT, putL, putH, loadOf, storeOf, cut, over, ofCells, asNat, natOr, calm, clashes, Acc.clash, ressOf, resOf, frz, frz.frzs, DV.flat, DV.flat.flats, binStr, ansT, Option.map, List.length_cons, List.length_nil, reduceIte, Nat.reduceEqDiff, Nat.reduceAdd]
      simp [h, h', e', B5, fnEnd, argsT, opRun, PT.get_put, dstep, ev, evs, evO, give, giveI, binOf, isNilK, PM.flip, putT, putL, putH, loadOf, storeOf, cut, over, ofCells, asNat, natOr, calm, clashes, Acc.clash, ressOf, resOf, frz, frz.frzs, DV.flat, DV.flat.flats, binStr, ansT, Option.map, List.length_cons, List.length_nil, reduceIte, Nat.reduceEqDiff, Nat.reduceAdd]
theorem dec_bl {D : Nat} (hD : 2 ≤ D) (s : List UInt8) : bl (K DG D) 232 [.imm (.str s)] = some (.tup [.imm (.int .i32 (decD s).1), .imm (.int .i64 (decD s).2)]) := by
  obtain ⟨d, rfl⟩ : ∃ d, D = d + 2 := ⟨D - 2, by omega⟩
  obtain ⟨n', e⟩ := dec_run d s
  exact bl_of e rfl
/-- It is the model's own decoding, at each place. -/
theorem dec_model (s : List UInt8) (i : Nat) (hi : i < s.length) : Utf8.decode ⟨s.toArray⟩ i = decD (s.drop i) := by
  have hne : s.drop i ≠ [] := fun h => by have := congrArg List.length h; simp at this; omega
  have g : ∀ j, (ByteArray.get! ⟨s.toArray⟩ (i + j)).toNat = bAt (s.drop i) j := fun j => by
    simp only [bAt, List.getElem?_drop]
    show (s.toArray[i + j]!).toNat = _
    simp [Array.getElem!_eq_getD, Array.getD_eq_getD_getElem?]
    rfl
  rw [decode_at, decD, if_neg hne, ← g 0, ← g 1, ← g 2, ← g 3]
  have : (ByteArray.size ⟨s.toArray⟩) = s.length := rfl
  rw [this, List.length_drop]
  rfl
end Go.Proofs.YtlknjgmhfimhbacGreatDoor.D

-- TabC
set_option linter.unusedVariables false
set_option linter.unusedSimpArgs false
set_option maxHeartbeats 16000000
namespace Go.Proofs.YtlknjgmhfimhbacGreatDoor.D
open Go Go.PM Go.Lib
def isL (r : Int) : Bool := decide ((97 ≤ r ∧ r ≤ 122) ∨ (65 ≤ r ∧ r ≤ 90) ∨ (192 ≤ r ∧ r ≤ 591 ∧ ¬ r = 215 ∧ ¬ r = 247))
theorem letter_bl (G : Nat → Option (List IV)) {D : Nat} (hD : 1 ≤ D) (r : Int) : bl (K G D) 234 [.imm (.int .i32 r)] = some (.imm (.bool (isL r))) := by
  obtain ⟨d, rfl⟩ : ∃ d, D = d + 1 := ⟨D - 1, by omega⟩
  refine bl_imm (H' := .lf) (n' := 0) ?_
  rw [D.k234]
  by_cases h1 : 97 ≤ r
  · skip
    by_cases h2 : r ≤ 122
    · skip
      simp only [D.f234, fn_run, B4, fnEnd, argsT, opRun, PT.get_put, dstep, ev, evs, evO, give, giveI, binOf, isNilK, PM.flip, putT, putL, putH, callM, loadOf, storeOf, cut, over, ofCells, asNat, natOr, calm, clashes, Acc.clash, ressOf, resOf, frz, frz.frzs, snap, snap.snaps, DV.pure, DV.pure.pures, DV.flat, DV.flat.flats, binStr, ansT, Option.map, List.length_cons, List.length_nil, reduceIte, Nat.reduceEqDiff, Nat.reduceAdd]
      simp [h1, h2, isL, B4, fnEnd, argsT, opRun, PT.get_put, dstep, ev, evs, evO, give, giveI, binOf, isNilK, PM.flip, putT, putL, putH, callM, loadOf, storeOf, cut, over, ofCells, asNat, natOr, calm, clashes, Acc.clash, ressOf, resOf, frz, frz.frzs, snap, snap.snaps, DV.pure, DV.pure.pures, DV.flat, DV.flat.flats, binStr, ansT, Option.map, List.length_cons, List.length_nil, reduceIte, Nat.reduceEqDiff, Nat.reduceAdd]
    · skip
      by_cases h3 : 65 ≤ r
      · skip
        by_cases h4 : r ≤ 90
        · skip
          simp only [D.f234, fn_run, B4, fnEnd, argsT, opRun, PT.get_put, dstep, ev, evs, evO, give, giveI, binOf, isNilK, PM.flip, putT, putL, putH, callM, loadOf, storeOf, cut, over, ofCells, asNat, natOr, calm, clashes, Acc.clash, ressOf, resOf, frz, frz.frzs, snap, snap.snaps, DV.pure, DV.pure.pures, DV.flat, DV.flat.flats, binStr, ansT, Option.map, List.length_cons, List.length_nil, reduceIte, Nat.reduceEqDiff, Nat.reduceAdd]
          simp [h1, h2, h3, h4, isL, B4, fnEnd, argsT, opRun, PT.get_put, dstep, ev, evs, evO, give, giveI, binOf, isNilK, PM.flip, putT, putL, putH, callM, loadOf, storeOf, cut, over, ofCells, asNat, natOr, calm, clashes, Acc.clash, ressOf, resOf, frz, frz.frzs, snap, snap.snaps, DV.pure, DV.pure.pures, DV.flat, DV.flat.flats, binStr, ansT, Option.map, List.length_cons, List.length_nil, reduceIte, Nat.reduceEqDiff, Nat.reduceAdd]
        · skip
          by_cases h5 : 192 ≤ r
          · skip
            by_cases h6 : r ≤ 591
            · skip
              by_cases h7 : r = 215
              · skip
                subst h7
                simp only [D.f234, fn_run, B4, fnEnd, argsT, opRun, PT.get_put, dstep, ev, evs, evO, give, giveI, binOf, isNilK, PM.flip, putT, putL, putH, callM, loadOf, storeOf, cut, over, ofCells, asNat, natOr, calm, clashes, Acc.clash, ressOf, resOf, frz, frz.frzs, snap, snap.snaps, DV.pure, DV.pure.pures, DV.flat, DV.flat.flats, binStr, ansT, Option.map, List.length_cons, List.length_nil, reduceIte, Nat.reduceEqDiff, Nat.reduceAdd]
                simp [isL, B4, fnEnd, argsT, opRun, PT.get_put, dstep, ev, evs, evO, give, giveI, binOf, isNilK, PM.flip, putT, putL, putH, callM, loadOf, storeOf, cut, over, ofCells, asNat, natOr, calm, clashes, Acc.clash, ressOf, resOf, frz, frz.frzs, snap, snap.snaps, DV.pure, DV.pure.pures, DV.flat, DV.flat.flats, binStr, ansT, Option.map, List.length_cons, List.length_nil, reduceIte, Nat.reduceEqDiff, Nat.reduceAdd]
              · skip
                have h7n := bneT h7
                by_cases h8 : r = 247
                · skip
                  subst h8
                  simp only [D.f234, fn_run, B4, fnEnd, argsT, opRun, PT.get_put, dstep, ev, evs, evO, give, giveI, binOf, isNilK, PM.flip, putT, putL, putH, callM, loadOf, storeOf, cut, over, ofCells, asNat, natOr, calm, clashes, Acc.clash, ressOf, resOf, frz, frz.frzs, snap, snap.snaps, DV.pure, DV.pure.pures, DV.flat, DV.flat.flats, binStr, ansT, Option.map, List.length_cons, List.length_nil, reduceIte, Nat.reduceEqDiff, Nat.reduceAdd]
                  simp [isL, B4, fnEnd, argsT, opRun, PT.get_put, dstep, ev, evs, evO, give, giveI, binOf, isNilK, PM.flip, putT, putL, putH, callM, loadOf, storeOf, cut, over, ofCells, asNat, natOr, calm, clashes, Acc.clash, ressOf, resOf, frz, frz.frzs, snap, snap.snaps, DV.pure, DV.pure.pures, DV.flat, DV.flat.flats, binStr, ansT, Option.map, List.length_cons, List.length_nil, reduceIte, Nat.reduceEqDiff, Nat.reduceAdd]
                · skip
                  have h8n := bneT h8
                  simp only [D.f234, fn_run, B4, fnEnd, argsT, opRun, PT.get_put, dstep, ev, evs, evO, give, giveI, binOf, isNilK, PM.flip, putT, putL, putH, callM, loadOf, storeOf, cut, over, ofCells, asNat, natOr, calm, clashes, Acc.clash, ressOf, resOf, frz, frz.frzs, snap, snap.snaps, DV.pure, DV.pure.pures, DV.flat, DV.flat.flats, binStr, ansT, Option.map, List.length_cons, List.length_nil, reduceIte, Nat.reduceEqDiff, Nat.reduceAdd]
                  simp [h1, h2, h3, h4, h5, h6, h7, h7n, h8, h8n, isL, B4, fnEnd, argsT, opRun, PT.get_put, dstep, ev, evs, evO, give, giveI, binOf, isNilK, PM.flip, putT, putL, putH, callM, loadOf, storeOf, cut, over, ofCells, asNat, natOr, calm, clashes, Acc.clash, ressOf, resOf, frz, frz.frzs, snap, snap.snaps, DV.pure, DV.pure.pures, DV.flat, DV.flat.flats, binStr, ansT, Option.map, List.length_cons, List.length_nil, reduceIte, Nat.reduceEqDiff, Nat.reduceAdd]
            · skip
              simp only [D.f234, fn_run, B4, fnEnd, argsT, opRun, PT.get_put, dstep, ev, evs, evO, give, giveI, binOf, isNilK, PM.flip, putT, putL, putH, callM, loadOf, storeOf, cut, over, ofCells, asNat, natOr, calm, clashes, Acc.clash, ressOf, resOf, frz, frz.frzs, snap, snap.snaps, DV.pure, DV.pure.pures, DV.flat, DV.flat.flats, binStr, ansT, Option.map, List.length_cons, List.length_nil, reduceIte, Nat.reduceEqDiff, Nat.reduceAdd]
              simp [h1, h2, h3, h4, h5, h6, isL, B4, fnEnd, argsT, opRun, PT.get_put, dstep, ev, evs, evO, give, giveI, binOf, isNilK, PM.flip, putT, putL, putH, callM, loadOf, storeOf, cut, over, ofCells, asNat, natOr, calm, clashes, Acc.clash, ressOf, resOf, frz, frz.frzs, snap, snap.snaps, DV.pure, DV.pure.pures, DV.flat, DV.flat.flats, binStr, ansT, Option.map, List.length_cons, List.length_nil, reduceIte, Nat.reduceEqDiff, Nat.reduceAdd]
          · skip
            simp only [D.f234, fn_run, B4, fnEnd, argsT, opRun, PT.get_put, dstep, ev, evs, evO, give, giveI, binOf, isNilK, PM.flip, putT, putL, putH, callM, loadOf, storeOf, cut, over, ofCells, asNat, natOr, calm, clashes, Acc.clash, ressOf, resOf, frz, frz.frzs, snap, snap.snaps, DV.pure, DV.pure.pures, DV.flat, DV.flat.flats, binStr, ansT, Option.map, List.length_cons, List.length_nil, reduceIte, Nat.reduceEqDiff, Nat.reduceAdd]
            simp [h1, h2, h3, h4, h5, isL, B4, fnEnd, argsT, opRun, PT.get_put, dstep, ev, evs, evO, give, giveI, binOf, isNilK, PM.flip, putT, putL, putH, callM, loadOf, storeOf, cut, over, ofCells, asNat, natOr, calm, clashes, Acc.clash, ressOf, resOf, frz, frz.frzs, snap, snap.snaps, DV.pure, DV.pure.pures, DV.flat, DV.flat.flats, binStr, ansT, Option.map, List.length_cons, List.length_nil, reduceIte, Nat.reduceEqDiff, Nat.reduceAdd]
      · skip
        by_cases h5 : 192 ≤ r
        · skip
          by_cases h6 : r ≤ 591
          · skip
            by_cases h7 : r = 215
            · skip
              subst h7
              simp only [D.f234, fn_run, B4, fnEnd, argsT, opRun, PT.get_put, dstep, ev, evs, evO, give, giveI, binOf, isNilK, PM.flip, putT, putL, putH, callM, loadOf, storeOf, cut, over, ofCells, asNat, natOr, calm, clashes, Acc.clash, ressOf, resOf, frz, frz.frzs, snap, snap.snaps, DV.pure, DV.pure.pures, DV.flat, DV.flat.flats, binStr, ansT, Option.map, List.length_cons, List.length_nil, reduceIte, Nat.reduceEqDiff, Nat.reduceAdd]
              simp [isL, B4, fnEnd, argsT, opRun, PT.get_put, dstep, ev, evs, evO, give, giveI, binOf, isNilK, PM.flip, putT, putL, putH, callM, loadOf, storeOf, cut, over, ofCells, asNat, natOr, calm, clashes, Acc.clash, ressOf, resOf, frz, frz.frzs, snap, snap.snaps, DV.pure, DV.pure.pures, DV.flat, DV.flat.flats, binStr, ansT, Option.map, List.length_cons, List.length_nil, reduceIte, Nat.reduceEqDiff, Nat.reduceAdd]
            · skip
              have h7n := bneT h7
              by_cases h8 : r = 247
              · skip
                subst h8
                simp only [D.f234, fn_run, B4, fnEnd, argsT, opRun, PT.get_put, dstep, ev, evs, evO, give, giveI, binOf, isNilK, PM.flip, putT, putL, putH, callM, loadOf, storeOf, cut, over, ofCells, asNat, natOr, calm, clashes, Acc.clash, ressOf, resOf, frz, frz.frzs, snap, snap.snaps, DV.pure, DV.pure.pures, DV.flat, DV.flat.flats, binStr, ansT, Option.map, List.length_cons, List.length_nil, reduceIte, Nat.reduceEqDiff, Nat.reduceAdd]
                simp [isL, B4, fnEnd, argsT, opRun, PT.get_put, dstep, ev, evs, evO, give, giveI, binOf, isNilK, PM.flip, putT, putL, putH, callM, loadOf, storeOf, cut, over, ofCells, asNat, natOr, calm, clashes, Acc.clash, ressOf, resOf, frz, frz.frzs, snap, snap.snaps, DV.pure, DV.pure.pures, DV.flat, DV.flat.flats, binStr, ansT, Option.map, List.length_cons, List.length_nil, reduceIte, Nat.reduceEqDiff, Nat.reduceAdd]
              · skip
                have h8n := bneT h8
                simp only [D.f234, fn_run, B4, fnEnd, argsT, opRun, PT.get_put, dstep, ev, evs, evO, give, giveI, binOf, isNilK, PM.flip, putT, putL, putH, callM, loadOf, storeOf, cut, over, ofCells, asNat, natOr, calm, clashes, Acc.clash, ressOf, resOf, frz, frz.frzs, snap, snap.snaps, DV.pure, DV.pure.pures, DV.flat, DV.flat.flats, binStr, ansT, Option.map, List.length_cons, List.length_nil, reduceIte, Nat.reduceEqDiff, Nat.reduceAdd]
                simp [h1, h2, h3, h5, h6, h7, h7n, h8, h8n, isL, B4, fnEnd, argsT, opRun, PT.get_put, dstep, ev, evs, evO, give, giveI, binOf, isNilK, PM.flip, putT, putL, putH, callM, loadOf, storeOf, cut, over, ofCells, asNat, natOr, calm, clashes, Acc.clash, ressOf, resOf, frz, frz.frzs, snap, snap.snaps, DV.pure, DV.pure.pures, DV.flat, DV.flat.flats, binStr, ansT, Option.map, List.length_cons, List.length_nil, reduceIte, Nat.reduceEqDiff, Nat.reduceAdd]
          · skip
            simp only [D.f234, fn_run, B4, fnEnd, argsT, opRun, PT.get_put, dstep, ev, evs, evO, give, giveI, binOf, isNilK, PM.flip, putT, putL, putH, callM, loadOf, storeOf, cut, over, ofCells, asNat, natOr, calm, clashes, Acc.clash, ressOf, resOf, frz, frz.frzs, snap, snap.snaps, DV.pure, DV.pure.pures, DV.flat, DV.flat.flats, binStr, ansT, Option.map, List.length_cons, List.length_nil, reduceIte, Nat.reduceEqDiff, Nat.reduceAdd]
            simp [h1, h2, h3, h5, h6, isL, B4, fnEnd, argsT, opRun, PT.get_put, dstep, ev, evs, evO, give, giveI, binOf, isNilK, PM.flip, putT, putL, putH, callM, loadOf, storeOf, cut, over, ofCells, asNat, natOr, calm, clashes, Acc.clash, ressOf, resOf, frz, frz.frzs, snap, snap.snaps, DV.pure, DV.pure.pures, DV.flat, DV.flat.flats, binStr, ansT, Option.map, List.length_cons, List.length_nil, reduceIte, Nat.reduceEqDiff, Nat.reduceAdd]
        · skip
          simp only [D.f234, fn_run, B4, fnEnd, argsT, opRun, PT.get_put, dstep, ev, evs, evO, give, giveI, binOf, isNilK, PM.flip, putT, putL, putH, callM, loadOf, storeOf, cut, over, ofCells, asNat, natOr, calm, clashes, Acc.clash, ressOf, resOf, frz, frz.frzs, snap, snap.snaps, DV.pure, DV.pure.pures, DV.flat, DV.flat.flats, binStr, ansT, Option.map, List.length_cons, List.length_nil, reduceIte, Nat.reduceEqDiff, Nat.reduceAdd]
          simp [h1, h2, h3, h5, isL, B4, fnEnd, argsT, opRun, PT.get_put, dstep, ev, evs, evO, give, giveI, binOf, isNilK, PM.flip, putT, putL, putH, callM, loadOf, storeOf, cut, over, ofCells, asNat, natOr, calm, clashes, Acc.clash, ressOf, resOf, frz, frz.frzs, snap, snap.snaps, DV.pure, DV.pure.pures, DV.flat, DV.flat.flats, binStr, ansT, Option.map, List.length_cons, List.length_nil, reduceIte, Nat.reduceEqDiff, Nat.reduceAdd]
  · skip
    by_cases h3 : 65 ≤ r
    · skip
      by_cases h4 : r ≤ 90
      · skip
        simp only [D.f234, fn_run, B4, fnEnd, argsT, opRun, PT.get_put, dstep, ev, evs, evO, give, giveI, binOf, isNilK, PM.flip, putT, putL, putH, callM, loadOf, storeOf, cut, over, ofCells, asNat, natOr, calm, clashes, Acc.clash, ressOf, resOf, frz, frz.frzs, snap, snap.snaps, DV.pure, DV.pure.pures, DV.flat, DV.flat.flats, binStr, ansT, Option.map, List.length_cons, List.length_nil, reduceIte, Nat.reduceEqDiff, Nat.reduceAdd]
        simp [h1, h3, h4, isL, B4, fnEnd, argsT, opRun, PT.get_put, dstep, ev, evs, evO, give, giveI, binOf, isNilK, PM.flip, putT, putL, putH, callM, loadOf, storeOf, cut, over, ofCells, asNat, natOr, calm, clashes, Acc.clash, ressOf, resOf, frz, frz.frzs, snap, snap.snaps, DV.pure, DV.pure.pures, DV.flat, DV.flat.flats, binStr, ansT, Option.map, List.length_cons, List.length_nil, reduceIte, Nat.reduceEqDiff, Nat.reduceAdd]
      · skip
        by_cases h5 : 192 ≤ r
        · skip
          by_cases h6 : r ≤ 591
          · skip
            by_cases h7 : r = 215
            · skip
              subst h7
              simp only [D.f234, fn_run, B4, fnEnd, argsT, opRun, PT.get_put, dstep, ev, evs, evO, give, giveI, binOf, isNilK, PM.flip, putT, putL, putH, callM, loadOf, storeOf, cut, over, ofCells, asNat, natOr, calm, clashes, Acc.clash, ressOf, resOf, frz, frz.frzs, snap, snap.snaps, DV.pure, DV.pure.pures, DV.flat, DV.flat.flats, binStr, ansT, Option.map, List.length_cons, List.length_nil, reduceIte, Nat.reduceEqDiff, Nat.reduceAdd]
              simp [isL, B4, fnEnd, argsT, opRun, PT.get_put, dstep, ev, evs, evO, give, giveI, binOf, isNilK, PM.flip, putT, putL, putH, callM, loadOf, storeOf, cut, over, ofCells, asNat, natOr, calm, clashes, Acc.clash, ressOf, resOf, frz, frz.frzs, snap, snap.snaps, DV.pure, DV.pure.pures, DV.flat, DV.flat.flats, binStr, ansT, Option.map, List.length_cons, List.length_nil, reduceIte, Nat.reduceEqDiff, Nat.reduceAdd]
            · skip
              have h7n := bneT h7
              by_cases h8 : r = 247
              · skip
                subst h8
                simp only [D.f234, fn_run, B4, fnEnd, argsT, opRun, PT.get_put, dstep, ev, evs, evO, give, giveI, binOf, isNilK, PM.flip, putT, putL, putH, callM, loadOf, storeOf, cut, over, ofCells, asNat, natOr, calm, clashes, Acc.clash, ressOf, resOf, frz, frz.frzs, snap, snap.snaps, DV.pure, DV.pure.pures, DV.flat, DV.flat.flats, binStr, ansT, Option.map, List.length_cons, List.length_nil, reduceIte, Nat.reduceEqDiff, Nat.reduceAdd]
                simp [isL, B4, fnEnd, argsT, opRun, PT.get_put, dstep, ev, evs, evO, give, giveI, binOf, isNilK, PM.flip, putT, putL, putH, callM, loadOf, storeOf, cut, over, ofCells, asNat, natOr, calm, clashes, Acc.clash, ressOf, resOf, frz, frz.frzs, snap, snap.snaps, DV.pure, DV.pure.pures, DV.flat, DV.flat.flats, binStr, ansT, Option.map, List.length_cons, List.length_nil, reduceIte, Nat.reduceEqDiff, Nat.reduceAdd]
              · skip
                have h8n := bneT h8
                simp only [D.f234, fn_run, B4, fnEnd, argsT, opRun, PT.get_put, dstep, ev, evs, evO, give, giveI, binOf, isNilK, PM.flip, putT, putL, putH, callM, loadOf, storeOf, cut, over, ofCells, asNat, natOr, calm, clashes, Acc.clash, ressOf, resOf, frz, frz.frzs, snap, snap.snaps, DV.pure, DV.pure.pures, DV.flat, DV.flat.flats, binStr, ansT, Option.map, List.length_cons, List.length_nil, reduceIte, Nat.reduceEqDiff, Nat.reduceAdd]
                simp [h1, h3, h4, h5, h6, h7, h7n, h8, h8n, isL, B4, fnEnd, argsT, opRun, PT.get_put, dstep, ev, evs, evO, give, giveI, binOf, isNilK, PM.flip, putT, putL, putH, callM, loadOf, storeOf, cut, over, ofCells, asNat, natOr, calm, clashes, Acc.clash, ressOf, resOf, frz, frz.frzs, snap, snap.snaps, DV.pure, DV.pure.pures, DV.flat, DV.flat.flats, binStr, ansT, Option.map, List.length_cons, List.length_nil, reduceIte, Nat.reduceEqDiff, Nat.reduceAdd]
          · skip
            simp only [D.f234, fn_run, B4, fnEnd, argsT, opRun, PT.get_put, dstep, ev, evs, evO, give, giveI, binOf, isNilK, PM.flip, putT, putL, putH, callM, loadOf, storeOf, cut, over, ofCells, asNat, natOr, calm, clashes, Acc.clash, ressOf, resOf, frz, frz.frzs, snap, snap.snaps, DV.pure, DV.pure.pures, DV.flat, DV.flat.flats, binStr, ansT, Option.map, List.length_cons, List.length_nil, reduceIte, Nat.reduceEqDiff, Nat.reduceAdd]
            simp [h1, h3, h4, h5, h6, isL, B4, fnEnd, argsT, opRun, PT.get_put, dstep, ev, evs, evO, give, giveI, binOf, isNilK, PM.flip, putT, putL, putH, callM, loadOf, storeOf, cut, over, ofCells, asNat, natOr, calm, clashes, Acc.clash, ressOf, resOf, frz, frz.frzs, snap, snap.snaps, DV.pure, DV.pure.pures, DV.flat, DV.flat.flats, binStr, ansT, Option.map, List.length_cons, List.length_nil, reduceIte, Nat.reduceEqDiff, Nat.reduceAdd]
        · skip
          simp only [D.f234, fn_run, B4, fnEnd, argsT, opRun, PT.get_put, dstep, ev, evs, evO, give, giveI, binOf, isNilK, PM.flip, putT, putL, putH, callM, loadOf, storeOf, cut, over, ofCells, asNat, natOr, calm, clashes, Acc.clash, ressOf, resOf, frz, frz.frzs, snap, snap.snaps, DV.pure, DV.pure.pures, DV.flat, DV.flat.flats, binStr, ansT, Option.map, List.length_cons, List.length_nil, reduceIte, Nat.reduceEqDiff, Nat.reduceAdd]
          simp [h1, h3, h4, h5, isL, B4, fnEnd, argsT, opRun, PT.get_put, dstep, ev, evs, evO, give, giveI, binOf, isNilK, PM.flip, putT, putL, putH, callM, loadOf, storeOf, cut, over, ofCells, asNat, natOr, calm, clashes, Acc.clash, ressOf, resOf, frz, frz.frzs, snap, snap.snaps, DV.pure, DV.pure.pures, DV.flat, DV.flat.flats, binStr, ansT, Option.map, List.length_cons, List.length_nil, reduceIte, Nat.reduceEqDiff, Nat.reduceAdd]
    · skip
      by_cases h5 : 192 ≤ r
      · skip
        by_cases h6 : r ≤ 591
        · skip
          by_cases h7 : r = 215
          · skip
            subst h7
            simp only [D.f234, fn_run, B4, fnEnd, argsT, opRun, PT.get_put, dstep, ev, evs, evO, give, giveI, binOf, isNilK, PM.flip, putT, putL, putH, callM, loadOf, storeOf, cut, over, ofCells, asNat, natOr, calm, clashes, Acc.clash, ressOf, resOf, frz, frz.frzs, snap, snap.snaps, DV.pure, DV.pure.pures, DV.flat, DV.flat.flats, binStr, ansT, Option.map, List.length_cons, List.length_nil, reduceIte, Nat.reduceEqDiff, Nat.reduceAdd]
            simp [isL, B4, fnEnd, argsT, opRun, PT.get_put, dstep, ev, evs, evO, give, giveI, binOf, isNilK, PM.flip, putT, putL, putH, callM, loadOf, storeOf, cut, over, ofCells, asNat, natOr, calm, clashes, Acc.clash, ressOf, resOf, frz, frz.frzs, snap, snap.snaps, DV.pure, DV.pure.pures, DV.flat, DV.flat.flats, binStr, ansT, Option.map, List.length_cons, List.length_nil, reduceIte, Nat.reduceEqDiff, Nat.reduceAdd]
          · skip
            have h7n := bneT h7
            by_cases h8 : r = 247
            · skip
              subst h8
              simp only [D.f234, fn_run, B4, fnEnd, argsT, opRun, PT.get_put, dstep, ev, evs, evO, give, giveI, binOf, isNilK, PM.flip, putT, putL, putH, callM, loadOf, storeOf, cut, over, ofCells, asNat, natOr, calm, clashes, Acc.clash, ressOf, resOf, frz, frz.frzs, snap, snap.snaps, DV.pure, DV.pure.pures, DV.flat, DV.flat.flats, binStr, ansT, Option.map, List.length_cons, List.length_nil, reduceIte, Nat.reduceEqDiff, Nat.reduceAdd]
              simp [isL, B4, fnEnd, argsT, opRun, PT.get_put, dstep, ev, evs, evO, give, giveI, binOf, isNilK, PM.flip, putT, putL, putH, callM, loadOf, storeOf, cut, over, ofCells, asNat, natOr, calm, clashes, Acc.clash, ressOf, resOf, frz, frz.frzs, snap, snap.snaps, DV.pure, DV.pure.pures, DV.flat, DV.flat.flats, binStr, ansT, Option.map, List.length_cons, List.length_nil, reduceIte, Nat.reduceEqDiff, Nat.reduceAdd]
            · skip
              have h8n := bneT h8
              simp only [D.f234, fn_run, B4, fnEnd, argsT, opRun, PT.get_put, dstep, ev, evs, evO, give, giveI, binOf, isNilK, PM.flip, putT, putL, putH, callM, loadOf, storeOf, cut, over, ofCells, asNat, natOr, calm, clashes, Acc.clash, ressOf, resOf, frz, frz.frzs, snap, snap.snaps, DV.pure, DV.pure.pures, DV.flat, DV.flat.flats, binStr, ansT, Option.map, List.length_cons, List.length_nil, reduceIte, Nat.reduceEqDiff, Nat.reduceAdd]
              simp [h1, h3, h5, h6, h7, h7n, h8, h8n, isL, B4, fnEnd, argsT, opRun, PT.get_put, dstep, ev, evs, evO, give, giveI, binOf, isNilK, PM.flip, putT, putL, putH, callM, loadOf, storeOf, cut, over, ofCells, asNat, natOr, calm, clashes, Acc.clash, ressOf, resOf, frz, frz.frzs, snap, snap.snaps, DV.pure, DV.pure.pures, DV.flat, DV.flat.flats, binStr, ansT, Option.map, List.length_cons, List.length_nil, reduceIte, Nat.reduceEqDiff, Nat.reduceAdd]
        · skip
          simp only [D.f234, fn_run, B4, fnEnd, argsT, opRun, PT.get_put, dstep, ev, evs, evO, give, giveI, binOf, isNilK, PM.flip, putT, putL, putH, callM, loadOf, storeOf, cut, over, ofCells, asNat, natOr, calm, clashes, Acc.clash, ressOf, resOf, frz, frz.frzs, snap, snap.snaps, DV.pure, DV.pure.pures, DV.flat, DV.flat.flats, binStr, ansT, Option.map, List.length_cons, List.length_nil, reduceIte, Nat.reduceEqDiff, Nat.reduceAdd]
          simp [h1, h3, h5, h6, isL, B4, fnEnd, argsT, opRun, PT.get_put, dstep, ev, evs, evO, give, giveI, binOf, isNilK, PM.flip, putT, putL, putH, callM, loadOf, storeOf, cut, over, ofCells, asNat, natOr, calm, clashes, Acc.clash, ressOf, resOf, frz, frz.frzs, snap, snap.snaps, DV.pure, DV.pure.pures, DV.flat, DV.flat.flats, binStr, ansT, Option.map, List.length_cons, List.length_nil, reduceIte, Nat.reduceEqDiff, Nat.reduceAdd]
      · skip
        simp only [D.f234, fn_run, B4, fnEnd, argsT, opRun, PT.get_put, dstep, ev, evs, evO, give, giveI, binOf, isNilK, PM.flip, putT, putL, putH, callM, loadOf, storeOf, cut, over, ofCells, asNat, natOr, calm, clashes, Acc.clash, ressOf, resOf, frz, frz.frzs, snap, snap.snaps, DV.pure, DV.pure.pures, DV.flat, DV.flat.flats, binStr, ansT, Option.map, List.length_cons, List.length_nil, reduceIte, Nat.reduceEqDiff, Nat.reduceAdd]
        simp [h1, h3, h5, isL, B4, fnEnd, argsT, opRun, PT.get_put, dstep, ev, evs, evO, give, giveI, binOf, isNilK, PM.flip, putT, putL, putH, callM, loadOf, storeOf, cut, over, ofCells, asNat, natOr, calm, clashes, Acc.clash, ressOf, resOf, frz, frz.frzs, snap, snap.snaps, DV.pure, DV.pure.pures, DV.flat, DV.flat.flats, binStr, ansT, Option.map, List.length_cons, List.length_nil, reduceIte, Nat.reduceEqDiff, Nat.reduceAdd]
theorem letter1_bl (G : Nat → Option (List IV)) {D : Nat} (hD : 1 ≤ D) (r : Int) : bl (K G D) 210 [.imm (.int .i32 r)] = some (.imm (.bool (isL r))) := by
  obtain ⟨d, rfl⟩ : ∃ d, D = d + 1 := ⟨D - 1, by omega⟩
  refine bl_imm (H' := .lf) (n' := 0) ?_
  rw [D.k210]
  by_cases h1 : 97 ≤ r
  · skip
    by_cases h2 : r ≤ 122
    · skip
      simp only [D.f210, fn_run, B4, fnEnd, argsT, opRun, PT.get_put, dstep, ev, evs, evO, give, giveI, binOf, isNilK, PM.flip, putT, putL, putH, callM, loadOf, storeOf, cut, over, ofCells, asNat, natOr, calm, clashes, Acc.clash, ressOf, resOf, frz, frz.frzs, snap, snap.snaps, DV.pure, DV.pure.pures, DV.flat, DV.flat.flats, binStr, ansT, Option.map, List.length_cons, List.length_nil, reduceIte, Nat.reduceEqDiff, Nat.reduceAdd]
      simp [h1, h2, isL, B4, fnEnd, argsT, opRun, PT.get_put, dstep, ev, evs, evO, give, giveI, binOf, isNilK, PM.flip, putT, putL, putH, callM, loadOf, storeOf, cut, over, ofCells, asNat, natOr, calm, clashes, Acc.clash, ressOf, resOf, frz, frz.frzs, snap, snap.snaps, DV.pure, DV.pure.pures, DV.flat, DV.flat.flats, binStr, ansT, Option.map, List.length_cons, List.length_nil, reduceIte, Nat.reduceEqDiff, Nat.reduceAdd]
    · skip
      by_cases h3 : 65 ≤ r
      · skip
        by_cases h4 : r ≤ 90
        · skip
          simp only [D.f210, fn_run, B4, fnEnd, argsT, opRun, PT.get_put, dstep, ev, evs, evO, give, giveI, binOf, isNilK, PM.flip, putT, putL, putH, callM, loadOf, storeOf, cut, over, ofCells, asNat, natOr, calm, clashes, Acc.clash, ressOf, resOf, frz, frz.frzs, snap, snap.snaps, DV.pure, DV.pure.pures, DV.flat, DV.flat.flats, binStr, ansT, Option.map, List.length_cons, List.length_nil, reduceIte, Nat.reduceEqDiff, Nat.reduceAdd]
          simp [h1, h2, h3, h4, isL, B4, fnEnd, argsT, opRun, PT.get_put, dstep, ev, evs, evO, give, giveI, binOf, isNilK, PM.flip, putT, putL, putH, callM, loadOf, storeOf, cut, over, ofCells, asNat, natOr, calm, clashes, Acc.clash, ressOf, resOf, frz, frz.frzs, snap, snap.snaps, DV.pure, DV.pure.pures, DV.flat, DV.flat.flats, binStr, ansT, Option.map, List.length_cons, List.length_nil, reduceIte, Nat.reduceEqDiff, Nat.reduceAdd]
        · skip
          by_cases h5 : 192 ≤ r
          · skip
            by_cases h6 : r ≤ 591
            · skip
              by_cases h7 : r = 215
              · skip
                subst h7
                simp only [D.f210, fn_run, B4, fnEnd, argsT, opRun, PT.get_put, dstep, ev, evs, evO, give, giveI, binOf, isNilK, PM.flip, putT, putL, putH, callM, loadOf, storeOf, cut, over, ofCells, asNat, natOr, calm, clashes, Acc.clash, ressOf, resOf, frz, frz.frzs, snap, snap.snaps, DV.pure, DV.pure.pures, DV.flat, DV.flat.flats, binStr, ansT, Option.map, List.length_cons, List.length_nil, reduceIte, Nat.reduceEqDiff, Nat.reduceAdd]
                simp [isL, B4, fnEnd, argsT, opRun, PT.get_put, dstep, ev, evs, evO, give, giveI, binOf, isNilK, PM.flip, putT, putL, putH, callM, loadOf, storeOf, cut, over, ofCells, asNat, natOr, calm, clashes, Acc.clash, ressOf, resOf, frz, frz.frzs, snap, snap.snaps, DV.pure, DV.pure.pures, DV.flat, DV.flat.flats, binStr, ansT, Option.map, List.length_cons, List.length_nil, reduceIte, Nat.reduceEqDiff, Nat.reduceAdd]
              · skip
                have h7n := bneT h7
                by_cases h8 : r = 247
                · skip
                  subst h8
                  simp only [D.f210, fn_run, B4, fnEnd, argsT, opRun, PT.get_put, dstep, ev, evs, evO, give, giveI, binOf, isNilK, PM.flip, putT, putL, putH, callM, loadOf, storeOf, cut, over, ofCells, asNat, natOr, calm, clashes, Acc.clash, ressOf, resOf, frz, frz.frzs, snap, snap.snaps, DV.pure, DV.pure.pures, DV.flat, DV.flat.flats, binStr, ansT, Option.map, List.length_cons, List.length_nil, reduceIte, Nat.reduceEqDiff, Nat.reduceAdd]
                  simp [isL, B4, fnEnd, argsT, opRun, PT.get_put, dstep, ev, evs, evO, give, giveI, binOf, isNilK, PM.flip, putT, putL, putH, callM, loadOf, storeOf, cut, over, ofCells, asNat, natOr, calm, clashes, Acc.clash, ressOf, resOf, frz, frz.frzs, snap, snap.snaps, DV.pure, DV.pure.pures, DV.flat, DV.flat.flats, binStr, ansT, Option.map, List.length_cons, List.length_nil, reduceIte, Nat.reduceEqDiff, Nat.reduceAdd]
                · skip
                  have h8n := bneT h8
                  simp only [D.f210, fn_run, B4, fnEnd, argsT, opRun, PT.get_put, dstep, ev, evs, evO, give, giveI, binOf, isNilK, PM.flip, putT, putL, putH, callM, loadOf, storeOf, cut, over, ofCells, asNat, natOr, calm, clashes, Acc.clash, ressOf, resOf, frz, frz.frzs, snap, snap.snaps, DV.pure, DV.pure.pures, DV.flat, DV.flat.flats, binStr, ansT, Option.map, List.length_cons, List.length_nil, reduceIte, Nat.reduceEqDiff, Nat.reduceAdd]
                  simp [h1, h2, h3, h4, h5, h6, h7, h7n, h8, h8n, isL, B4, fnEnd, argsT, opRun, PT.get_put, dstep, ev, evs, evO, give, giveI, binOf, isNilK, PM.flip, putT, putL, putH, callM, loadOf, storeOf, cut, over, ofCells, asNat, natOr, calm, clashes, Acc.clash, ressOf, resOf, frz, frz.frzs, snap, snap.snaps, DV.pure, DV.pure.pures, DV.flat, DV.flat.flats, binStr, ansT, Option.map, List.length_cons, List.length_nil, reduceIte, Nat.reduceEqDiff, Nat.reduceAdd]
            · skip
              simp only [D.f210, fn_run, B4, fnEnd, argsT, opRun, PT.get_put, dstep, ev, evs, evO, give, giveI, binOf, isNilK, PM.flip, putT, putL, putH, callM, loadOf, storeOf, cut, over, ofCells, asNat, natOr, calm, clashes, Acc.clash, ressOf, resOf, frz, frz.frzs, snap, snap.snaps, DV.pure, DV.pure.pures, DV.flat, DV.flat.flats, binStr, ansT, Option.map, List.length_cons, List.length_nil, reduceIte, Nat.reduceEqDiff, Nat.reduceAdd]
              simp [h1, h2, h3, h4, h5, h6, isL, B4, fnEnd, argsT, opRun, PT.get_put, dstep, ev, evs, evO, give, giveI, binOf, isNilK, PM.flip, putT, putL, putH, callM, loadOf, storeOf, cut, over, ofCells, asNat, natOr, calm, clashes, Acc.clash, ressOf, resOf, frz, frz.frzs, snap, snap.snaps, DV.pure, DV.pure.pures, DV.flat, DV.flat.flats, binStr, ansT, Option.map, List.length_cons, List.length_nil, reduceIte, Nat.reduceEqDiff, Nat.reduceAdd]
          · skip
            simp only [D.f210, fn_run, B4, fnEnd, argsT, opRun, PT.get_put, dstep, ev, evs, evO, give, giveI, binOf, isNilK, PM.flip, putT, putL, putH, callM, loadOf, storeOf, cut, over, ofCells, asNat, natOr, calm, clashes, Acc.clash, ressOf, resOf, frz, frz.frzs, snap, snap.snaps, DV.pure, DV.pure.pures, DV.flat, DV.flat.flats, binStr, ansT, Option.map, List.length_cons, List.length_nil, reduceIte, Nat.reduceEqDiff, Nat.reduceAdd]
            simp [h1, h2, h3, h4, h5, isL, B4, fnEnd, argsT, opRun, PT.get_put, dstep, ev, evs, evO, give, giveI, binOf, isNilK, PM.flip, putT, putL, putH, callM, loadOf, storeOf, cut, over, ofCells, asNat, natOr, calm, clashes, Acc.clash, ressOf, resOf, frz, frz.frzs, snap, snap.snaps, DV.pure, DV.pure.pures, DV.flat, DV.flat.flats, binStr, ansT, Option.map, List.length_cons, List.length_nil, reduceIte, Nat.reduceEqDiff, Nat.reduceAdd]
      · skip
        by_cases h5 : 192 ≤ r
        · skip
          by_cases h6 : r ≤ 591
          · skip
            by_cases h7 : r = 215
            · skip
              subst h7
              simp only [D.f210, fn_run, B4, fnEnd, argsT, opRun, PT.get_put, dstep, ev, evs, evO, give, giveI, binOf, isNilK, PM.flip, putT, putL, putH, callM, loadOf, storeOf, cut, over, ofCells, asNat, natOr, calm, clashes, Acc.clash, ressOf, resOf, frz, frz.frzs, snap, snap.snaps, DV.pure, DV.pure.pures, DV.flat, DV.flat.flats, binStr, ansT, Option.map, List.length_cons, List.length_nil, reduceIte, Nat.reduceEqDiff, Nat.reduceAdd]
              simp [isL, B4, fnEnd, argsT, opRun, PT.get_put, dstep, ev, evs, evO, give, giveI, binOf, isNilK, PM.flip, putT, putL, putH, callM, loadOf, storeOf, cut, over, ofCells, asNat, natOr, calm, clashes, Acc.clash, ressOf, resOf, frz, frz.frzs, snap, snap.snaps, DV.pure, DV.pure.pures, DV.flat, DV.flat.flats, binStr, ansT, Option.map, List.length_cons, List.length_nil, reduceIte, Nat.reduceEqDiff, Nat.reduceAdd]
            · skip
              have h7n := bneT h7
              by_cases h8 : r = 247
              · skip
                subst h8
                simp only [D.f210, fn_run, B4, fnEnd, argsT, opRun, PT.get_put, dstep, ev, evs, evO, give, giveI, binOf, isNilK, PM.flip, putT, putL, putH, callM, loadOf, storeOf, cut, over, ofCells, asNat, natOr, calm, clashes, Acc.clash, ressOf, resOf, frz, frz.frzs, snap, snap.snaps, DV.pure, DV.pure.pures, DV.flat, DV.flat.flats, binStr, ansT, Option.map, List.length_cons, List.length_nil, reduceIte, Nat.reduceEqDiff, Nat.reduceAdd]
                simp [isL, B4, fnEnd, argsT, opRun, PT.get_put, dstep, ev, evs, evO, give, giveI, binOf, isNilK, PM.flip, putT, putL, putH, callM, loadOf, storeOf, cut, over, ofCells, asNat, natOr, calm, clashes, Acc.clash, ressOf, resOf, frz, frz.frzs, snap, snap.snaps, DV.pure, DV.pure.pures, DV.flat, DV.flat.flats, binStr, ansT, Option.map, List.length_cons, List.length_nil, reduceIte, Nat.reduceEqDiff, Nat.reduceAdd]
              · skip
                have h8n := bneT h8
                simp only [D.f210, fn_run, B4, fnEnd, argsT, opRun, PT.get_put, dstep, ev, evs, evO, give, giveI, binOf, isNilK, PM.flip, putT, putL, putH, callM, loadOf, storeOf, cut, over, ofCells, asNat, natOr, calm, clashes, Acc.clash, ressOf, resOf, frz, frz.frzs, snap, snap.snaps, DV.pure, DV.pure.pures, DV.flat, DV.flat.flats, binStr, ansT, Option.map, List.length_cons, List.length_nil, reduceIte, Nat.reduceEqDiff, Nat.reduceAdd]
                simp [h1, h2, h3, h5, h6, h7, h7n, h8, h8n, isL, B4, fnEnd, argsT, opRun, PT.get_put, dstep, ev, evs, evO, give, giveI, binOf, isNilK, PM.flip, putT, putL, putH, callM, loadOf, storeOf, cut, over, ofCells, asNat, natOr, calm, clashes, Acc.clash, ressOf, resOf, frz, frz.frzs, snap, snap.snaps, DV.pure, DV.pure.pures, DV.flat, DV.flat.flats, binStr, ansT, Option.map, List.length_cons, List.length_nil, reduceIte, Nat.reduceEqDiff, Nat.reduceAdd]
          · skip
            simp only [D.f210, fn_run, B4, fnEnd, argsT, opRun, PT.get_put, dstep, ev, evs, evO, give, giveI, binOf, isNilK, PM.flip, putT, putL, putH, callM, loadOf, storeOf, cut, over, ofCells, asNat, natOr, calm, clashes, Acc.clash, ressOf, resOf, frz, frz.frzs, snap, snap.snaps, DV.pure, DV.pure.pures, DV.flat, DV.flat.flats, binStr, ansT, Option.map, List.length_cons, List.length_nil, reduceIte, Nat.reduceEqDiff, Nat.reduceAdd]
            simp [h1, h2, h3, h5, h6, isL, B4, fnEnd, argsT, opRun, PT.get_put, dstep, ev, evs, evO, give, giveI, binOf, isNilK, PM.flip, putT, putL, putH, callM, loadOf, storeOf, cut, over, ofCells, asNat, natOr, calm, clashes, Acc.clash, ressOf, resOf, frz, frz.frzs, snap, snap.snaps, DV.pure, DV.pure.pures, DV.flat, DV.flat.flats, binStr, ansT, Option.map, List.length_cons, List.length_nil, reduceIte, Nat.reduceEqDiff, Nat.reduceAdd]
        · skip
          simp only [D.f210, fn_run, B4, fnEnd, argsT, opRun, PT.get_put, dstep, ev, evs, evO, give, giveI, binOf, isNilK, PM.flip, putT, putL, putH, callM, loadOf, storeOf, cut, over, ofCells, asNat, natOr, calm, clashes, Acc.clash, ressOf, resOf, frz, frz.frzs, snap, snap.snaps, DV.pure, DV.pure.pures, DV.flat, DV.flat.flats, binStr, ansT, Option.map, List.length_cons, List.length_nil, reduceIte, Nat.reduceEqDiff, Nat.reduceAdd]
          simp [h1, h2, h3, h5, isL, B4, fnEnd, argsT, opRun, PT.get_put, dstep, ev, evs, evO, give, giveI, binOf, isNilK, PM.flip, putT, putL, putH, callM, loadOf, storeOf, cut, over, ofCells, asNat, natOr, calm, clashes, Acc.clash, ressOf, resOf, frz, frz.frzs, snap, snap.snaps, DV.pure, DV.pure.pures, DV.flat, DV.flat.flats, binStr, ansT, Option.map, List.length_cons, List.length_nil, reduceIte, Nat.reduceEqDiff, Nat.reduceAdd]
  · skip
    by_cases h3 : 65 ≤ r
    · skip
      by_cases h4 : r ≤ 90
      · skip
        simp only [D.f210, fn_run, B4, fnEnd, argsT, opRun, PT.get_put, dstep, ev, evs, evO, give, giveI, binOf, isNilK, PM.flip, putT, putL, putH, callM, loadOf, storeOf, cut, over, ofCells, asNat, natOr, calm, clashes, Acc.clash, ressOf, resOf, frz, frz.frzs, snap, snap.snaps, DV.pure, DV.pure.pures, DV.flat, DV.flat.flats, binStr, ansT, Option.map, List.length_cons, List.length_nil, reduceIte, Nat.reduceEqDiff, Nat.reduceAdd]
        simp [h1, h3, h4, isL, B4, fnEnd, argsT, opRun, PT.get_put, dstep, ev, evs, evO, give, giveI, binOf, isNilK, PM.flip, putT, putL, putH, callM, loadOf, storeOf, cut, over, ofCells, asNat, natOr, calm, clashes, Acc.clash, ressOf, resOf, frz, frz.frzs, snap, snap.snaps, DV.pure, DV.pure.pures, DV.flat, DV.flat.flats, binStr, ansT, Option.map, List.length_cons, List.length_nil, reduceIte, Nat.reduceEqDiff, Nat.reduceAdd]
      · skip
        by_cases h5 : 192 ≤ r
        · skip
          by_cases h6 : r ≤ 591
          · skip
            by_cases h7 : r = 215
            · skip
              subst h7
              simp only [D.f210, fn_run, B4, fnEnd, argsT, opRun, PT.get_put, dstep, ev, evs, evO, give, giveI, binOf, isNilK, PM.flip, putT, putL, putH, callM, loadOf, storeOf, cut, over, ofCells, asNat, natOr, calm, clashes, Acc.clash, ressOf, resOf, frz, frz.frzs, snap, snap.snaps, DV.pure, DV.pure.pures, DV.flat, DV.flat.flats, binStr, ansT, Option.map, List.length_cons, List.length_nil, reduceIte, Nat.reduceEqDiff, Nat.reduceAdd]
              simp [isL, B4, fnEnd, argsT, opRun, PT.get_put, dstep, ev, evs, evO, give, giveI, binOf, isNilK, PM.flip, putT, putL, putH, callM, loadOf, storeOf, cut, over, ofCells, asNat, natOr, calm, clashes, Acc.clash, ressOf, resOf, frz, frz.frzs, snap, snap.snaps, DV.pure, DV.pure.pures, DV.flat, DV.flat.flats, binStr, ansT, Option.map, List.length_cons, List.length_nil, reduceIte, Nat.reduceEqDiff, Nat.reduceAdd]
            · skip
              have h7n := bneT h7
              by_cases h8 : r = 247
              · skip
                subst h8
                simp only [D.f210, fn_run, B4, fnEnd, argsT, opRun, PT.get_put, dstep, ev, evs, evO, give, giveI, binOf, isNilK, PM.flip, putT, putL, putH, callM, loadOf, storeOf, cut, over, ofCells, asNat, natOr, calm, clashes, Acc.clash, ressOf, resOf, frz, frz.frzs, snap, snap.snaps, DV.pure, DV.pure.pures, DV.flat, DV.flat.flats, binStr, ansT, Option.map, List.length_cons, List.length_nil, reduceIte, Nat.reduceEqDiff, Nat.reduceAdd]
                simp [isL, B4, fnEnd, argsT, opRun, PT.get_put, dstep, ev, evs, evO, give, giveI, binOf, isNilK, PM.flip, putT, putL, putH, callM, loadOf, storeOf, cut, over, ofCells, asNat, natOr, calm, clashes, Acc.clash, ressOf, resOf, frz, frz.frzs, snap, snap.snaps, DV.pure, DV.pure.pures, DV.flat, DV.flat.flats, binStr, ansT, Option.map, List.length_cons, List.length_nil, reduceIte, Nat.reduceEqDiff, Nat.reduceAdd]
              · skip
                have h8n := bneT h8
                simp only [D.f210, fn_run, B4, fnEnd, argsT, opRun, PT.get_put, dstep, ev, evs, evO, give, giveI, binOf, isNilK, PM.flip, putT, putL, putH, callM, loadOf, storeOf, cut, over, ofCells, asNat, natOr, calm, clashes, Acc.clash, ressOf, resOf, frz, frz.frzs, snap, snap.snaps, DV.pure, DV.pure.pures, DV.flat, DV.flat.flats, binStr, ansT, Option.map, List.length_cons, List.length_nil, reduceIte, Nat.reduceEqDiff, Nat.reduceAdd]
                simp [h1, h3, h4, h5, h6, h7, h7n, h8, h8n, isL, B4, fnEnd, argsT, opRun, PT.get_put, dstep, ev, evs, evO, give, giveI, binOf, isNilK, PM.flip, putT, putL, putH, callM, loadOf, storeOf, cut, over, ofCells, asNat, natOr, calm, clashes, Acc.clash, ressOf, resOf, frz, frz.frzs, snap, snap.snaps, DV.pure, DV.pure.pures, DV.flat, DV.flat.flats, binStr, ansT, Option.map, List.length_cons, List.length_nil, reduceIte, Nat.reduceEqDiff, Nat.reduceAdd]
          · skip
            simp only [D.f210, fn_run, B4, fnEnd, argsT, opRun, PT.get_put, dstep, ev, evs, evO, give, giveI, binOf, isNilK, PM.flip, putT, putL, putH, callM, loadOf, storeOf, cut, over, ofCells, asNat, natOr, calm, clashes, Acc.clash, ressOf, resOf, frz, frz.frzs, snap, snap.snaps, DV.pure, DV.pure.pures, DV.flat, DV.flat.flats, binStr, ansT, Option.map, List.length_cons, List.length_nil, reduceIte, Nat.reduceEqDiff, Nat.reduceAdd]
            simp [h1, h3, h4, h5, h6, isL, B4, fnEnd, argsT, opRun, PT.get_put, dstep, ev, evs, evO, give, giveI, binOf, isNilK, PM.flip, putT, putL, putH, callM, loadOf, storeOf, cut, over, ofCells, asNat, natOr, calm, clashes, Acc.clash, ressOf, resOf, frz, frz.frzs, snap, snap.snaps, DV.pure, DV.pure.pures, DV.flat, DV.flat.flats, binStr, ansT, Option.map, List.length_cons, List.length_nil, reduceIte, Nat.reduceEqDiff, Nat.reduceAdd]
        · skip
          simp only [D.f210, fn_run, B4, fnEnd, argsT, opRun, PT.get_put, dstep, ev, evs, evO, give, giveI, binOf, isNilK, PM.flip, putT, putL, putH, callM, loadOf, storeOf, cut, over, ofCells, asNat, natOr, calm, clashes, Acc.clash, ressOf, resOf, frz, frz.frzs, snap, snap.snaps, DV.pure, DV.pure.pures, DV.flat, DV.flat.flats, binStr, ansT, Option.map, List.length_cons, List.length_nil, reduceIte, Nat.reduceEqDiff, Nat.reduceAdd]
          simp [h1, h3, h4, h5, isL, B4, fnEnd, argsT, opRun, PT.get_put, dstep, ev, evs, evO, give, giveI, binOf, isNilK, PM.flip, putT, putL, putH, callM, loadOf, storeOf, cut, over, ofCells, asNat, natOr, calm, clashes, Acc.clash, ressOf, resOf, frz, frz.frzs, snap, snap.snaps, DV.pure, DV.pure.pures, DV.flat, DV.flat.flats, binStr, ansT, Option.map, List.length_cons, List.length_nil, reduceIte, Nat.reduceEqDiff, Nat.reduceAdd]
    · skip
      by_cases h5 : 192 ≤ r
      · skip
        by_cases h6 : r ≤ 591
        · skip
          by_cases h7 : r = 215
          · skip
            subst h7
            simp only [D.f210, fn_run, B4, fnEnd, argsT, opRun, PT.get_put, dstep, ev, evs, evO, give, giveI, binOf, isNilK, PM.flip, putT, putL, putH, callM, loadOf, storeOf, cut, over, ofCells, asNat, natOr, calm, clashes, Acc.clash, ressOf, resOf, frz, frz.frzs, snap, snap.snaps, DV.pure, DV.pure.pures, DV.flat, DV.flat.flats, binStr, ansT, Option.map, List.length_cons, List.length_nil, reduceIte, Nat.reduceEqDiff, Nat.reduceAdd]
            simp [isL, B4, fnEnd, argsT, opRun, PT.get_put, dstep, ev, evs, evO, give, giveI, binOf, isNilK, PM.flip, putT, putL, putH, callM, loadOf, storeOf, cut, over, ofCells, asNat, natOr, calm, clashes, Acc.clash, ressOf, resOf, frz, frz.frzs, snap, snap.snaps, DV.pure, DV.pure.pures, DV.flat, DV.flat.flats, binStr, ansT, Option.map, List.length_cons, List.length_nil, reduceIte, Nat.reduceEqDiff, Nat.reduceAdd]
          · skip
            have h7n := bneT h7
            by_cases h8 : r = 247
            · skip
              subst h8
              simp only [D.f210, fn_run, B4, fnEnd, argsT, opRun, PT.get_put, dstep, ev, evs, evO, give, giveI, binOf, isNilK, PM.flip, putT, putL, putH, callM, loadOf, storeOf, cut, over, ofCells, asNat, natOr, calm, clashes, Acc.clash, ressOf, resOf, frz, frz.frzs, snap, snap.snaps, DV.pure, DV.pure.pures, DV.flat, DV.flat.flats, binStr, ansT, Option.map, List.length_cons, List.length_nil, reduceIte, Nat.reduceEqDiff, Nat.reduceAdd]
              simp [isL, B4, fnEnd, argsT, opRun, PT.get_put, dstep, ev, evs, evO, give, giveI, binOf, isNilK, PM.flip, putT, putL, putH, callM, loadOf, storeOf, cut, over, ofCells, asNat, natOr, calm, clashes, Acc.clash, ressOf, resOf, frz, frz.frzs, snap, snap.snaps, DV.pure, DV.pure.pures, DV.flat, DV.flat.flats, binStr, ansT, Option.map, List.length_cons, List.length_nil, reduceIte, Nat.reduceEqDiff, Nat.reduceAdd]
            · skip
              have h8n := bneT h8
              simp only [D.f210, fn_run, B4, fnEnd, argsT, opRun, PT.get_put, dstep, ev, evs, evO, give, giveI, binOf, isNilK, PM.flip, putT, putL, putH, callM, loadOf, storeOf, cut, over, ofCells, asNat, natOr, calm, clashes, Acc.clash, ressOf, resOf, frz, frz.frzs, snap, snap.snaps, DV.pure, DV.pure.pures, DV.flat, DV.flat.flats, binStr, ansT, Option.map, List.length_cons, List.length_nil, reduceIte, Nat.reduceEqDiff, Nat.reduceAdd]
              simp [h1, h3, h5, h6, h7, h7n, h8, h8n, isL, B4, fnEnd, argsT, opRun, PT.get_put, dstep, ev, evs, evO, give, giveI, binOf, isNilK, PM.flip, putT, putL, putH, callM, loadOf, storeOf, cut, over, ofCells, asNat, natOr, calm, clashes, Acc.clash, ressOf, resOf, frz, frz.frzs, snap, snap.snaps, DV.pure, DV.pure.pures, DV.flat, DV.flat.flats, binStr, ansT, Option.map, List.length_cons, List.length_nil, reduceIte, Nat.reduceEqDiff, Nat.reduceAdd]
        · skip
          simp only [D.f210, fn_run, B4, fnEnd, argsT, opRun, PT.get_put, dstep, ev, evs, evO, give, giveI, binOf, isNilK, PM.flip, putT, putL, putH, callM, loadOf, storeOf, cut, over, ofCells, asNat, natOr, calm, clashes, Acc.clash, ressOf, resOf, frz, frz.frzs, snap, snap.snaps, DV.pure, DV.pure.pures, DV.flat, DV.flat.flats, binStr, ansT, Option.map, List.length_cons, List.length_nil, reduceIte, Nat.reduceEqDiff, Nat.reduceAdd]
          simp [h1, h3, h5, h6, isL, B4, fnEnd, argsT, opRun, PT.get_put, dstep, ev, evs, evO, give, giveI, binOf, isNilK, PM.flip, putT, putL, putH, callM, loadOf, storeOf, cut, over, ofCells, asNat, natOr, calm, clashes, Acc.clash, ressOf, resOf, frz, frz.frzs, snap, snap.snaps, DV.pure, DV.pure.pures, DV.flat, DV.flat.flats, binStr, ansT, Option.map, List.length_cons, List.length_nil, reduceIte, Nat.reduceEqDiff, Nat.reduceAdd]
      · skip
        simp only [D.f210, fn_run, B4, fnEnd, argsT, opRun, PT.get_put, dstep, ev, evs, evO, give, giveI, binOf, isNilK, PM.flip, putT, putL, putH, callM, loadOf, storeOf, cut, over, ofCells, asNat, natOr, calm, clashes, Acc.clash, ressOf, resOf, frz, frz.frzs, snap, snap.snaps, DV.pure, DV.pure.pures, DV.flat, DV.flat.flats, binStr, ansT, Option.map, List.length_cons, List.length_nil, reduceIte, Nat.reduceEqDiff, Nat.reduceAdd]
        simp [h1, h3, h5, isL, B4, fnEnd, argsT, opRun, PT.get_put, dstep, ev, evs, evO, give, giveI, binOf, isNilK, PM.flip, putT, putL, putH, callM, loadOf, storeOf, cut, over, ofCells, asNat, natOr, calm, clashes, Acc.clash, ressOf, resOf, frz, frz.frzs, snap, snap.snaps, DV.pure, DV.pure.pures, DV.flat, DV.flat.flats, binStr, ansT, Option.map, List.length_cons, List.length_nil, reduceIte, Nat.reduceEqDiff, Nat.reduceAdd]
theorem wrong_bl {D : Nat} (hD : 3 ≤ D) {s : List UInt8} {i : Nat} (hi : i ≤ s.length) : bl (K DG D) 233 [.imm (.str s), .imm (.int .i64 i)] = some (.imm (.bool (decide ((decD (s.drop i)).1 = 65533 ∧ (decD (s.drop i)).2 = 1)))) := by
  obtain ⟨d, rfl⟩ : ∃ d, D = d + 1 := ⟨D - 1, by omega⟩
  refine bl_imm (H' := .lf) (n' := 0) ?_
  rw [D.k233]
  have e := dec_bl (D := d) (by omega) (s.drop i)
  generalize decD (s.drop i) = p at *
  obtain ⟨r, m⟩ := p
  by_cases h1 : r = 65533
  · subst h1
    by_cases h2 : m = 1
    · subst h2
      simp only [D.f233, fn_run, B5, fnEnd, argsT, opRun, PT.get_put, dstep, ev, evs, evO, give, giveI, binOf, isNilK, PM.flip, putT, putL, putH, loadOf, storeOf, cut, over, ofCells, asNat, natOr, calm, clashes, Acc.clash, ressOf, resOf, frz, frz.frzs, DV.flat, DV.flat.flats, binStr, ansT, Option.map, List.length_cons, List.length_nil, reduceIte, Nat.reduceEqDiff, Nat.reduceAdd]
      simp [hi, e, sliceStr, B5, fnEnd, argsT, opRun, PT.get_put, dstep, ev, evs, evO, give, giveI, binOf, isNilK, PM.flip, putT, putL, putH, loadOf, storeOf, cut, over, ofCells, asNat, natOr, calm, clashes, Acc.clash, ressOf, resOf, frz, frz.frzs, DV.flat, DV.flat.flats, binStr, ansT, Option.map, List.length_cons, List.length_nil, reduceIte, Nat.reduceEqDiff, Nat.reduceAdd]
    · have h2' : ((m : Int) == 1) = false := beqF (by omega)
      simp only [D.f233, fn_run, B5, fnEnd, argsT, opRun, PT.get_put, dstep, ev, evs, evO, give, giveI, binOf, isNilK, PM.flip, putT, putL, putH, loadOf, storeOf, cut, over, ofCells, asNat, natOr, calm, clashes, Acc.clash, ressOf, resOf, frz, frz.frzs, DV.flat, DV.flat.flats, binStr, ansT, Option.map, List.length_cons, List.length_nil, reduceIte, Nat.reduceEqDiff, Nat.reduceAdd]
      simp [hi, e, h2, h2', sliceStr, B5, fnEnd, argsT, opRun, PT.get_put, dstep, ev, evs, evO, give, giveI, binOf, isNilK, PM.flip, putT, putL, putH, loadOf, storeOf, cut, over, ofCells, asNat, natOr, calm, clashes, Acc.clash, ressOf, resOf, frz, frz.frzs, DV.flat, DV.flat.flats, binStr, ansT, Option.map, List.length_cons, List.length_nil, reduceIte, Nat.reduceEqDiff, Nat.reduceAdd]
  · have h1' : ((r : Int) == 65533) = false := beqF (by omega)
    simp only [D.f233, fn_run, B5, fnEnd, argsT, opRun, PT.get_put, dstep, ev, evs, evO, give, giveI, binOf, isNilK, PM.flip, putT, putL, putH, loadOf, storeOf, cut, over, ofCells, asNat, natOr, calm, clashes, Acc.clash, ressOf, resOf, frz, frz.frzs, DV.flat, DV.flat.flats, binStr, ansT, Option.map, List.length_cons, List.length_nil, reduceIte, Nat.reduceEqDiff, Nat.reduceAdd]
    simp [hi, e, h1, h1', sliceStr, B5, fnEnd, argsT, opRun, PT.get_put, dstep, ev, evs, evO, give, giveI, binOf, isNilK, PM.flip, putT, putL, putH, loadOf, storeOf, cut, over, ofCells, asNat, natOr, calm, clashes, Acc.clash, ressOf, resOf, frz, frz.frzs, DV.flat, DV.flat.flats, binStr, ansT, Option.map, List.length_cons, List.length_nil, reduceIte, Nat.reduceEqDiff, Nat.reduceAdd]
end Go.Proofs.YtlknjgmhfimhbacGreatDoor.D

-- TabD
set_option linter.unusedVariables false
set_option linter.unusedSimpArgs false
set_option maxHeartbeats 16000000
namespace Go.Proofs.YtlknjgmhfimhbacGreatDoor.D
open Go Go.PM Go.Lib

theorem decN_len (n b0 b1 b2 b3 : Nat) (hn : 1 ≤ n) : 1 ≤ (decodeN n b0 b1 b2 b3).2 ∧ (decodeN n b0 b1 b2 b3).2 ≤ n := by
  unfold decodeN
  repeat' split
  all_goals simp only
  all_goals omega
theorem decD_len {s : List UInt8} (h : s ≠ []) : 1 ≤ (decD s).2 ∧ (decD s).2 ≤ s.length := by
  rw [decD, if_neg h]
  exact decN_len _ _ _ _ _ (List.length_pos_iff.2 h)
theorem decN_max (n b0 b1 b2 b3 : Nat) (h0 : b0 < 256) (h1 : b1 < 256) (h2 : b2 < 256) (h3 : b3 < 256) : (decodeN n b0 b1 b2 b3).1 < 2097152 := by
  unfold decodeN
  repeat' split
  all_goals simp only
  all_goals omega
/-- The runes of a text, with their widths. -/
def runes : Nat → List UInt8 → List (Nat × Nat)
  | 0, _ => []
  | k + 1, s => if s = [] then [] else decD s :: runes k (s.drop (decD s).2)
theorem runes_nil (k : Nat) : runes k [] = [] := by cases k <;> simp [runes]
theorem runes_more : ∀ (k : Nat) (s : List UInt8), s.length ≤ k → runes (k + 1) s = runes k s
  | 0, s, h => by
    obtain rfl : s = [] := List.eq_nil_of_length_eq_zero (by omega)
    simp [runes]
  | k + 1, s, h => by
    rw [runes]
    conv => rhs; rw [runes]
    by_cases h0 : s = []
    · simp [h0]
    · have := (decD_len h0).1
      rw [if_neg h0, if_neg h0, runes_more k _ (by rw [List.length_drop]; omega)]
def RS (s : List UInt8) : List (Nat × Nat) := runes s.length s
theorem runes_ge {k : Nat} {s : List UInt8} (h : s.length ≤ k) : runes k s = RS s := by
  obtain ⟨j, rfl⟩ : ∃ j, k = s.length + j := ⟨k - s.length, by omega⟩
  clear h
  induction j with
  | zero => rfl
  | succ j ih => rw [← Nat.add_assoc, runes_more _ _ (by omega), ih]
theorem RS_nil : RS [] = [] := rfl
theorem RS_cons {s : List UInt8} (h : s ≠ []) : RS s = decD s :: RS (s.drop (decD s).2) := by
  have hl := List.length_pos_iff.2 h
  have hd := decD_len h
  obtain ⟨k, hk⟩ : ∃ k, s.length = k + 1 := ⟨s.length - 1, by omega⟩
  unfold RS
  rw [hk, runes, if_neg h, runes_ge (by rw [List.length_drop]; omega)]
  rfl
theorem RS_len (s : List UInt8) : (RS s).length ≤ s.length := by
  have : ∀ (k : Nat) (s : List UInt8), s.length ≤ k → (RS s).length ≤ s.length := fun k => by
    induction k with
    | zero =>
      intro s h
      obtain rfl : s = [] := List.eq_nil_of_length_eq_zero (by omega)
      simp [RS_nil]
    | succ k ih =>
      intro s h
      by_cases h0 : s = []
      · subst h0; simp [RS_nil]
      · have hd := decD_len h0
        rw [RS_cons h0, List.length_cons]
        have := ih (s.drop (decD s).2) (by rw [List.length_drop]; omega)
        rw [List.length_drop] at this
        omega
  exact this _ s (Nat.le_refl _)

/-- May a rune be there? -/
def okR (p : Nat × Nat) (i : Nat) : Bool := !decide (p.1 = 65533 ∧ p.2 = 1) && (isL p.1 || decide (0 < i ∧ 48 ≤ p.1 ∧ p.1 ≤ 57))
def allR (l : List (Nat × Nat)) : Bool := l.zipIdx.all fun x => okR x.1 x.2
def isNm (s : List UInt8) : Bool := allR (RS s) && decide (1 ≤ (RS s).length ∧ (RS s).length ≤ 8)
theorem allR_false {l : List (Nat × Nat)} {i : Nat} {p : Nat × Nat} (h : l[i]? = some p) (hp : okR p i = false) : allR l = false := by
  unfold allR
  rw [List.all_eq_false]
  refine ⟨(p, i), ?_, by simp [hp]⟩
  rw [List.mem_zipIdx_iff_getElem?]
  simpa using h
theorem allR_true {l : List (Nat × Nat)} (h : ∀ (i : Nat) p, l[i]? = some p → okR p i = true) : allR l = true := by
  unfold allR
  rw [List.all_eq_true]
  rintro ⟨p, i⟩ hm
  rw [List.mem_zipIdx_iff_getElem?] at hm
  exact h i p (by simpa using hm)
end Go.Proofs.YtlknjgmhfimhbacGreatDoor.D

-- TabE
set_option linter.unusedVariables false
set_option linter.unusedSimpArgs false
set_option maxHeartbeats 16000000
namespace Go.Proofs.YtlknjgmhfimhbacGreatDoor.D
open Go Go.PM Go.Lib
def IW (s : List UInt8) (i : Nat) (st : St) : Prop := ∃ pos, pos ≤ s.length ∧ (0 < i ↔ 0 < pos) ∧ RS (s.drop pos) = (RS s).drop i ∧ st.T.get 0 = some (.imm (.str s)) ∧ st.T.get 3 = some (.imm (.int .i64 i)) ∧
  (∃ id, st.T.get 8 = some (.lref 8 id 0) ∧ st.L.get 8 = some (.iter id s pos)) ∧ st.H = .lf ∧ ∀ j p, j < i → (RS s)[j]? = some p → okR p j = true
theorem loopW {d : Nat} (hd : 3 ≤ d) {s : List UInt8} (hl : s.length ≤ reachBytes) {st : St} (h : IW s 0 st) :
    ∃ e st', D.l213_0.run DG (K DG d) 0 st = some (e, st') ∧ ((e = .ret ∧ st'.T.get 2 = some (.imm (.bool false)) ∧ st'.H = .lf ∧ allR (RS s) = false) ∨
      (e = .exit 0 ∧ st'.T.get 3 = some (.imm (.int .i64 (RS s).length)) ∧ st'.H = .lf ∧ allR (RS s) = true)) := by
  have hrl := RS_len s
  refine rng_loop (N := (RS s).length) (small (by omega)) (IW s) _ (fun i st hI hle => ?_) st h
  obtain ⟨pos, hp1, hp2, hp3, hP0, hP3, ⟨id, hP8, hPL⟩, hH, hall⟩ := hI
  by_cases hi : i < (RS s).length
  · have hne : s.drop pos ≠ [] := fun h0 => by
      rw [h0, RS_nil] at hp3
      have := congrArg List.length hp3
      simp at this
      omega
    have hpos : pos < s.length := by
      have := List.length_pos_iff.2 hne
      rw [List.length_drop] at this
      omega
    have hmod := dec_model s pos hpos
    have hlen := decD_len hne
    have hcons := RS_cons hne
    have hw0 := wrong_bl (D := d) hd (s := s) (i := pos) (by omega)
    obtain ⟨r, m, hrm⟩ : ∃ r m, decD (s.drop pos) = (r, m) := ⟨_, _, rfl⟩
    rw [hrm] at hmod hlen hcons hw0
    simp only at hlen hcons hw0
    rw [List.length_drop] at hlen
    rw [List.drop_drop] at hcons
    have hget : (RS s)[i]? = some (r, m) := by
      have := congrArg (·[0]?) (hp3.symm.trans hcons)
      simpa using this
    have hrest : RS (s.drop (pos + m)) = (RS s).drop (i + 1) := by
      have := congrArg (List.drop 1) (hp3.symm.trans hcons)
      simpa [Nat.add_comm] using this.symm
    have hdec : Utf8.decode ⟨s.toArray⟩ pos = (r, m) := hmod
    have hw := letter_bl DG (D := d) (by omega) (r : Int)
    have hw8 : IntKind.i64.wrap ((i : Int) + 1) = (i : Int) + 1 := wr_succ hi (by omega)
    have hi0 : (0 < i) = (0 < pos) := propext hp2
    generalize hWe : decide (r = 65533 ∧ m = 1) = W at hw0
    have e1 : (r = 65533 ∧ m = 1) ↔ W = true := by rw [← hWe]; simp
    generalize hLe : isL (r : Int) = Lt at hw
    have e2 : isL (r : Int) = Lt := hLe
    cases hW : W
    · cases hL : Lt
      · subst hW hL
        by_cases d1 : 48 ≤ r
        · have d1' : (48 : Int) ≤ r := by omega
          by_cases d2 : r ≤ 57
          · have d2' : (r : Int) ≤ 57 := by omega
            by_cases d3 : 0 < pos
            · have d3' : (0 : Int) < pos := by omega
              have hok : okR (r, m) i = true := by simp [okR, hi0, d1, d2, d3, e1, e2]
              left
              refine ⟨hi, ?_⟩
              simp only [D.l213_0b, keep, B5, fnEnd, argsT, opRun, PT.get_put, dstep, ev, evs, evO, give, giveI, binOf, isNilK, PM.flip, putT, putL, putH, loadOf, storeOf, cut, over, ofCells, asNat, natOr, calm, clashes, Acc.clash, ressOf, resOf, frz, frz.frzs, DV.flat, DV.flat.flats, binStr, ansT, Option.map, List.length_cons, List.length_nil, reduceIte, Nat.reduceEqDiff, Nat.reduceAdd]
              simp [hP0, hP3, hP8, hPL, hpos, hdec, hw, hw8, hH, d1, d1', d2, d2', d3, d3', hw0, B5, fnEnd, argsT, opRun, PT.get_put, dstep, ev, evs, evO, give, giveI, binOf, isNilK, PM.flip, putT, putL, putH, loadOf, storeOf, cut, over, ofCells, asNat, natOr, calm, clashes, Acc.clash, ressOf, resOf, frz, frz.frzs, DV.flat, DV.flat.flats, binStr, ansT, Option.map, List.length_cons, List.length_nil, reduceIte, Nat.reduceEqDiff, Nat.reduceAdd]
              refine ⟨pos + m, by omega, by omega, hrest, by simp [PT.get_put], by simp [PT.get_put], ⟨id, by simp [PT.get_put, hP8], by simp [PT.get_put, hPL]⟩, rfl, fun j p hj hp => ?_⟩
              rcases Nat.lt_or_eq_of_le (Nat.le_of_lt_succ hj) with hj | rfl
              · exact hall j p hj hp
              · rw [hget] at hp; cases hp; exact hok
            · have d3' : ¬ (0 : Int) < pos := by omega
              have hok : okR (r, m) i = false := by simp [okR, hi0, d1, d2, d3, e1, e2]
              right
              refine ⟨.ret, ?_⟩
              simp only [D.l213_0b, keep, B5, fnEnd, argsT, opRun, PT.get_put, dstep, ev, evs, evO, give, giveI, binOf, isNilK, PM.flip, putT, putL, putH, loadOf, storeOf, cut, over, ofCells, asNat, natOr, calm, clashes, Acc.clash, ressOf, resOf, frz, frz.frzs, DV.flat, DV.flat.flats, binStr, ansT, Option.map, List.length_cons, List.length_nil, reduceIte, Nat.reduceEqDiff, Nat.reduceAdd]
              simp [hP0, hP3, hP8, hPL, hpos, hdec, hw, hw8, hH, d1, d1', d2, d2', d3, d3', hw0, B5, fnEnd, argsT, opRun, PT.get_put, dstep, ev, evs, evO, give, giveI, binOf, isNilK, PM.flip, putT, putL, putH, loadOf, storeOf, cut, over, ofCells, asNat, natOr, calm, clashes, Acc.clash, ressOf, resOf, frz, frz.frzs, DV.flat, DV.flat.flats, binStr, ansT, Option.map, List.length_cons, List.length_nil, reduceIte, Nat.reduceEqDiff, Nat.reduceAdd]
              exact allR_false hget hok
          · have d2' : ¬ (r : Int) ≤ 57 := by omega
            have hok : okR (r, m) i = false := by simp [okR, hi0, d1, d2, e1, e2]
            right
            refine ⟨.ret, ?_⟩
            simp only [D.l213_0b, keep, B5, fnEnd, argsT, opRun, PT.get_put, dstep, ev, evs, evO, give, giveI, binOf, isNilK, PM.flip, putT, putL, putH, loadOf, storeOf, cut, over, ofCells, asNat, natOr, calm, clashes, Acc.clash, ressOf, resOf, frz, frz.frzs, DV.flat, DV.flat.flats, binStr, ansT, Option.map, List.length_cons, List.length_nil, reduceIte, Nat.reduceEqDiff, Nat.reduceAdd]
            simp [hP0, hP3, hP8, hPL, hpos, hdec, hw, hw8, hH, d1, d1', d2, d2', hw0, B5, fnEnd, argsT, opRun, PT.get_put, dstep, ev, evs, evO, give, giveI, binOf, isNilK, PM.flip, putT, putL, putH, loadOf, storeOf, cut, over, ofCells, asNat, natOr, calm, clashes, Acc.clash, ressOf, resOf, frz, frz.frzs, DV.flat, DV.flat.flats, binStr, ansT, Option.map, List.length_cons, List.length_nil, reduceIte, Nat.reduceEqDiff, Nat.reduceAdd]
            exact allR_false hget hok
        · have d1' : ¬ (48 : Int) ≤ r := by omega
          have hok : okR (r, m) i = false := by simp [okR, hi0, d1, e1, e2]
          right
          refine ⟨.ret, ?_⟩
          simp only [D.l213_0b, keep, B5, fnEnd, argsT, opRun, PT.get_put, dstep, ev, evs, evO, give, giveI, binOf, isNilK, PM.flip, putT, putL, putH, loadOf, storeOf, cut, over, ofCells, asNat, natOr, calm, clashes, Acc.clash, ressOf, resOf, frz, frz.frzs, DV.flat, DV.flat.flats, binStr, ansT, Option.map, List.length_cons, List.length_nil, reduceIte, Nat.reduceEqDiff, Nat.reduceAdd]
          simp [hP0, hP3, hP8, hPL, hpos, hdec, hw, hw8, hH, d1, d1', hw0, B5, fnEnd, argsT, opRun, PT.get_put, dstep, ev, evs, evO, give, giveI, binOf, isNilK, PM.flip, putT, putL, putH, loadOf, storeOf, cut, over, ofCells, asNat, natOr, calm, clashes, Acc.clash, ressOf, resOf, frz, frz.frzs, DV.flat, DV.flat.flats, binStr, ansT, Option.map, List.length_cons, List.length_nil, reduceIte, Nat.reduceEqDiff, Nat.reduceAdd]
          exact allR_false hget hok
      · subst hW hL
        by_cases d1 : 48 ≤ r
        · have d1' : (48 : Int) ≤ r := by omega
          by_cases d2 : r ≤ 57
          · have d2' : (r : Int) ≤ 57 := by omega
            by_cases d3 : 0 < pos
            · have d3' : (0 : Int) < pos := by omega
              have hok : okR (r, m) i = true := by simp [okR, hi0, d1, d2, d3, e1, e2]
              left
              refine ⟨hi, ?_⟩
              simp only [D.l213_0b, keep, B5, fnEnd, argsT, opRun, PT.get_put, dstep, ev, evs, evO, give, giveI, binOf, isNilK, PM.flip, putT, putL, putH, loadOf, storeOf, cut, over, ofCells, asNat, natOr, calm, clashes, Acc.clash, ressOf, resOf, frz, frz.frzs, DV.flat, DV.flat.flats, binStr, ansT, Option.map, List.length_cons, List.length_nil, reduceIte, Nat.reduceEqDiff, Nat.reduceAdd]
              simp [hP0, hP3, hP8, hPL, hpos, hdec, hw, hw8, hH, d1, d1', d2, d2', d3, d3', hw0, B5, fnEnd, argsT, opRun, PT.get_put, dstep, ev, evs, evO, give, giveI, binOf, isNilK, PM.flip, putT, putL, putH, loadOf, storeOf, cut, over, ofCells, asNat, natOr, calm, clashes, Acc.clash, ressOf, resOf, frz, frz.frzs, DV.flat, DV.flat.flats, binStr, ansT, Option.map, List.length_cons, List.length_nil, reduceIte, Nat.reduceEqDiff, Nat.reduceAdd]
              refine ⟨pos + m, by omega, by omega, hrest, by simp [PT.get_put], by simp [PT.get_put], ⟨id, by simp [PT.get_put, hP8], by simp [PT.get_put, hPL]⟩, rfl, fun j p hj hp => ?_⟩
              rcases Nat.lt_or_eq_of_le (Nat.le_of_lt_succ hj) with hj | rfl
              · exact hall j p hj hp
              · rw [hget] at hp; cases hp; exact hok
            · have d3' : ¬ (0 : Int) < pos := by omega
              have hok : okR (r, m) i = true := by simp [okR, hi0, d1, d2, d3, e1, e2]
              left
              refine ⟨hi, ?_⟩
              simp only [D.l213_0b, keep, B5, fnEnd, argsT, opRun, PT.get_put, dstep, ev, evs, evO, give, giveI, binOf, isNilK, PM.flip, putT, putL, putH, loadOf, storeOf, cut, over, ofCells, asNat, natOr, calm, clashes, Acc.clash, ressOf, resOf, frz, frz.frzs, DV.flat, DV.flat.flats, binStr, ansT, Option.map, List.length_cons, List.length_nil, reduceIte, Nat.reduceEqDiff, Nat.reduceAdd]
              simp [hP0, hP3, hP8, hPL, hpos, hdec, hw, hw8, hH, d1, d1', d2, d2', d3, d3', hw0, B5, fnEnd, argsT, opRun, PT.get_put, dstep, ev, evs, evO, give, giveI, binOf, isNilK, PM.flip, putT, putL, putH, loadOf, storeOf, cut, over, ofCells, asNat, natOr, calm, clashes, Acc.clash, ressOf, resOf, frz, frz.frzs, DV.flat, DV.flat.flats, binStr, ansT, Option.map, List.length_cons, List.length_nil, reduceIte, Nat.reduceEqDiff, Nat.reduceAdd]
              refine ⟨pos + m, by omega, by omega, hrest, by simp [PT.get_put], by simp [PT.get_put], ⟨id, by simp [PT.get_put, hP8], by simp [PT.get_put, hPL]⟩, rfl, fun j p hj hp => ?_⟩
              rcases Nat.lt_or_eq_of_le (Nat.le_of_lt_succ hj) with hj | rfl
              · exact hall j p hj hp
              · rw [hget] at hp; cases hp; exact hok
          · have d2' : ¬ (r : Int) ≤ 57 := by omega
            have hok : okR (r, m) i = true := by simp [okR, hi0, d1, d2, e1, e2]
            left
            refine ⟨hi, ?_⟩
            simp only [D.l213_0b, keep, B5, fnEnd, argsT, opRun, PT.get_put, dstep, ev, evs, evO, give, giveI, binOf, isNilK, PM.flip, putT, putL, putH, loadOf, storeOf, cut, over, ofCells, asNat, natOr, calm, clashes, Acc.clash, ressOf, resOf, frz, frz.frzs, DV.flat, DV.flat.flats, binStr, ansT, Option.map, List.length_cons, List.length_nil, reduceIte, Nat.reduceEqDiff, Nat.reduceAdd]
            simp [hP0, hP3, hP8, hPL, hpos, hdec, hw, hw8, hH, d1, d1', d2, d2', hw0, B5, fnEnd, argsT, opRun, PT.get_put, dstep, ev, evs, evO, give, giveI, binOf, isNilK, PM.flip, putT, putL, putH, loadOf, storeOf, cut, over, ofCells, asNat, natOr, calm, clashes, Acc.clash, ressOf, resOf, frz, frz.frzs, DV.flat, DV.flat.flats, binStr, ansT, Option.map, List.length_cons, List.length_nil, reduceIte, Nat.reduceEqDiff, Nat.reduceAdd]
            refine ⟨pos + m, by omega, by omega, hrest, by simp [PT.get_put], by simp [PT.get_put], ⟨id, by simp [PT.get_put, hP8], by simp [PT.get_put, hPL]⟩, rfl, fun j p hj hp => ?_⟩
            rcases Nat.lt_or_eq_of_le (Nat.le_of_lt_succ hj) with hj | rfl
            · exact hall j p hj hp
            · rw [hget] at hp; cases hp; exact hok
        · have d1' : ¬ (48 : Int) ≤ r := by omega
          have hok : okR (r, m) i = true := by simp [okR, hi0, d1, e1, e2]
          left
          refine ⟨hi, ?_⟩
          simp only [D.l213_0b, keep, B5, fnEnd, argsT, opRun, PT.get_put, dstep, ev, evs, evO, give, giveI, binOf, isNilK, PM.flip, putT, putL, putH, loadOf, storeOf, cut, over, ofCells, asNat, natOr, calm, clashes, Acc.clash, ressOf, resOf, frz, frz.frzs, DV.flat, DV.flat.flats, binStr, ansT, Option.map, List.length_cons, List.length_nil, reduceIte, Nat.reduceEqDiff, Nat.reduceAdd]
          simp [hP0, hP3, hP8, hPL, hpos, hdec, hw, hw8, hH, d1, d1', hw0, B5, fnEnd, argsT, opRun, PT.get_put, dstep, ev, evs, evO, give, giveI, binOf, isNilK, PM.flip, putT, putL, putH, loadOf, storeOf, cut, over, ofCells, asNat, natOr, calm, clashes, Acc.clash, ressOf, resOf, frz, frz.frzs, DV.flat, DV.flat.flats, binStr, ansT, Option.map, List.length_cons, List.length_nil, reduceIte, Nat.reduceEqDiff, Nat.reduceAdd]
          refine ⟨pos + m, by omega, by omega, hrest, by simp [PT.get_put], by simp [PT.get_put], ⟨id, by simp [PT.get_put, hP8], by simp [PT.get_put, hPL]⟩, rfl, fun j p hj hp => ?_⟩
          rcases Nat.lt_or_eq_of_le (Nat.le_of_lt_succ hj) with hj | rfl
          · exact hall j p hj hp
          · rw [hget] at hp; cases hp; exact hok
    · subst hW
      by_cases d1 : 48 ≤ r
      · have d1' : (48 : Int) ≤ r := by omega
        by_cases d2 : r ≤ 57
        · have d2' : (r : Int) ≤ 57 := by omega
          by_cases d3 : 0 < pos
          · have d3' : (0 : Int) < pos := by omega
            have hok : okR (r, m) i = false := by simp [okR, hi0, d1, d2, d3, e1, e2]
            right
            refine ⟨.ret, ?_⟩
            simp only [D.l213_0b, keep, B5, fnEnd, argsT, opRun, PT.get_put, dstep, ev, evs, evO, give, giveI, binOf, isNilK, PM.flip, putT, putL, putH, loadOf, storeOf, cut, over, ofCells, asNat, natOr, calm, clashes, Acc.clash, ressOf, resOf, frz, frz.frzs, DV.flat, DV.flat.flats, binStr, ansT, Option.map, List.length_cons, List.length_nil, reduceIte, Nat.reduceEqDiff, Nat.reduceAdd]
            simp [hP0, hP3, hP8, hPL, hpos, hdec, hw, hw8, hH, d1, d1', d2, d2', d3, d3', hw0, B5, fnEnd, argsT, opRun, PT.get_put, dstep, ev, evs, evO, give, giveI, binOf, isNilK, PM.flip, putT, putL, putH, loadOf, storeOf, cut, over, ofCells, asNat, natOr, calm, clashes, Acc.clash, ressOf, resOf, frz, frz.frzs, DV.flat, DV.flat.flats, binStr, ansT, Option.map, List.length_cons, List.length_nil, reduceIte, Nat.reduceEqDiff, Nat.reduceAdd]
            exact allR_false hget hok
          · have d3' : ¬ (0 : Int) < pos := by omega
            have hok : okR (r, m) i = false := by simp [okR, hi0, d1, d2, d3, e1, e2]
            right
            refine ⟨.ret, ?_⟩
            simp only [D.l213_0b, keep, B5, fnEnd, argsT, opRun, PT.get_put, dstep, ev, evs, evO, give, giveI, binOf, isNilK, PM.flip, putT, putL, putH, loadOf, storeOf, cut, over, ofCells, asNat, natOr, calm, clashes, Acc.clash, ressOf, resOf, frz, frz.frzs, DV.flat, DV.flat.flats, binStr, ansT, Option.map, List.length_cons, List.length_nil, reduceIte, Nat.reduceEqDiff, Nat.reduceAdd]
            simp [hP0, hP3, hP8, hPL, hpos, hdec, hw, hw8, hH, d1, d1', d2, d2', d3, d3', hw0, B5, fnEnd, argsT, opRun, PT.get_put, dstep, ev, evs, evO, give, giveI, binOf, isNilK, PM.flip, putT, putL, putH, loadOf, storeOf, cut, over, ofCells, asNat, natOr, calm, clashes, Acc.clash, ressOf, resOf, frz, frz.frzs, DV.flat, DV.flat.flats, binStr, ansT, Option.map, List.length_cons, List.length_nil, reduceIte, Nat.reduceEqDiff, Nat.reduceAdd]
            exact allR_false hget hok
        · have d2' : ¬ (r : Int) ≤ 57 := by omega
          have hok : okR (r, m) i = false := by simp [okR, hi0, d1, d2, e1, e2]
          right
          refine ⟨.ret, ?_⟩
          simp only [D.l213_0b, keep, B5, fnEnd, argsT, opRun, PT.get_put, dstep, ev, evs, evO, give, giveI, binOf, isNilK, PM.flip, putT, putL, putH, loadOf, storeOf, cut, over, ofCells, asNat, natOr, calm, clashes, Acc.clash, ressOf, resOf, frz, frz.frzs, DV.flat, DV.flat.flats, binStr, ansT, Option.map, List.length_cons, List.length_nil, reduceIte, Nat.reduceEqDiff, Nat.reduceAdd]
          simp [hP0, hP3, hP8, hPL, hpos, hdec, hw, hw8, hH, d1, d1', d2, d2', hw0, B5, fnEnd, argsT, opRun, PT.get_put, dstep, ev, evs, evO, give, giveI, binOf, isNilK, PM.flip, putT, putL, putH, loadOf, storeOf, cut, over, ofCells, asNat, natOr, calm, clashes, Acc.clash, ressOf, resOf, frz, frz.frzs, DV.flat, DV.flat.flats, binStr, ansT, Option.map, List.length_cons, List.length_nil, reduceIte, Nat.reduceEqDiff, Nat.reduceAdd]
          exact allR_false hget hok
      · have d1' : ¬ (48 : Int) ≤ r := by omega
        have hok : okR (r, m) i = false := by simp [okR, hi0, d1, e1, e2]
        right
        refine ⟨.ret, ?_⟩
        simp only [D.l213_0b, keep, B5, fnEnd, argsT, opRun, PT.get_put, dstep, ev, evs, evO, give, giveI, binOf, isNilK, PM.flip, putT, putL, putH, loadOf, storeOf, cut, over, ofCells, asNat, natOr, calm, clashes, Acc.clash, ressOf, resOf, frz, frz.frzs, DV.flat, DV.flat.flats, binStr, ansT, Option.map, List.length_cons, List.length_nil, reduceIte, Nat.reduceEqDiff, Nat.reduceAdd]
        simp [hP0, hP3, hP8, hPL, hpos, hdec, hw, hw8, hH, d1, d1', hw0, B5, fnEnd, argsT, opRun, PT.get_put, dstep, ev, evs, evO, give, giveI, binOf, isNilK, PM.flip, putT, putL, putH, loadOf, storeOf, cut, over, ofCells, asNat, natOr, calm, clashes, Acc.clash, ressOf, resOf, frz, frz.frzs, DV.flat, DV.flat.flats, binStr, ansT, Option.map, List.length_cons, List.length_nil, reduceIte, Nat.reduceEqDiff, Nat.reduceAdd]
        exact allR_false hget hok
  · obtain rfl : i = (RS s).length := by omega
    right
    refine ⟨.exit 0, ?_⟩
    have hnil : RS (s.drop pos) = [] := by rw [hp3, List.drop_length]
    have hpos : ¬ pos < s.length := fun h => by
      have hne : s.drop pos ≠ [] := fun h0 => by have := congrArg List.length h0; simp at this; omega
      rw [RS_cons hne] at hnil
      cases hnil
    simp only [D.l213_0b, keep, B5, fnEnd, argsT, opRun, PT.get_put, dstep, ev, evs, evO, give, giveI, binOf, isNilK, PM.flip, putT, putL, putH, loadOf, storeOf, cut, over, ofCells, asNat, natOr, calm, clashes, Acc.clash, ressOf, resOf, frz, frz.frzs, DV.flat, DV.flat.flats, binStr, ansT, Option.map, List.length_cons, List.length_nil, reduceIte, Nat.reduceEqDiff, Nat.reduceAdd]
    simp [hP0, hP3, hP8, hPL, hpos, hH, B5, fnEnd, argsT, opRun, PT.get_put, dstep, ev, evs, evO, give, giveI, binOf, isNilK, PM.flip, putT, putL, putH, loadOf, storeOf, cut, over, ofCells, asNat, natOr, calm, clashes, Acc.clash, ressOf, resOf, frz, frz.frzs, DV.flat, DV.flat.flats, binStr, ansT, Option.map, List.length_cons, List.length_nil, reduceIte, Nat.reduceEqDiff, Nat.reduceAdd]
    exact allR_true fun j p hj => hall j p (List.getElem?_eq_some_iff.1 hj).1 hj
theorem isName_bl {D : Nat} (hD : 4 ≤ D) {s : List UInt8} (hl : s.length ≤ reachBytes) : bl (K DG D) 213 [.imm (.str s)] = some (.imm (.bool (isNm s))) := by
  obtain ⟨d, rfl⟩ : ∃ d, D = d + 1 := ⟨D - 1, by omega⟩
  have key : ∃ n', K DG (d + 1) 213 [.imm (.str s)] .lf 0 0 = some (.imm (.bool (isNm s)), .lf, n') := by
    rw [D.k213]
    simp only [D.f213, fn_run, B5, fnEnd, argsT, opRun, PT.get_put, dstep, ev, evs, evO, give, giveI, binOf, isNilK, PM.flip, putT, putL, putH, loadOf, storeOf, cut, over, ofCells, asNat, natOr, calm, clashes, Acc.clash, ressOf, resOf, frz, frz.frzs, DV.flat, DV.flat.flats, binStr, ansT, Option.map, List.length_cons, List.length_nil, reduceIte, Nat.reduceEqDiff, Nat.reduceAdd]
    generalize hrun : D.l213_0.run DG (K DG d) 0 _ = r
    obtain ⟨e, st', rfl, hq⟩ : ∃ e st', r = some (e, st') ∧ ((e = .ret ∧ st'.T.get 2 = some (.imm (.bool false)) ∧ st'.H = .lf ∧ allR (RS s) = false) ∨
        (e = .exit 0 ∧ st'.T.get 3 = some (.imm (.int .i64 (RS s).length)) ∧ st'.H = .lf ∧ allR (RS s) = true)) := by
      rw [← hrun]
      refine loopW (by omega) hl ⟨0, by omega, by simp, by simp, by simp [PT.get_put], by simp [PT.get_put], ⟨0, by simp [PT.get_put], by simp [PT.get_put]⟩, rfl, fun j p hj => absurd hj (by omega)⟩
    clear hrun
    rcases hq with ⟨rfl, q1, q2, q3⟩ | ⟨rfl, q1, q2, q3⟩
    · simp [q1, q2, isNm, q3, B5, fnEnd, argsT, opRun, PT.get_put, dstep, ev, evs, evO, give, giveI, binOf, isNilK, PM.flip, putT, putL, putH, loadOf, storeOf, cut, over, ofCells, asNat, natOr, calm, clashes, Acc.clash, ressOf, resOf, frz, frz.frzs, DV.flat, DV.flat.flats, binStr, ansT, Option.map, List.length_cons, List.length_nil, reduceIte, Nat.reduceEqDiff, Nat.reduceAdd]
    · by_cases h1 : 1 ≤ (RS s).length
      · have h1' : (1 : Int) ≤ (RS s).length := by omega
        by_cases h2 : (RS s).length ≤ 8
        · have h2' : ((RS s).length : Int) ≤ 8 := by omega
          simp [q1, q2, isNm, q3, h1, h1', h2, h2', B5, fnEnd, argsT, opRun, PT.get_put, dstep, ev, evs, evO, give, giveI, binOf, isNilK, PM.flip, putT, putL, putH, loadOf, storeOf, cut, over, ofCells, asNat, natOr, calm, clashes, Acc.clash, ressOf, resOf, frz, frz.frzs, DV.flat, DV.flat.flats, binStr, ansT, Option.map, List.length_cons, List.length_nil, reduceIte, Nat.reduceEqDiff, Nat.reduceAdd]
        · have h2' : ¬ ((RS s).length : Int) ≤ 8 := by omega
          simp [q1, q2, isNm, q3, h1, h1', h2, h2', B5, fnEnd, argsT, opRun, PT.get_put, dstep, ev, evs, evO, give, giveI, binOf, isNilK, PM.flip, putT, putL, putH, loadOf, storeOf, cut, over, ofCells, asNat, natOr, calm, clashes, Acc.clash, ressOf, resOf, frz, frz.frzs, DV.flat, DV.flat.flats, binStr, ansT, Option.map, List.length_cons, List.length_nil, reduceIte, Nat.reduceEqDiff, Nat.reduceAdd]
      · have h1' : ¬ (1 : Int) ≤ (RS s).length := by omega
        simp [q1, q2, isNm, q3, h1, h1', B5, fnEnd, argsT, opRun, PT.get_put, dstep, ev, evs, evO, give, giveI, binOf, isNilK, PM.flip, putT, putL, putH, loadOf, storeOf, cut, over, ofCells, asNat, natOr, calm, clashes, Acc.clash, ressOf, resOf, frz, frz.frzs, DV.flat, DV.flat.flats, binStr, ansT, Option.map, List.length_cons, List.length_nil, reduceIte, Nat.reduceEqDiff, Nat.reduceAdd]
  obtain ⟨n', e⟩ := key
  exact bl_imm e
end Go.Proofs.YtlknjgmhfimhbacGreatDoor.D

