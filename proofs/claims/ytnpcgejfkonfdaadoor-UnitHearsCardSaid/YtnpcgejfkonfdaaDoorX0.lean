/-
  UnitHears: what its functions compute, and the law (part 0).
-/
import Derived.Test.YtnpcgejfkonfdaaDoorFn
import Derived.Test.YtnpcgejfkonfdaaDoorDoor
import Derived.Test.YtnpcgejfkonfdaaDoorWp
import Derived.Test.YtnpcgejfkonfdaaDoorSl
import Derived.Test.YtnpcgejfkonfdaaDoorRun
import Derived.Lib.DecodeNEq
-- CR
set_option linter.unusedVariables false
set_option linter.unusedSimpArgs false
set_option maxHeartbeats 16000000
namespace Go.Proofs.YtnpcgejfkonfdaaDoor.D
open Go Go.PM Go.Lib

inductive Th where
  | int (z : Int)
  | text (s : List UInt8)
  | bool (b : Bool)
def thI : Th → IV
  | .int z => .iface 3 (.int .i64 z)
  | .text s => .iface 9 (.str s)
  | .bool b => .iface 4 (.bool b)
def rowT (t : Th) : List DV := [.imm (thI t)]
/-- where a crate lies: its block, and that of its rows, from w on -/
def CrAt (H : PT HB) (w n a : Nat) (ts : List Th) : Prop := (w ≤ a ∧ a < n) ∧ ((H.get a = some ⟨1, [[.imm .nils]]⟩ ∧ ts = []) ∨
  ∃ b, (w ≤ b ∧ b < n) ∧ b ≠ a ∧ H.get a = some ⟨1, [[.sl b 0 ts.length ts.length]]⟩ ∧ H.get b = some ⟨1, ts.map rowT⟩)
theorem thI_sc (t : Th) : (DV.imm (thI t)).scal = true := by cases t <;> rfl
theorem CrNew {d : Nat} {H : PT HB} {n lo : Nat} : Fe (K (doorG 0 1) (d + 1) 49 [] H n lo) (fun v H' n' => v = .ptr n 0 0 ∧ n' = n + 1 ∧ CrAt H' n n' n [] ∧ ∀ j, j < n → H'.get j = H.get j) := by
  rw [D.k49]
  refine fn_dw rfl ?_
  simp (config := {contextual := true}) [CrAt, evParts, lay, unImms, unImm, mapO, B6, undT, fnEnd, argsT, PT.get_put, keep, opRun, ev, evs, evO, give, giveI, binOf, isNilK, PM.flip, putT, putL, putH, loadOf, storeOf, cut, over, ofCells, asNat, natOr, calm, clashes, Acc.clash, ressOf, resOf, frz, frz.frzs, DV.flat, DV.flat.flats, imms]
  intro j h e
  omega
theorem CrAdd {d : Nat} {H : PT HB} {w n a : Nat} {ts : List Th} {lo : Nat} (hlo : lo ≤ w) (h : CrAt H w n a ts) (hl : ts.length ≤ 100) (t : Th) :
    Fe (K (doorG 0 1) (d + 1) 92 [.ptr a 0 0, .imm (thI t)] H n lo) (fun v H' n' => v = .imm (.bool (decide (ts.length < 100))) ∧ n ≤ n' ∧ CrAt H' w n' a (if ts.length < 100 then ts ++ [t] else ts) ∧ ∀ j, j < w → H'.get j = H.get j) := by
  obtain ⟨⟨hwa, ha⟩, h⟩ := h
  have hs := thI_sc t
  rw [D.k92]
  refine fn_dw rfl ?_
  rcases h with ⟨h1, rfl⟩ | ⟨b, ⟨hwb, hb⟩, hba, h1, h2⟩
  · have a2 : 16 ≤ appMax := by unfold appMax; omega
    have a0 : 1 ≤ appMax := by unfold appMax; omega
    have i0 : ILt 0 100 = True := ilt_t (by omega)
    have e1 : ¬ a = n := by omega
    have l1 : lo ≤ a := by omega
    have l3 : lo ≤ n := by omega
    have e2 : ¬ n = a := by omega
    simp (config := {contextual := true}) [CrAt, h1, hs, l1, l3, e1, e2, ha, i0, evParts2, lay, unImms, unImm, mapO, rowsN, appOf, srcOf, rowsOf, raccOf, a0, a2, rowT, B6, undT, fnEnd, argsT, PT.get_put, keep, opRun, ev, evs, evO, give, giveI, binOf, isNilK, PM.flip, putT, putL, putH, loadOf, storeOf, cut, over, ofCells, asNat, natOr, calm, clashes, Acc.clash, ressOf, resOf, frz, frz.frzs, DV.flat, DV.flat.flats, imms]
    exact ⟨⟨by omega, n, by omega, e2, rfl, by simp [e2]⟩, fun j hj => by
      have h3 : ¬ j = n := by omega
      have h4 : ¬ j = a := by omega
      simp [h3, h4]⟩
  · have hab : ¬ a = b := fun e => hba e.symm
    have a1 : ¬ ts.length + 1 ≤ ts.length := by omega
    have a2 : ts.length + 1 ≤ appMax := by unfold appMax; omega
    have a3 : (ts.length + 1) * 16 ≤ appMax := by unfold appMax; omega
    have e1 : ¬ a = n := by omega
    have l1 : lo ≤ a := by omega
    have l3 : lo ≤ n := by omega
    have e2 : ¬ n = a := by omega
    have e3 : ¬ b = n := by omega
    have l2 : lo ≤ b := by omega
    have e4 : ¬ n = b := by omega
    by_cases hlt : ts.length < 100
    · have i0 : ILt (ts.length : Int) 100 = True := ilt_t (by omega)
      simp (config := {contextual := true}) [CrAt, h1, h2, hs, l1, l2, l3, hba, hab, e1, e2, e3, e4, ha, hlt, i0, evParts2, lay, unImms, unImm, mapO, rowsN, appOf, srcOf, rowsOf, raccOf, a1, a2, a3, rowT, B6, undT, fnEnd, argsT, PT.get_put, keep, opRun, ev, evs, evO, give, giveI, binOf, isNilK, PM.flip, putT, putL, putH, loadOf, storeOf, cut, over, ofCells, asNat, natOr, calm, clashes, Acc.clash, ressOf, resOf, frz, frz.frzs, DV.flat, DV.flat.flats, imms]
      exact ⟨⟨by omega, n, by omega, e2, rfl, by simp [e2]⟩, fun j hj => by
        have h3 : ¬ j = n := by omega
        have h4 : ¬ j = b := by omega
        have h5 : ¬ j = a := by omega
        simp [h3, h4, h5]⟩
    · have i0 : ILt (ts.length : Int) 100 = False := ilt_f (by omega)
      simp (config := {contextual := true}) [CrAt, h1, h2, hs, l1, l2, l3, hba, hab, e1, e2, e3, e4, ha, hlt, i0, B6, undT, fnEnd, argsT, PT.get_put, keep, opRun, ev, evs, evO, give, giveI, binOf, isNilK, PM.flip, putT, putL, putH, loadOf, storeOf, cut, over, ofCells, asNat, natOr, calm, clashes, Acc.clash, ressOf, resOf, frz, frz.frzs, DV.flat, DV.flat.flats, imms]
      exact ⟨hwa, b, ⟨hwb, hb⟩, hba, rfl, h2⟩
theorem ro_fe {K : Go.PM.Callee} {f : FuncId} {args : List DV} {H : PT HB} {n lo : Nat} {v : DV} (ho : DV.out.outs args = true) (h : Fe (K f args H n n) (fun v' H' n' => n ≤ n' ∧ frz H'.get n v' = some v)) :
    ∃ m, callM K .ro f args H n lo = some ⟨v, H, m, [.rA]⟩ ∧ n ≤ m := by
  obtain ⟨v', H', n', e, h1, h2⟩ := h
  exact ⟨n', by rw [callM_ro, if_pos ho, e]; simp only [h2]; rfl, h1⟩
def crX (H : PT HB) (a : Nat) : DV := match H.get a with
  | some ⟨_, [[x]]⟩ => x
  | _ => .imm .nils
theorem CrAll_ro {d : Nat} {H : PT HB} {w n a : Nat} {ts : List Th} (h : CrAt H w n a ts) (lo : Nat) :
    ∃ m, callM (K (doorG 0 1) (d + 1)) .ro 78 [.ptr a 0 0] H n lo = some ⟨crX H a, H, m, [.rA]⟩ ∧ n ≤ m := by
  obtain ⟨⟨hwa, ha⟩, h⟩ := h
  refine ro_fe rfl ?_
  rw [D.k78]
  refine fn_dw rfl ?_
  rcases h with ⟨h1, rfl⟩ | ⟨b, ⟨hwb, hb⟩, hba, h1, h2⟩
  · simp [h1, crX, B6, undT, fnEnd, argsT, PT.get_put, keep, opRun, ev, evs, evO, give, giveI, binOf, isNilK, PM.flip, putT, putL, putH, loadOf, storeOf, cut, over, ofCells, asNat, natOr, calm, clashes, Acc.clash, ressOf, resOf, frz, frz.frzs, DV.flat, DV.flat.flats, imms]
  · simp [h1, crX, hb, B6, undT, fnEnd, argsT, PT.get_put, keep, opRun, ev, evs, evO, give, giveI, binOf, isNilK, PM.flip, putT, putL, putH, loadOf, storeOf, cut, over, ofCells, asNat, natOr, calm, clashes, Acc.clash, ressOf, resOf, frz, frz.frzs, DV.flat, DV.flat.flats, imms]
def atI (ts : List Th) (i : Int) : IV := if 0 ≤ i ∧ i < ts.length then thI (ts.getD i.toNat (.int 0)) else .nili
theorem CrAt_ro {d : Nat} {H : PT HB} {w n a : Nat} {ts : List Th} (h : CrAt H w n a ts) (i : Int) (lo : Nat) :
    ∃ m, callM (K (doorG 0 1) (d + 2)) .ro 79 [.ptr a 0 0, .imm (.int .i64 i)] H n lo = some ⟨.imm (atI ts i), H, m, [.rA]⟩ ∧ n ≤ m := by
  obtain ⟨m, e, hm⟩ := CrAll_ro (d := d) h n
  obtain ⟨⟨hwa, ha⟩, h⟩ := h
  refine ro_fe rfl ?_
  rw [D.k79]
  refine fn_dw rfl ?_
  rcases h with ⟨h1, rfl⟩ | ⟨b, ⟨hwb, hb⟩, hba, h1, h2⟩
  · simp [h1, crX] at e
    by_cases h0 : (0 : Int) ≤ i
    · have q0 : ILt i 0 = False := ilt_f h0
      have q2 : ¬ i < 0 := by omega
      simp [e, h0, q0, q2, hm, atI, B6, undT, fnEnd, argsT, PT.get_put, keep, opRun, ev, evs, evO, give, giveI, binOf, isNilK, PM.flip, putT, putL, putH, loadOf, storeOf, cut, over, ofCells, asNat, natOr, calm, clashes, Acc.clash, ressOf, resOf, frz, frz.frzs, DV.flat, DV.flat.flats, imms]
    · have q0 : ILt i 0 = True := ilt_t (by omega)
      simp [e, h0, q0, hm, atI, B6, undT, fnEnd, argsT, PT.get_put, keep, opRun, ev, evs, evO, give, giveI, binOf, isNilK, PM.flip, putT, putL, putH, loadOf, storeOf, cut, over, ofCells, asNat, natOr, calm, clashes, Acc.clash, ressOf, resOf, frz, frz.frzs, DV.flat, DV.flat.flats, imms]
  · simp [h1, crX] at e
    by_cases h0 : (0 : Int) ≤ i
    · have q0 : ILt i 0 = False := ilt_f h0
      by_cases h3 : i < ts.length
      · have q1 : ILt i ts.length = True := ilt_t h3
        obtain ⟨k, rfl⟩ : ∃ k : Nat, i = k := ⟨i.toNat, by omega⟩
        have h4 : k < ts.length := by omega
        have e5 := idx_hp (h := H.get) (n := m) (row := 0) (cap := ts.length) (k := .i64) h2 rfl h0 h3
        have e6 : ¬ (k : Int) < 0 := by omega
        simp [e, h0, h3, h4, e6, q0, q1, e5, h2, hm, atI, rowT, B6, undT, fnEnd, argsT, PT.get_put, keep, opRun, ev, evs, evO, give, giveI, binOf, isNilK, PM.flip, putT, putL, putH, loadOf, storeOf, cut, over, ofCells, asNat, natOr, calm, clashes, Acc.clash, ressOf, resOf, frz, frz.frzs, DV.flat, DV.flat.flats, imms]
      · have q1 : ILt i ts.length = False := ilt_f (by omega)
        simp [e, h0, h3, q0, q1, hm, atI, B6, undT, fnEnd, argsT, PT.get_put, keep, opRun, ev, evs, evO, give, giveI, binOf, isNilK, PM.flip, putT, putL, putH, loadOf, storeOf, cut, over, ofCells, asNat, natOr, calm, clashes, Acc.clash, ressOf, resOf, frz, frz.frzs, DV.flat, DV.flat.flats, imms]
    · have q0 : ILt i 0 = True := ilt_t (by omega)
      simp [e, h0, q0, hm, atI, B6, undT, fnEnd, argsT, PT.get_put, keep, opRun, ev, evs, evO, give, giveI, binOf, isNilK, PM.flip, putT, putL, putH, loadOf, storeOf, cut, over, ofCells, asNat, natOr, calm, clashes, Acc.clash, ressOf, resOf, frz, frz.frzs, DV.flat, DV.flat.flats, imms]
theorem CrLen_ro {d : Nat} {H : PT HB} {w n a : Nat} {ts : List Th} (h : CrAt H w n a ts) (lo : Nat) :
    ∃ m, callM (K (doorG 0 1) (d + 2)) .ro 53 [.ptr a 0 0] H n lo = some ⟨.imm (.int .i64 ts.length), H, m, [.rA]⟩ ∧ n ≤ m := by
  obtain ⟨m, e, hm⟩ := CrAll_ro (d := d) h n
  obtain ⟨⟨hwa, ha⟩, h⟩ := h
  refine ro_fe rfl ?_
  rw [D.k53]
  refine fn_dw rfl ?_
  rcases h with ⟨h1, rfl⟩ | ⟨b, ⟨hwb, hb⟩, hba, h1, h2⟩
  · simp [h1, crX] at e
    simp [e, hm, B6, undT, fnEnd, argsT, PT.get_put, keep, opRun, ev, evs, evO, give, giveI, binOf, isNilK, PM.flip, putT, putL, putH, loadOf, storeOf, cut, over, ofCells, asNat, natOr, calm, clashes, Acc.clash, ressOf, resOf, frz, frz.frzs, DV.flat, DV.flat.flats, imms]
  · simp [h1, crX] at e
    simp [e, hm, B6, undT, fnEnd, argsT, PT.get_put, keep, opRun, ev, evs, evO, give, giveI, binOf, isNilK, PM.flip, putT, putL, putH, loadOf, storeOf, cut, over, ofCells, asNat, natOr, calm, clashes, Acc.clash, ressOf, resOf, frz, frz.frzs, DV.flat, DV.flat.flats, imms]
def intOf : IV → Option Int
  | .iface 3 (.int .i64 z) => some z
  | _ => none
def textOf : IV → Option (List UInt8)
  | .iface 9 (.str z) => some z
  | _ => none
def boolOf : IV → Option Bool
  | .iface 4 (.bool z) => some z
  | _ => none
theorem CrInt_ro {d : Nat} {H : PT HB} {w n a : Nat} {ts : List Th} (h : CrAt H w n a ts) (i : Int) (lo : Nat) :
    ∃ m, callM (K (doorG 0 1) (d + 3)) .ro 54 [.ptr a 0 0, .imm (.int .i64 i)] H n lo = some ⟨.tup [.imm (.int .i64 ((intOf (atI ts i)).getD 0)), .imm (.bool (intOf (atI ts i)).isSome)], H, m, [.rA]⟩ ∧ n ≤ m := by
  obtain ⟨m, e, hm⟩ := CrAt_ro (d := d) h i n
  refine ro_fe rfl ?_
  rw [D.k54]
  refine fn_dw rfl ?_
  rcases hv : (if 0 ≤ i ∧ i < ts.length then some (ts.getD i.toNat (.int 0)) else none) with _ | ⟨_ | _ | _⟩
  all_goals
    have hq : atI ts i = (match (if 0 ≤ i ∧ i < ts.length then some (ts.getD i.toNat (.int 0)) else none) with | some t => thI t | none => .nili) := by
      unfold atI
      split <;> rfl
    rw [hv] at hq
    simp only [hq] at e ⊢
    simp [e, hm, thI, intOf, B6, undT, fnEnd, argsT, PT.get_put, keep, opRun, ev, evs, evO, give, giveI, binOf, isNilK, PM.flip, putT, putL, putH, loadOf, storeOf, cut, over, ofCells, asNat, natOr, calm, clashes, Acc.clash, ressOf, resOf, frz, frz.frzs, DV.flat, DV.flat.flats, imms]
theorem CrText_ro {d : Nat} {H : PT HB} {w n a : Nat} {ts : List Th} (h : CrAt H w n a ts) (i : Int) (lo : Nat) :
    ∃ m, callM (K (doorG 0 1) (d + 3)) .ro 55 [.ptr a 0 0, .imm (.int .i64 i)] H n lo = some ⟨.tup [.imm (.str ((textOf (atI ts i)).getD [])), .imm (.bool (textOf (atI ts i)).isSome)], H, m, [.rA]⟩ ∧ n ≤ m := by
  obtain ⟨m, e, hm⟩ := CrAt_ro (d := d) h i n
  refine ro_fe rfl ?_
  rw [D.k55]
  refine fn_dw rfl ?_
  rcases hv : (if 0 ≤ i ∧ i < ts.length then some (ts.getD i.toNat (.int 0)) else none) with _ | ⟨_ | _ | _⟩
  all_goals
    have hq : atI ts i = (match (if 0 ≤ i ∧ i < ts.length then some (ts.getD i.toNat (.int 0)) else none) with | some t => thI t | none => .nili) := by
      unfold atI
      split <;> rfl
    rw [hv] at hq
    simp only [hq] at e ⊢
    simp [e, hm, thI, textOf, B6, undT, fnEnd, argsT, PT.get_put, keep, opRun, ev, evs, evO, give, giveI, binOf, isNilK, PM.flip, putT, putL, putH, loadOf, storeOf, cut, over, ofCells, asNat, natOr, calm, clashes, Acc.clash, ressOf, resOf, frz, frz.frzs, DV.flat, DV.flat.flats, imms]
theorem CrBool_ro {d : Nat} {H : PT HB} {w n a : Nat} {ts : List Th} (h : CrAt H w n a ts) (i : Int) (lo : Nat) :
    ∃ m, callM (K (doorG 0 1) (d + 3)) .ro 89 [.ptr a 0 0, .imm (.int .i64 i)] H n lo = some ⟨.tup [.imm (.bool ((boolOf (atI ts i)).getD false)), .imm (.bool (boolOf (atI ts i)).isSome)], H, m, [.rA]⟩ ∧ n ≤ m := by
  obtain ⟨m, e, hm⟩ := CrAt_ro (d := d) h i n
  refine ro_fe rfl ?_
  rw [D.k89]
  refine fn_dw rfl ?_
  rcases hv : (if 0 ≤ i ∧ i < ts.length then some (ts.getD i.toNat (.int 0)) else none) with _ | ⟨_ | _ | _⟩
  all_goals
    have hq : atI ts i = (match (if 0 ≤ i ∧ i < ts.length then some (ts.getD i.toNat (.int 0)) else none) with | some t => thI t | none => .nili) := by
      unfold atI
      split <;> rfl
    rw [hv] at hq
    simp only [hq] at e ⊢
    simp [e, hm, thI, boolOf, B6, undT, fnEnd, argsT, PT.get_put, keep, opRun, ev, evs, evO, give, giveI, binOf, isNilK, PM.flip, putT, putL, putH, loadOf, storeOf, cut, over, ofCells, asNat, natOr, calm, clashes, Acc.clash, ressOf, resOf, frz, frz.frzs, DV.flat, DV.flat.flats, imms]
theorem CrAddInt {d : Nat} {H : PT HB} {w n a : Nat} {ts : List Th} {lo : Nat} (hlo : lo ≤ w) (h : CrAt H w n a ts) (hl : ts.length ≤ 100) (z : Int) :
    Fe (K (doorG 0 1) (d + 2) 68 [.ptr a 0 0, .imm (.int .i64 z)] H n lo) (fun v H' n' => v = .imm (.bool (decide (ts.length < 100))) ∧ n ≤ n' ∧ CrAt H' w n' a (if ts.length < 100 then ts ++ [.int z] else ts) ∧ ∀ j, j < w → H'.get j = H.get j) := by
  obtain ⟨v, H', n', e, rfl, r⟩ := CrAdd (d := d) (lo := lo) hlo h hl (.int z)
  simp only [thI] at e
  rw [D.k68]
  refine fn_dw rfl ?_
  simp [e, B6, undT, fnEnd, argsT, PT.get_put, keep, opRun, ev, evs, evO, give, giveI, binOf, isNilK, PM.flip, putT, putL, putH, loadOf, storeOf, cut, over, ofCells, asNat, natOr, calm, clashes, Acc.clash, ressOf, resOf, frz, frz.frzs, DV.flat, DV.flat.flats, imms]
  exact r
theorem CrAddText {d : Nat} {H : PT HB} {w n a : Nat} {ts : List Th} {lo : Nat} (hlo : lo ≤ w) (h : CrAt H w n a ts) (hl : ts.length ≤ 100) (z : List UInt8) :
    Fe (K (doorG 0 1) (d + 2) 66 [.ptr a 0 0, .imm (.str z)] H n lo) (fun v H' n' => v = .imm (.bool (decide (ts.length < 100))) ∧ n ≤ n' ∧ CrAt H' w n' a (if ts.length < 100 then ts ++ [.text z] else ts) ∧ ∀ j, j < w → H'.get j = H.get j) := by
  obtain ⟨v, H', n', e, rfl, r⟩ := CrAdd (d := d) (lo := lo) hlo h hl (.text z)
  simp only [thI] at e
  rw [D.k66]
  refine fn_dw rfl ?_
  simp [e, B6, undT, fnEnd, argsT, PT.get_put, keep, opRun, ev, evs, evO, give, giveI, binOf, isNilK, PM.flip, putT, putL, putH, loadOf, storeOf, cut, over, ofCells, asNat, natOr, calm, clashes, Acc.clash, ressOf, resOf, frz, frz.frzs, DV.flat, DV.flat.flats, imms]
  exact r
theorem CrAddBool {d : Nat} {H : PT HB} {w n a : Nat} {ts : List Th} {lo : Nat} (hlo : lo ≤ w) (h : CrAt H w n a ts) (hl : ts.length ≤ 100) (z : Bool) :
    Fe (K (doorG 0 1) (d + 2) 77 [.ptr a 0 0, .imm (.bool z)] H n lo) (fun v H' n' => v = .imm (.bool (decide (ts.length < 100))) ∧ n ≤ n' ∧ CrAt H' w n' a (if ts.length < 100 then ts ++ [.bool z] else ts) ∧ ∀ j, j < w → H'.get j = H.get j) := by
  obtain ⟨v, H', n', e, rfl, r⟩ := CrAdd (d := d) (lo := lo) hlo h hl (.bool z)
  simp only [thI] at e
  rw [D.k77]
  refine fn_dw rfl ?_
  simp [e, B6, undT, fnEnd, argsT, PT.get_put, keep, opRun, ev, evs, evO, give, giveI, binOf, isNilK, PM.flip, putT, putL, putH, loadOf, storeOf, cut, over, ofCells, asNat, natOr, calm, clashes, Acc.clash, ressOf, resOf, frz, frz.frzs, DV.flat, DV.flat.flats, imms]
  exact r
end Go.Proofs.YtnpcgejfkonfdaaDoor.D

-- WR
set_option linter.unusedVariables false
set_option linter.unusedSimpArgs false
set_option maxHeartbeats 16000000
namespace Go.Proofs.YtnpcgejfkonfdaaDoor.D
open Go Go.PM Go.Lib

def ivY (b : UInt8) : List IV := [.int .u8 (b.toNat : Int)]
def rowY (b : UInt8) : List DV := [.imm (.int .u8 (b.toNat : Int))]
theorem imms_ivY (b : UInt8) : imms (ivY b) = rowY b := rfl
theorem map_imms_ivY (bs : List UInt8) : (bs.map ivY).map imms = bs.map rowY := by
  rw [List.map_map]
  rfl
/-- bytes that a function makes: as a value, or in a block from w on -/
def Yw (H : PT HB) (w n : Nat) (x : DV) (bs : List UInt8) : Prop := (x = .imm .nils ∧ bs = []) ∨ (x = .imm (.lst true 1 (bs.map ivY))) ∨
  ∃ id, (w ≤ id ∧ id < n) ∧ x = .sl id 0 bs.length bs.length ∧ H.get id = some ⟨1, bs.map rowY⟩
theorem Yw.sc {H : PT HB} {w n : Nat} {x : DV} {bs : List UInt8} (h : Yw H w n x bs) : x.scal = true := by
  rcases h with ⟨rfl, _⟩ | rfl | ⟨id, _, rfl, _⟩ <;> rfl
theorem Yw.len {H : PT HB} {w n : Nat} {x : DV} {bs : List UInt8} (h : Yw H w n x bs) : lenOf x = some bs.length := by
  rcases h with ⟨rfl, rfl⟩ | rfl | ⟨id, _, rfl, _⟩ <;> simp [lenOf]
theorem Yw.out {H : PT HB} {w n : Nat} {x : DV} {bs : List UInt8} (h : Yw H w n x bs) : x.out = true := by
  rcases h with ⟨rfl, _⟩ | rfl | ⟨id, _, rfl, _⟩ <;> rfl
theorem Yw.up {H : PT HB} {w n m : Nat} {x : DV} {bs : List UInt8} (h : Yw H w n x bs) (hm : n ≤ m) : Yw H w m x bs := by
  rcases h with h | h | ⟨id, ⟨h1, h2⟩, h3⟩
  · exact .inl h
  · exact .inr (.inl h)
  · exact .inr (.inr ⟨id, ⟨h1, by omega⟩, h3⟩)
theorem app_y {H : PT HB} {w n lo : Nat} {x y : DV} {bs cs : List UInt8} (hlo : lo ≤ w) (hwn : w ≤ n) (h : Yw H w n x bs) {src : Option Nat} (hs : srcOf H.get y = some (src, 1, cs.map rowY)) (hne : ∀ id a b, x = .sl id 0 a b → src ≠ some id) (hb : bs.length + cs.length ≤ 1000000) :
    ∃ x' hw n' acc, appOf H.get n lo 1 1 x y = some { v := x', hw := hw, n' := n', acc := acc } ∧ n ≤ n' ∧ Yw (putH H hw) w n' x' (bs ++ cs) ∧ (∀ j, j < w → (putH H hw).get j = H.get j) ∧ (∀ j, j < n → (∀ a b, x ≠ .sl j 0 a b) → (putH H hw).get j = H.get j) ∧ (∀ id a b, x' = .sl id 0 a b → (x = .sl id 0 a b ∧ cs = []) ∨ n ≤ id) ∧ (cs ≠ [] → ∃ id a b, x' = .sl id 0 a b) := by
  have am : 1000000 ≤ appMax := by unfold appMax; omega
  by_cases hc : cs = []
  · subst hc
    rcases h with ⟨rfl, rfl⟩ | rfl | ⟨id, ⟨h1, h2⟩, rfl, h3⟩
    · exact ⟨.imm .nils, [], n, raccOf src, by simp [appOf, hs], Nat.le_refl _, .inl ⟨rfl, rfl⟩, fun _ _ => rfl, fun _ _ _ => rfl, fun id a b e => (nomatch e), fun h => absurd rfl h⟩
    · exact ⟨.imm (.lst true 1 (bs.map ivY)), [], n, raccOf src, by simp [appOf, hs], Nat.le_refl _, .inr (.inl (by simp)), fun _ _ => rfl, fun _ _ _ => rfl, fun id a b e => (by cases e), fun h => absurd rfl h⟩
    · exact ⟨.sl id 0 bs.length bs.length, [], n, raccOf src, by simp [appOf, hs], Nat.le_refl _, .inr (.inr ⟨id, ⟨h1, h2⟩, by simp, by simpa [putH] using h3⟩), fun _ _ => rfl, fun _ _ _ => rfl, fun id' a b e => .inl ⟨e, rfl⟩, fun h => absurd rfl h⟩
  · have hcl : 0 < cs.length := List.length_pos_iff.2 hc
    have hc0 : ¬ cs.map rowY = [] := by simpa using hc
    rcases h with ⟨rfl, rfl⟩ | rfl | ⟨id, ⟨h1, h2⟩, rfl, h3⟩
    · simp only [List.length_nil, Nat.zero_add] at hb
      have a1 : cs.length ≤ appMax := by omega
      refine ⟨.sl n 0 cs.length cs.length, [(n, some ⟨1, cs.map rowY⟩)], n + 1, .wX n :: raccOf src, by simp [appOf, hs, hc, a1], by omega, .inr (.inr ⟨n, ⟨hwn, by omega⟩, by simp, by simp [putH, PT.get_put]⟩), fun j hj => ?_, fun j hj _ => ?_, fun id a b e => ?_, fun _ => ⟨_, _, _, rfl⟩⟩
      · have : ¬ j = n := by omega
        simp [putH, PT.get_put, this]
      · have : ¬ j = n := by omega
        simp [putH, PT.get_put, this]
      · cases e; exact .inr (Nat.le_refl _)
    · have a1 : bs.length + cs.length ≤ appMax := by omega
      refine ⟨.sl n 0 (bs.length + cs.length) (bs.length + cs.length), [(n, some ⟨1, (bs ++ cs).map rowY⟩)], n + 1, .wX n :: raccOf src, by simp [appOf, hs, hc, a1, Function.comp_def, imms_ivY], by omega, .inr (.inr ⟨n, ⟨hwn, by omega⟩, by simp, by simp [putH, PT.get_put]⟩), fun j hj => ?_, fun j hj _ => ?_, fun id a b e => ?_, fun _ => ⟨_, _, _, rfl⟩⟩
      · have : ¬ j = n := by omega
        simp [putH, PT.get_put, this]
      · have : ¬ j = n := by omega
        simp [putH, PT.get_put, this]
      · cases e; exact .inr (Nat.le_refl _)
    · have a1 : bs.length + cs.length ≤ appMax := by omega
      have a2 : ¬ bs.length + cs.length ≤ bs.length := by omega
      have a3 : lo ≤ id := by omega
      have a4 : ¬ src = some id := hne id _ _ rfl
      refine ⟨.sl n 0 (bs.length + cs.length) (bs.length + cs.length), [(id, none), (n, some ⟨1, (bs ++ cs).map rowY⟩)], n + 1, .wX id :: .wX n :: raccOf src, by simp [appOf, hs, hc, a1, a2, a3, a4, h3], by omega, .inr (.inr ⟨n, ⟨hwn, by omega⟩, by simp, by simp [putH, PT.get_put]⟩), fun j hj => ?_, fun j hj hx => ?_, fun id a b e => ?_, fun _ => ⟨_, _, _, rfl⟩⟩
      · have e1 : ¬ j = n := by omega
        have e2 : ¬ j = id := by omega
        simp [putH, PT.get_put, e1, e2]
      · have e1 : ¬ j = n := by omega
        have e2 : ¬ j = id := fun e => hx _ _ (by rw [e])
        simp [putH, PT.get_put, e1, e2]
      · cases e; exact .inr (Nat.le_refl _)
def numY (m : Nat) : Nat → List UInt8
  | 0 => []
  | k + 1 => UInt8.ofNat (m / 256 ^ k) :: numY m k
theorem numY_len (m : Nat) : ∀ k, (numY m k).length = k
  | 0 => rfl
  | k + 1 => by rw [numY, List.length_cons, numY_len m k]
theorem numL_y (m : Nat) : ∀ k, numL m k = (numY m k).map rowY
  | 0 => rfl
  | k + 1 => by
    rw [numL_succ, numL_y m k, numY, List.map_cons, rowY, UInt8.toNat_ofNat']
theorem number_y {d : Nat} {H : PT HB} {w n lo : Nat} {x : DV} {bs : List UInt8} (hlo : lo ≤ w) (hwn : w ≤ n) (h : Yw H w n x bs) (hx : ∀ es, x ≠ .imm (.lst true 1 es)) {m k : Nat} (hm : m < 2 ^ 64) (hk : 1 ≤ k) (hk8 : k ≤ 8) (hb : bs.length ≤ 100000) :
    ∃ x' H' n', K (doorG 0 1) (d + 1) 64 [x, .imm (.int .u64 (m : Int)), .imm (.int .i64 (k : Int))] H n lo = some (x', H', n') ∧ n ≤ n' ∧ Yw H' w n' x' (bs ++ numY m k) ∧ (∀ j, j < w → H'.get j = H.get j) ∧ (∀ j, j < n → (∀ a b, x ≠ .sl j 0 a b) → H'.get j = H.get j) ∧ ∃ id a b, x' = .sl id 0 a b ∧ n ≤ id := by
  have q1 : Nat.ble 1 k = true := Nat.ble_eq_true_of_le hk
  have q2 : Nat.ble k 8 = true := Nat.ble_eq_true_of_le hk8
  have q3 : Nat.ble m 18446744073709551615 = true := Nat.ble_eq_true_of_le (by omega)
  have q4 : Nat.ble lo n = true := Nat.ble_eq_true_of_le (by omega)
  rw [D.k64]
  have hl := numY_len m k
  rcases h with ⟨rfl, rfl⟩ | rfl | ⟨id, ⟨h1, h2⟩, rfl, h3⟩
  · refine ⟨.sl (n + k - 1) 0 k k, H.put (n + k - 1) (some ⟨1, numL m k⟩), n + k, ?_, by omega, .inr (.inr ⟨n + k - 1, ⟨by omega, by omega⟩, by simp [hl], by simp [PT.get_put, numL_y]⟩), fun j hj => ?_, fun j hj _ => ?_, _, _, _, rfl, by omega⟩
    · show primNumber [.imm .nils, .imm (.int .u64 (.ofNat m)), .imm (.int .i64 (.ofNat k))] H n lo = _
      unfold primNumber
      simp only [q1, q2, q3, q4, Bool.and_self, cond_true]
    · have : ¬ j = n + k - 1 := by omega
      simp [PT.get_put, this]
    · have : ¬ j = n + k - 1 := by omega
      simp [PT.get_put, this]
  · exact absurd rfl (hx _)
  · have q5 : Nat.beq bs.length (bs.map rowY).length = true := by simp
    have q6 : Nat.beq bs.length bs.length = true := by simp
    have q7 : Nat.ble lo id = true := Nat.ble_eq_true_of_le (by omega)
    have q8 : Nat.ble bs.length 1000000 = true := Nat.ble_eq_true_of_le (by omega)
    refine ⟨.sl (n + k - 1) 0 (bs.length + k) (bs.length + k), (H.put id none).put (n + k - 1) (some ⟨1, bs.map rowY ++ numL m k⟩), n + k, ?_, by omega, .inr (.inr ⟨n + k - 1, ⟨by omega, by omega⟩, by simp [hl], by simp [PT.get_put, numL_y]⟩), fun j hj => ?_, fun j hj hx => ?_, _, _, _, rfl, by omega⟩
    · show primNumber [.sl id 0 bs.length bs.length, .imm (.int .u64 (.ofNat m)), .imm (.int .i64 (.ofNat k))] H n lo = _
      unfold primNumber
      simp only [q1, q2, q3, q4, q5, q6, q7, q8, h3, Bool.and_self, cond_true]
      rfl
    · have e1 : ¬ j = n + k - 1 := by omega
      have e2 : ¬ j = id := by omega
      simp [PT.get_put, e1, e2]
    · have e1 : ¬ j = n + k - 1 := by omega
      have e2 : ¬ j = id := fun e => hx _ _ (by rw [e])
      simp [PT.get_put, e1, e2]
theorem CrAt.mono {H H' : PT HB} {v w n' a : Nat} {ts : List Th} (h : CrAt H v w a ts) (hn : w ≤ n') (hf : ∀ j, j < w → H'.get j = H.get j) : CrAt H' v n' a ts := by
  obtain ⟨⟨h1, h2⟩, h⟩ := h
  refine ⟨⟨h1, by omega⟩, ?_⟩
  rcases h with ⟨h3, rfl⟩ | ⟨b, ⟨h4, h5⟩, h6, h7, h8⟩
  · exact .inl ⟨by rw [hf a h2]; exact h3, rfl⟩
  · exact .inr ⟨b, ⟨h4, by omega⟩, h6, by rw [hf a h2]; exact h7, by rw [hf b h5]; exact h8⟩
def thB : Th → List UInt8
  | .int z => 1 :: numY (z % 2 ^ 64).toNat 8
  | .text s => 2 :: UInt8.ofNat s.length :: s
  | .bool b => [3, if b then 1 else 0]
def thOk : Th → Bool
  | .text s => decide (s.length ≤ 200)
  | _ => true
theorem atI_get {ts : List Th} {i : Nat} (hi : i < ts.length) : atI ts i = thI ts[i] := by
  unfold atI
  rw [if_pos (by omega)]
  simp [hi]
theorem truth_bl {d : Nat} (b : Bool) : bl (K (doorG 0 1) (d + 1)) 90 [.imm (.bool b)] = some (.imm (.int .u8 (if b then 1 else 0))) := by
  refine bl_fe ?_
  rw [D.k90]
  refine fn_dw rfl ?_
  cases b <;> simp [B6, undT, fnEnd, argsT, PT.get_put, keep, opRun, ev, evs, evO, give, giveI, binOf, isNilK, PM.flip, putT, putL, putH, loadOf, storeOf, cut, over, ofCells, asNat, natOr, calm, clashes, Acc.clash, ressOf, resOf, frz, frz.frzs, DV.flat, DV.flat.flats, imms]
theorem wz64 (z : Int) : ∃ m : Nat, m < 2 ^ 64 ∧ IntKind.u64.wrap z = (m : Int) ∧ (z % 2 ^ 64).toNat = m := by
  refine ⟨(z % 2 ^ 64).toNat, by omega, ?_, rfl⟩
  simp only [IntKind.wrap, IntKind.bits, IntKind.signed]
  simp
  omega
theorem thing_fn {d : Nat} {H : PT HB} {w n lo : Nat} {x : DV} {bs : List UInt8} (hlo : lo ≤ w) (hwn : w ≤ n) (h : Yw H w n x bs) {a : Nat} {ts : List Th} (hc : CrAt H 0 w a ts) {i : Nat} (hi : i < ts.length) (hb : bs.length ≤ 90000) (hts : ∀ s, ts[i] = .text s → s.length ≤ 9000) :
    ∃ x' H' n', K (doorG 0 1) (d + 4) 63 [x, .ptr a 0 0, .imm (.int .i64 (i : Int))] H n lo = some (.tup [x', .imm (.bool (thOk ts[i]))], H', n') ∧ n ≤ n' ∧ Yw H' w n' x' (bs ++ thB ts[i]) ∧ (∀ j, j < w → H'.get j = H.get j) := by
  have hc0 : CrAt H 0 n a ts := hc.mono hwn fun _ _ => rfl
  obtain ⟨m1, e1, hm1⟩ := CrInt_ro (d := d) hc0 i lo
  have hc1 : CrAt H 0 m1 a ts := hc.mono (by omega) fun _ _ => rfl
  obtain ⟨m2, e2, hm2⟩ := CrText_ro (d := d) hc1 i lo
  have hc2 : CrAt H 0 m2 a ts := hc.mono (by omega) fun _ _ => rfl
  obtain ⟨m3, e3, hm3⟩ := CrBool_ro (d := d) hc2 i lo
  rw [atI_get hi] at e1 e2 e3
  generalize ts[i] = t at *
  have hx := h.sc
  refine (fun (hq : Fe (K (doorG 0 1) (d + 4) 63 [x, .ptr a 0 0, .imm (.int .i64 (i : Int))] H n lo) fun v H' n' => ∃ x', v = .tup [x', .imm (.bool (thOk t))] ∧ n ≤ n' ∧ Yw H' w n' x' (bs ++ thB t) ∧ ∀ j, j < w → H'.get j = H.get j) => ?_) ?_
  · obtain ⟨v, H', n', e, x', rfl, r⟩ := hq
    exact ⟨x', H', n', e, r⟩
  rw [D.k63]
  refine fn_dw rfl ?_
  cases t with
  | int z =>
    obtain ⟨x1, hw, n1, acc, p1, p2, p3, p4, p5, p6, p7⟩ := app_y (y := .imm (.lst true 1 [[.int .u8 1]])) (cs := [1]) hlo (by omega) (h.up hm1) (src := none) rfl (fun _ _ _ _ => by simp) (by simp; omega)
    obtain ⟨m, hm, wz, mz⟩ := wz64 z
    obtain ⟨x2, H2, n2, r1, r2, r3, r4, r5, r6⟩ := number_y (d := d + 2) (m := m) (k := 8) hlo (by omega) p3 (fun es e => by obtain ⟨_, _, _, e'⟩ := p7 (by simp); rw [e] at e'; cases e') hm (by omega) (by omega) (by simp; omega)
    have r1' : K (doorG 0 1) (d + 3) 64 [x1, .imm (.int .u64 (m : Int)), .imm (.int .i64 8)] (putH H hw) n1 lo = some (x2, H2, n2) := r1
    simp only [thI, intOf, Option.getD_some, Option.isSome_some] at e1
    have xo := p3.out
    have xs := r3.sc
    have x2o := r3.out
    simp [e1, hx, p1, r1', xo, xs, x2o, wz, thOk, evParts2, lay, unImms, unImm, mapO, rowsN, B6, undT, fnEnd, argsT, PT.get_put, keep, opRun, ev, evs, evO, give, giveI, binOf, isNilK, PM.flip, putT, putL, putH, loadOf, storeOf, cut, over, ofCells, asNat, natOr, calm, clashes, Acc.clash, ressOf, resOf, frz, frz.frzs, DV.flat, DV.flat.flats, imms]
    exact ⟨by omega, by
      have e9 : thB (.int z) = 1 :: numY m 8 := by
        show 1 :: numY (z % 2 ^ 64).toNat 8 = _
        rw [mz]
      rw [e9]
      simpa using r3, fun j hj => (r4 j hj).trans (p4 j hj)⟩
  | text s =>
    have hsl := hts s rfl
    have w8 : IntKind.u8.wrap (s.length : Int) = ((UInt8.ofNat s.length).toNat : Int) := by
      rw [UInt8.toNat_ofNat']
      simp only [IntKind.wrap, IntKind.bits, IntKind.signed]
      simp
    generalize hk : UInt8.ofNat s.length = k at w8
    obtain ⟨x1, hw, n1, acc, p1, p2, p3, p4, p5, p6, p7⟩ := app_y (y := .imm (.lst true 1 [[.int .u8 2], [.int .u8 (k.toNat : Int)]])) (cs := [2, k]) hlo (by omega) (h.up (show n ≤ m2 by omega)) (src := none) rfl (fun _ _ _ _ => by simp) (by simp; omega)
    obtain ⟨x2, hw2, n2, acc2, q1, q2, q3, q4, q5, q6, q7⟩ := app_y (y := .imm (.str s)) (cs := s) hlo (by omega) p3 (src := none) rfl (fun _ _ _ _ => by simp) (by simp; omega)
    simp only [thI, intOf, textOf, Option.getD_some, Option.isSome_some, Option.getD_none, Option.isSome_none] at e1 e2
    have xo := p3.out
    have x1s := p3.sc
    have xs := q3.sc
    have x2o := q3.out
    by_cases h200 : s.length ≤ 200
    · have i0 : ILt 200 (s.length : Int) = False := ilt_f (by omega)
      simp [e1, e2, hx, p1, q1, xo, x1s, xs, x2o, w8, i0, h200, thOk, evParts2, lay, unImms, unImm, mapO, rowsN, B6, undT, fnEnd, argsT, PT.get_put, keep, opRun, ev, evs, evO, give, giveI, binOf, isNilK, PM.flip, putT, putL, putH, loadOf, storeOf, cut, over, ofCells, asNat, natOr, calm, clashes, Acc.clash, ressOf, resOf, frz, frz.frzs, DV.flat, DV.flat.flats, imms]
      exact ⟨by omega, by
        have e9 : thB (.text s) = 2 :: k :: s := by
          rw [← hk]
          rfl
        rw [e9]
        simpa using q3, fun j hj => (q4 j hj).trans (p4 j hj)⟩
    · have i0 : ILt 200 (s.length : Int) = True := ilt_t (by omega)
      simp [e1, e2, hx, p1, q1, xo, x1s, xs, x2o, w8, i0, h200, thOk, evParts2, lay, unImms, unImm, mapO, rowsN, B6, undT, fnEnd, argsT, PT.get_put, keep, opRun, ev, evs, evO, give, giveI, binOf, isNilK, PM.flip, putT, putL, putH, loadOf, storeOf, cut, over, ofCells, asNat, natOr, calm, clashes, Acc.clash, ressOf, resOf, frz, frz.frzs, DV.flat, DV.flat.flats, imms]
      exact ⟨by omega, by
        have e9 : thB (.text s) = 2 :: k :: s := by
          rw [← hk]
          rfl
        rw [e9]
        simpa using q3, fun j hj => (q4 j hj).trans (p4 j hj)⟩
  | bool b =>
    have et := truth_bl (d := d + 2) b
    have he : (if b then (1 : Int) else 0) = ((if b then (1 : UInt8) else 0).toNat : Int) := by cases b <;> rfl
    rw [he] at et
    generalize hk : (if b then (1 : UInt8) else 0) = k at et he
    obtain ⟨x1, hw, n1, acc, p1, p2, p3, p4, p5, p6, p7⟩ := app_y (y := .imm (.lst true 1 [[.int .u8 3], [.int .u8 (k.toNat : Int)]])) (cs := [3, k]) hlo (by omega) (h.up (show n ≤ m3 by omega)) (src := none) rfl (fun _ _ _ _ => by simp) (by simp; omega)
    simp only [thI, intOf, textOf, boolOf, Option.getD_some, Option.isSome_some, Option.getD_none, Option.isSome_none] at e1 e2 e3
    have xo := p3.out
    have x1s := p3.sc
    simp [e1, e2, e3, et, hx, p1, xo, x1s, thOk, evParts2, lay, unImms, unImm, mapO, rowsN, B6, undT, fnEnd, argsT, PT.get_put, keep, opRun, ev, evs, evO, give, giveI, binOf, isNilK, PM.flip, putT, putL, putH, loadOf, storeOf, cut, over, ofCells, asNat, natOr, calm, clashes, Acc.clash, ressOf, resOf, frz, frz.frzs, DV.flat, DV.flat.flats, imms]
    exact ⟨by omega, by
      have e9 : thB (.bool b) = [3, k] := by
        rw [← hk]
        rfl
      rw [e9]
      exact p3, p4⟩
end Go.Proofs.YtnpcgejfkonfdaaDoor.D

-- WP
set_option linter.unusedVariables false
set_option linter.unusedSimpArgs false
set_option maxHeartbeats 16000000
namespace Go.Proofs.YtnpcgejfkonfdaaDoor.D
open Go Go.PM Go.Lib

def thsB (ts : List Th) : List UInt8 := ts.flatMap thB
theorem thsB_len {ts : List Th} (h : ∀ t ∈ ts, (thB t).length ≤ 300) : (thsB ts).length ≤ 300 * ts.length := by
  induction ts with
  | nil => simp [thsB]
  | cons t ts ih =>
    have h1 := h t (by simp)
    have h2 := ih fun u hu => h u (by simp [hu])
    simp only [thsB, List.flatMap_cons, List.length_append, List.length_cons] at *
    omega
theorem thsB_succ {ts : List Th} {i : Nat} (hi : i < ts.length) : thsB (ts.take (i + 1)) = thsB (ts.take i) ++ thB ts[i] := by
  rw [List.take_add_one, List.getElem?_eq_getElem hi]
  simp only [Option.toList_some, thsB, List.flatMap_append, List.flatMap_cons, List.flatMap_nil, List.append_nil]
theorem rbW : 1000000 ≤ reachBytes := by decide
structure IPk (H0 : PT HB) (w a : Nat) (ts : List Th) (b0 : List UInt8) (i : Nat) (st : St) : Prop where
  c0 : st.T.get 0 = some (.ptr a 0 0)
  c16 : st.T.get 16 = some (.imm (.int .i64 (ts.length : Int)))
  c17 : st.T.get 17 = some (.imm (.int .i64 (i : Int)))
  y : ∃ x, st.T.get 4 = some x ∧ Yw st.H w st.n x (b0 ++ thsB (ts.take i))
  fr : ∀ j, j < w → st.H.get j = H0.get j
  hn : w ≤ st.n
  ok : ∀ t ∈ ts.take i, thOk t = true
theorem loopPk {d : Nat} {H0 : PT HB} {w a lo : Nat} {ts : List Th} {b0 : List UInt8} (hlo : lo ≤ w) (hc : CrAt H0 0 w a ts) (hl : ts.length ≤ 100) (hts : ∀ t ∈ ts, (thB t).length ≤ 300) (hb0 : b0.length ≤ 10)
    {st : St} (h : IPk H0 w a ts b0 0 st) {ks : List Kf} {Q : Ex → St → Prop}
    (hk : ∀ s', IPk H0 w a ts b0 ts.length s' → Bk (doorG 0 1) (K (doorG 0 1) (d + 4)) lo (.exit 0) ks s' Q)
    (hr : ∀ s', (∃ t ∈ ts, thOk t = false) → s'.T.get 2 = some (.imm .nils) → s'.T.get 3 = some (.imm (.int .i64 1)) → (∀ j, j < w → s'.H.get j = H0.get j) → w ≤ s'.n → Bk (doorG 0 1) (K (doorG 0 1) (d + 4)) lo .ret ks s' Q) :
    Wp (doorG 0 1) (K (doorG 0 1) (d + 4)) lo D.l44_0 ks st Q := by
  refine dw_loop (N := ts.length) (small (by have := rbW; omega)) (fun i st => IPk H0 w a ts b0 i st) (fun e s' => (e = .exit 0 ∧ IPk H0 w a ts b0 ts.length s') ∨ (e = .ret ∧ (∃ t ∈ ts, thOk t = false) ∧ s'.T.get 2 = some (.imm .nils) ∧ s'.T.get 3 = some (.imm (.int .i64 1)) ∧ (∀ j, j < w → s'.H.get j = H0.get j) ∧ w ≤ s'.n)) (fun i st hle hI => ?_) h (fun e s' h => by
    rcases h with ⟨rfl, h⟩ | ⟨rfl, h1, h2, h3, h4, h5⟩
    · exact hk s' h
    · exact hr s' h1 h2 h3 h4 h5)
  obtain ⟨c0, c16, c17, ⟨x, c4, hy⟩, fr, hn, ok⟩ := hI
  by_cases hi : i < ts.length
  · have hi' : ILt (i : Int) ts.length = True := ilt_t (by omega)
    have hw8 : IntKind.i64.wrap ((i : Int) + 1) = (i : Int) + 1 := wr_succ hi (by have := rbW; omega)
    have hlen : (b0 ++ thsB (ts.take i)).length ≤ 90000 := by
      have := thsB_len (ts := ts.take i) fun t ht => hts t (List.mem_of_mem_take ht)
      simp only [List.length_append, List.length_take] at *
      omega
    have hc1 : CrAt st.H 0 w a ts := hc.mono (Nat.le_refl _) fr
    obtain ⟨x', H', n', e, r1, r2, r3⟩ := thing_fn (d := d) hlo hn hy hc1 hi hlen (fun s hs => by
      have := hts _ (List.getElem_mem hi)
      rw [hs] at this
      simp [thB] at this
      omega)
    have xo := hy.out
    have xs := hy.sc
    have x2 := r2.sc
    generalize hQ : (fun (e : Ex) (s' : St) => _) = Q'
    simp only [D.l44_0b]
    cases hok : thOk ts[i] with
    | true =>
      rw [hok] at e
      simp [c0, c16, c17, c4, hi', hw8, e, xo, xs, x2, B6, undT, fnEnd, argsT, PT.get_put, keep, opRun, ev, evs, evO, give, giveI, binOf, isNilK, PM.flip, putT, putL, putH, loadOf, storeOf, cut, over, ofCells, asNat, natOr, calm, clashes, Acc.clash, ressOf, resOf, frz, frz.frzs, DV.flat, DV.flat.flats, imms]
      subst hQ
      refine .inl ⟨rfl, hi, by simp [PT.get_put], by simp [PT.get_put], by simp [PT.get_put], ⟨x', by simp [PT.get_put], ?_⟩, fun j hj => (r3 j hj).trans (fr j hj), by simp; omega, fun t ht => ?_⟩
      · rw [thsB_succ hi, ← List.append_assoc]
        exact r2
      · rw [List.take_add_one, List.getElem?_eq_getElem hi] at ht
        rcases List.mem_append.1 ht with ht | ht
        · exact ok t ht
        · simp at ht
          rw [ht]
          exact hok
    | false =>
      rw [hok] at e
      simp [c0, c16, c17, c4, hi', hw8, e, xo, xs, x2, B6, undT, fnEnd, argsT, PT.get_put, keep, opRun, ev, evs, evO, give, giveI, binOf, isNilK, PM.flip, putT, putL, putH, loadOf, storeOf, cut, over, ofCells, asNat, natOr, calm, clashes, Acc.clash, ressOf, resOf, frz, frz.frzs, DV.flat, DV.flat.flats, imms]
      subst hQ
      exact .inr ⟨nofun, .inr ⟨rfl, ⟨ts[i], List.getElem_mem hi, hok⟩, by simp [PT.get_put], by simp [PT.get_put], fun j hj => (r3 j hj).trans (fr j hj), by simp; omega⟩⟩
  · obtain rfl : i = ts.length := by omega
    generalize hQ : (fun (e : Ex) (s' : St) => _) = Q'
    simp only [D.l44_0b]
    simp [c0, c16, c17, c4, B6, undT, fnEnd, argsT, PT.get_put, keep, opRun, ev, evs, evO, give, giveI, binOf, isNilK, PM.flip, putT, putL, putH, loadOf, storeOf, cut, over, ofCells, asNat, natOr, calm, clashes, Acc.clash, ressOf, resOf, frz, frz.frzs, DV.flat, DV.flat.flats, imms]
    subst hQ
    exact .inr ⟨nofun, .inl ⟨rfl, by simp [PT.get_put, c0], by simp [PT.get_put, c16], by simp [PT.get_put, c17], ⟨x, by simp [PT.get_put, c4], hy⟩, fr, hn, ok⟩⟩
end Go.Proofs.YtnpcgejfkonfdaaDoor.D

-- WQ
set_option linter.unusedVariables false
set_option linter.unusedSimpArgs false
set_option maxHeartbeats 16000000
namespace Go.Proofs.YtnpcgejfkonfdaaDoor.D
open Go Go.PM Go.Lib

noncomputable def crcS (bs : List UInt8) (s : Nat) : Nat := bs.foldl (fun s b => crcByte s b.toNat) s
theorem crcS_lt : ∀ (bs : List UInt8) {s : Nat}, s < 2 ^ 32 → crcS bs s < 2 ^ 32
  | [], s, h => h
  | b :: bs, s, h => crcS_lt bs (crcByte_lt h b.toNat_lt)
theorem crcRows_y : ∀ (bs : List UInt8) (s : Nat), crcRows (bs.map ivY) s = some (crcS bs s)
  | [], s => rfl
  | b :: bs, s => by
    have h1 : crcRows ((b :: bs).map ivY) s = crcStep (ivY b) s (crcRows (bs.map ivY)) := rfl
    have h2 : crcStep (ivY b) s (crcRows (bs.map ivY)) = bif Nat.ble b.toNat 255 then fN (crcByte s b.toNat) (crcRows (bs.map ivY)) else none := rfl
    have h3 : Nat.ble b.toNat 255 = true := Nat.ble_eq_true_of_le (by have := b.toNat_lt; omega)
    rw [h1, h2, h3, cond_true, fN_eq, crcRows_y bs]
    rfl
noncomputable def crcF (bs : List UInt8) : Nat := Nat.xor (crcS bs 4294967295) 4294967295
theorem crcF_lt (bs : List UInt8) : crcF bs < 2 ^ 32 := Nat.xor_lt_two_pow (crcS_lt bs (by decide)) (by decide)
theorem sum_y {d : Nat} {H : PT HB} {n lo : Nat} {f g : Bool} {bs : List UInt8} (hb : bs.length ≤ 1000000) :
    K (doorG 0 1) (d + 1) 65 [.imm (.lst g 1 [[.lst f 1 (bs.map ivY)]])] H n lo = some (.imm (.int .u32 (crcF bs : Int)), H, n) := by
  rw [D.k65]
  show primRef [.imm (.lst f 1 (bs.map ivY))] H n lo = _
  unfold primRef
  simp only [List.length_map]
  rw [Nat.ble_eq_true_of_le hb, cond_true, crcRows_y]
  rfl
theorem sum_bl {d : Nat} {f g : Bool} {bs : List UInt8} (hb : bs.length ≤ 1000000) :
    bl (K (doorG 0 1) (d + 1)) 65 [.imm (.lst g 1 [[.lst f 1 (bs.map ivY)]])] = some (.imm (.int .u32 (crcF bs : Int))) :=
  bl_fe ⟨_, _, _, sum_y hb, rfl⟩
theorem frzI_imm {h : Nat → Option HB} {lo d : Nat} {v : IV} : frzI h lo d (.imm v) = some v := by cases d <;> rfl
theorem mapO_y {h : Nat → Option HB} {lo d : Nat} : ∀ bs : List UInt8, mapO (mapO (frzI h lo d)) (bs.map rowY) = some (bs.map ivY)
  | [] => rfl
  | b :: bs => by
    have h1 := mapO_y (h := h) (lo := lo) (d := d) bs
    simp [mapO, rowY, frzI_imm, ivY] at h1 ⊢
    rw [h1]
theorem call_sum {d : Nat} {H : PT HB} {n lo m id : Nat} {bs : List UInt8} (hb : bs.length ≤ 1000000) (h1 : H.get m = some ⟨1, [[.sl id 0 bs.length bs.length]]⟩) (h2 : H.get id = some ⟨1, bs.map rowY⟩) :
    callM (K (doorG 0 1) (d + 1)) .blind 65 [.sl m 0 1 1] H n lo = some ⟨.imm (.int .u32 (crcF bs : Int)), H, n, [.rA]⟩ := by
  have hl : (bs.map rowY).length = bs.length := by simp
  have e1 : frzI H.get 0 3 (.sl id 0 bs.length bs.length) = some (.lst false 1 (bs.map ivY)) := by
    show (if 0 ≤ id then _ else none) = _
    rw [if_pos (Nat.zero_le _), h2]
    show (if 0 + bs.length ≤ (bs.map rowY).length then _ else none) = _
    rw [if_pos (by omega)]
    show (mapO (mapO (frzI H.get 0 2)) (((bs.map rowY).drop 0).take bs.length)).map _ = _
    rw [List.drop_zero, List.take_of_length_le (by omega), mapO_y]
    rfl
  have e2 : snap.snaps H.get [.sl m 0 1 1] = some [.imm (.lst false 1 [[.lst false 1 (bs.map ivY)]])] := by
    have e3 : frzI H.get 0 4 (.sl m 0 1 1) = some (.lst false 1 [[.lst false 1 (bs.map ivY)]]) := by
      show (if 0 ≤ m then _ else none) = _
      rw [if_pos (Nat.zero_le _), h1]
      show (mapO (mapO (frzI H.get 0 3)) [[.sl id 0 bs.length bs.length]]).map _ = _
      simp [mapO, e1]
    show (match (frzI H.get 0 4 (.sl m 0 1 1)).map DV.imm, some [] with
      | some v', some vs' => some (v' :: vs')
      | _, _ => none) = _
    rw [e3]
    rfl
  have e4 : DV.pure.pures [.sl m 0 1 1] = false := rfl
  unfold callM
  simp only [e4, e2, sum_y hb]
  rfl
def bodyT (ts : List Th) : List UInt8 := UInt8.ofNat ts.length :: thsB ts
noncomputable def teleg (b : List UInt8) : List UInt8 := numY (crcF b) 4 ++ numY b.length 2 ++ b
theorem rows_y {H : PT HB} {id : Nat} {bs : List UInt8} (h : H.get id = some ⟨1, bs.map rowY⟩) : srcOf H.get (.sl id 0 bs.length bs.length) = some (some id, 1, bs.map rowY) := by
  simp [srcOf, rowsOf, h]
  exact List.take_of_length_le (by simp)
theorem wu64' {x : Nat} (h : x < 2 ^ 64) : IntKind.u64.wrap (x : Int) = x := by
  simp only [IntKind.wrap, IntKind.bits, IntKind.signed]
  simp
  omega
theorem Pack_fn {d : Nat} {H : PT HB} {n lo a : Nat} {ts : List Th} (hlo : lo ≤ n) (hc : CrAt H 0 n a ts) (hl : ts.length ≤ 100) (hts : ∀ t ∈ ts, (thB t).length ≤ 300) :
    Fe (K (doorG 0 1) (d + 5) 44 [.ptr a 0 0] H n lo) (fun v H' n' => n ≤ n' ∧ (∀ j, j < n → H'.get j = H.get j) ∧ (((¬ ((∀ t ∈ ts, thOk t = true) ∧ (bodyT ts).length ≤ 4000)) ∧ v = .tup [.imm .nils, .imm (.int .i64 1)]) ∨
      (((∀ t ∈ ts, thOk t = true) ∧ (bodyT ts).length ≤ 4000) ∧ ∃ x', v = .tup [x', .imm (.int .i64 0)] ∧ Yw H' n n' x' (teleg (bodyT ts))))) := by
  obtain ⟨m1, e1, hm1⟩ := CrLen_ro (d := d + 2) hc lo
  have hc1 : CrAt H 0 m1 a ts := hc.mono (by omega) fun _ _ => rfl
  obtain ⟨m2, e2, hm2⟩ := CrLen_ro (d := d + 2) hc1 lo
  have w8 : IntKind.u8.wrap (ts.length : Int) = ((UInt8.ofNat ts.length).toNat : Int) := by
    rw [UInt8.toNat_ofNat']
    simp only [IntKind.wrap, IntKind.bits, IntKind.signed]
    simp
  have hbl := thsB_len hts
  generalize hk : UInt8.ofNat ts.length = k at w8
  rw [D.k44]
  refine fn_dw rfl ?_
  simp [e1, e2, w8, evParts2, lay, unImms, unImm, mapO, rowsN, B6, undT, fnEnd, argsT, PT.get_put, keep, opRun, ev, evs, evO, give, giveI, binOf, isNilK, PM.flip, putT, putL, putH, loadOf, storeOf, cut, over, ofCells, asNat, natOr, calm, clashes, Acc.clash, ressOf, resOf, frz, frz.frzs, DV.flat, DV.flat.flats, imms]
  refine loopPk (w := n) (b0 := [k]) (H0 := H) hlo hc hl hts (by simp) ⟨by simp [PT.get_put], by simp [PT.get_put], by simp [PT.get_put], ⟨.imm (.lst true 1 (([k] ++ thsB (ts.take 0)).map ivY)), by simp [PT.get_put]; exact ⟨rfl, rfl⟩, .inr (.inl rfl)⟩, fun _ _ => rfl, by simp; omega, by simp⟩ (fun s' hI => ?_) (fun s' h1 h2 h3 h4 h5 => ?_)
  · obtain ⟨c0, c16, c17, ⟨x, c4, hy⟩, fr, hn, ok⟩ := hI
    rw [List.take_length] at hy ok
    have hbd : [k] ++ thsB ts = bodyT ts := by rw [← hk]; rfl
    rw [hbd] at hy
    have hbl2 : (bodyT ts).length ≤ 100000 := by simp [bodyT]; omega
    generalize bodyT ts = b at *
    have xs := hy.sc
    have xl := hy.len
    have hbn : b ≠ [] := by rw [← hbd]; simp
    by_cases h4 : b.length ≤ 4000
    · have i0 : ILt 4000 (b.length : Int) = False := ilt_f (by omega)
      have wl := wu64' (x := b.length) (by omega)
      have hcr := crcF_lt b
      have wc := wu64' (x := crcF b) (by omega)
      have xo := hy.out
      rcases hy with ⟨rfl, h0⟩ | rfl | ⟨id, ⟨g1, g2⟩, rfl, g3⟩
      · exact absurd h0 hbn
      · have es := sum_bl (d := d + 3) (f := true) (g := true) (bs := b) (by omega)
        obtain ⟨x1, H1, n1, p1, p2, p3, p4, p5, id1, u1, u2, rfl, p7⟩ := number_y (d := d + 3) (H := s'.H) (w := n) (n := s'.n) (lo := lo) (x := .imm .nils) (bs := []) (m := crcF b) (k := 4) hlo (by omega) (.inl ⟨rfl, rfl⟩) (fun _ e => by cases e) (by omega) (by omega) (by omega) (by simp)
        obtain ⟨x2, H2, n2, q1, q2, q3, q4, q5, id2, v1, v2, rfl, q7⟩ := number_y (d := d + 3) (m := b.length) (k := 2) hlo (by omega) p3 (fun _ e => by cases e) (by omega) (by omega) (by omega) (by simp [numY_len])
        obtain ⟨x3, hw, n3, acc, r1, r2, r3, r4, r5, r6, r7⟩ := app_y (y := .imm (.lst true 1 (b.map ivY))) (cs := b) hlo (by omega) q3 (src := none) (by simp [srcOf, rowsOf, Function.comp_def, imms_ivY]) (fun _ _ _ _ => by simp) (by simp [numY_len]; omega)
        have p1' : K (doorG 0 1) (d + 4) 64 [.imm .nils, .imm (.int .u64 (crcF b : Int)), .imm (.int .i64 4)] s'.H s'.n lo = some (.sl id1 0 u1 u2, H1, n1) := p1
        have q1' : K (doorG 0 1) (d + 4) 64 [.sl id1 0 u1 u2, .imm (.int .u64 (b.length : Int)), .imm (.int .i64 2)] H1 n1 lo = some (.sl id2 0 v1 v2, H2, n2) := q1
        have r3s := r3.sc
        have r3o := r3.out
        simp [c0, c16, c17, c4, xs, xl, i0, es, wc, wl, p1', q1', r1, r3s, r3o, evParts2, lay, unImms, unImm, mapO, rowsN, B6, undT, fnEnd, argsT, PT.get_put, keep, opRun, ev, evs, evO, give, giveI, binOf, isNilK, PM.flip, putT, putL, putH, loadOf, storeOf, cut, over, ofCells, asNat, natOr, calm, clashes, Acc.clash, ressOf, resOf, frz, frz.frzs, DV.flat, DV.flat.flats, imms]
        exact ⟨by omega, fun j hj => by rw [r4 j hj, q4 j hj, p4 j hj, fr j hj], ⟨ok, h4⟩, by simpa [teleg] using r3⟩
      · obtain ⟨m, hm⟩ : ∃ m, m = s'.n := ⟨_, rfl⟩
        have hH : ∀ j, j < m → (s'.H.put m (some ⟨1, [[.sl id 0 b.length b.length]]⟩)).get j = s'.H.get j := fun j hj => by
          have : ¬ j = m := by omega
          simp [PT.get_put, this]
        have es := fun n lo => call_sum (d := d + 3) (H := s'.H.put m (some ⟨1, [[.sl id 0 b.length b.length]]⟩)) (n := n) (lo := lo) (m := m) (id := id) (bs := b) (by omega) (by simp [PT.get_put]) (by rw [hH id (by omega)]; exact g3)
        obtain ⟨x1, H1, n1, p1, p2, p3, p4, p5, id1, u1, u2, rfl, p7⟩ := number_y (d := d + 3) (H := s'.H.put m (some ⟨1, [[.sl id 0 b.length b.length]]⟩)) (w := n) (n := m + 1) (lo := lo) (x := .imm .nils) (bs := []) (m := crcF b) (k := 4) hlo (by omega) (.inl ⟨rfl, rfl⟩) (fun _ e => by cases e) (by omega) (by omega) (by omega) (by simp)
        obtain ⟨x2, H2, n2, q1, q2, q3, q4, q5, id2, v1, v2, rfl, q7⟩ := number_y (d := d + 3) (m := b.length) (k := 2) hlo (by omega) p3 (fun _ e => by cases e) (by omega) (by omega) (by omega) (by simp [numY_len])
        have f1 : H2.get id = some ⟨1, b.map rowY⟩ := by
          rw [q5 id (by omega) (fun a b e => by cases e; omega), p5 id (by omega) (fun _ _ e => by cases e), hH id (by omega)]
          exact g3
        obtain ⟨x3, hw, n3, acc, r1, r2, r3, r4, r5, r6, r7⟩ := app_y (y := .sl id 0 b.length b.length) (cs := b) hlo (by omega) q3 (src := some id) (rows_y f1) (fun _ _ _ e => by cases e; simp; omega) (by simp [numY_len]; omega)
        have p1' : K (doorG 0 1) (d + 4) 64 [.imm .nils, .imm (.int .u64 (crcF b : Int)), .imm (.int .i64 4)] (s'.H.put m (some ⟨1, [[.sl id 0 b.length b.length]]⟩)) (m + 1) lo = some (.sl id1 0 u1 u2, H1, n1) := p1
        have q1' : K (doorG 0 1) (d + 4) 64 [.sl id1 0 u1 u2, .imm (.int .u64 (b.length : Int)), .imm (.int .i64 2)] H1 n1 lo = some (.sl id2 0 v1 v2, H2, n2) := q1
        have r3s := r3.sc
        have r3o := r3.out
        simp [c0, c16, c17, c4, xs, xl, i0, ← hm, es, wc, wl, p1', q1', r1, r3s, r3o, evParts2, lay, unImms, unImm, mapO, rowsN, B6, undT, fnEnd, argsT, PT.get_put, keep, opRun, ev, evs, evO, give, giveI, binOf, isNilK, PM.flip, putT, putL, putH, loadOf, storeOf, cut, over, ofCells, asNat, natOr, calm, clashes, Acc.clash, ressOf, resOf, frz, frz.frzs, DV.flat, DV.flat.flats, imms]
        exact ⟨by omega, fun j hj => by rw [r4 j hj, q4 j hj, p4 j hj, hH j (by omega), fr j hj], ⟨ok, h4⟩, by simpa [teleg] using r3⟩
    · have i0 : ILt 4000 (b.length : Int) = True := ilt_t (by omega)
      simp [c0, c16, c17, c4, xs, xl, i0, B6, undT, fnEnd, argsT, PT.get_put, keep, opRun, ev, evs, evO, give, giveI, binOf, isNilK, PM.flip, putT, putL, putH, loadOf, storeOf, cut, over, ofCells, asNat, natOr, calm, clashes, Acc.clash, ressOf, resOf, frz, frz.frzs, DV.flat, DV.flat.flats, imms]
      exact ⟨hn, fr, fun _ => by omega⟩
  · simp [h2, h3, B6, undT, fnEnd, argsT, PT.get_put, keep, opRun, ev, evs, evO, give, giveI, binOf, isNilK, PM.flip, putT, putL, putH, loadOf, storeOf, cut, over, ofCells, asNat, natOr, calm, clashes, Acc.clash, ressOf, resOf, frz, frz.frzs, DV.flat, DV.flat.flats, imms]
    obtain ⟨t, ht, ho⟩ := h1
    exact ⟨h5, h4, fun hh => by rw [hh t ht] at ho; cases ho⟩
end Go.Proofs.YtnpcgejfkonfdaaDoor.D

-- WA
set_option linter.unusedVariables false
set_option linter.unusedSimpArgs false
set_option maxHeartbeats 16000000
namespace Go.Proofs.YtnpcgejfkonfdaaDoor.D
open Go Go.PM Go.Lib

def valY (bs : List UInt8) (z : Nat) : Nat := bs.foldl (fun z b => z * 256 + b.toNat) z
theorem takeB_y : ∀ (bs : List UInt8) (k z : Nat), k ≤ bs.length → takeB (bs.map ivY) k z = some (valY (bs.take k) z)
  | bs, 0, z, _ => by rw [takeB_zero]; simp [valY]
  | [], k + 1, z, h => by simp at h
  | b :: bs, k + 1, z, h => by
    have h1 : takeB ((b :: bs).map ivY) (k + 1) z = takeStep (ivY b) z (takeB (bs.map ivY) k) := rfl
    have h2 : takeStep (ivY b) z (takeB (bs.map ivY) k) = bif Nat.ble b.toNat 255 then fN (z * 256 + b.toNat) (takeB (bs.map ivY) k) else none := rfl
    have h3 : Nat.ble b.toNat 255 = true := Nat.ble_eq_true_of_le (by have := b.toNat_lt; omega)
    rw [h1, h2, h3, cond_true, fN_eq, takeB_y bs k _ (by simpa using h)]
    rfl
theorem taken_y {d : Nat} {H : PT HB} {n lo k : Nat} {f : Bool} {bs : List UInt8} (hb : bs.length ≤ 1000000) (hk : 1 ≤ k) (hk8 : k ≤ 8) (h : k ≤ bs.length) :
    callM (K (doorG 0 1) (d + 1)) .ro 50 [.imm (.lst f 1 (bs.map ivY)), .imm (.int .i64 (k : Int))] H n lo = some ⟨.tup [.imm (.int .u64 (valY (bs.take k) 0 : Int)), .imm (.lst f 1 ((bs.drop k).map ivY)), .imm (.bool true)], H, n, [.rA]⟩ := by
  have e : K (doorG 0 1) (d + 1) 50 [.imm (.lst f 1 (bs.map ivY)), .imm (.int .i64 (k : Int))] H n n = some (.tup [.imm (.int .u64 (valY (bs.take k) 0 : Int)), .imm (.lst f 1 ((bs.drop k).map ivY)), .imm (.bool true)], H, n) := by
    rw [D.k50]
    show primTaken [.imm (.lst f 1 (bs.map ivY)), .imm (.int .i64 (.ofNat k))] H n n = _
    unfold primTaken
    simp only [List.length_map, Nat.ble_eq_true_of_le hb, Nat.ble_eq_true_of_le hk, Nat.ble_eq_true_of_le hk8, Nat.ble_eq_true_of_le h, Bool.and_self, cond_true, takeB_y bs k 0 h, List.map_drop]
    rfl
  rw [callM_ro, if_pos (by rfl), e]
  rfl
theorem taken_n {d : Nat} {H : PT HB} {n lo k : Nat} {f : Bool} {bs : List UInt8} (hb : bs.length ≤ 1000000) (hk : 1 ≤ k) (hk8 : k ≤ 8) (h : bs.length < k) :
    callM (K (doorG 0 1) (d + 1)) .ro 50 [.imm (.lst f 1 (bs.map ivY)), .imm (.int .i64 (k : Int))] H n lo = some ⟨.tup [.imm (.int .u64 0), .imm .nils, .imm (.bool false)], H, n, [.rA]⟩ := by
  have hq : Nat.ble k bs.length = false := by
    cases hx : Nat.ble k bs.length with
    | false => rfl
    | true => have := Nat.le_of_ble_eq_true hx; omega
  have e : K (doorG 0 1) (d + 1) 50 [.imm (.lst f 1 (bs.map ivY)), .imm (.int .i64 (k : Int))] H n n = some (.tup [.imm (.int .u64 0), .imm .nils, .imm (.bool false)], H, n) := by
    rw [D.k50]
    show primTaken [.imm (.lst f 1 (bs.map ivY)), .imm (.int .i64 (.ofNat k))] H n n = _
    unfold primTaken
    simp only [List.length_map, Nat.ble_eq_true_of_le hb, Nat.ble_eq_true_of_le hk, Nat.ble_eq_true_of_le hk8, hq, Bool.and_self, cond_true, cond_false]
  rw [callM_ro, if_pos (by rfl), e]
  rfl
theorem unI_imms : ∀ e : List IV, unImms (imms e) = some e
  | [] => rfl
  | x :: e => by
    have := unI_imms e
    unfold unImms at this ⊢
    simp [imms, mapO, unImm] at this ⊢
    rw [this]
theorem mapO_unI : ∀ es : List (List IV), mapO unImms (es.map imms) = some es
  | [] => rfl
  | e :: es => by
    have := mapO_unI es
    simp [mapO, unI_imms] at this ⊢
    rw [this]
theorem bytes_y : ∀ bs : List UInt8, bytesOf (bs.map ivY) = some bs
  | [] => rfl
  | b :: bs => by
    have h := bytes_y bs
    have h1 : PM.byteOf (ivY b) = some b := by
      have := b.toNat_lt
      have h2 : (0 : Int) ≤ b.toNat ∧ (b.toNat : Int) < 256 := by omega
      show (if (0 : Int) ≤ b.toNat ∧ (b.toNat : Int) < 256 then some (UInt8.ofNat (b.toNat : Int).toNat) else none) = _
      rw [if_pos h2]
      simp
    simp only [List.map_cons, bytesOf, h1, h]
theorem mapO_yt (bs : List UInt8) (k : Nat) : mapO unImms (List.map imms (List.take k (List.map ivY bs))) = some (List.take k (List.map ivY bs)) := mapO_unI _
theorem bytes_yt (bs : List UInt8) (k : Nat) : bytesOf (List.take k (List.map ivY bs)) = some (bs.take k) := by rw [← List.map_take, bytes_y]
def addF : List UInt8 → Option (Th × List UInt8)
  | [] => none
  | b :: r => if b.toNat = 1 then (if 8 ≤ r.length then some (.int (IntKind.i64.wrap (valY (r.take 8) 0 : Int)), r.drop 8) else none)
    else if b.toNat = 2 then (match r with
      | [] => none
      | l :: r' => if l.toNat ≤ r'.length then some (.text (r'.take l.toNat), r'.drop l.toNat) else none)
    else if b.toNat = 3 then (match r with
      | [] => none
      | v :: r' => some (.bool (decide (v.toNat = 1)), r'))
    else none
def AddP (H : PT HB) (w n a : Nat) (ts : List Th) (f : Bool) (bs : List UInt8) (v : DV) (H' : PT HB) (n' : Nat) : Prop := n ≤ n' ∧ (∀ j, j < w → H'.get j = H.get j) ∧ ((addF bs = none ∧ ∃ u, v = .tup [u, .imm (.bool false)]) ∨
  ∃ t r, addF bs = some (t, r) ∧ ∃ u, v = .tup [u, .imm (.bool (decide (ts.length < 100)))] ∧ (ts.length < 100 → u = .imm (.lst f 1 (r.map ivY)) ∧ CrAt H' w n' a (ts ++ [t])))
theorem add_fn {d : Nat} {H : PT HB} {w n lo a : Nat} {ts : List Th} (hlo : lo ≤ w) (hc : CrAt H w n a ts) (hl : ts.length ≤ 100) {f : Bool} {bs : List UInt8} (hb : bs.length ≤ 100000) :
    Fe (K (doorG 0 1) (d + 3) 51 [.ptr a 0 0, .imm (.lst f 1 (bs.map ivY))] H n lo) (AddP H w n a ts f bs) := by
  rw [D.k51]
  refine fn_dw rfl ?_
  cases bs with
  | nil =>
    have e1 := fun {H n lo} => taken_n (d := d + 1) (H := H) (n := n) (lo := lo) (k := 1) (f := f) (bs := []) (by simp) (by omega) (by omega) (by simp)
    simp only [List.map_nil] at e1
    simp at e1
    simp [e1, B6, undT, fnEnd, argsT, PT.get_put, keep, opRun, ev, evs, evO, give, giveI, binOf, isNilK, PM.flip, putT, putL, putH, loadOf, storeOf, cut, over, ofCells, asNat, natOr, calm, clashes, Acc.clash, ressOf, resOf, frz, frz.frzs, DV.flat, DV.flat.flats, imms]
    exact ⟨by omega, fun _ _ => rfl, .inl ⟨rfl, _, rfl⟩⟩
  | cons b r =>
    have e1 := fun {H n lo} => taken_y (d := d + 1) (H := H) (n := n) (lo := lo) (k := 1) (f := f) (bs := b :: r) (by omega) (by omega) (by omega) (by simp)
    simp [valY] at e1
    have hr : r.length ≤ 100000 := by simp at hb; omega
    by_cases h1 : b.toNat = 1
    · by_cases h8 : 8 ≤ r.length
      · have e2 := fun {H n lo} => taken_y (d := d + 1) (H := H) (n := n) (lo := lo) (k := 8) (f := f) (bs := r) (by omega) (by omega) (by omega) h8
        obtain ⟨v, H', n', e3, rfl, k1, k2, k3⟩ := CrAddInt (d := d) (lo := lo) hlo hc hl (IntKind.i64.wrap (valY (r.take 8) 0 : Int))
        simp at e2
        simp [h1, e1, e2, e3, B6, undT, fnEnd, argsT, PT.get_put, keep, opRun, ev, evs, evO, give, giveI, binOf, isNilK, PM.flip, putT, putL, putH, loadOf, storeOf, cut, over, ofCells, asNat, natOr, calm, clashes, Acc.clash, ressOf, resOf, frz, frz.frzs, DV.flat, DV.flat.flats, imms]
        exact ⟨k1, k3, .inr ⟨_, _, by
          show (if b.toNat = 1 then _ else _) = _
          rw [if_pos h1, if_pos h8], _, rfl, fun hlt => ⟨by rw [List.map_drop], by simpa [hlt] using k2⟩⟩⟩
      · have e2 := fun {H n lo} => taken_n (d := d + 1) (H := H) (n := n) (lo := lo) (k := 8) (f := f) (bs := r) (by omega) (by omega) (by omega) (by omega)
        simp at e2
        simp [h1, e1, e2, B6, undT, fnEnd, argsT, PT.get_put, keep, opRun, ev, evs, evO, give, giveI, binOf, isNilK, PM.flip, putT, putL, putH, loadOf, storeOf, cut, over, ofCells, asNat, natOr, calm, clashes, Acc.clash, ressOf, resOf, frz, frz.frzs, DV.flat, DV.flat.flats, imms]
        exact ⟨Nat.le_refl _, fun _ _ => rfl, .inl ⟨by
          show (if b.toNat = 1 then _ else _) = _
          rw [if_pos h1, if_neg h8], _, rfl⟩⟩
    · by_cases h2 : b.toNat = 2
      · cases r with
        | nil =>
          have e2 := fun {H n lo} => taken_n (d := d + 1) (H := H) (n := n) (lo := lo) (k := 1) (f := f) (bs := []) (by simp) (by omega) (by omega) (by simp)
          simp only [List.map_nil] at e1 e2
          simp at e2
          simp [h1, h2, e1, e2, B6, undT, fnEnd, argsT, PT.get_put, keep, opRun, ev, evs, evO, give, giveI, binOf, isNilK, PM.flip, putT, putL, putH, loadOf, storeOf, cut, over, ofCells, asNat, natOr, calm, clashes, Acc.clash, ressOf, resOf, frz, frz.frzs, DV.flat, DV.flat.flats, imms]
          exact ⟨Nat.le_refl _, fun _ _ => rfl, .inl ⟨by
            show (if b.toNat = 1 then _ else _) = _
            rw [if_neg h1, if_pos h2], _, rfl⟩⟩
        | cons l r =>
          have e2 := fun {H n lo} => taken_y (d := d + 1) (H := H) (n := n) (lo := lo) (k := 1) (f := f) (bs := l :: r) (by simp at hr ⊢; omega) (by omega) (by omega) (by simp)
          simp [valY] at e2
          simp only [List.map_cons] at e1
          have hl1 := l.toNat_lt
          have w9 : IntKind.i64.wrap (l.toNat : Int) = (l.toNat : Int) := by
            simp only [IntKind.wrap, IntKind.bits, IntKind.signed]
            simp
            omega
          by_cases h5 : l.toNat ≤ r.length
          · have i0 : ILt (r.length : Int) (l.toNat : Int) = False := ilt_f (by omega)
            obtain ⟨u, H', n', e3, rfl, k1, k2, k3⟩ := CrAddText (d := d) (lo := lo) hlo hc hl (r.take l.toNat)
            have hd : List.drop l.toNat (List.take r.length (List.map ivY r)) = (r.drop l.toNat).map ivY := by
              rw [List.take_of_length_le (by simp), List.map_drop]
            simp [h1, h2, h5, w9, i0, e1, e2, e3, sliceOf, rowsOf, mapO_yt, bytes_yt, hd, -List.map_take, -List.map_drop, B6, undT, fnEnd, argsT, PT.get_put, keep, opRun, ev, evs, evO, give, giveI, binOf, isNilK, PM.flip, putT, putL, putH, loadOf, storeOf, cut, over, ofCells, asNat, natOr, calm, clashes, Acc.clash, ressOf, resOf, frz, frz.frzs, DV.flat, DV.flat.flats, imms]
            exact ⟨k1, k3, .inr ⟨_, _, by
              show (if b.toNat = 1 then _ else _) = _
              rw [if_neg h1, if_pos h2]
              show (if l.toNat ≤ r.length then _ else _) = _
              rw [if_pos h5], _, rfl, fun hlt => ⟨rfl, by simpa [hlt] using k2⟩⟩⟩
          · have i0 : ILt (r.length : Int) (l.toNat : Int) = True := ilt_t (by omega)
            simp [h1, h2, h5, w9, i0, e1, e2, B6, undT, fnEnd, argsT, PT.get_put, keep, opRun, ev, evs, evO, give, giveI, binOf, isNilK, PM.flip, putT, putL, putH, loadOf, storeOf, cut, over, ofCells, asNat, natOr, calm, clashes, Acc.clash, ressOf, resOf, frz, frz.frzs, DV.flat, DV.flat.flats, imms]
            exact ⟨Nat.le_refl _, fun _ _ => rfl, .inl ⟨by
              show (if b.toNat = 1 then _ else _) = _
              rw [if_neg h1, if_pos h2]
              show (if l.toNat ≤ r.length then _ else _) = _
              rw [if_neg h5], _, rfl⟩⟩
      · by_cases h3 : b.toNat = 3
        · cases r with
          | nil =>
            have e2 := fun {H n lo} => taken_n (d := d + 1) (H := H) (n := n) (lo := lo) (k := 1) (f := f) (bs := []) (by simp) (by omega) (by omega) (by simp)
            simp only [List.map_nil] at e2
            simp only [List.map_nil] at e1
            simp at e2
            simp [h1, h2, h3, e1, e2, B6, undT, fnEnd, argsT, PT.get_put, keep, opRun, ev, evs, evO, give, giveI, binOf, isNilK, PM.flip, putT, putL, putH, loadOf, storeOf, cut, over, ofCells, asNat, natOr, calm, clashes, Acc.clash, ressOf, resOf, frz, frz.frzs, DV.flat, DV.flat.flats, imms]
            exact ⟨Nat.le_refl _, fun _ _ => rfl, .inl ⟨by
              show (if b.toNat = 1 then _ else _) = _
              rw [if_neg h1, if_neg h2, if_pos h3], _, rfl⟩⟩
          | cons v r =>
            have e2 := fun {H n lo} => taken_y (d := d + 1) (H := H) (n := n) (lo := lo) (k := 1) (f := f) (bs := v :: r) (by simp at hr ⊢; omega) (by omega) (by omega) (by simp)
            obtain ⟨u, H', n', e3, rfl, k1, k2, k3⟩ := CrAddBool (d := d) (lo := lo) hlo hc hl (decide (v.toNat = 1))
            simp [valY] at e2
            simp only [List.map_cons] at e1
            have fin : AddP H w n a ts f (b :: v :: r) (.tup [.imm (.lst f 1 (r.map ivY)), .imm (.bool (decide (ts.length < 100)))]) H' n' := ⟨k1, k3, .inr ⟨_, _, by
              show (if b.toNat = 1 then _ else _) = _
              rw [if_neg h1, if_neg h2, if_pos h3], _, rfl, fun hlt => ⟨rfl, by simpa [hlt] using k2⟩⟩⟩
            by_cases hv : v.toNat = 1
            · simp only [hv, decide_true] at e3
              simp [h1, h2, h3, hv, e1, e2, e3, B6, undT, fnEnd, argsT, PT.get_put, keep, opRun, ev, evs, evO, give, giveI, binOf, isNilK, PM.flip, putT, putL, putH, loadOf, storeOf, cut, over, ofCells, asNat, natOr, calm, clashes, Acc.clash, ressOf, resOf, frz, frz.frzs, DV.flat, DV.flat.flats, imms]
              exact fin
            · have hv' : ¬ (v.toNat : Int) = 1 := by omega
              simp only [hv, decide_false] at e3
              simp [h1, h2, h3, hv, hv', e1, e2, e3, B6, undT, fnEnd, argsT, PT.get_put, keep, opRun, ev, evs, evO, give, giveI, binOf, isNilK, PM.flip, putT, putL, putH, loadOf, storeOf, cut, over, ofCells, asNat, natOr, calm, clashes, Acc.clash, ressOf, resOf, frz, frz.frzs, DV.flat, DV.flat.flats, imms]
              exact fin
        · have g1 : ¬ (b.toNat : Int) = 1 := by omega
          have g2 : ¬ (b.toNat : Int) = 2 := by omega
          have g3 : ¬ (b.toNat : Int) = 3 := by omega
          simp [g1, g2, g3, h1, h2, h3, e1, B6, undT, fnEnd, argsT, PT.get_put, keep, opRun, ev, evs, evO, give, giveI, binOf, isNilK, PM.flip, putT, putL, putH, loadOf, storeOf, cut, over, ofCells, asNat, natOr, calm, clashes, Acc.clash, ressOf, resOf, frz, frz.frzs, DV.flat, DV.flat.flats, imms]
          exact ⟨Nat.le_refl _, fun _ _ => rfl, .inl ⟨by
            show (if b.toNat = 1 then _ else _) = _
            rw [if_neg h1, if_neg h2, if_neg h3], _, rfl⟩⟩
theorem equal_y {d : Nat} {f g : Bool} {bs cs : List UInt8} :
    bl (K (doorG 0 1) (d + 1)) 52 [.imm (.lst f 1 (bs.map ivY)), .imm (.lst g 1 (cs.map ivY))] = some (.imm (.bool (decide (bs = cs)))) := by
  have q1 := mapO_unI (bs.map ivY)
  have q2 := mapO_unI (cs.map ivY)
  have q3 := bytes_y bs
  have q4 := bytes_y cs
  generalize bs.map ivY = es at *
  generalize cs.map ivY = fs at *
  refine bl_fe ?_
  rw [D.k52]
  refine fn_dw rfl ?_
  by_cases h : bs = cs
  · simp [q1, q2, q3, q4, h, rowsOf, raccOf, B6, undT, fnEnd, argsT, PT.get_put, keep, opRun, ev, evs, evO, give, giveI, binOf, isNilK, PM.flip, putT, putL, putH, loadOf, storeOf, cut, over, ofCells, asNat, natOr, calm, clashes, Acc.clash, ressOf, resOf, frz, frz.frzs, DV.flat, DV.flat.flats, imms]
  · simp [q1, q2, q3, q4, h, rowsOf, raccOf, B6, undT, fnEnd, argsT, PT.get_put, keep, opRun, ev, evs, evO, give, giveI, binOf, isNilK, PM.flip, putT, putL, putH, loadOf, storeOf, cut, over, ofCells, asNat, natOr, calm, clashes, Acc.clash, ressOf, resOf, frz, frz.frzs, DV.flat, DV.flat.flats, imms]
end Go.Proofs.YtnpcgejfkonfdaaDoor.D

-- WU
set_option linter.unusedVariables false
set_option linter.unusedSimpArgs false
set_option maxHeartbeats 16000000
namespace Go.Proofs.YtnpcgejfkonfdaaDoor.D
open Go Go.PM Go.Lib

def itF (bs : List UInt8) : Nat → Option (List Th × List UInt8)
  | 0 => some ([], bs)
  | i + 1 => match itF bs i with
    | some (ts, r) => match addF r with
      | some (t, r') => if ts.length < 100 then some (ts ++ [t], r') else none
      | none => none
    | none => none
theorem addF_len {bs r : List UInt8} {t : Th} (h : addF bs = some (t, r)) : r.length ≤ bs.length := by
  unfold addF at h
  split at h
  · cases h
  · rename_i b q
    split at h
    · split at h
      · cases h; simp; omega
      · cases h
    · split at h
      · split at h
        · cases h
        · split at h
          · cases h; simp; omega
          · cases h
      · split at h
        · split at h
          · cases h
          · cases h; simp; omega
        · cases h
structure IUn (H0 : PT HB) (w a N : Nat) (f : Bool) (d0 : DV) (bs : List UInt8) (i : Nat) (st : St) : Prop where
  c0 : st.T.get 0 = some d0
  c4 : st.T.get 4 = some (.ptr a 0 0)
  c22 : st.T.get 22 = some (.imm (.int .u64 (N : Int)))
  c23 : st.T.get 23 = some (.imm (.int .u64 (i : Int)))
  fr : ∀ j, j < w → st.H.get j = H0.get j
  hn : w ≤ st.n
  s : ∃ ts r, itF bs i = some (ts, r) ∧ ts.length ≤ 100 ∧ r.length ≤ 100000 ∧ st.T.get 6 = some (.imm (.lst f 1 (r.map ivY))) ∧ CrAt st.H w st.n a ts
theorem loopUn {d : Nat} {H0 : PT HB} {w a N lo : Nat} {f : Bool} {d0 : DV} {bs : List UInt8} (hlo : lo ≤ w) (hN : N ≤ 255)
    {st : St} (h : IUn H0 w a N f d0 bs 0 st) {ks : List Kf} {Q : Ex → St → Prop}
    (hk : ∀ s', IUn H0 w a N f d0 bs N s' → Bk (doorG 0 1) (K (doorG 0 1) (d + 3)) lo (.exit 0) ks s' Q)
    (hr : ∀ s', itF bs N = none → s'.T.get 2 = some (.imm .nilp) → s'.T.get 3 = some (.imm (.int .i64 2)) → (∀ j, j < w → s'.H.get j = H0.get j) → w ≤ s'.n → Bk (doorG 0 1) (K (doorG 0 1) (d + 3)) lo .ret ks s' Q) :
    Wp (doorG 0 1) (K (doorG 0 1) (d + 3)) lo D.l37_0 ks st Q := by
  refine dw_loop (N := N) (small (by have := rbW; omega)) (fun i st => IUn H0 w a N f d0 bs i st) (fun e s' => (e = .exit 0 ∧ IUn H0 w a N f d0 bs N s') ∨ (e = .ret ∧ (∃ i, i < N ∧ itF bs (i + 1) = none) ∧ s'.T.get 2 = some (.imm .nilp) ∧ s'.T.get 3 = some (.imm (.int .i64 2)) ∧ (∀ j, j < w → s'.H.get j = H0.get j) ∧ w ≤ s'.n)) (fun i st hle hI => ?_) h (fun e s' h => by
    rcases h with ⟨rfl, h⟩ | ⟨rfl, ⟨i, hi, h1⟩, h2, h3, h4, h5⟩
    · exact hk s' h
    · have this : ∀ k, itF bs (i + 1 + k) = none := fun k => by
        induction k with
        | zero => exact h1
        | succ k ih => rw [← Nat.add_assoc, itF, ih]
      have e9 := this (N - i - 1)
      rw [show i + 1 + (N - i - 1) = N by omega] at e9
      exact hr s' e9 h2 h3 h4 h5)
  obtain ⟨c0, c4, c22, c23, fr, hn, ts, r, hit, htl, hrl, c6, hc⟩ := hI
  by_cases hi : i < N
  · have hi' : ILt (i : Int) (N : Int) = True := ilt_t (by omega)
    have hw8 : IntKind.u64.wrap ((i : Int) + 1) = (i : Int) + 1 := wu64' (x := i + 1) (by omega)
    obtain ⟨v, H', n', e, k1, k2, k3⟩ := add_fn (d := d) hlo hc htl (f := f) hrl
    rcases k3 with ⟨ha, u, rfl⟩ | ⟨t, r', ha, u, rfl, hx⟩
    · generalize hQ : (fun (e : Ex) (s' : St) => _) = Q'
      simp only [D.l37_0b]
      simp [c0, c4, c6, c22, c23, hi', hw8, e, B6, undT, fnEnd, argsT, PT.get_put, keep, opRun, ev, evs, evO, give, giveI, binOf, isNilK, PM.flip, putT, putL, putH, loadOf, storeOf, cut, over, ofCells, asNat, natOr, calm, clashes, Acc.clash, ressOf, resOf, frz, frz.frzs, DV.flat, DV.flat.flats, imms]
      subst hQ
      exact .inr ⟨nofun, .inr ⟨rfl, ⟨i, hi, by simp only [itF, hit, ha]⟩, by simp [PT.get_put], by simp [PT.get_put], fun j hj => (k2 j hj).trans (fr j hj), by simp; omega⟩⟩
    · have hrl2 := addF_len ha
      by_cases hlt : ts.length < 100
      · obtain ⟨rfl, hcr⟩ := hx hlt
        simp only [hlt, decide_true] at e
        generalize hQ : (fun (e : Ex) (s' : St) => _) = Q'
        simp only [D.l37_0b]
        simp [c0, c4, c6, c22, c23, hi', hw8, e, -List.map_drop, B6, undT, fnEnd, argsT, PT.get_put, keep, opRun, ev, evs, evO, give, giveI, binOf, isNilK, PM.flip, putT, putL, putH, loadOf, storeOf, cut, over, ofCells, asNat, natOr, calm, clashes, Acc.clash, ressOf, resOf, frz, frz.frzs, DV.flat, DV.flat.flats, imms]
        subst hQ
        exact .inl ⟨rfl, hi, by simp [PT.get_put], by simp [PT.get_put], by simp [PT.get_put], by simp [PT.get_put], fun j hj => (k2 j hj).trans (fr j hj), by simp; omega, ts ++ [t], r', by simp only [itF, hit, ha, if_pos hlt], by simp; omega, by omega, by simp [PT.get_put], hcr⟩
      · simp only [hlt, decide_false] at e
        generalize hQ : (fun (e : Ex) (s' : St) => _) = Q'
        simp only [D.l37_0b]
        simp [c0, c4, c6, c22, c23, hi', hw8, e, B6, undT, fnEnd, argsT, PT.get_put, keep, opRun, ev, evs, evO, give, giveI, binOf, isNilK, PM.flip, putT, putL, putH, loadOf, storeOf, cut, over, ofCells, asNat, natOr, calm, clashes, Acc.clash, ressOf, resOf, frz, frz.frzs, DV.flat, DV.flat.flats, imms]
        subst hQ
        exact .inr ⟨nofun, .inr ⟨rfl, ⟨i, hi, by simp only [itF, hit, ha, if_neg hlt]⟩, by simp [PT.get_put], by simp [PT.get_put], fun j hj => (k2 j hj).trans (fr j hj), by simp; omega⟩⟩
  · obtain rfl : i = N := by omega
    generalize hQ : (fun (e : Ex) (s' : St) => _) = Q'
    simp only [D.l37_0b]
    simp [c0, c4, c6, c22, c23, B6, undT, fnEnd, argsT, PT.get_put, keep, opRun, ev, evs, evO, give, giveI, binOf, isNilK, PM.flip, putT, putL, putH, loadOf, storeOf, cut, over, ofCells, asNat, natOr, calm, clashes, Acc.clash, ressOf, resOf, frz, frz.frzs, DV.flat, DV.flat.flats, imms]
    subst hQ
    exact .inr ⟨nofun, .inl ⟨rfl, by simp [PT.get_put, c0], by simp [PT.get_put, c4], by simp [PT.get_put, c22], by simp [PT.get_put, c23], fr, hn, ts, r, hit, htl, hrl, by simp [PT.get_put, c6], hc⟩⟩
end Go.Proofs.YtnpcgejfkonfdaaDoor.D

-- WE
set_option linter.unusedVariables false
set_option linter.unusedSimpArgs false
set_option maxHeartbeats 16000000
namespace Go.Proofs.YtnpcgejfkonfdaaDoor.D
open Go Go.PM Go.Lib

/-- a thing as a crate that was read has it -/
def thCan : Th → Prop
  | .int z => -9223372036854775808 ≤ z ∧ z ≤ 9223372036854775807
  | .text s => s.length ≤ 200
  | .bool _ => True
theorem valY_num (m : Nat) : ∀ (k s : Nat), valY (numY m k) s = s * 256 ^ k + m % 256 ^ k
  | 0, s => by simp [valY, numY, Nat.mod_one]
  | k + 1, s => by
    have h := valY_num m k (s * 256 + (UInt8.ofNat (m / 256 ^ k)).toNat)
    have h1 : valY (numY m (k + 1)) s = valY (numY m k) (s * 256 + (UInt8.ofNat (m / 256 ^ k)).toNat) := rfl
    rw [h1, h, UInt8.toNat_ofNat']
    have e1 : m % 256 ^ (k + 1) = m % 256 ^ k + 256 ^ k * (m / 256 ^ k % 256) := by rw [Nat.pow_succ, Nat.mod_mul]
    have e2 : (m / 256 ^ k % 2 ^ 8) = m / 256 ^ k % 256 := rfl
    rw [e1, e2, Nat.pow_succ]
    generalize m / 256 ^ k % 256 = a
    generalize 256 ^ k = b
    generalize m % b = c
    rw [Nat.add_mul, Nat.mul_assoc, Nat.mul_comm 256 b, Nat.mul_comm a b, Nat.add_assoc, Nat.add_comm (b * a) c]
theorem addF_1 (q : List UInt8) : addF (1 :: q) = if 8 ≤ q.length then some (.int (IntKind.i64.wrap (valY (q.take 8) 0 : Int)), q.drop 8) else none := rfl
theorem addF_thB {t : Th} (h : thCan t) (r : List UInt8) : addF (thB t ++ r) = some (t, r) := by
  cases t with
  | int z =>
    obtain ⟨h1, h2⟩ := h
    have hl := numY_len (z % 2 ^ 64).toNat 8
    have e : ∀ q : List UInt8, q.length = 8 → addF (1 :: q ++ r) = some (.int (IntKind.i64.wrap (valY q 0 : Int)), r) := fun q hq => by
      have t1 : List.take 8 (q ++ r) = q := by rw [← hq]; exact List.take_left
      have t2 : List.drop 8 (q ++ r) = r := by rw [← hq]; exact List.drop_left
      have t3 : 8 ≤ (q ++ r).length := by simp; omega
      rw [List.cons_append, addF_1, if_pos t3, t1, t2]
    have e0 : addF (thB (.int z) ++ r) = addF (1 :: numY (z % 2 ^ 64).toNat 8 ++ r) := rfl
    rw [e0, e _ hl, valY_num]
    have e2 : ((z % 2 ^ 64).toNat % 256 ^ 8 : Nat) = (z % 2 ^ 64).toNat := Nat.mod_eq_of_lt (by omega)
    rw [e2, Nat.zero_mul, Nat.zero_add]
    have e3 : IntKind.i64.wrap ((z % 2 ^ 64).toNat : Int) = z := by
      simp only [IntKind.wrap, IntKind.bits, IntKind.signed]
      simp
      omega
    rw [e3]
  | text s =>
    have hs : s.length ≤ 200 := h
    have hk : (UInt8.ofNat s.length).toNat = s.length := by rw [UInt8.toNat_ofNat']; exact Nat.mod_eq_of_lt (by omega)
    show addF (2 :: UInt8.ofNat s.length :: (s ++ r)) = _
    simp [addF, hk]
  | bool b => cases b <;> simp [addF, thB]
theorem itF_ths : ∀ {ts : List Th} (h : ∀ t ∈ ts, thCan t) (hl : ts.length ≤ 100) (q : List UInt8) (k : Nat), k ≤ ts.length → itF (thsB ts ++ q) k = some (ts.take k, thsB (ts.drop k) ++ q)
  | ts, h, hl, q, 0, _ => by simp [itF]
  | ts, h, hl, q, k + 1, hk => by
    have e := itF_ths h hl q k (by omega)
    have hk' : k < ts.length := by omega
    have e1 : thsB (ts.drop k) ++ q = thB ts[k] ++ (thsB (ts.drop (k + 1)) ++ q) := by
      have e0 := List.drop_eq_getElem_cons hk'
      rw [e0]
      simp only [thsB, List.flatMap_cons, List.append_assoc]
    have e2 : (ts.take k).length < 100 := by simp; omega
    simp only [itF, e, e1, addF_thB (h _ (List.getElem_mem hk')), if_pos e2]
    rw [List.take_add_one, List.getElem?_eq_getElem hk']
    rfl
/-- Unpack: what bytes are read as -/
noncomputable def unF (bs : List UInt8) : Option (List Th) :=
  if bs.length ≤ 6 then none else match itF (bs.drop 7) (bs.getD 6 0).toNat with
    | some (ts, _) => @ite _ (((∀ t ∈ ts, thOk t = true) ∧ (bodyT ts).length ≤ 4000) ∧ teleg (bodyT ts) = bs) (Classical.propDecidable _) (some ts) none
    | none => none
theorem thOk_can {t : Th} (h : thCan t) : thOk t = true := by
  cases t with
  | int z => rfl
  | text s => exact decide_eq_true (show s.length ≤ 200 from h)
  | bool b => rfl
theorem addF_can {b r : List UInt8} {t : Th} (h : addF b = some (t, r)) (ho : thOk t = true) : thCan t := by
  cases t with
  | int z =>
    unfold addF at h
    split at h
    · cases h
    · split at h
      · split at h
        · cases h
          constructor <;> (simp only [IntKind.wrap, IntKind.bits, IntKind.signed]; simp; omega)
        · cases h
      · split at h
        · split at h
          · cases h
          · split at h
            · cases h
            · cases h
        · split at h
          · split at h
            · cases h
            · cases h
          · cases h
  | text s => exact of_decide_eq_true (p := s.length ≤ 200) ho
  | bool b => trivial
theorem itF_can {bs : List UInt8} : ∀ {k : Nat} {ts : List Th} {r : List UInt8}, itF bs k = some (ts, r) → ts.length ≤ 100 ∧ ts.length = k ∧ ∀ t ∈ ts, thOk t = true → thCan t
  | 0, ts, r, h => by
    simp only [itF] at h
    cases h
    exact ⟨by simp, rfl, fun t ht => by simp at ht⟩
  | k + 1, ts, r, h => by
    simp only [itF] at h
    split at h
    · rename_i us q hu
      obtain ⟨h1, h2, h3⟩ := itF_can hu
      split at h
      · rename_i t q' ha
        split at h
        · cases h
          refine ⟨by simp; omega, by simp [h2], fun u hu' => ?_⟩
          rcases List.mem_append.1 hu' with hu' | hu'
          · exact h3 u hu'
          · simp at hu'
            subst hu'
            exact addF_can ha
        · cases h
      · cases h
    · cases h
theorem unF_teleg {ts : List Th} (h : ∀ t ∈ ts, thCan t) (hl : ts.length ≤ 100) (hb : (bodyT ts).length ≤ 4000) : unF (teleg (bodyT ts)) = some ts := by
  have e1 : teleg (bodyT ts) = (numY (crcF (bodyT ts)) 4 ++ numY (bodyT ts).length 2) ++ bodyT ts := rfl
  have l6 : (numY (crcF (bodyT ts)) 4 ++ numY (bodyT ts).length 2).length = 6 := by simp [numY_len]
  generalize hz : numY (crcF (bodyT ts)) 4 ++ numY (bodyT ts).length 2 = z at e1 l6
  have e2 : (teleg (bodyT ts)).drop 7 = thsB ts := by
    rw [e1, List.drop_append, List.drop_of_length_le (by omega), l6]
    rfl
  have e3 : ((teleg (bodyT ts)).getD 6 0).toNat = ts.length := by
    rw [e1, List.getD_eq_getElem?_getD, List.getElem?_append_right (by omega), l6]
    show (UInt8.ofNat ts.length).toNat = _
    rw [UInt8.toNat_ofNat']
    exact Nat.mod_eq_of_lt (by omega)
  have e4 : ¬ (teleg (bodyT ts)).length ≤ 6 := by
    rw [e1]
    simp [l6, bodyT]
  have e5 := itF_ths h hl [] ts.length (Nat.le_refl _)
  rw [List.append_nil, List.take_length] at e5
  unfold unF
  rw [if_neg e4, e2, e3, e5]
  simp only
  exact if_pos ⟨⟨fun t ht => thOk_can (h t ht), hb⟩, trivial⟩
theorem unF_can {bs : List UInt8} {ts : List Th} (h : unF bs = some ts) : ts.length ≤ 100 ∧ (∀ t ∈ ts, thCan t) ∧ (bodyT ts).length ≤ 4000 ∧ teleg (bodyT ts) = bs := by
  unfold unF at h
  split at h
  · cases h
  · split at h
    · rename_i us r hu
      split at h
      · rename_i hq
        cases h
        obtain ⟨h1, h2, h3⟩ := itF_can hu
        exact ⟨h1, fun t ht => h3 t ht (hq.1.1 t ht), hq.1.2, hq.2⟩
      · cases h
    · cases h
theorem frz_y {H : PT HB} {w n : Nat} {x : DV} {bs : List UInt8} (h : Yw H w n x bs) (hne : bs ≠ []) : ∃ g, frz H.get w x = some (.imm (.lst g 1 (bs.map ivY))) := by
  rcases h with ⟨rfl, rfl⟩ | rfl | ⟨id, ⟨h1, h2⟩, rfl, h3⟩
  · exact absurd rfl hne
  · exact ⟨true, rfl⟩
  · refine ⟨false, ?_⟩
    have e1 : frzI H.get w frzDepth (.sl id 0 bs.length bs.length) = some (.lst false 1 (bs.map ivY)) := by
      show (if w ≤ id then _ else none) = _
      rw [if_pos h1, h3]
      show (if 0 + bs.length ≤ (bs.map rowY).length then _ else none) = _
      rw [if_pos (by simp)]
      show (mapO (mapO (frzI H.get w 3)) (((bs.map rowY).drop 0).take bs.length)).map _ = _
      rw [List.drop_zero, List.take_of_length_le (by simp), mapO_y]
      rfl
    show (if id < w then _ else (frzI H.get w frzDepth (.sl id 0 bs.length bs.length)).map DV.imm) = _
    rw [if_neg (by omega), e1]
    rfl
theorem teleg_ne (b : List UInt8) : teleg b ≠ [] := by
  intro h
  have := congrArg List.length h
  simp [teleg, numY_len] at this
/-- a text that was added is short -/
theorem addF_short {b r : List UInt8} {t : Th} (h : addF b = some (t, r)) : (thB t).length ≤ 300 := by
  cases t with
  | int z => simp [thB, numY_len]
  | bool v => simp [thB]
  | text s =>
    unfold addF at h
    split at h
    · cases h
    · split at h
      · split at h
        · cases h
        · cases h
      · split at h
        · split at h
          · cases h
          · rename_i l r' 
            split at h
            · cases h
              have := l.toNat_lt
              simp [thB]
              omega
            · cases h
        · split at h
          · split at h
            · cases h
            · cases h
          · cases h
theorem itF_short {bs : List UInt8} : ∀ {k : Nat} {ts : List Th} {r : List UInt8}, itF bs k = some (ts, r) → ∀ t ∈ ts, (thB t).length ≤ 300
  | 0, ts, r, h => by
    simp only [itF] at h
    cases h
    intro t ht
    simp at ht
  | k + 1, ts, r, h => by
    simp only [itF] at h
    split at h
    · rename_i us q hu
      have ih := itF_short hu
      split at h
      · rename_i t q' ha
        split at h
        · cases h
          intro u hu'
          rcases List.mem_append.1 hu' with hu' | hu'
          · exact ih u hu'
          · simp at hu'
            subst hu'
            exact addF_short ha
        · cases h
      · cases h
    · cases h
def UnP (H : PT HB) (n : Nat) (bs : List UInt8) (v : DV) (H' : PT HB) (n' : Nat) : Prop := n ≤ n' ∧ (∀ j, j < n → H'.get j = H.get j) ∧ ((unF bs = none ∧ ∃ u, u ≠ 0 ∧ v = .tup [.imm .nilp, .imm (.int .i64 u)]) ∨
  ∃ ts a, unF bs = some ts ∧ v = .tup [.ptr a 0 0, .imm (.int .i64 0)] ∧ CrAt H' n n' a ts)
theorem Unpack_fn {d : Nat} {H : PT HB} {n lo : Nat} {f : Bool} {bs : List UInt8} (hlo : lo ≤ n) (hb : bs.length ≤ 100000) :
    Fe (K (doorG 0 1) (d + 6) 37 [.imm (.lst f 1 (bs.map ivY))] H n lo) (UnP H n bs) := by
  rw [D.k37]
  refine fn_dw rfl ?_
  by_cases h6 : bs.length ≤ 6
  · have i0 : ILt 6 (bs.length : Int) = False := ilt_f (by omega)
    simp [i0, B6, undT, fnEnd, argsT, PT.get_put, keep, opRun, ev, evs, evO, give, giveI, binOf, isNilK, PM.flip, putT, putL, putH, loadOf, storeOf, cut, over, ofCells, asNat, natOr, calm, clashes, Acc.clash, ressOf, resOf, frz, frz.frzs, DV.flat, DV.flat.flats, imms]
    exact ⟨Nat.le_refl _, fun _ _ => rfl, .inl ⟨by unfold unF; rw [if_pos h6], 2, by omega, rfl⟩⟩
  · have i0 : ILt 6 (bs.length : Int) = True := ilt_t (by omega)
    have hc6 : ∃ c r, bs.drop 6 = c :: r ∧ r = bs.drop 7 ∧ c = bs.getD 6 0 := by
      have e := List.drop_eq_getElem_cons (l := bs) (i := 6) (by omega)
      exact ⟨_, _, e, rfl, by simp [List.getD_eq_getElem?_getD, List.getElem?_eq_getElem (show 6 < bs.length by omega)]⟩
    obtain ⟨c, r, hd6, hr, hc⟩ := hc6
    have hrl : r.length ≤ 100000 := by rw [hr]; simp; omega
    have hm6 : (bs.map ivY).drop 6 = (c :: r).map ivY := by rw [← List.map_drop, hd6]
    obtain ⟨v0, Hc, nc, e0, rfl, hnc, hcr, hfc⟩ := CrNew (d := d + 4) (H := H) (n := n) (lo := lo)
    have e1 := fun {H n lo} => taken_y (d := d + 4) (H := H) (n := n) (lo := lo) (k := 1) (f := f) (bs := c :: r) (by simp; omega) (by omega) (by omega) (by simp)
    simp [valY] at e1
    have sl := fun {h : Nat → Option HB} {n : Nat} => (show sliceOf h n 1 (.imm (.lst f 1 (bs.map ivY))) (some (.imm (.int .i64 6))) none none = some { v := .imm (.lst f 1 ((c :: r).map ivY)), n' := n } by
      rw [← hm6]
      have ht : (bs.map ivY).take (bs.map ivY).length = bs.map ivY := List.take_length
      have h7 : 6 ≤ (bs.map ivY).length := by simp; omega
      have e6 : asNat (.imm (.int .i64 6)) = some 6 := by simp [asNat]
      simp only [sliceOf, natOr, e6, if_true]
      rw [if_pos ⟨h7, Nat.le_refl _⟩, ht]
      simp)
    have eF : unF bs = match itF r c.toNat with
      | some (ts, _) => @ite _ (((∀ t ∈ ts, thOk t = true) ∧ (bodyT ts).length ≤ 4000) ∧ teleg (bodyT ts) = bs) (Classical.propDecidable _) (some ts) none
      | none => none := by
      unfold unF
      rw [if_neg h6, ← hr, ← hc]
    have hcl := c.toNat_lt
    generalize hes : bs.map ivY = es at *
    have hel : es.length = bs.length := by rw [← hes]; simp
    simp only [List.map_cons] at sl
    simp [hel, i0, e0, sl, e1, B6, undT, fnEnd, argsT, PT.get_put, keep, opRun, ev, evs, evO, give, giveI, binOf, isNilK, PM.flip, putT, putL, putH, loadOf, storeOf, cut, over, ofCells, asNat, natOr, calm, clashes, Acc.clash, ressOf, resOf, frz, frz.frzs, DV.flat, DV.flat.flats, imms]
    refine loopUn (d := d + 2) (w := n) (H0 := H) (a := n) (N := c.toNat) (f := f) (d0 := .imm (.lst f 1 es)) (bs := r) (lo := lo) hlo (by omega) ⟨by simp [PT.get_put], by simp [PT.get_put], by simp [PT.get_put], by simp [PT.get_put], fun j hj => hfc j hj, by simp; omega, [], r, rfl, by simp, hrl, by simp [PT.get_put], hcr⟩ (fun s' hI => ?_) (fun s' hN f2 f3 fr fn => ?_)
    · obtain ⟨c0, c4, c22, c23, fr, hn, ts, r', hit, htl, hrl', c6, hcr⟩ := hI
      rw [hit] at eF
      simp only at eF
      have hcr0 : CrAt s'.H 0 s'.n n ts := by
        obtain ⟨⟨q1, q2⟩, q3⟩ := hcr
        refine ⟨⟨Nat.zero_le _, q2⟩, ?_⟩
        rcases q3 with q3 | ⟨b, ⟨p1, p2⟩, p3⟩
        · exact .inl q3
        · exact .inr ⟨b, ⟨Nat.zero_le _, p2⟩, p3⟩
      obtain ⟨v, H2, n2, e2, k1, k2, k3⟩ := Pack_fn (d := d) (H := s'.H) (n := s'.n) (lo := s'.n) (Nat.le_refl _) hcr0 htl (itF_short hit)
      rcases k3 with ⟨nok, rfl⟩ | ⟨okk, x', rfl, hy⟩
      · have ec : callM (K (doorG 0 1) (d + 5)) .ro 44 [.ptr n 0 0] s'.H s'.n lo = some ⟨.tup [.imm .nils, .imm (.int .i64 1)], s'.H, n2, [.rA]⟩ := by
          rw [callM_ro, if_pos (by rfl), e2]
          rfl
        simp [c0, c4, c6, c22, c23, ec, B6, undT, fnEnd, argsT, PT.get_put, keep, opRun, ev, evs, evO, give, giveI, binOf, isNilK, PM.flip, putT, putL, putH, loadOf, storeOf, cut, over, ofCells, asNat, natOr, calm, clashes, Acc.clash, ressOf, resOf, frz, frz.frzs, DV.flat, DV.flat.flats, imms]
        exact ⟨by omega, fr, .inl ⟨by rw [eF]; exact if_neg (fun h => nok h.1), 2, by omega, rfl⟩⟩
      · obtain ⟨g, hg⟩ := frz_y hy (teleg_ne _)
        have ec : callM (K (doorG 0 1) (d + 5)) .ro 44 [.ptr n 0 0] s'.H s'.n lo = some ⟨.tup [.imm (.lst g 1 ((teleg (bodyT ts)).map ivY)), .imm (.int .i64 0)], s'.H, n2, [.rA]⟩ := by
          have e9 : frz H2.get s'.n (.tup [x', .imm (.int .i64 0)]) = some (.tup [.imm (.lst g 1 ((teleg (bodyT ts)).map ivY)), .imm (.int .i64 0)]) := by
            simp [frz, frz.frzs, hg]
          rw [callM_ro, if_pos (by rfl), e2]
          simp only [e9]
          rfl
        have eq := equal_y (d := d + 4) (f := g) (g := f) (bs := teleg (bodyT ts)) (cs := bs)
        rw [hes] at eq
        by_cases hT : teleg (bodyT ts) = bs
        · rw [decide_eq_true hT] at eq
          generalize (teleg (bodyT ts)).map ivY = fs at *
          simp [c0, c4, c6, c22, c23, ec, eq, B6, undT, fnEnd, argsT, PT.get_put, keep, opRun, ev, evs, evO, give, giveI, binOf, isNilK, PM.flip, putT, putL, putH, loadOf, storeOf, cut, over, ofCells, asNat, natOr, calm, clashes, Acc.clash, ressOf, resOf, frz, frz.frzs, DV.flat, DV.flat.flats, imms]
          exact ⟨by omega, fr, .inr ⟨ts, n, by rw [eF]; exact if_pos ⟨okk, hT⟩, rfl, hcr.mono (by omega) (fun _ _ => rfl)⟩⟩
        · rw [decide_eq_false hT] at eq
          generalize (teleg (bodyT ts)).map ivY = fs at *
          simp [c0, c4, c6, c22, c23, ec, eq, B6, undT, fnEnd, argsT, PT.get_put, keep, opRun, ev, evs, evO, give, giveI, binOf, isNilK, PM.flip, putT, putL, putH, loadOf, storeOf, cut, over, ofCells, asNat, natOr, calm, clashes, Acc.clash, ressOf, resOf, frz, frz.frzs, DV.flat, DV.flat.flats, imms]
          exact ⟨by omega, fr, .inl ⟨by rw [eF]; exact if_neg (fun h => hT h.2), 2, by omega, rfl⟩⟩
    · rw [hN] at eF
      simp [f2, f3, B6, undT, fnEnd, argsT, PT.get_put, keep, opRun, ev, evs, evO, give, giveI, binOf, isNilK, PM.flip, putT, putL, putH, loadOf, storeOf, cut, over, ofCells, asNat, natOr, calm, clashes, Acc.clash, ressOf, resOf, frz, frz.frzs, DV.flat, DV.flat.flats, imms]
      exact ⟨by omega, fr, .inl ⟨eF, 2, by omega, rfl⟩⟩
theorem Unpack_nil {d : Nat} {H : PT HB} {n lo : Nat} : Fe (K (doorG 0 1) (d + 6) 37 [.imm .nils] H n lo) (UnP H n []) := by
  rw [D.k37]
  refine fn_dw rfl ?_
  have i0 : ILt 6 0 = False := ilt_f (by omega)
  simp [i0, B6, undT, fnEnd, argsT, PT.get_put, keep, opRun, ev, evs, evO, give, giveI, binOf, isNilK, PM.flip, putT, putL, putH, loadOf, storeOf, cut, over, ofCells, asNat, natOr, calm, clashes, Acc.clash, ressOf, resOf, frz, frz.frzs, DV.flat, DV.flat.flats, imms]
  exact ⟨Nat.le_refl _, fun _ _ => rfl, .inl ⟨by unfold unF; rw [if_pos (by simp)], 2, by omega, rfl⟩⟩
end Go.Proofs.YtnpcgejfkonfdaaDoor.D

-- T1
-- TabA
set_option linter.unusedVariables false
set_option linter.unusedSimpArgs false
set_option maxHeartbeats 8000000
namespace Go.Proofs.YtnpcgejfkonfdaaDoor.D
open Go Go.PM

def ivI (z : Int) : List IV := [.int .i64 z]
def ivS (s : List UInt8) : List IV := [.str s]
structure Need where
  pt : Int
  rev : Bool
  deriving DecidableEq, BEq, ReflBEq, LawfulBEq, Inhabited
def ivN (x : Need) : List IV := [.int .i64 x.pt, .bool x.rev]
/-! ### Numbers -/
theorem index_ints (G : Nat → Option (List IV)) {D : Nat} (hD : 1 ≤ D) {v : IV} {zs : List Int} (hv : Sl 1 v (zs.map ivI)) (hl : zs.length ≤ reachBytes) (z : Int) :
    ∃ r : Int, bl (K G D) 100 [.imm v, .imm (.int .i64 z)] = some (.imm (.int .i64 r)) ∧ (0 ≤ r ↔ z ∈ zs) := by
  obtain ⟨d, rfl⟩ : ∃ d, D = d + 1 := ⟨D - 1, by omega⟩
  rcases hv with ⟨rfl, hz⟩ | ⟨f, rfl⟩
  · obtain rfl : zs = [] := by simpa using hz
    refine ⟨-1, bl_imm (H' := .lf) (n' := 0) ?_, by simp⟩
    rw [D.k100]
    obtain ⟨k, hL⟩ : ∃ k, LOOP = k + 1 := ⟨2 ^ 62 - 1, rfl⟩
    simp only [D.f100, D.l100_0, fn_run, B4, fnEnd, argsT, opRun, PT.get_put, dstep, ev, evs, evO, give, giveI, binOf, isNilK, PM.flip, putT, putL, putH, callM, loadOf, storeOf, cut, over, ofCells, asNat, natOr, calm, clashes, Acc.clash, ressOf, resOf, frz, frz.frzs, snap, snap.snaps, DV.pure, DV.pure.pures, DV.flat, DV.flat.flats, binStr, ansT, Option.map, List.length_cons, List.length_nil, reduceIte, Nat.reduceEqDiff, Nat.reduceAdd]
    simp [run_loop, hL, iter, loopRun_eq, keep, D.l100_0b, B4, fnEnd, argsT, opRun, PT.get_put, dstep, ev, evs, evO, give, giveI, binOf, isNilK, PM.flip, putT, putL, putH, callM, loadOf, storeOf, cut, over, ofCells, asNat, natOr, calm, clashes, Acc.clash, ressOf, resOf, frz, frz.frzs, snap, snap.snaps, DV.pure, DV.pure.pures, DV.flat, DV.flat.flats, binStr, ansT, Option.map, List.length_cons, List.length_nil, reduceIte, Nat.reduceEqDiff, Nat.reduceAdd]
  · have loop : ∀ s : St, (s.T.get 0 = some (.imm (.lst f 1 (zs.map ivI))) ∧ s.T.get 1 = some (.imm (.int .i64 z)) ∧ s.T.get 7 = some (.imm (.int .i64 zs.length)) ∧ s.T.get 8 = some (.imm (.int .i64 (0 : Nat))) ∧ s.H = .lf ∧ s.n = 0) →
        ∃ e s', D.l100_0.run G (K G d) 0 s = some (e, s') ∧ ((e = .ret ∧ s'.H = .lf ∧ s'.n = 0 ∧ z ∈ zs ∧ ∃ r : Nat, s'.T.get 4 = some (.imm (.int .i64 r))) ∨ (e = .exit 0 ∧ s'.H = .lf ∧ s'.n = 0 ∧ z ∉ zs)) := fun s hs => by
      refine rng_loop (N := zs.length) (small hl) (fun i s => s.T.get 0 = some (.imm (.lst f 1 (zs.map ivI))) ∧ s.T.get 1 = some (.imm (.int .i64 z)) ∧ s.T.get 7 = some (.imm (.int .i64 zs.length)) ∧ s.T.get 8 = some (.imm (.int .i64 i)) ∧ s.H = .lf ∧ s.n = 0 ∧
        ∀ j, j < i → zs[j]? ≠ some z) _ (fun i s ⟨h0, h1, h7, h8, hH, hn, hj⟩ hle => ?_) s ⟨hs.1, hs.2.1, hs.2.2.1, hs.2.2.2.1, hs.2.2.2.2.1, hs.2.2.2.2.2, fun j hj => by omega⟩
      by_cases hi : i < zs.length
      · have hi' : (i : Int) < zs.length := by omega
        have hw := wr_succ hi hl
        have hx : zs[i]? = some zs[i] := List.getElem?_eq_getElem hi
        generalize hxe : zs[i] = x at hx
        by_cases hzx : z = x
        · right
          subst hzx
          refine ⟨.ret, ?_⟩
          simp only [D.l100_0b, keep, B4, fnEnd, argsT, opRun, PT.get_put, dstep, ev, evs, evO, give, giveI, binOf, isNilK, PM.flip, putT, putL, putH, callM, loadOf, storeOf, cut, over, ofCells, asNat, natOr, calm, clashes, Acc.clash, ressOf, resOf, frz, frz.frzs, snap, snap.snaps, DV.pure, DV.pure.pures, DV.flat, DV.flat.flats, binStr, ansT, Option.map, List.length_cons, List.length_nil, reduceIte, Nat.reduceEqDiff, Nat.reduceAdd]
          simp [h0, h1, h7, h8, hi', hi, hx, hxe, hH, hn, ivI, imms, B4, fnEnd, argsT, opRun, PT.get_put, dstep, ev, evs, evO, give, giveI, binOf, isNilK, PM.flip, putT, putL, putH, callM, loadOf, storeOf, cut, over, ofCells, asNat, natOr, calm, clashes, Acc.clash, ressOf, resOf, frz, frz.frzs, snap, snap.snaps, DV.pure, DV.pure.pures, DV.flat, DV.flat.flats, binStr, ansT, Option.map, List.length_cons, List.length_nil, reduceIte, Nat.reduceEqDiff, Nat.reduceAdd]
          exact ⟨List.mem_of_getElem? hx, i, by simp [PT.get_put]⟩
        · left
          refine ⟨hi, ?_⟩
          have hb := beqF hzx
          simp only [D.l100_0b, keep, B4, fnEnd, argsT, opRun, PT.get_put, dstep, ev, evs, evO, give, giveI, binOf, isNilK, PM.flip, putT, putL, putH, callM, loadOf, storeOf, cut, over, ofCells, asNat, natOr, calm, clashes, Acc.clash, ressOf, resOf, frz, frz.frzs, snap, snap.snaps, DV.pure, DV.pure.pures, DV.flat, DV.flat.flats, binStr, ansT, Option.map, List.length_cons, List.length_nil, reduceIte, Nat.reduceEqDiff, Nat.reduceAdd]
          simp [h0, h1, h7, h8, hi', hi, hx, hxe, hw, hb, hH, hn, ivI, imms, B4, fnEnd, argsT, opRun, PT.get_put, dstep, ev, evs, evO, give, giveI, binOf, isNilK, PM.flip, putT, putL, putH, callM, loadOf, storeOf, cut, over, ofCells, asNat, natOr, calm, clashes, Acc.clash, ressOf, resOf, frz, frz.frzs, snap, snap.snaps, DV.pure, DV.pure.pures, DV.flat, DV.flat.flats, binStr, ansT, Option.map, List.length_cons, List.length_nil, reduceIte, Nat.reduceEqDiff, Nat.reduceAdd]
          intro j hj1
          by_cases e : j = i
          · subst e; rw [hx]; exact fun e => hzx (Option.some.inj e).symm
          · exact hj j (by omega)
      · obtain rfl : i = zs.length := by omega
        right
        refine ⟨.exit 0, ?_⟩
        simp only [D.l100_0b, keep, B4, fnEnd, argsT, opRun, PT.get_put, dstep, ev, evs, evO, give, giveI, binOf, isNilK, PM.flip, putT, putL, putH, callM, loadOf, storeOf, cut, over, ofCells, asNat, natOr, calm, clashes, Acc.clash, ressOf, resOf, frz, frz.frzs, snap, snap.snaps, DV.pure, DV.pure.pures, DV.flat, DV.flat.flats, binStr, ansT, Option.map, List.length_cons, List.length_nil, reduceIte, Nat.reduceEqDiff, Nat.reduceAdd]
        simp [h0, h1, h7, h8, hH, hn, B4, fnEnd, argsT, opRun, PT.get_put, dstep, ev, evs, evO, give, giveI, binOf, isNilK, PM.flip, putT, putL, putH, callM, loadOf, storeOf, cut, over, ofCells, asNat, natOr, calm, clashes, Acc.clash, ressOf, resOf, frz, frz.frzs, snap, snap.snaps, DV.pure, DV.pure.pures, DV.flat, DV.flat.flats, binStr, ansT, Option.map, List.length_cons, List.length_nil, reduceIte, Nat.reduceEqDiff, Nat.reduceAdd]
        intro hm
        obtain ⟨j, hjj⟩ := List.getElem?_of_mem hm
        exact hj j (List.getElem?_eq_some_iff.1 hjj).1 hjj
    rw [show (∃ r : Int, bl (K G (d + 1)) 100 [.imm (.lst f 1 (zs.map ivI)), .imm (.int .i64 z)] = some (.imm (.int .i64 r)) ∧ (0 ≤ r ↔ z ∈ zs)) ↔ _ from Iff.rfl]
    have key : ∃ r : Int, K G (d + 1) 100 [.imm (.lst f 1 (zs.map ivI)), .imm (.int .i64 z)] .lf 0 0 = some (.imm (.int .i64 r), .lf, 0) ∧ (0 ≤ r ↔ z ∈ zs) := by
      rw [D.k100]
      simp only [D.f100, fn_run, B4, fnEnd, argsT, opRun, PT.get_put, dstep, ev, evs, evO, give, giveI, binOf, isNilK, PM.flip, putT, putL, putH, callM, loadOf, storeOf, cut, over, ofCells, asNat, natOr, calm, clashes, Acc.clash, ressOf, resOf, frz, frz.frzs, snap, snap.snaps, DV.pure, DV.pure.pures, DV.flat, DV.flat.flats, binStr, ansT, Option.map, List.length_cons, List.length_nil, reduceIte, Nat.reduceEqDiff, Nat.reduceAdd]
      simp [B4, fnEnd, argsT, opRun, PT.get_put, dstep, ev, evs, evO, give, giveI, binOf, isNilK, PM.flip, putT, putL, putH, callM, loadOf, storeOf, cut, over, ofCells, asNat, natOr, calm, clashes, Acc.clash, ressOf, resOf, frz, frz.frzs, snap, snap.snaps, DV.pure, DV.pure.pures, DV.flat, DV.flat.flats, binStr, ansT, Option.map, List.length_cons, List.length_nil, reduceIte, Nat.reduceEqDiff, Nat.reduceAdd]
      generalize hrun : D.l100_0.run G (K G d) 0 _ = r
      obtain ⟨e, s', rfl, hq⟩ : ∃ e s', r = some (e, s') ∧ ((e = .ret ∧ s'.H = .lf ∧ s'.n = 0 ∧ z ∈ zs ∧ ∃ r : Nat, s'.T.get 4 = some (.imm (.int .i64 r))) ∨ (e = .exit 0 ∧ s'.H = .lf ∧ s'.n = 0 ∧ z ∉ zs)) := by
        rw [← hrun]
        refine loop _ ⟨?_, ?_, ?_, ?_, rfl, rfl⟩ <;> simp [PT.get_put]
      clear hrun
      rcases hq with ⟨rfl, q1, q2, q3, r, q4⟩ | ⟨rfl, q1, q2, q3⟩
      · refine ⟨r, ?_⟩
        simp [q1, q2, q3, q4, B4, fnEnd, argsT, opRun, PT.get_put, dstep, ev, evs, evO, give, giveI, binOf, isNilK, PM.flip, putT, putL, putH, callM, loadOf, storeOf, cut, over, ofCells, asNat, natOr, calm, clashes, Acc.clash, ressOf, resOf, frz, frz.frzs, snap, snap.snaps, DV.pure, DV.pure.pures, DV.flat, DV.flat.flats, binStr, ansT, Option.map, List.length_cons, List.length_nil, reduceIte, Nat.reduceEqDiff, Nat.reduceAdd]
      · refine ⟨-1, ?_⟩
        simp [q1, q2, q3, B4, fnEnd, argsT, opRun, PT.get_put, dstep, ev, evs, evO, give, giveI, binOf, isNilK, PM.flip, putT, putL, putH, callM, loadOf, storeOf, cut, over, ofCells, asNat, natOr, calm, clashes, Acc.clash, ressOf, resOf, frz, frz.frzs, snap, snap.snaps, DV.pure, DV.pure.pures, DV.flat, DV.flat.flats, binStr, ansT, Option.map, List.length_cons, List.length_nil, reduceIte, Nat.reduceEqDiff, Nat.reduceAdd]
    obtain ⟨r, e1, e2⟩ := key
    exact ⟨r, bl_imm e1, e2⟩
theorem contains_ints (G : Nat → Option (List IV)) {D : Nat} (hD : 2 ≤ D) {v : IV} {zs : List Int} (hv : Sl 1 v (zs.map ivI)) (hl : zs.length ≤ reachBytes) (z : Int) :
    bl (K G D) 83 [.imm v, .imm (.int .i64 z)] = some (.imm (.bool (decide (z ∈ zs)))) := by
  obtain ⟨d, rfl⟩ : ∃ d, D = d + 1 := ⟨D - 1, by omega⟩
  obtain ⟨r, e1, e2⟩ := index_ints G (D := d) (by omega) hv hl z
  refine bl_imm (H' := .lf) (n' := 0) ?_
  rw [D.k83]
  simp only [D.f83, fn_run, B5, fnEnd, argsT, opRun, PT.get_put, dstep, ev, evs, evO, give, giveI, binOf, isNilK, PM.flip, putT, putL, putH, loadOf, storeOf, cut, over, ofCells, asNat, natOr, calm, clashes, Acc.clash, ressOf, resOf, frz, frz.frzs, DV.flat, DV.flat.flats, binStr, ansT, Option.map, List.length_cons, List.length_nil, reduceIte, Nat.reduceEqDiff, Nat.reduceAdd]
  simp [e1, e2, B5, fnEnd, argsT, opRun, PT.get_put, dstep, ev, evs, evO, give, giveI, binOf, isNilK, PM.flip, putT, putL, putH, loadOf, storeOf, cut, over, ofCells, asNat, natOr, calm, clashes, Acc.clash, ressOf, resOf, frz, frz.frzs, DV.flat, DV.flat.flats, binStr, ansT, Option.map, List.length_cons, List.length_nil, reduceIte, Nat.reduceEqDiff, Nat.reduceAdd]
end Go.Proofs.YtnpcgejfkonfdaaDoor.D

-- TabB
set_option linter.unusedVariables false
set_option linter.unusedSimpArgs false
set_option maxHeartbeats 16000000
set_option maxRecDepth 100000
namespace Go.Proofs.YtnpcgejfkonfdaaDoor.D
open Go Go.PM Go.Lib
noncomputable abbrev DG := doorG 0 1

/-! ### Bits -/
/-! ### The tables -/
theorem b8 : IntKind.u8.bits = 8 := rfl
def bAt (s : List UInt8) (i : Nat) : Nat := ((s[i]?).getD 0).toNat
/-! ### DecodeRuneInString -/
def decD (s : List UInt8) : Nat × Nat := if s = [] then (65533, 0) else decodeN s.length (bAt s 0) (bAt s 1) (bAt s 2) (bAt s 3)
end Go.Proofs.YtnpcgejfkonfdaaDoor.D

-- TabC
set_option linter.unusedVariables false
set_option linter.unusedSimpArgs false
set_option maxHeartbeats 16000000
namespace Go.Proofs.YtnpcgejfkonfdaaDoor.D
open Go Go.PM Go.Lib
def isL (r : Int) : Bool := decide ((97 ≤ r ∧ r ≤ 122) ∨ (65 ≤ r ∧ r ≤ 90) ∨ (192 ≤ r ∧ r ≤ 591 ∧ ¬ r = 215 ∧ ¬ r = 247))
end Go.Proofs.YtnpcgejfkonfdaaDoor.D

-- TabD
set_option linter.unusedVariables false
set_option linter.unusedSimpArgs false
set_option maxHeartbeats 16000000
namespace Go.Proofs.YtnpcgejfkonfdaaDoor.D
open Go Go.PM Go.Lib

/-- The runes of a text, with their widths. -/
def runes : Nat → List UInt8 → List (Nat × Nat)
  | 0, _ => []
  | k + 1, s => if s = [] then [] else decD s :: runes k (s.drop (decD s).2)
def RS (s : List UInt8) : List (Nat × Nat) := runes s.length s
/-- May a rune be there? -/
def okR (p : Nat × Nat) (i : Nat) : Bool := !decide (p.1 = 65533 ∧ p.2 = 1) && (isL p.1 || decide (0 < i ∧ 48 ≤ p.1 ∧ p.1 ≤ 57))
def allR (l : List (Nat × Nat)) : Bool := l.zipIdx.all fun x => okR x.1 x.2
def isNm (s : List UInt8) : Bool := allR (RS s) && decide (1 ≤ (RS s).length ∧ (RS s).length ≤ 8)
end Go.Proofs.YtnpcgejfkonfdaaDoor.D

-- TabE
set_option linter.unusedVariables false
set_option linter.unusedSimpArgs false
set_option maxHeartbeats 16000000
namespace Go.Proofs.YtnpcgejfkonfdaaDoor.D
open Go Go.PM Go.Lib
end Go.Proofs.YtnpcgejfkonfdaaDoor.D

-- T1b
-- TabF
set_option linter.unusedVariables false
set_option linter.unusedSimpArgs false
set_option maxHeartbeats 16000000
namespace Go.Proofs.YtnpcgejfkonfdaaDoor.D
open Go Go.PM Go.Lib

/-! ### Rows that grow -/
def AtS (sz : Nat) (x : DV) (H : PT HB) (n : Nat) (rows : List (List IV)) : Prop := (x = .imm .nils ∧ rows = []) ∨ ∃ id, id < n ∧ x = .sl id 0 rows.length rows.length ∧ H.get id = some ⟨sz, rows.map imms⟩
theorem mapO_frz {h : Nat → Option HB} {lo d : Nat} : ∀ es : List IV, mapO (frzI h lo d) (imms es) = some es
  | [] => rfl
  | e :: es => by
    have := mapO_frz (h := h) (lo := lo) (d := d) es
    cases d <;> simp [imms, mapO, frzI] at this ⊢ <;> rw [this]
theorem mapO_frz2 {h : Nat → Option HB} {lo d : Nat} : ∀ rows : List (List IV), mapO (mapO (frzI h lo d)) (rows.map imms) = some rows
  | [] => rfl
  | e :: es => by
    simp only [List.map_cons, mapO, mapO_frz, mapO_frz2 es]
theorem frz_row {sz : Nat} {x : DV} {H : PT HB} {n : Nat} {rows : List (List IV)} (h : AtS sz x H n rows) : ∃ v, frz H.get 0 x = some (.imm v) ∧ Sl sz v rows := by
  rcases h with ⟨rfl, rfl⟩ | ⟨id, h2, rfl, h3⟩
  · exact ⟨_, rfl, .inl ⟨rfl, rfl⟩⟩
  · refine ⟨.lst false sz rows, ?_, .inr ⟨_, rfl⟩⟩
    have hf : frzI H.get 0 frzDepth (.sl id 0 rows.length rows.length) = some (.lst false sz rows) := by
      show (if 0 ≤ id then _ else _) = _
      rw [if_pos (Nat.zero_le _)]
      simp only [h3]
      rw [if_pos (by simp)]
      simp only [List.drop_zero]
      rw [List.take_of_length_le (by simp), mapO_frz2]
      rfl
    have hz : frz H.get 0 (.sl id 0 rows.length rows.length) = if id < 0 then some (.sl id 0 rows.length rows.length) else (frzI H.get 0 frzDepth (.sl id 0 rows.length rows.length)).map .imm := rfl
    rw [hz, if_neg (Nat.not_lt_zero _), hf]
    rfl

/-! ### Runes -/
end Go.Proofs.YtnpcgejfkonfdaaDoor.D

-- TabG
set_option linter.unusedVariables false
set_option linter.unusedSimpArgs false
set_option maxHeartbeats 16000000
namespace Go.Proofs.YtnpcgejfkonfdaaDoor.D
open Go Go.PM Go.Lib
end Go.Proofs.YtnpcgejfkonfdaaDoor.D

-- TabH
set_option linter.unusedVariables false
set_option linter.unusedSimpArgs false
set_option maxHeartbeats 16000000
namespace Go.Proofs.YtnpcgejfkonfdaaDoor.D
open Go Go.PM Go.Lib
/-! ### Texts -/
/-! ### Names -/
def nm3 (s : List UInt8) : Bool := isNm s && (!(s == [115, 101, 116]) && !(s == [102, 108, 97, 110, 107]))
end Go.Proofs.YtnpcgejfkonfdaaDoor.D

-- TabI
set_option linter.unusedVariables false
set_option linter.unusedSimpArgs false
set_option maxHeartbeats 16000000
namespace Go.Proofs.YtnpcgejfkonfdaaDoor.D
open Go Go.PM Go.Lib
def NM (ss : List (List UInt8)) : Prop := ∀ i s, ss[i]? = some s → nm3 s = true ∧ s ∉ ss.take i
theorem NM_nil : NM [] := fun i s h => by simp at h
end Go.Proofs.YtnpcgejfkonfdaaDoor.D

-- TabJ
set_option linter.unusedVariables false
set_option linter.unusedSimpArgs false
set_option maxHeartbeats 16000000
namespace Go.Proofs.YtnpcgejfkonfdaaDoor.D
open Go Go.PM Go.Lib
end Go.Proofs.YtnpcgejfkonfdaaDoor.D

-- TabK
set_option linter.unusedVariables false
set_option linter.unusedSimpArgs false
set_option maxHeartbeats 16000000
namespace Go.Proofs.YtnpcgejfkonfdaaDoor.D
open Go Go.PM Go.Lib
end Go.Proofs.YtnpcgejfkonfdaaDoor.D

-- TabL
set_option linter.unusedVariables false
set_option linter.unusedSimpArgs false
set_option maxHeartbeats 16000000
namespace Go.Proofs.YtnpcgejfkonfdaaDoor.D
open Go Go.PM Go.Lib
def PA (secs : Nat) (zs : List Int) : Prop := ∀ (i : Nat) (z : Int), zs[i]? = some z → (0 ≤ z ∧ z < secs) ∧ z ∉ zs.take i
end Go.Proofs.YtnpcgejfkonfdaaDoor.D

-- TabM
set_option linter.unusedVariables false
set_option linter.unusedSimpArgs false
set_option maxHeartbeats 4000000
namespace Go.Proofs.YtnpcgejfkonfdaaDoor.D
open Go Go.PM
structure Pt where
  name : List UInt8
  sec : Int
  deriving Inhabited
def ivP (x : Pt) : List IV := [.str x.name, .int .i64 x.sec]
structure Rt where
  name : List UInt8
  fr : Int
  to : Int
  pv : IV
  qv : IV
  fv : IV
  path : List Int
  pts : List Need
  flk : List Need
  deriving Inhabited
def ivRt (r : Rt) : List IV := [.str r.name, .int .i64 r.fr, .int .i64 r.to, r.pv, r.qv, r.fv]
structure RtOk (r : Rt) : Prop where
  p : Sl 1 r.pv (r.path.map ivI)
  q : Sl 2 r.qv (r.pts.map ivN)
  f : Sl 2 r.fv (r.flk.map ivN)
  ln : r.name.length ≤ reachBytes
  lp : r.path.length ≤ reachBytes
  lq : r.pts.length ≤ reachBytes
  lf : r.flk.length ≤ reachBytes
structure Lo where
  sv : IV
  pv : IV
  gv : IV
  rv : IV
  secs : List (List UInt8)
  pts : List Pt
  sigs : List (List UInt8)
  rts : List Rt
  deriving Inhabited
abbrev Lo.dv (l : Lo) : DV := .agg [.imm l.sv, .imm l.pv, .imm l.gv, .imm l.rv]
structure LoOk (l : Lo) : Prop where
  s : Sl 1 l.sv (l.secs.map ivS)
  p : Sl 2 l.pv (l.pts.map ivP)
  g : Sl 1 l.gv (l.sigs.map ivS)
  r : Sl 6 l.rv (l.rts.map ivRt)
  ls : l.secs.length ≤ reachBytes
  lp : l.pts.length ≤ reachBytes
  lg : l.sigs.length ≤ reachBytes
  lr : l.rts.length ≤ reachBytes
  os : ∀ x ∈ l.secs, x.length ≤ reachBytes
  op : ∀ x ∈ l.pts, x.name.length ≤ reachBytes
  og : ∀ x ∈ l.sigs, x.length ≤ reachBytes
  or : ∀ x ∈ l.rts, RtOk x
theorem rows_of {α : Type} {ks : List Kd} {iv : IV} (h : FitK (.sl ks) iv) (f : α → List IV) (OK : α → Prop)
    (hrow : ∀ e : List IV, e.length = ks.length → (∀ (j : Nat) (k : Kd) (c : IV), ks[j]? = some k → e[j]? = some c → FitK k c) → ∃ a, e = f a ∧ OK a) :
    ∃ xs : List α, Sl ks.length iv (xs.map f) ∧ xs.length ≤ reachBytes ∧ ∀ x ∈ xs, OK x := by
  cases h with
  | nil => exact ⟨[], Or.inl ⟨rfl, rfl⟩, by simp, fun x h => by cases h⟩
  | sl hm hl hk =>
    rename_i es
    have each : ∀ e ∈ es, ∃ a, e = f a ∧ OK a := fun e he => by
      obtain ⟨i, hi⟩ := List.getElem?_of_mem he
      exact hrow e (hl e he) fun j k c h1 h2 => hk i j e k c hi h1 h2
    have key : ∀ l : List (List IV), (∀ e ∈ l, ∃ a, e = f a ∧ OK a) → ∃ xs : List α, l = xs.map f ∧ ∀ x ∈ xs, OK x := by
      intro l
      induction l with
      | nil => exact fun _ => ⟨[], rfl, fun x h => by cases h⟩
      | cons e l ih =>
        intro hh
        obtain ⟨a, rfl, ha⟩ := hh e (List.mem_cons_self ..)
        obtain ⟨xs, rfl, hx⟩ := ih fun e he => hh e (List.mem_cons_of_mem _ he)
        refine ⟨a :: xs, rfl, fun x hx' => ?_⟩
        rcases List.mem_cons.1 hx' with rfl | hx'
        · exact ha
        · exact hx x hx'
    obtain ⟨xs, rfl, hx⟩ := key es each
    exact ⟨xs, .inr ⟨_, rfl⟩, by simpa using hm, hx⟩
theorem ints_of {iv : IV} (h : FitK (.sl [.i .i64]) iv) : ∃ zs : List Int, Sl 1 iv (zs.map ivI) ∧ zs.length ≤ reachBytes ∧ ∀ z ∈ zs, -2 ^ 63 ≤ z ∧ z < 2 ^ 63 :=
  rows_of h ivI _ fun e hl hk => by
    match e, hl with
    | [c], _ =>
      have f0 := hk 0 _ _ rfl rfl
      cases f0 with
      | i h => exact ⟨_, rfl, wf_i64 h⟩
abbrev kdR : List Kd := [.s, .i .i64, .i .i64, .sl [.i .i64], .sl [.i .i64, .b], .sl [.i .i64, .b]]
abbrev kdL : List Kd := [.sl [.s], .sl [.s, .i .i64], .sl [.s], .sl kdR]
end Go.Proofs.YtnpcgejfkonfdaaDoor.D

-- T2
-- TabN
set_option linter.unusedVariables false
set_option linter.unusedSimpArgs false
set_option maxHeartbeats 16000000
namespace Go.Proofs.YtnpcgejfkonfdaaDoor.D
open Go Go.PM Go.Lib
def NE1 (pts : List Pt) (xs : List Need) (path : List Int) (w : Bool) (i : Nat) : Prop :=
  InR (nth xs i).pt pts.length ∧ (0 < i → (nth xs (i - 1)).pt < (nth xs i).pt) ∧ ((nth pts (nth xs i).pt.toNat).sec ∈ path ↔ w = true)
def NE (pts : List Pt) (xs : List Need) (path : List Int) (w : Bool) : Prop := ∀ i, i < xs.length → NE1 pts xs path w i
end Go.Proofs.YtnpcgejfkonfdaaDoor.D

-- TabO
set_option linter.unusedVariables false
set_option linter.unusedSimpArgs false
set_option maxHeartbeats 16000000
namespace Go.Proofs.YtnpcgejfkonfdaaDoor.D
open Go Go.PM Go.Lib
end Go.Proofs.YtnpcgejfkonfdaaDoor.D

-- TabP
set_option linter.unusedVariables false
set_option linter.unusedSimpArgs false
set_option maxHeartbeats 16000000
namespace Go.Proofs.YtnpcgejfkonfdaaDoor.D
open Go Go.PM Go.Lib
def cnt (pts : List Pt) (path : List Int) : Nat := (pts.filter fun p => decide (p.sec ∈ path)).length
structure RT (l : Lo) (r : Rt) : Prop where
  fr : InR r.fr l.sigs.length
  to : InR r.to l.sigs.length
  ne : ¬ r.fr = r.to
  pa : PA l.secs.length r.path
  p1 : 1 ≤ r.path.length
  p5 : r.path.length ≤ 5
  np : NE l.pts r.pts r.path true
  nf : NE l.pts r.flk r.path false
  ct : cnt l.pts r.path = r.pts.length
end Go.Proofs.YtnpcgejfkonfdaaDoor.D

-- TabQ
set_option linter.unusedVariables false
set_option linter.unusedSimpArgs false
set_option maxHeartbeats 16000000
namespace Go.Proofs.YtnpcgejfkonfdaaDoor.D
open Go Go.PM Go.Lib
def Box (st : St) (k : Nat) (vs : List IV) : Prop := ∃ id, st.T.get k = some (.lref k id 0) ∧ st.L.get k = some (.box id (imms vs))
abbrev Lo.ivs (l : Lo) : List IV := [l.sv, l.pv, l.gv, l.rv]
end Go.Proofs.YtnpcgejfkonfdaaDoor.D

-- TabR
set_option linter.unusedVariables false
set_option linter.unusedSimpArgs false
set_option maxHeartbeats 16000000
namespace Go.Proofs.YtnpcgejfkonfdaaDoor.D
open Go Go.PM Go.Lib
/-! ### Rows that grow, two of them -/
def DJ (x y : DV) : Prop := ∀ id r l c id' r' l' c', x = .sl id r l c → y = .sl id' r' l' c' → id ≠ id'
theorem DJ.nil {x : DV} : DJ x (.imm .nils) := fun _ _ _ _ _ _ _ _ _ h => by cases h
theorem DJ.symm {x y : DV} (h : DJ x y) : DJ y x := fun a b c d e f g k h1 h2 => fun e1 => h e f g k a b c d h2 h1 e1.symm
theorem AtS.mono {sz : Nat} {x : DV} {H : PT HB} {n n' : Nat} {rows : List (List IV)} (h : AtS sz x H n rows) (hn : n ≤ n') : AtS sz x H n' rows := by
  rcases h with h | ⟨id, h1, h2⟩
  · exact .inl h
  · exact .inr ⟨id, by omega, h2⟩
/-! ### table.Is -/
def pn (l : Lo) : List (List UInt8) := l.pts.map (·.name)
def rn (l : Lo) : List (List UInt8) := l.rts.map (·.name)
structure ISL (l : Lo) : Prop where
  s1 : 1 ≤ l.secs.length
  s2 : l.secs.length ≤ 10
  g1 : 1 ≤ l.sigs.length
  g2 : l.sigs.length ≤ 6
  p2 : l.pts.length ≤ 5
  r2 : l.rts.length ≤ 6
  ps : ∀ i, i < l.pts.length → InR (nth l.pts i).sec l.secs.length
  ns : NM l.secs
  ng : NM l.sigs
  np : NM (pn l)
  nr : NM (rn l)
  rr : ∀ i, i < l.rts.length → RT l (nth l.rts i)
end Go.Proofs.YtnpcgejfkonfdaaDoor.D

-- TabS
set_option linter.unusedVariables false
set_option linter.unusedSimpArgs false
set_option maxHeartbeats 16000000
namespace Go.Proofs.YtnpcgejfkonfdaaDoor.D
open Go Go.PM Go.Lib
theorem rb3 : 3000 ≤ reachBytes ∧ reachBytes ≤ 2 ^ 50 := by decide
structure LoSm (l : Lo) : Prop where
  s : ∀ x ∈ l.secs, x.length ≤ 100000
  p : ∀ x ∈ l.pts, x.name.length ≤ 100000
  g : ∀ x ∈ l.sigs, x.length ≤ 100000
  r : ∀ x ∈ l.rts, x.name.length ≤ 100000
end Go.Proofs.YtnpcgejfkonfdaaDoor.D

-- T5
set_option linter.unusedVariables false
set_option linter.unusedSimpArgs false
set_option maxHeartbeats 16000000
namespace Go.Proofs.YtnpcgejfkonfdaaDoor.D
open Go Go.PM Go.Lib
/-! ### Rows with room -/
def AtC (sz : Nat) (x : DV) (H : PT HB) (n : Nat) (rows : List (List IV)) (cap : Nat) : Prop := (x = .imm .nils ∧ rows = [] ∧ cap = 0) ∨ ∃ id rest, id < n ∧ x = .sl id 0 rows.length cap ∧ H.get id = some ⟨sz, rows.map imms ++ rest⟩ ∧ rows.length + rest.length = cap
theorem src_sl {sz : Nat} {v : IV} {es : List (List IV)} (h : Sl sz v es) (hh : Nat → Option HB) : ∃ sb, srcOf hh (.imm v) = some (none, sb, es.map imms) ∧ (es ≠ [] → sb = sz) := by
  rcases h with ⟨rfl, rfl⟩ | ⟨f, rfl⟩
  · exact ⟨0, rfl, fun h => absurd rfl h⟩
  · exact ⟨sz, rfl, fun _ => rfl⟩
theorem app_cap {sz bytes : Nat} {x : DV} {H : PT HB} {n cap : Nat} {rows es : List (List IV)} {v : IV} (h : AtC sz x H n rows cap) (hs : 0 < sz) (hv : Sl sz v es) (hl : rows.length + es.length ≤ cap) :
    ∃ x' hw acc, appOf H.get n 0 sz bytes x (.imm v) = some { v := x', hw := hw, n' := n, acc := acc } ∧ AtC sz x' (putH H hw) n (rows ++ es) cap := by
  obtain ⟨sb, hsrc, hsb⟩ := src_sl hv H.get
  by_cases he : es = []
  · subst he
    refine ⟨x, [], [], ?_, by simpa [putH] using h⟩
    rcases h with ⟨rfl, rfl, rfl⟩ | ⟨id, rest, h1, rfl, h2, h3⟩
    · simp [appOf, hsrc, raccOf]
    · simp [appOf, hsrc, raccOf]
  · have hpos : 0 < es.length := List.length_pos_iff.2 he
    obtain rfl := hsb he
    rcases h with ⟨rfl, rfl, rfl⟩ | ⟨id, rest, h1, rfl, h2, h3⟩
    · exact absurd (by simpa using hl) he
    · refine ⟨.sl id 0 (rows.length + es.length) cap, [(id, some ⟨sb, rows.map imms ++ es.map imms ++ rest.drop es.length⟩)], .wX id :: raccOf none, ?_, .inr ⟨id, rest.drop es.length, h1, by simp, by simp [putH, PT.get_put], by simp; omega⟩⟩
      have a1 : rows.length + es.length ≤ rows.length + rest.length := by omega
      have a2 : (rows.map imms ++ rest).take rows.length = rows.map imms := by rw [List.take_left' (by simp)]
      have a3 : (rows.map imms ++ rest).drop (rows.length + es.length) = rest.drop es.length := by
        rw [List.drop_append]; simp
      simp [appOf, hsrc, he, hs, h2, hl, a1, a2, a3, raccOf]
theorem frz_cap {sz : Nat} {x : DV} {H : PT HB} {n cap : Nat} {rows : List (List IV)} (h : AtC sz x H n rows cap) : ∃ v, frz H.get 0 x = some (.imm v) ∧ Sl sz v rows := by
  rcases h with ⟨rfl, rfl, rfl⟩ | ⟨id, rest, h1, rfl, h2, h3⟩
  · exact ⟨_, rfl, .inl ⟨rfl, rfl⟩⟩
  · refine ⟨.lst false sz rows, ?_, .inr ⟨_, rfl⟩⟩
    have hf : frzI H.get 0 frzDepth (.sl id 0 rows.length cap) = some (.lst false sz rows) := by
      show (if 0 ≤ id then _ else _) = _
      rw [if_pos (Nat.zero_le _)]
      simp only [h2]
      rw [if_pos (by simp)]
      simp only [List.drop_zero]
      rw [List.take_left' (by simp), mapO_frz2]
      rfl
    have hz : frz H.get 0 (.sl id 0 rows.length cap) = if id < 0 then some (.sl id 0 rows.length cap) else (frzI H.get 0 frzDepth (.sl id 0 rows.length cap)).map .imm := rfl
    rw [hz, if_neg (Nat.not_lt_zero _), hf]
    rfl
theorem AtC.out {sz : Nat} {x : DV} {H : PT HB} {n cap : Nat} {rows : List (List IV)} (h : AtC sz x H n rows cap) : x.out = true := by
  rcases h with ⟨rfl, _⟩ | ⟨id, rest, _, rfl, _⟩ <;> rfl
theorem AtS.out {sz : Nat} {x : DV} {H : PT HB} {n : Nat} {rows : List (List IV)} (h : AtS sz x H n rows) : x.out = true := by
  rcases h with ⟨rfl, _⟩ | ⟨id, _, rfl, _⟩ <;> rfl
/-! ### Rows of values appended to nothing, to a row of the heap -/
theorem app_none {sz bytes : Nat} {x : DV} {h : Nat → Option HB} {n : Nat} {v : IV} (hx : x = .imm .nils ∨ x = .imm (.lst true sz []) ∨ ∃ id k, x = .sl id 0 k k) (hv : Sl sz v []) :
    appOf h n 0 sz bytes x (.imm v) = some { v := x, n' := n, acc := [] } := by
  obtain ⟨sb, hsrc, _⟩ := src_sl hv h
  rcases hx with rfl | rfl | ⟨id, k, rfl⟩ <;> simp [appOf, hsrc, raccOf]
theorem app_new {sz bytes : Nat} {h : Nat → Option HB} {n : Nat} {v : IV} {es : List (List IV)} (hv : Sl sz v es) (he : es ≠ []) (hs : 0 < sz) (hl : es.length ≤ 2 ^ 25) (hb : bytes ≤ 1000) :
    appOf h n 0 sz bytes (.imm (.lst true sz [])) (.imm v) = some { v := .sl n 0 es.length es.length, hw := [(n, some ⟨sz, es.map imms⟩)], n' := n + 1, acc := [.wX n] } := by
  obtain ⟨sb, hsrc, hsb⟩ := src_sl hv h
  obtain rfl := hsb he
  have a1 : es.length ≤ appMax := by unfold appMax; omega
  have a2 : es.length * bytes ≤ appMax := by
    have := Nat.mul_le_mul hl hb
    unfold appMax; omega
  simp [appOf, hsrc, he, hs, a1, a2, raccOf]
/-! ### slices.Grow, slices.Concat -/
theorem grow_run (d : Nat) {k : Nat} (hk : k ≤ 1000) (H : PT HB) (n : Nat) :
    Fe (K DG (d + 1) 107 [.imm .nils, .imm (.int .i64 k)] H n 0) (fun x H' n' => AtC 2 x H' n' [] k) := by
  rw [D.k107]
  refine fn_dw rfl ?_
  have w : IntKind.i64.wrap ((k : Int)) = k := wr_id (by omega) (by omega)
  have w0 : IntKind.i64.wrap 0 = 0 := by decide
  by_cases h0 : k = 0
  · subst h0
    simp [w0, B6, undT, fnEnd, argsT, PT.get_put, keep, opRun, ev, evs, evO, give, giveI, binOf, isNilK, PM.flip, putT, putL, putH, loadOf, storeOf, cut, over, ofCells, asNat, natOr, calm, clashes, Acc.clash, ressOf, resOf, frz, frz.frzs, DV.flat, DV.flat.flats, imms]
    exact .inl ⟨rfl, rfl, rfl⟩
  · have hj : ILt 0 (k : Int) = True := ilt_t (by omega)
    have a1 : k ≤ appMax := by unfold appMax; omega
    have a2 : k * 16 ≤ appMax := by unfold appMax; omega
    have a3 : 0 < k := by omega
    simp [w, w0, hj, a1, a2, a3, sliceOf, B6, undT, fnEnd, argsT, PT.get_put, keep, opRun, ev, evs, evO, give, giveI, binOf, isNilK, PM.flip, putT, putL, putH, loadOf, storeOf, cut, over, ofCells, asNat, natOr, calm, clashes, Acc.clash, ressOf, resOf, frz, frz.frzs, DV.flat, DV.flat.flats, imms]
    exact .inr ⟨n, List.replicate k (imms [.int .i64 0, .bool false]), by omega, rfl, by simp [PT.get_put, imms], by simp⟩
def ICA (p q : IV) (a b : Nat) (i : Nat) (st : St) : Prop := st.T.get 0 = some (.imm (.lst true 1 [[p], [q]])) ∧ st.T.get 9 = some (.imm (.lst true 1 [[p], [q]])) ∧ st.T.get 10 = some (.imm (.int .i64 2)) ∧ st.T.get 11 = some (.imm (.int .i64 i)) ∧
  st.T.get 3 = some (.imm (.int .i64 (if i = 0 then 0 else if i = 1 then a else a + b : Nat))) ∧ st.H = .lf ∧ st.n = 0
theorem two_loop : (2 : Nat) < LOOP := by unfold LOOP; omega
theorem loopCA {d : Nat} {p q : IV} {xs ys : List (List IV)} (hp : Sl 2 p xs) (hq : Sl 2 q ys) (hx : xs.length ≤ 100) (hy : ys.length ≤ 100) {ks : List Kf} {st : St} {Q : Ex → St → Prop} (h : ICA p q xs.length ys.length 0 st)
    (hk : ∀ st', ICA p q xs.length ys.length 2 st' → Bk DG (K DG d) 0 (.exit 0) ks st' Q) :
    Wp DG (K DG d) 0 D.l102_0 ks st Q := by
  refine dw_loop (N := 2) two_loop (ICA p q xs.length ys.length) (fun e st' => e = .exit 0 ∧ ICA p q xs.length ys.length 2 st') (fun i st hle hI => ?_) h (fun e s' h => by rw [h.1]; exact hk s' h.2)
  obtain ⟨h0, h9, h10, h11, h3, hH, hn⟩ := hI
  have pl := hp.len
  have ql := hq.len
  have w1 : IntKind.i64.wrap (xs.length : Int) = xs.length := wr_id (by omega) (by omega)
  have w2 : IntKind.i64.wrap ((xs.length : Int) + (ys.length : Int)) = (xs.length : Int) + (ys.length : Int) := wr_id (by omega) (by omega)
  have w3 : IntKind.i64.wrap 1 = 1 := by decide
  have w4 : IntKind.i64.wrap 2 = 2 := by decide
  have l02 : ILt 0 2 = True := ilt_t (by omega)
  have l12 : ILt 1 2 = True := ilt_t (by omega)
  have c1 : ILt (xs.length : Int) 0 = False := ilt_f (by omega)
  have c2 : ILt ((xs.length : Int) + (ys.length : Int)) 0 = False := ilt_f (by omega)
  rcases (show i = 0 ∨ i = 1 ∨ i = 2 by omega) with rfl | rfl | rfl
  · generalize hQ : (fun (e : Ex) (s' : St) => _) = Q'
    simp at h3
    simp only [D.l102_0b]
    simp [h0, h9, h10, h11, h3, hH, hn, pl, w1, w3, c1, l02, idxE, B6, undT, fnEnd, argsT, PT.get_put, keep, opRun, ev, evs, evO, give, giveI, binOf, isNilK, PM.flip, putT, putL, putH, loadOf, storeOf, cut, over, ofCells, asNat, natOr, calm, clashes, Acc.clash, ressOf, resOf, frz, frz.frzs, DV.flat, DV.flat.flats, imms]
    subst hQ
    simp [ICA, PT.get_put]
  · generalize hQ : (fun (e : Ex) (s' : St) => _) = Q'
    simp at h3
    simp only [D.l102_0b]
    simp [h0, h9, h10, h11, h3, hH, hn, ql, w2, w4, c2, l12, idxE, B6, undT, fnEnd, argsT, PT.get_put, keep, opRun, ev, evs, evO, give, giveI, binOf, isNilK, PM.flip, putT, putL, putH, loadOf, storeOf, cut, over, ofCells, asNat, natOr, calm, clashes, Acc.clash, ressOf, resOf, frz, frz.frzs, DV.flat, DV.flat.flats, imms]
    subst hQ
    simp [ICA, PT.get_put]
  · generalize hQ : (fun (e : Ex) (s' : St) => _) = Q'
    simp at h3
    simp only [D.l102_0b]
    simp [h0, h9, h10, h11, h3, hH, hn, B6, undT, fnEnd, argsT, PT.get_put, keep, opRun, ev, evs, evO, give, giveI, binOf, isNilK, PM.flip, putT, putL, putH, loadOf, storeOf, cut, over, ofCells, asNat, natOr, calm, clashes, Acc.clash, ressOf, resOf, frz, frz.frzs, DV.flat, DV.flat.flats, imms]
    subst hQ
    simp [ICA, PT.get_put]
def ICB (p q : IV) (xs ys : List (List IV)) (i : Nat) (st : St) : Prop := ∃ x, st.T.get 6 = some x ∧ st.T.get 25 = some (.imm (.lst true 1 [[p], [q]])) ∧ st.T.get 26 = some (.imm (.int .i64 2)) ∧ st.T.get 27 = some (.imm (.int .i64 i)) ∧
  AtC 2 x st.H st.n (if i = 0 then [] else if i = 1 then xs else xs ++ ys) (xs.length + ys.length)
theorem loopCB {d : Nat} {p q : IV} {xs ys : List (List IV)} (hp : Sl 2 p xs) (hq : Sl 2 q ys) {ks : List Kf} {st : St} {Q : Ex → St → Prop} (h : ICB p q xs ys 0 st)
    (hk : ∀ st', ICB p q xs ys 2 st' → Bk DG (K DG d) 0 (.exit 2) ks st' Q) :
    Wp DG (K DG d) 0 D.l102_1 ks st Q := by
  refine dw_loop (N := 2) two_loop (ICB p q xs ys) (fun e st' => e = .exit 2 ∧ ICB p q xs ys 2 st') (fun i st hle hI => ?_) h (fun e s' h => by rw [h.1]; exact hk s' h.2)
  obtain ⟨x, h6, h25, h26, h27, hat⟩ := hI
  have w3 : IntKind.i64.wrap 1 = 1 := by decide
  have w4 : IntKind.i64.wrap 2 = 2 := by decide
  have l02 : ILt 0 2 = True := ilt_t (by omega)
  have l12 : ILt 1 2 = True := ilt_t (by omega)
  rcases (show i = 0 ∨ i = 1 ∨ i = 2 by omega) with rfl | rfl | rfl
  · obtain ⟨x', hw, acc, p1, p2⟩ := app_cap (bytes := 16) hat (by omega) hp (by simp)
    generalize hQ : (fun (e : Ex) (s' : St) => _) = Q'
    simp only [D.l102_1b]
    simp [h6, h25, h26, h27, p1, w3, l02, idxE, B6, undT, fnEnd, argsT, PT.get_put, keep, opRun, ev, evs, evO, give, giveI, binOf, isNilK, PM.flip, putT, putL, putH, loadOf, storeOf, cut, over, ofCells, asNat, natOr, calm, clashes, Acc.clash, ressOf, resOf, frz, frz.frzs, DV.flat, DV.flat.flats, imms]
    subst hQ
    simp at p2
    simp
    exact ⟨x', by simp [PT.get_put], by simp [PT.get_put], by simp [PT.get_put], by simp [PT.get_put], by simpa using p2⟩
  · obtain ⟨x', hw, acc, p1, p2⟩ := app_cap (bytes := 16) hat (by omega) hq (by simp)
    generalize hQ : (fun (e : Ex) (s' : St) => _) = Q'
    simp only [D.l102_1b]
    simp [h6, h25, h26, h27, p1, w4, l12, idxE, B6, undT, fnEnd, argsT, PT.get_put, keep, opRun, ev, evs, evO, give, giveI, binOf, isNilK, PM.flip, putT, putL, putH, loadOf, storeOf, cut, over, ofCells, asNat, natOr, calm, clashes, Acc.clash, ressOf, resOf, frz, frz.frzs, DV.flat, DV.flat.flats, imms]
    subst hQ
    simp at p2
    simp
    exact ⟨x', by simp [PT.get_put], by simp [PT.get_put], by simp [PT.get_put], by simp [PT.get_put], by simpa using p2⟩
  · generalize hQ : (fun (e : Ex) (s' : St) => _) = Q'
    simp only [D.l102_1b]
    simp [h6, h25, h26, h27, B6, undT, fnEnd, argsT, PT.get_put, keep, opRun, ev, evs, evO, give, giveI, binOf, isNilK, PM.flip, putT, putL, putH, loadOf, storeOf, cut, over, ofCells, asNat, natOr, calm, clashes, Acc.clash, ressOf, resOf, frz, frz.frzs, DV.flat, DV.flat.flats, imms]
    subst hQ
    simp
    exact ⟨x, by simp [PT.get_put], by simp [PT.get_put], by simp [PT.get_put], by simp [PT.get_put], by simpa using hat⟩
theorem concat_bl {D : Nat} (hD : 2 ≤ D) {p q : IV} {xs ys : List (List IV)} (hp : Sl 2 p xs) (hq : Sl 2 q ys) (hx : xs.length ≤ 100) (hy : ys.length ≤ 100) :
    ∃ v, bl (K DG D) 102 [.imm (.lst true 1 [[p], [q]])] = some (.imm v) ∧ Sl 2 v (xs ++ ys) := by
  obtain ⟨d, rfl⟩ : ∃ d, D = d + 2 := ⟨D - 2, by omega⟩
  have key : Fe (K DG (d + 2) 102 [.imm (.lst true 1 [[p], [q]])] .lf 0 0) (fun x H n => x.out = true ∧ AtC 2 x H n (xs ++ ys) (xs.length + ys.length)) := by
    rw [D.k102]
    refine fn_dw rfl ?_
    simp [B6, undT, fnEnd, argsT, PT.get_put, keep, opRun, ev, evs, evO, give, giveI, binOf, isNilK, PM.flip, putT, putL, putH, loadOf, storeOf, cut, over, ofCells, asNat, natOr, calm, clashes, Acc.clash, ressOf, resOf, frz, frz.frzs, DV.flat, DV.flat.flats, imms]
    refine loopCA hp hq hx hy ⟨by simp [PT.get_put], by simp [PT.get_put], by simp [PT.get_put], by simp [PT.get_put], by simp [PT.get_put], rfl, rfl⟩ ?_
    rintro st' ⟨h0, h9, h10, h11, h3, hH, hn⟩
    obtain ⟨x, H1, n1, e1, hat⟩ := grow_run d (k := xs.length + ys.length) (by omega) .lf 0
    simp at h3
    rw [show ((xs.length + ys.length : Nat) : Int) = (xs.length : Int) + (ys.length : Int) by omega] at e1
    simp [h0, h3, hH, hn, e1, B6, undT, fnEnd, argsT, PT.get_put, keep, opRun, ev, evs, evO, give, giveI, binOf, isNilK, PM.flip, putT, putL, putH, loadOf, storeOf, cut, over, ofCells, asNat, natOr, calm, clashes, Acc.clash, ressOf, resOf, frz, frz.frzs, DV.flat, DV.flat.flats, imms]
    refine loopCB hp hq ⟨x, by simp [PT.get_put], by simp [PT.get_put, h0], by simp [PT.get_put], by simp [PT.get_put], by simpa using hat⟩ ?_
    rintro st2 ⟨x2, g6, g25, g26, g27, gat⟩
    simp at gat
    simp [g6, gat.out, B6, undT, fnEnd, argsT, PT.get_put, keep, opRun, ev, evs, evO, give, giveI, binOf, isNilK, PM.flip, putT, putL, putH, loadOf, storeOf, cut, over, ofCells, asNat, natOr, calm, clashes, Acc.clash, ressOf, resOf, frz, frz.frzs, DV.flat, DV.flat.flats, imms]
    exact gat
  obtain ⟨x, H, n, e, ho, hat⟩ := key
  obtain ⟨v, e2, hv⟩ := frz_cap hat
  exact ⟨v, bl_of e e2, hv⟩
/-! ### table.Needs -/
def nd (r : Rt) : List Need := r.pts ++ r.flk
theorem NE_pt {pts : List Pt} {xs : List Need} {path : List Int} {w : Bool} (h : NE pts xs path w) : ∀ i, i < xs.length → (i : Int) ≤ (nth xs i).pt := by
  intro i
  induction i with
  | zero => exact fun hi => (h 0 hi).1.1
  | succ i ih =>
    intro hi
    have h1 := ih (by omega)
    have h2 := (h (i + 1) hi).2.1 (by omega)
    simp at h2
    omega
theorem NE_len {pts : List Pt} {xs : List Need} {path : List Int} {w : Bool} (h : NE pts xs path w) : xs.length ≤ pts.length := by
  by_cases h0 : xs.length = 0
  · omega
  · have h1 := NE_pt h (xs.length - 1) (by omega)
    have h2 := (h (xs.length - 1) (by omega)).1.2
    omega
theorem ISL.lq {l : Lo} (h : ISL l) {r : Nat} (hr : r < l.rts.length) : (nth l.rts r).pts.length ≤ 5 := Nat.le_trans (NE_len (h.rr r hr).np) h.p2
theorem ISL.lf {l : Lo} (h : ISL l) {r : Nat} (hr : r < l.rts.length) : (nth l.rts r).flk.length ≤ 5 := Nat.le_trans (NE_len (h.rr r hr).nf) h.p2
theorem Needs_bl {D : Nat} (hD : 3 ≤ D) {l : Lo} (ok : LoOk l) {r : Nat} (hr : r < l.rts.length) (hq : (nth l.rts r).pts.length ≤ 100) (hf : (nth l.rts r).flk.length ≤ 100) :
    ∃ v, bl (K DG D) 85 [l.dv, .imm (.int .i64 r)] = some (.imm v) ∧ Sl 2 v ((nd (nth l.rts r)).map ivN) := by
  obtain ⟨d, rfl⟩ : ∃ d, D = d + 1 := ⟨D - 1, by omega⟩
  have rk := ok.or _ (nth_mem hr)
  obtain ⟨v, e, hv⟩ := concat_bl (D := d) (by omega) rk.q rk.f (by simpa using hq) (by simpa using hf)
  refine ⟨v, bl_fe ?_, by simpa [nd] using hv⟩
  rw [D.k85]
  refine fn_dw rfl ?_
  have ix := fun {h : Nat → Option HB} {n : Nat} => idx_sl (h := h) (n := n) ok.r (by omega) (k := .i64) (z := (r : Int)) (by omega) (by omega)
  simp [ok.s.scal, ok.p.scal, ok.g.scal, ok.r.scal, rk.q.scal, rk.f.scal, ix, e, ivRt, evParts, evParts2, lay, unImms, unImm, mapO, rowsN, B6, undT, fnEnd, argsT, PT.get_put, keep, opRun, ev, evs, evO, give, giveI, binOf, isNilK, PM.flip, putT, putL, putH, loadOf, storeOf, cut, over, ofCells, asNat, natOr, calm, clashes, Acc.clash, ressOf, resOf, frz, frz.frzs, DV.flat, DV.flat.flats, imms]
end Go.Proofs.YtnpcgejfkonfdaaDoor.D

-- T6
set_option linter.unusedVariables false
set_option linter.unusedSimpArgs false
set_option maxHeartbeats 16000000
namespace Go.Proofs.YtnpcgejfkonfdaaDoor.D
open Go Go.PM Go.Lib
/-! ### Needs among needs -/
def NEq (a : Int) (b : Bool) (a' : Int) (b' : Bool) : Prop := a = a' ∧ b = b'
theorem eq_need {a a' : Int} {b b' : Bool} : eqSt [.i, .b] [.imm (.int .i64 a), .imm (.bool b)] [.imm (.int .i64 a'), .imm (.bool b')] = some (dec (NEq a b a' b')) := by
  simp only [eqSt, eqSc, if_true]
  by_cases h : NEq a b a' b'
  · rw [dec_t h]; obtain ⟨rfl, rfl⟩ := h; simp
  · rw [dec_f h]
    by_cases h1 : a = a'
    · have : ¬ b = b' := fun h2 => h ⟨h1, h2⟩
      simp [h1, this]
    · simp [h1]
theorem NEq_iff {a : Int} {b : Bool} {x : Need} : NEq a b x.pt x.rev ↔ (⟨a, b⟩ : Need) = x := ⟨fun h => by cases x; obtain ⟨rfl, rfl⟩ := h; rfl, fun h => by subst h; exact ⟨rfl, rfl⟩⟩
def IIN (v : IV) (a : Int) (b : Bool) (xs : List Need) (i : Nat) (st : St) : Prop := st.T.get 0 = some (.imm v) ∧ Box st 3 [.int .i64 a, .bool b] ∧ st.T.get 7 = some (.imm (.int .i64 xs.length)) ∧ st.T.get 8 = some (.imm (.int .i64 i)) ∧ ∀ j, j < i → (⟨a, b⟩ : Need) ≠ nth xs j
theorem loopIN {d : Nat} {v : IV} {a : Int} {b : Bool} {xs : List Need} (hv : Sl 2 v (xs.map ivN)) (hl : xs.length ≤ reachBytes) {ks : List Kf} {st : St} {Q : Ex → St → Prop} (h : IIN v a b xs 0 st)
    (hk : ∀ e st', (e = .ret ∧ (∃ r : Nat, st'.T.get 4 = some (.imm (.int .i64 r))) ∧ (⟨a, b⟩ : Need) ∈ xs) ∨ (e = .exit 0 ∧ (⟨a, b⟩ : Need) ∉ xs) → Bk DG (K DG d) 0 e ks st' Q) :
    Wp DG (K DG d) 0 D.l103_0 ks st Q := by
  refine dw_loop (N := xs.length) (small hl) (IIN v a b xs) (fun e st' => (e = .ret ∧ (∃ r : Nat, st'.T.get 4 = some (.imm (.int .i64 r))) ∧ (⟨a, b⟩ : Need) ∈ xs) ∨ (e = .exit 0 ∧ (⟨a, b⟩ : Need) ∉ xs)) (fun i st hle hI => ?_) h (fun e s' h => hk e s' h)
  obtain ⟨h0, ⟨id, h3, hL⟩, h7, h8, hall⟩ := hI
  by_cases hi : i < xs.length
  · have hi' : (i : Int) < xs.length := by omega
    have hj' := ilt_t hi'
    have hw8 : IntKind.i64.wrap ((i : Int) + 1) = (i : Int) + 1 := wr_succ hi hl
    have ix := fun {h : Nat → Option HB} {n : Nat} => idx_sl (h := h) (n := n) hv (by omega) (k := .i64) (z := (i : Int)) (by omega) hi'
    have yes : NEq a b (nth xs i).pt (nth xs i).rev → (⟨a, b⟩ : Need) ∈ xs := fun h => NEq_iff.1 h ▸ nth_mem hi
    have no : ¬ NEq a b (nth xs i).pt (nth xs i).rev → ∀ j, j < i + 1 → (⟨a, b⟩ : Need) ≠ nth xs j := fun h j hj => by
      rcases Nat.lt_or_eq_of_le (Nat.le_of_lt_succ hj) with hj | rfl
      · exact hall j hj
      · exact fun e => h (NEq_iff.2 e)
    generalize hQ : (fun (e : Ex) (s' : St) => _) = Q'
    simp only [D.l103_0b]
    simp (config := {contextual := true, maxSteps := 2000000}) [h0, h3, h7, h8, hL, hj', hw8, ix, ivN, eq_need, B6, undT, fnEnd, argsT, PT.get_put, keep, opRun, ev, evs, evO, give, giveI, binOf, isNilK, PM.flip, putT, putL, putH, loadOf, storeOf, cut, over, ofCells, asNat, natOr, calm, clashes, Acc.clash, ressOf, resOf, frz, frz.frzs, DV.flat, DV.flat.flats, imms]
    subst hQ
    simp only [IIN]
    refine ⟨fun a => .inr ⟨by simp, .inl ⟨trivial, ⟨i, by simp [PT.get_put]⟩, yes a⟩⟩, fun a => .inl ⟨trivial, hi, by simp [PT.get_put], ⟨id, by simp [PT.get_put], by simp [PT.get_put, imms]⟩, by simp [PT.get_put], by simp [PT.get_put], no a⟩⟩
  · obtain rfl : i = xs.length := by omega
    generalize hQ : (fun (e : Ex) (s' : St) => _) = Q'
    simp only [D.l103_0b]
    simp [h0, h3, h7, h8, hL, B6, undT, fnEnd, argsT, PT.get_put, keep, opRun, ev, evs, evO, give, giveI, binOf, isNilK, PM.flip, putT, putL, putH, loadOf, storeOf, cut, over, ofCells, asNat, natOr, calm, clashes, Acc.clash, ressOf, resOf, frz, frz.frzs, DV.flat, DV.flat.flats, imms]
    subst hQ
    simp
    intro hm
    obtain ⟨j, hj, e⟩ := mem_nth hm
    exact hall j hj e.symm
theorem index_needs {D : Nat} (hD : 1 ≤ D) {v : IV} {xs : List Need} (hv : Sl 2 v (xs.map ivN)) (hl : xs.length ≤ reachBytes) (a : Int) (b : Bool) :
    ∃ r : Int, bl (K DG D) 103 [.imm v, .agg [.imm (.int .i64 a), .imm (.bool b)]] = some (.imm (.int .i64 r)) ∧ (0 ≤ r ↔ (⟨a, b⟩ : Need) ∈ xs) := by
  obtain ⟨d, rfl⟩ : ∃ d, D = d + 1 := ⟨D - 1, by omega⟩
  have vl := hv.len
  simp only [List.length_map] at vl
  have key : Fe (K DG (d + 1) 103 [.imm v, .agg [.imm (.int .i64 a), .imm (.bool b)]] .lf 0 0) (fun x _ _ => ∃ r : Int, x = .imm (.int .i64 r) ∧ (0 ≤ r ↔ (⟨a, b⟩ : Need) ∈ xs)) := by
    rw [D.k103]
    refine fn_dw rfl ?_
    simp [vl, B6, undT, fnEnd, argsT, PT.get_put, keep, opRun, ev, evs, evO, give, giveI, binOf, isNilK, PM.flip, putT, putL, putH, loadOf, storeOf, cut, over, ofCells, asNat, natOr, calm, clashes, Acc.clash, ressOf, resOf, frz, frz.frzs, DV.flat, DV.flat.flats, imms]
    refine loopIN hv hl (a := a) (b := b) ⟨by simp [PT.get_put], ⟨0, by simp [PT.get_put], by simp [PT.get_put, imms]⟩, by simp [PT.get_put], by simp [PT.get_put], fun j hj => by omega⟩ ?_
    rintro e st' (⟨rfl, ⟨r, h4⟩, hm⟩ | ⟨rfl, hm⟩)
    · simp [h4, hm, B6, undT, fnEnd, argsT, PT.get_put, keep, opRun, ev, evs, evO, give, giveI, binOf, isNilK, PM.flip, putT, putL, putH, loadOf, storeOf, cut, over, ofCells, asNat, natOr, calm, clashes, Acc.clash, ressOf, resOf, frz, frz.frzs, DV.flat, DV.flat.flats, imms]
    · simp [hm, B6, undT, fnEnd, argsT, PT.get_put, keep, opRun, ev, evs, evO, give, giveI, binOf, isNilK, PM.flip, putT, putL, putH, loadOf, storeOf, cut, over, ofCells, asNat, natOr, calm, clashes, Acc.clash, ressOf, resOf, frz, frz.frzs, DV.flat, DV.flat.flats, imms]
  obtain ⟨x, H, n, e, r, rfl, hr⟩ := key
  exact ⟨r, bl_imm e, hr⟩
theorem contains_needs {D : Nat} (hD : 2 ≤ D) {v : IV} {xs : List Need} (hv : Sl 2 v (xs.map ivN)) (hl : xs.length ≤ reachBytes) (a : Int) (b : Bool) :
    bl (K DG D) 87 [.imm v, .agg [.imm (.int .i64 a), .imm (.bool b)]] = some (.imm (.bool (dec ((⟨a, b⟩ : Need) ∈ xs)))) := by
  obtain ⟨d, rfl⟩ : ∃ d, D = d + 1 := ⟨D - 1, by omega⟩
  obtain ⟨r, e1, e2⟩ := index_needs (D := d) (by omega) hv hl a b
  refine bl_fe ?_
  rw [D.k87]
  refine fn_dw rfl ?_
  rw [← dec_congr e2]
  simp [e1, B6, undT, fnEnd, argsT, PT.get_put, keep, opRun, ev, evs, evO, give, giveI, binOf, isNilK, PM.flip, putT, putL, putH, loadOf, storeOf, cut, over, ofCells, asNat, natOr, calm, clashes, Acc.clash, ressOf, resOf, frz, frz.frzs, DV.flat, DV.flat.flats, imms]
  rw [dec_d, ← dec_d, ← dec_d]
  by_cases h : 0 ≤ r
  · simp [h, ilt_f h]
  · simp [h, ilt_t (show r < 0 by omega)]
/-! ### ContainsFunc -/
/-- What a function that is handed in says of each thing, whatever the number that is next. -/
def Says {α : Type} (d : Nat) (f : FuncId) (caps : List DV) (H : PT HB) (n0 : Nat) (arg : α → DV) (P : α → Prop) (OK : α → Prop) : Prop :=
  ∀ x, OK x → ∀ n, n0 ≤ n → ∃ H1 n1, K DG d f (arg x :: caps) H n n = some (.imm (.bool (dec (P x))), H1, n1) ∧ n ≤ n1
theorem Says.all {α : Type} {d : Nat} {f : FuncId} {caps : List DV} {H : PT HB} {n0 : Nat} {arg : α → DV} {P OK : α → Prop} (h : Says d f caps H n0 arg P (fun _ => True)) : Says d f caps H n0 arg P OK := fun x _ n hn => h x trivial n hn
def IIF {α : Type} [Inhabited α] (v : IV) (f : FuncId) (caps : List DV) (H : PT HB) (n0 : Nat) (P : α → Prop) (xs : List α) (i : Nat) (st : St) : Prop := st.T.get 0 = some (.imm v) ∧ st.T.get 1 = some (.fnc f caps) ∧ st.T.get 7 = some (.imm (.int .i64 xs.length)) ∧ st.T.get 8 = some (.imm (.int .i64 i)) ∧
  st.H = H ∧ n0 ≤ st.n ∧ ∀ j, j < i → ¬ P (nth xs j)
theorem loopIF {d : Nat} {v : IV} {f : FuncId} {caps : List DV} {H : PT HB} {n0 : Nat} {P : Int → Prop} {zs : List Int} (ho : DV.out.outs caps = true) (hs : Says d f caps H n0 (fun z : Int => .imm (.int .i64 z)) P (fun z => z ∈ zs)) (hv : Sl 1 v (zs.map ivI)) (hl : zs.length ≤ reachBytes) {lo : Nat} {ks : List Kf} {st : St} {Q : Ex → St → Prop} (h : IIF v f caps H n0 P zs 0 st)
    (hk : ∀ e st', n0 ≤ st'.n → (e = .ret ∧ (∃ r : Nat, st'.T.get 4 = some (.imm (.int .i64 r))) ∧ (∃ z ∈ zs, P z)) ∨ (e = .exit 0 ∧ ¬ ∃ z ∈ zs, P z) → Bk DG (K DG d) lo e ks st' Q) :
    Wp DG (K DG d) lo D.l99_0 ks st Q := by
  refine dw_loop (N := zs.length) (small hl) (IIF v f caps H n0 P zs) (fun e st' => n0 ≤ st'.n ∧ ((e = .ret ∧ (∃ r : Nat, st'.T.get 4 = some (.imm (.int .i64 r))) ∧ (∃ z ∈ zs, P z)) ∨ (e = .exit 0 ∧ ¬ ∃ z ∈ zs, P z))) (fun i st hle hI => ?_) h (fun e s' h => hk e s' h.1 h.2)
  obtain ⟨h0, h1, h7, h8, hH, hn, hall⟩ := hI
  by_cases hi : i < zs.length
  · have hi' : (i : Int) < zs.length := by omega
    have hj' := ilt_t hi'
    have hw8 : IntKind.i64.wrap ((i : Int) + 1) = (i : Int) + 1 := wr_succ hi hl
    have ix := fun {h : Nat → Option HB} {n : Nat} => idx_sl (h := h) (n := n) hv (by omega) (k := .i64) (z := (i : Int)) (by omega) hi'
    obtain ⟨H1, n1, e1, e2⟩ := hs (nth zs i) (nth_mem hi) st.n hn
    have no : ¬ P (nth zs i) → ∀ j, j < i + 1 → ¬ P (nth zs j) := fun h j hj => by
      rcases Nat.lt_or_eq_of_le (Nat.le_of_lt_succ hj) with hj | rfl
      · exact hall j hj
      · exact h
    generalize hQ : (fun (e : Ex) (s' : St) => _) = Q'
    simp only [D.l99_0b]
    simp (config := {contextual := true, maxSteps := 2000000}) [h0, h1, h7, h8, hH, hj', hw8, ix, ivI, ho, e1, B6, undT, fnEnd, argsT, PT.get_put, keep, opRun, ev, evs, evO, give, giveI, binOf, isNilK, PM.flip, putT, putL, putH, loadOf, storeOf, cut, over, ofCells, asNat, natOr, calm, clashes, Acc.clash, ressOf, resOf, frz, frz.frzs, DV.flat, DV.flat.flats, imms]
    subst hQ
    simp only [IIF]
    refine ⟨fun a => .inr ⟨by simp, by omega, .inl ⟨trivial, ⟨i, by simp [PT.get_put]⟩, _, nth_mem hi, a⟩⟩, fun a => .inl ⟨trivial, hi, by simp [PT.get_put], by simp [PT.get_put], by simp [PT.get_put], by simp [PT.get_put], trivial, by omega, no a⟩⟩
  · obtain rfl : i = zs.length := by omega
    generalize hQ : (fun (e : Ex) (s' : St) => _) = Q'
    simp only [D.l99_0b]
    simp [h0, h1, h7, h8, B6, undT, fnEnd, argsT, PT.get_put, keep, opRun, ev, evs, evO, give, giveI, binOf, isNilK, PM.flip, putT, putL, putH, loadOf, storeOf, cut, over, ofCells, asNat, natOr, calm, clashes, Acc.clash, ressOf, resOf, frz, frz.frzs, DV.flat, DV.flat.flats, imms]
    subst hQ
    simp
    refine ⟨hn, fun z hm hp => ?_⟩
    obtain ⟨j, hj, e⟩ := mem_nth hm
    exact hall j hj (e ▸ hp)
theorem indexF_ints {d : Nat} {v : IV} {f : FuncId} {caps : List DV} {H : PT HB} {n : Nat} {P : Int → Prop} {zs : List Int} (ho : DV.out.outs caps = true) (hs : Says d f caps H n (fun z : Int => .imm (.int .i64 z)) P (fun z => z ∈ zs)) (hv : Sl 1 v (zs.map ivI)) (hl : zs.length ≤ reachBytes) (lo : Nat) :
    Fe (K DG (d + 1) 99 [.imm v, .fnc f caps] H n lo) (fun x _ n' => n ≤ n' ∧ ∃ r : Int, x = .imm (.int .i64 r) ∧ (0 ≤ r ↔ ∃ z ∈ zs, P z)) := by
  have vl := hv.len
  simp only [List.length_map] at vl
  rw [D.k99]
  refine fn_dw rfl ?_
  simp [vl, B6, undT, fnEnd, argsT, PT.get_put, keep, opRun, ev, evs, evO, give, giveI, binOf, isNilK, PM.flip, putT, putL, putH, loadOf, storeOf, cut, over, ofCells, asNat, natOr, calm, clashes, Acc.clash, ressOf, resOf, frz, frz.frzs, DV.flat, DV.flat.flats, imms]
  refine loopIF (P := P) ho hs hv hl ⟨by simp [PT.get_put], by simp [PT.get_put], by simp [PT.get_put], by simp [PT.get_put], rfl, Nat.le_refl _, fun j hj => by omega⟩ ?_
  rintro e st' hn (⟨rfl, ⟨r, h4⟩, hm⟩ | ⟨rfl, hm⟩)
  · simp [h4, hn, B6, undT, fnEnd, argsT, PT.get_put, keep, opRun, ev, evs, evO, give, giveI, binOf, isNilK, PM.flip, putT, putL, putH, loadOf, storeOf, cut, over, ofCells, asNat, natOr, calm, clashes, Acc.clash, ressOf, resOf, frz, frz.frzs, DV.flat, DV.flat.flats, imms]
    exact hm
  · simp [hn, B6, undT, fnEnd, argsT, PT.get_put, keep, opRun, ev, evs, evO, give, giveI, binOf, isNilK, PM.flip, putT, putL, putH, loadOf, storeOf, cut, over, ofCells, asNat, natOr, calm, clashes, Acc.clash, ressOf, resOf, frz, frz.frzs, DV.flat, DV.flat.flats, imms]
    simpa using hm
theorem containsF_ints {d : Nat} {v : IV} {f : FuncId} {caps : List DV} {H : PT HB} {n : Nat} {P : Int → Prop} {zs : List Int} (ho : DV.out.outs caps = true) (hs : Says d f caps H n (fun z : Int => .imm (.int .i64 z)) P (fun z => z ∈ zs)) (hv : Sl 1 v (zs.map ivI)) (hl : zs.length ≤ reachBytes) (lo : Nat) :
    Fe (K DG (d + 2) 81 [.imm v, .fnc f caps] H n lo) (fun x _ n' => n ≤ n' ∧ x = .imm (.bool (dec (∃ z ∈ zs, P z)))) := by
  obtain ⟨x, H1, n1, e, hn, r, rfl, hr⟩ := indexF_ints ho hs hv hl n
  rw [D.k81]
  refine fn_dw rfl ?_
  rw [← dec_congr hr]
  simp [ho, e, B6, undT, fnEnd, argsT, PT.get_put, keep, opRun, ev, evs, evO, give, giveI, binOf, isNilK, PM.flip, putT, putL, putH, loadOf, storeOf, cut, over, ofCells, asNat, natOr, calm, clashes, Acc.clash, ressOf, resOf, frz, frz.frzs, DV.flat, DV.flat.flats, imms]
  refine ⟨hn, ?_⟩
  by_cases h : 0 ≤ r
  · simp [h, ilt_f h, dec_true]
  · simp [h, ilt_t (show r < 0 by omega), dec_false]
theorem loopIFn {d : Nat} {v : IV} {f : FuncId} {caps : List DV} {H : PT HB} {n0 : Nat} {P : Need → Prop} {xs : List Need} (ho : DV.out.outs caps = true) (hs : Says d f caps H n0 (fun x : Need => .agg [.imm (.int .i64 x.pt), .imm (.bool x.rev)]) P (fun x => x ∈ xs)) (hv : Sl 2 v (xs.map ivN)) (hl : xs.length ≤ reachBytes) {lo : Nat} {ks : List Kf} {st : St} {Q : Ex → St → Prop} (h : IIF v f caps H n0 P xs 0 st)
    (hk : ∀ e st', n0 ≤ st'.n → (e = .ret ∧ (∃ r : Nat, st'.T.get 4 = some (.imm (.int .i64 r))) ∧ (∃ x ∈ xs, P x)) ∨ (e = .exit 0 ∧ ¬ ∃ x ∈ xs, P x) → Bk DG (K DG d) lo e ks st' Q) :
    Wp DG (K DG d) lo D.l101_0 ks st Q := by
  refine dw_loop (N := xs.length) (small hl) (IIF v f caps H n0 P xs) (fun e st' => n0 ≤ st'.n ∧ ((e = .ret ∧ (∃ r : Nat, st'.T.get 4 = some (.imm (.int .i64 r))) ∧ (∃ x ∈ xs, P x)) ∨ (e = .exit 0 ∧ ¬ ∃ x ∈ xs, P x))) (fun i st hle hI => ?_) h (fun e s' h => hk e s' h.1 h.2)
  obtain ⟨h0, h1, h7, h8, hH, hn, hall⟩ := hI
  by_cases hi : i < xs.length
  · have hi' : (i : Int) < xs.length := by omega
    have hj' := ilt_t hi'
    have hw8 : IntKind.i64.wrap ((i : Int) + 1) = (i : Int) + 1 := wr_succ hi hl
    have ix := fun {h : Nat → Option HB} {n : Nat} => idx_sl (h := h) (n := n) hv (by omega) (k := .i64) (z := (i : Int)) (by omega) hi'
    obtain ⟨H1, n1, e1, e2⟩ := hs (nth xs i) (nth_mem hi) st.n hn
    have no : ¬ P (nth xs i) → ∀ j, j < i + 1 → ¬ P (nth xs j) := fun h j hj => by
      rcases Nat.lt_or_eq_of_le (Nat.le_of_lt_succ hj) with hj | rfl
      · exact hall j hj
      · exact h
    generalize hQ : (fun (e : Ex) (s' : St) => _) = Q'
    simp only [D.l101_0b]
    simp (config := {contextual := true, maxSteps := 2000000}) [h0, h1, h7, h8, hH, hj', hw8, ix, ivN, ho, e1, B6, undT, fnEnd, argsT, PT.get_put, keep, opRun, ev, evs, evO, give, giveI, binOf, isNilK, PM.flip, putT, putL, putH, loadOf, storeOf, cut, over, ofCells, asNat, natOr, calm, clashes, Acc.clash, ressOf, resOf, frz, frz.frzs, DV.flat, DV.flat.flats, imms]
    subst hQ
    simp only [IIF]
    refine ⟨fun a => .inr ⟨by simp, by omega, .inl ⟨trivial, ⟨i, by simp [PT.get_put]⟩, _, nth_mem hi, a⟩⟩, fun a => .inl ⟨trivial, hi, by simp [PT.get_put], by simp [PT.get_put], by simp [PT.get_put], by simp [PT.get_put], trivial, by omega, no a⟩⟩
  · obtain rfl : i = xs.length := by omega
    generalize hQ : (fun (e : Ex) (s' : St) => _) = Q'
    simp only [D.l101_0b]
    simp [h0, h1, h7, h8, B6, undT, fnEnd, argsT, PT.get_put, keep, opRun, ev, evs, evO, give, giveI, binOf, isNilK, PM.flip, putT, putL, putH, loadOf, storeOf, cut, over, ofCells, asNat, natOr, calm, clashes, Acc.clash, ressOf, resOf, frz, frz.frzs, DV.flat, DV.flat.flats, imms]
    subst hQ
    simp
    refine ⟨hn, fun z hm hp => ?_⟩
    obtain ⟨j, hj, e⟩ := mem_nth hm
    exact hall j hj (e ▸ hp)
theorem containsF_needs {d : Nat} {v : IV} {f : FuncId} {caps : List DV} {H : PT HB} {n : Nat} {P : Need → Prop} {xs : List Need} (ho : DV.out.outs caps = true) (hs : Says d f caps H n (fun x : Need => .agg [.imm (.int .i64 x.pt), .imm (.bool x.rev)]) P (fun x => x ∈ xs)) (hv : Sl 2 v (xs.map ivN)) (hl : xs.length ≤ reachBytes) (lo : Nat) :
    Fe (K DG (d + 2) 84 [.imm v, .fnc f caps] H n lo) (fun x _ n' => n ≤ n' ∧ x = .imm (.bool (dec (∃ x ∈ xs, P x)))) := by
  have key : Fe (K DG (d + 1) 101 [.imm v, .fnc f caps] H n n) (fun x _ n' => n ≤ n' ∧ ∃ r : Int, x = .imm (.int .i64 r) ∧ (0 ≤ r ↔ ∃ x ∈ xs, P x)) := by
    have vl := hv.len
    simp only [List.length_map] at vl
    rw [D.k101]
    refine fn_dw rfl ?_
    simp [vl, B6, undT, fnEnd, argsT, PT.get_put, keep, opRun, ev, evs, evO, give, giveI, binOf, isNilK, PM.flip, putT, putL, putH, loadOf, storeOf, cut, over, ofCells, asNat, natOr, calm, clashes, Acc.clash, ressOf, resOf, frz, frz.frzs, DV.flat, DV.flat.flats, imms]
    refine loopIFn (P := P) ho hs hv hl ⟨by simp [PT.get_put], by simp [PT.get_put], by simp [PT.get_put], by simp [PT.get_put], rfl, Nat.le_refl _, fun j hj => by omega⟩ ?_
    rintro e st' hn (⟨rfl, ⟨r, h4⟩, hm⟩ | ⟨rfl, hm⟩)
    · simp [h4, hn, B6, undT, fnEnd, argsT, PT.get_put, keep, opRun, ev, evs, evO, give, giveI, binOf, isNilK, PM.flip, putT, putL, putH, loadOf, storeOf, cut, over, ofCells, asNat, natOr, calm, clashes, Acc.clash, ressOf, resOf, frz, frz.frzs, DV.flat, DV.flat.flats, imms]
      exact hm
    · simp [hn, B6, undT, fnEnd, argsT, PT.get_put, keep, opRun, ev, evs, evO, give, giveI, binOf, isNilK, PM.flip, putT, putL, putH, loadOf, storeOf, cut, over, ofCells, asNat, natOr, calm, clashes, Acc.clash, ressOf, resOf, frz, frz.frzs, DV.flat, DV.flat.flats, imms]
      simpa using hm
  obtain ⟨x, H1, n1, e, hn, r, rfl, hr⟩ := key
  rw [D.k84]
  refine fn_dw rfl ?_
  rw [← dec_congr hr]
  simp [ho, e, B6, undT, fnEnd, argsT, PT.get_put, keep, opRun, ev, evs, evO, give, giveI, binOf, isNilK, PM.flip, putT, putL, putH, loadOf, storeOf, cut, over, ofCells, asNat, natOr, calm, clashes, Acc.clash, ressOf, resOf, frz, frz.frzs, DV.flat, DV.flat.flats, imms]
  refine ⟨hn, ?_⟩
  by_cases h : 0 ≤ r
  · simp [h, ilt_f h, dec_true]
  · simp [h, ilt_t (show r < 0 by omega), dec_false]
/-! ### table.Conflict -/
def CF (l : Lo) (r s : Nat) : Prop := r = s ∨ (nth l.rts r).fr = (nth l.rts s).fr ∨ (∃ z ∈ (nth l.rts r).path, z ∈ (nth l.rts s).path) ∨ ∃ x ∈ nd (nth l.rts r), (⟨x.pt, !x.rev⟩ : Need) ∈ nd (nth l.rts s)
/-- Routes with few needs. -/
def Few (l : Lo) : Prop := ∀ r, r < l.rts.length → (nth l.rts r).pts.length ≤ 100 ∧ (nth l.rts r).flk.length ≤ 100
theorem ISL.few {l : Lo} (h : ISL l) : Few l := fun r hr => ⟨by have := h.lq hr; omega, by have := h.lf hr; omega⟩
theorem says1 {d : Nat} (hd : 3 ≤ d) {r : Rt} (rk : RtOk r) {H : PT HB} {b n0 : Nat} (hb : H.get b = some ⟨6, [imms (ivRt r)]⟩) :
    Says d 82 [.ptr b 0 0] H n0 (fun z : Int => .imm (.int .i64 z)) (fun z => z ∈ r.path) (fun _ => True) := fun z _ n hn => by
  obtain ⟨d, rfl⟩ : ∃ d', d = d' + 1 := ⟨d - 1, by omega⟩
  have hc := contains_ints DG (D := d) (by omega) rk.p rk.lp z
  rw [dec_d] at hc
  have key : Fe (K DG (d + 1) 82 [.imm (.int .i64 z), .ptr b 0 0] H n n) (fun x _ n' => n ≤ n' ∧ x = .imm (.bool (dec (z ∈ r.path)))) := by
    rw [D.k82]
    refine fn_dw rfl ?_
    simp [hb, hc, ivRt, B6, undT, fnEnd, argsT, PT.get_put, keep, opRun, ev, evs, evO, give, giveI, binOf, isNilK, PM.flip, putT, putL, putH, loadOf, storeOf, cut, over, ofCells, asNat, natOr, calm, clashes, Acc.clash, ressOf, resOf, frz, frz.frzs, DV.flat, DV.flat.flats, imms]
  obtain ⟨x, H1, n1, e, h1, rfl⟩ := key
  exact ⟨H1, n1, e, h1⟩
theorem says2 {d : Nat} (hd : 5 ≤ d) {l : Lo} (ok : LoOk l) (fw : Few l) {s : Nat} (hs : s < l.rts.length) {H : PT HB} {a b n0 : Nat} (ha : H.get a = some ⟨4, [imms l.ivs]⟩) (hb : H.get b = some ⟨1, [[.imm (.int .i64 s)]]⟩) :
    Says d 86 [.ptr a 0 0, .ptr b 0 0] H n0 (fun x : Need => .agg [.imm (.int .i64 x.pt), .imm (.bool x.rev)]) (fun x => (⟨x.pt, !x.rev⟩ : Need) ∈ nd (nth l.rts s)) (fun _ => True) := fun x _ n hn => by
  obtain ⟨d, rfl⟩ : ∃ d', d = d' + 1 := ⟨d - 1, by omega⟩
  have hrb := rb3
  obtain ⟨v, e, hv⟩ := Needs_bl (D := d) (by omega) ok hs (fw s hs).1 (fw s hs).2
  have hl : (nd (nth l.rts s)).length ≤ reachBytes := by have := fw s hs; simp [nd]; omega
  have hc := contains_needs (D := d) (by omega) hv hl x.pt (!x.rev)
  have key : Fe (K DG (d + 1) 86 [.agg [.imm (.int .i64 x.pt), .imm (.bool x.rev)], .ptr a 0 0, .ptr b 0 0] H n n) (fun y _ n' => n ≤ n' ∧ y = .imm (.bool (dec ((⟨x.pt, !x.rev⟩ : Need) ∈ nd (nth l.rts s))))) := by
    rw [D.k86]
    refine fn_dw rfl ?_
    simp [ha, hb, hc, e, evParts, lay, B6, undT, fnEnd, argsT, PT.get_put, keep, opRun, ev, evs, evO, give, giveI, binOf, isNilK, PM.flip, putT, putL, putH, loadOf, storeOf, cut, over, ofCells, asNat, natOr, calm, clashes, Acc.clash, ressOf, resOf, frz, frz.frzs, DV.flat, DV.flat.flats, imms]
  obtain ⟨y, H1, n1, e, h1, rfl⟩ := key
  exact ⟨H1, n1, e, h1⟩
theorem Conflict_bl {D : Nat} (hD : 9 ≤ D) {l : Lo} (ok : LoOk l) (fw : Few l) {r s : Nat} (hr : r < l.rts.length) (hs : s < l.rts.length) :
    bl (K DG D) 59 [l.dv, .imm (.int .i64 r), .imm (.int .i64 s)] = some (.imm (.bool (dec (CF l r s)))) := by
  obtain ⟨d, rfl⟩ : ∃ d, D = d + 3 := ⟨D - 3, by omega⟩
  have hrb := rb3
  have rk := ok.or _ (nth_mem hr)
  have sk := ok.or _ (nth_mem hs)
  have hr' : (r : Int) < l.rts.length := by omega
  have hs' : (s : Int) < l.rts.length := by omega
  have ix := fun {h : Nat → Option HB} {n : Nat} => idx_sl (h := h) (n := n) ok.r (by omega) (k := .i64) (z := (r : Int)) (by omega) hr'
  have iy := fun {h : Nat → Option HB} {n : Nat} => idx_sl (h := h) (n := n) ok.r (by omega) (k := .i64) (z := (s : Int)) (by omega) hs'
  obtain ⟨vr, er, hvr⟩ := Needs_bl (D := d + 2) (by omega) ok hr (fw r hr).1 (fw r hr).2
  have hlr : (nd (nth l.rts r)).length ≤ reachBytes := by have := fw r hr; simp [nd]; omega
  refine bl_fe ?_
  rw [D.k59]
  refine fn_dw rfl ?_
  simp [ok.s.scal, ok.p.scal, ok.g.scal, ok.r.scal, rk.p.scal, rk.q.scal, rk.f.scal, sk.p.scal, sk.q.scal, sk.f.scal, ix, iy, er, ivRt, B6, undT, fnEnd, argsT, PT.get_put, keep, opRun, ev, evs, evO, give, giveI, binOf, isNilK, PM.flip, putT, putL, putH, loadOf, storeOf, cut, over, ofCells, asNat, natOr, calm, clashes, Acc.clash, ressOf, resOf, frz, frz.frzs, DV.flat, DV.flat.flats, imms]
  generalize hHc : (PT.put (PT.put (PT.put (PT.put PT.lf 0 _) 1 _) 3 _) 3 _ : PT HB) = Hc
  have g0 : Hc.get 0 = some ⟨4, [imms l.ivs]⟩ := by rw [← hHc]; simp [PT.get_put, imms]
  have g1 : Hc.get 1 = some ⟨1, [[.imm (.int .i64 s)]]⟩ := by rw [← hHc]; simp [PT.get_put]
  have g3 : Hc.get 3 = some ⟨6, [imms (ivRt (nth l.rts s))]⟩ := by rw [← hHc]; simp [PT.get_put, imms, ivRt]
  obtain ⟨x1, H1, n1, e1, hn1, rfl⟩ := containsF_ints (d := d) (n := 4) rfl (Says.all (says1 (by omega) sk g3)) rk.p rk.lp 4
  obtain ⟨x2, H2, n2, e2, hn2, rfl⟩ := containsF_needs (d := d) (n := n1) rfl (Says.all (says2 (by omega) ok fw hs g0 g1)) hvr hlr n1
  have hct : CF l r s ↔ (r = s ∨ (nth l.rts r).fr = (nth l.rts s).fr ∨ (∃ z ∈ (nth l.rts r).path, z ∈ (nth l.rts s).path) ∨ ∃ x ∈ nd (nth l.rts r), (⟨x.pt, !x.rev⟩ : Need) ∈ nd (nth l.rts s)) := Iff.rfl
  rw [dec_congr hct]
  generalize (∃ z ∈ (nth l.rts r).path, z ∈ (nth l.rts s).path) = P1 at e1 ⊢
  generalize (∃ x ∈ nd (nth l.rts r), (⟨x.pt, !x.rev⟩ : Need) ∈ nd (nth l.rts s)) = P2 at e2 ⊢
  have i0 : ((r : Int) = (s : Int)) = (r = s) := propext ⟨fun h => by omega, fun h => by omega⟩
  generalize hQ : Fin _ _ = Q
  simp (config := {contextual := true, maxSteps := 2000000}) [e1, e2, er, g0, g1, g3, i0, ivRt, B6, undT, fnEnd, argsT, PT.get_put, keep, opRun, ev, evs, evO, give, giveI, binOf, isNilK, PM.flip, putT, putL, putH, loadOf, storeOf, cut, over, ofCells, asNat, natOr, calm, clashes, Acc.clash, ressOf, resOf, frz, frz.frzs, DV.flat, DV.flat.flats, imms]
  subst hQ
  simp (config := {contextual := true}) [B6, undT, fnEnd, argsT, PT.get_put, keep, opRun, ev, evs, evO, give, giveI, binOf, isNilK, PM.flip, putT, putL, putH, loadOf, storeOf, cut, over, ofCells, asNat, natOr, calm, clashes, Acc.clash, ressOf, resOf, frz, frz.frzs, DV.flat, DV.flat.flats, imms]
end Go.Proofs.YtnpcgejfkonfdaaDoor.D

-- K4
-- K1
set_option linter.unusedVariables false
set_option linter.unusedSimpArgs false
set_option maxHeartbeats 16000000
namespace Go.Proofs.YtnpcgejfkonfdaaDoor.D
open Go Go.PM Go.Lib
/-! ### slices.Clone -/
/-- What a copy is: nothing, an empty row, a row of the heap. -/
def Cl (sz : Nat) (x : DV) (H : PT HB) (n : Nat) (es : List (List IV)) : Prop := (x = .imm .nils ∧ es = []) ∨ (x = .imm (.lst true sz []) ∧ es = []) ∨ AtS sz x H n es
theorem Cl.frz {sz : Nat} {x : DV} {H : PT HB} {n : Nat} {es : List (List IV)} (h : Cl sz x H n es) : ∃ v, PM.frz H.get 0 x = some (.imm v) ∧ Sl sz v es := by
  rcases h with ⟨rfl, rfl⟩ | ⟨rfl, rfl⟩ | h
  · exact ⟨_, rfl, .inl ⟨rfl, rfl⟩⟩
  · exact ⟨_, rfl, .inr ⟨_, rfl⟩⟩
  · exact frz_row h
theorem clone_s {D : Nat} (hD : 1 ≤ D) {v : IV} {es : List (List IV)} (hv : Sl 1 v es) (hl : es.length ≤ 2 ^ 25) : ∃ v', bl (K DG D) 72 [.imm v] = some (.imm v') ∧ Sl 1 v' es := by
  obtain ⟨d, rfl⟩ : ∃ d, D = d + 1 := ⟨D - 1, by omega⟩
  have hv0 := hv
  have key : Fe (K DG (d + 1) 72 [.imm v] .lf 0 0) (fun x H n => Cl 1 x H n es) := by
    rw [D.k72]
    refine fn_dw rfl ?_
    rcases hv with ⟨rfl, rfl⟩ | ⟨f, rfl⟩
    · simp [B6, undT, fnEnd, argsT, PT.get_put, keep, opRun, ev, evs, evO, give, giveI, binOf, isNilK, PM.flip, putT, putL, putH, loadOf, storeOf, cut, over, ofCells, asNat, natOr, calm, clashes, Acc.clash, ressOf, resOf, frz, frz.frzs, DV.flat, DV.flat.flats, imms]
      exact .inl ⟨rfl, rfl⟩
    · by_cases he : es = []
      · have p1 := fun {h : Nat → Option HB} {n : Nat} {x : DV} hx => app_none (bytes := 16) (h := h) (n := n) (x := x) hx (he ▸ hv0)
        subst he
        simp [p1, evParts2, lay, unImms, unImm, mapO, rowsN, B6, undT, fnEnd, argsT, PT.get_put, keep, opRun, ev, evs, evO, give, giveI, binOf, isNilK, PM.flip, putT, putL, putH, loadOf, storeOf, cut, over, ofCells, asNat, natOr, calm, clashes, Acc.clash, ressOf, resOf, frz, frz.frzs, DV.flat, DV.flat.flats, imms]
        exact .inr (.inl ⟨rfl, rfl⟩)
      · have p1 := fun {h : Nat → Option HB} {n : Nat} => app_new (bytes := 16) (h := h) (n := n) hv0 he (by omega) hl (by omega)
        simp [p1, evParts2, lay, unImms, unImm, mapO, rowsN, B6, undT, fnEnd, argsT, PT.get_put, keep, opRun, ev, evs, evO, give, giveI, binOf, isNilK, PM.flip, putT, putL, putH, loadOf, storeOf, cut, over, ofCells, asNat, natOr, calm, clashes, Acc.clash, ressOf, resOf, frz, frz.frzs, DV.flat, DV.flat.flats, imms]
        exact .inr (.inr (.inr ⟨_, by omega, rfl, by simp [PT.get_put]⟩))
  obtain ⟨x, H, n, e, hc⟩ := key
  obtain ⟨v', e2, h2⟩ := hc.frz
  exact ⟨v', bl_of e e2, h2⟩
theorem clone_p {D : Nat} (hD : 1 ≤ D) {v : IV} {es : List (List IV)} (hv : Sl 2 v es) (hl : es.length ≤ 2 ^ 25) : ∃ v', bl (K DG D) 73 [.imm v] = some (.imm v') ∧ Sl 2 v' es := by
  obtain ⟨d, rfl⟩ : ∃ d, D = d + 1 := ⟨D - 1, by omega⟩
  have hv0 := hv
  have key : Fe (K DG (d + 1) 73 [.imm v] .lf 0 0) (fun x H n => Cl 2 x H n es) := by
    rw [D.k73]
    refine fn_dw rfl ?_
    rcases hv with ⟨rfl, rfl⟩ | ⟨f, rfl⟩
    · simp [B6, undT, fnEnd, argsT, PT.get_put, keep, opRun, ev, evs, evO, give, giveI, binOf, isNilK, PM.flip, putT, putL, putH, loadOf, storeOf, cut, over, ofCells, asNat, natOr, calm, clashes, Acc.clash, ressOf, resOf, frz, frz.frzs, DV.flat, DV.flat.flats, imms]
      exact .inl ⟨rfl, rfl⟩
    · by_cases he : es = []
      · have p1 := fun {h : Nat → Option HB} {n : Nat} {x : DV} hx => app_none (bytes := 24) (h := h) (n := n) (x := x) hx (he ▸ hv0)
        subst he
        simp [p1, evParts2, lay, unImms, unImm, mapO, rowsN, B6, undT, fnEnd, argsT, PT.get_put, keep, opRun, ev, evs, evO, give, giveI, binOf, isNilK, PM.flip, putT, putL, putH, loadOf, storeOf, cut, over, ofCells, asNat, natOr, calm, clashes, Acc.clash, ressOf, resOf, frz, frz.frzs, DV.flat, DV.flat.flats, imms]
        exact .inr (.inl ⟨rfl, rfl⟩)
      · have p1 := fun {h : Nat → Option HB} {n : Nat} => app_new (bytes := 24) (h := h) (n := n) hv0 he (by omega) hl (by omega)
        simp [p1, evParts2, lay, unImms, unImm, mapO, rowsN, B6, undT, fnEnd, argsT, PT.get_put, keep, opRun, ev, evs, evO, give, giveI, binOf, isNilK, PM.flip, putT, putL, putH, loadOf, storeOf, cut, over, ofCells, asNat, natOr, calm, clashes, Acc.clash, ressOf, resOf, frz, frz.frzs, DV.flat, DV.flat.flats, imms]
        exact .inr (.inr (.inr ⟨_, by omega, rfl, by simp [PT.get_put]⟩))
  obtain ⟨x, H, n, e, hc⟩ := key
  obtain ⟨v', e2, h2⟩ := hc.frz
  exact ⟨v', bl_of e e2, h2⟩
theorem clone_i {D : Nat} (hD : 1 ≤ D) {v : IV} {es : List (List IV)} (hv : Sl 1 v es) (hl : es.length ≤ 2 ^ 25) : ∃ v', bl (K DG D) 75 [.imm v] = some (.imm v') ∧ Sl 1 v' es := by
  obtain ⟨d, rfl⟩ : ∃ d, D = d + 1 := ⟨D - 1, by omega⟩
  have hv0 := hv
  have key : Fe (K DG (d + 1) 75 [.imm v] .lf 0 0) (fun x H n => Cl 1 x H n es) := by
    rw [D.k75]
    refine fn_dw rfl ?_
    rcases hv with ⟨rfl, rfl⟩ | ⟨f, rfl⟩
    · simp [B6, undT, fnEnd, argsT, PT.get_put, keep, opRun, ev, evs, evO, give, giveI, binOf, isNilK, PM.flip, putT, putL, putH, loadOf, storeOf, cut, over, ofCells, asNat, natOr, calm, clashes, Acc.clash, ressOf, resOf, frz, frz.frzs, DV.flat, DV.flat.flats, imms]
      exact .inl ⟨rfl, rfl⟩
    · by_cases he : es = []
      · have p1 := fun {h : Nat → Option HB} {n : Nat} {x : DV} hx => app_none (bytes := 8) (h := h) (n := n) (x := x) hx (he ▸ hv0)
        subst he
        simp [p1, evParts2, lay, unImms, unImm, mapO, rowsN, B6, undT, fnEnd, argsT, PT.get_put, keep, opRun, ev, evs, evO, give, giveI, binOf, isNilK, PM.flip, putT, putL, putH, loadOf, storeOf, cut, over, ofCells, asNat, natOr, calm, clashes, Acc.clash, ressOf, resOf, frz, frz.frzs, DV.flat, DV.flat.flats, imms]
        exact .inr (.inl ⟨rfl, rfl⟩)
      · have p1 := fun {h : Nat → Option HB} {n : Nat} => app_new (bytes := 8) (h := h) (n := n) hv0 he (by omega) hl (by omega)
        simp [p1, evParts2, lay, unImms, unImm, mapO, rowsN, B6, undT, fnEnd, argsT, PT.get_put, keep, opRun, ev, evs, evO, give, giveI, binOf, isNilK, PM.flip, putT, putL, putH, loadOf, storeOf, cut, over, ofCells, asNat, natOr, calm, clashes, Acc.clash, ressOf, resOf, frz, frz.frzs, DV.flat, DV.flat.flats, imms]
        exact .inr (.inr (.inr ⟨_, by omega, rfl, by simp [PT.get_put]⟩))
  obtain ⟨x, H, n, e, hc⟩ := key
  obtain ⟨v', e2, h2⟩ := hc.frz
  exact ⟨v', bl_of e e2, h2⟩
theorem clone_n {D : Nat} (hD : 1 ≤ D) {v : IV} {es : List (List IV)} (hv : Sl 2 v es) (hl : es.length ≤ 2 ^ 25) : ∃ v', bl (K DG D) 76 [.imm v] = some (.imm v') ∧ Sl 2 v' es := by
  obtain ⟨d, rfl⟩ : ∃ d, D = d + 1 := ⟨D - 1, by omega⟩
  have hv0 := hv
  have key : Fe (K DG (d + 1) 76 [.imm v] .lf 0 0) (fun x H n => Cl 2 x H n es) := by
    rw [D.k76]
    refine fn_dw rfl ?_
    rcases hv with ⟨rfl, rfl⟩ | ⟨f, rfl⟩
    · simp [B6, undT, fnEnd, argsT, PT.get_put, keep, opRun, ev, evs, evO, give, giveI, binOf, isNilK, PM.flip, putT, putL, putH, loadOf, storeOf, cut, over, ofCells, asNat, natOr, calm, clashes, Acc.clash, ressOf, resOf, frz, frz.frzs, DV.flat, DV.flat.flats, imms]
      exact .inl ⟨rfl, rfl⟩
    · by_cases he : es = []
      · have p1 := fun {h : Nat → Option HB} {n : Nat} {x : DV} hx => app_none (bytes := 16) (h := h) (n := n) (x := x) hx (he ▸ hv0)
        subst he
        simp [p1, evParts2, lay, unImms, unImm, mapO, rowsN, B6, undT, fnEnd, argsT, PT.get_put, keep, opRun, ev, evs, evO, give, giveI, binOf, isNilK, PM.flip, putT, putL, putH, loadOf, storeOf, cut, over, ofCells, asNat, natOr, calm, clashes, Acc.clash, ressOf, resOf, frz, frz.frzs, DV.flat, DV.flat.flats, imms]
        exact .inr (.inl ⟨rfl, rfl⟩)
      · have p1 := fun {h : Nat → Option HB} {n : Nat} => app_new (bytes := 16) (h := h) (n := n) hv0 he (by omega) hl (by omega)
        simp [p1, evParts2, lay, unImms, unImm, mapO, rowsN, B6, undT, fnEnd, argsT, PT.get_put, keep, opRun, ev, evs, evO, give, giveI, binOf, isNilK, PM.flip, putT, putL, putH, loadOf, storeOf, cut, over, ofCells, asNat, natOr, calm, clashes, Acc.clash, ressOf, resOf, frz, frz.frzs, DV.flat, DV.flat.flats, imms]
        exact .inr (.inr (.inr ⟨_, by omega, rfl, by simp [PT.get_put]⟩))
  obtain ⟨x, H, n, e, hc⟩ := key
  obtain ⟨v', e2, h2⟩ := hc.frz
  exact ⟨v', bl_of e e2, h2⟩
theorem clone_r {d : Nat} {v : IV} {es : List (List IV)} (hv : Sl 6 v es) (hl : es.length ≤ 2 ^ 25) (H : PT HB) (n : Nat) :
    Fe (K DG (d + 1) 74 [.imm v] H n 0) (fun x H' n' => n ≤ n' ∧ ((es = [] ∧ H' = H ∧ ∃ u, x = .imm u ∧ Sl 6 u []) ∨ (es ≠ [] ∧ x = .sl n 0 es.length es.length ∧ H' = H.put n (some ⟨6, es.map imms⟩) ∧ n' = n + 1))) := by
  have hv0 := hv
  rw [D.k74]
  refine fn_dw rfl ?_
  rcases hv with ⟨rfl, rfl⟩ | ⟨f, rfl⟩
  · simp [B6, undT, fnEnd, argsT, PT.get_put, keep, opRun, ev, evs, evO, give, giveI, binOf, isNilK, PM.flip, putT, putL, putH, loadOf, storeOf, cut, over, ofCells, asNat, natOr, calm, clashes, Acc.clash, ressOf, resOf, frz, frz.frzs, DV.flat, DV.flat.flats, imms]
    exact .inl ⟨rfl, rfl⟩
  · by_cases he : es = []
    · have p1 := fun {h : Nat → Option HB} {n : Nat} {x : DV} hx => app_none (bytes := 104) (h := h) (n := n) (x := x) hx (he ▸ hv0)
      subst he
      simp [p1, evParts2, lay, unImms, unImm, mapO, rowsN, B6, undT, fnEnd, argsT, PT.get_put, keep, opRun, ev, evs, evO, give, giveI, binOf, isNilK, PM.flip, putT, putL, putH, loadOf, storeOf, cut, over, ofCells, asNat, natOr, calm, clashes, Acc.clash, ressOf, resOf, frz, frz.frzs, DV.flat, DV.flat.flats, imms]
      exact .inr ⟨_, rfl⟩
    · have p1 := fun {h : Nat → Option HB} {n : Nat} => app_new (bytes := 104) (h := h) (n := n) hv0 he (by omega) hl (by omega)
      simp [p1, he, evParts2, lay, unImms, unImm, mapO, rowsN, B6, undT, fnEnd, argsT, PT.get_put, keep, opRun, ev, evs, evO, give, giveI, binOf, isNilK, PM.flip, putT, putL, putH, loadOf, storeOf, cut, over, ofCells, asNat, natOr, calm, clashes, Acc.clash, ressOf, resOf, frz, frz.frzs, DV.flat, DV.flat.flats, imms]
end Go.Proofs.YtnpcgejfkonfdaaDoor.D

-- K2
set_option linter.unusedVariables false
set_option linter.unusedSimpArgs false
set_option maxHeartbeats 16000000
namespace Go.Proofs.YtnpcgejfkonfdaaDoor.D
open Go Go.PM Go.Lib
/-! ### Layouts that say the same -/
structure RtEq (r r' : Rt) : Prop where
  name : r'.name = r.name
  fr : r'.fr = r.fr
  to : r'.to = r.to
  path : r'.path = r.path
  pts : r'.pts = r.pts
  flk : r'.flk = r.flk
structure LoEq (l l' : Lo) : Prop where
  secs : l'.secs = l.secs
  pts : l'.pts = l.pts
  sigs : l'.sigs = l.sigs
  len : l'.rts.length = l.rts.length
  rts : ∀ i, i < l.rts.length → RtEq (nth l.rts i) (nth l'.rts i)
theorem RtEq.rt {l l' : Lo} (e : LoEq l l') {r r' : Rt} (h : RtEq r r') (hr : RT l r) : RT l' r' := by
  obtain ⟨h1, h2, h3, h4, h5, h6⟩ := h
  obtain ⟨e1, e2, e3, e4, _⟩ := e
  refine ⟨?_, ?_, ?_, ?_, ?_, ?_, ?_, ?_, ?_⟩
  · rw [h2, e3]; exact hr.fr
  · rw [h3, e3]; exact hr.to
  · rw [h2, h3]; exact hr.ne
  · rw [e1, h4]; exact hr.pa
  · rw [h4]; exact hr.p1
  · rw [h4]; exact hr.p5
  · rw [e2, h4, h5]; exact hr.np
  · rw [e2, h4, h6]; exact hr.nf
  · rw [e2, h4, h5]; exact hr.ct
theorem map_nth {α β : Type} [Inhabited α] {f : α → β} {xs ys : List α} (hl : ys.length = xs.length) (h : ∀ i, i < xs.length → f (nth ys i) = f (nth xs i)) : ys.map f = xs.map f := by
  apply List.ext_getElem?
  intro i
  rw [List.getElem?_map, List.getElem?_map]
  by_cases hi : i < xs.length
  · rw [nth_get hi, nth_get (hl ▸ hi)]
    simp [h i hi]
  · rw [List.getElem?_eq_none (by omega), List.getElem?_eq_none (by omega)]
theorem LoEq.is {l l' : Lo} (e : LoEq l l') (h : ISL l) : ISL l' := by
  have e0 := e
  obtain ⟨e1, e2, e3, e4, e5⟩ := e
  refine ⟨by rw [e1]; exact h.s1, by rw [e1]; exact h.s2, by rw [e3]; exact h.g1, by rw [e3]; exact h.g2, by rw [e2]; exact h.p2, by rw [e4]; exact h.r2, ?_, by rw [e1]; exact h.ns, by rw [e3]; exact h.ng, ?_, ?_, ?_⟩
  · rw [e2, e1]; exact h.ps
  · have : pn l' = pn l := by simp [pn, e2]
    rw [this]; exact h.np
  · have : rn l' = rn l := map_nth e4 fun i hi => (e5 i hi).name
    rw [this]; exact h.nr
  · rw [e4]
    exact fun i hi => (e5 i hi).rt e0 (h.rr i hi)
theorem LoEq.cf {l l' : Lo} (e : LoEq l l') {r s : Nat} (hr : r < l.rts.length) (hs : s < l.rts.length) : CF l' r s = CF l r s := by
  have a := e.rts r hr
  have b := e.rts s hs
  simp only [CF, nd, a.fr, b.fr, a.path, b.path, a.pts, b.pts, a.flk, b.flk]
/-! ### lock.copied -/
def BoxD (st : St) (k : Nat) (vs : List DV) : Prop := ∃ id, st.T.get k = some (.lref k id 0) ∧ st.L.get k = some (.box id vs)
structure ICo (sv pv gv : IV) (l : Lo) (id k : Nat) (i : Nat) (news : List Rt) (st : St) : Prop where
  b1 : BoxD st 1 [.imm sv, .imm pv, .imm gv, .sl id 0 k k]
  b2 : BoxD st 2 [.imm .nils, .imm .nils, .imm .nils, .imm .nils]
  h22 : st.T.get 22 = some (.sl id 0 k k)
  h23 : st.T.get 23 = some (.imm (.int .i64 k))
  h24 : st.T.get 24 = some (.imm (.int .i64 i))
  hh : st.H.get id = some ⟨6, ((news ++ l.rts.drop i).map ivRt).map imms⟩
  nl : news.length = i
  ok : ∀ j, j < i → RtEq (nth l.rts j) (nth news j) ∧ RtOk (nth news j)
theorem drop_nth {α : Type} [Inhabited α] {xs : List α} {i : Nat} (h : i < xs.length) : xs.drop i = nth xs i :: xs.drop (i + 1) := by
  rw [List.drop_eq_getElem_cons h]
  congr 1
  have := nth_get h
  rw [List.getElem?_eq_getElem h] at this
  exact Option.some.inj this
theorem nth_app {α : Type} [Inhabited α] {xs ys : List α} {i : Nat} (h : i < xs.length) : nth (xs ++ ys) i = nth xs i := by
  have h1 : i < (xs ++ ys).length := by simp; omega
  have a := nth_get h1
  rw [List.getElem?_append_left h, nth_get h] at a
  exact (Option.some.inj a).symm
theorem nth_end {α : Type} [Inhabited α] {xs : List α} {y : α} : nth (xs ++ [y]) xs.length = y := by simp [nth]
theorem loopCo {d : Nat} (hd : 1 ≤ d) {sv pv gv : IV} {l : Lo} (ok : LoOk l) (fw : Few l) (hp : ∀ r, r < l.rts.length → (nth l.rts r).path.length ≤ 100) {id k : Nat} (hk : k = l.rts.length) (k6 : k ≤ 1000) {ks : List Kf} {st : St} {Q : Ex → St → Prop} (h : ICo sv pv gv l id k 0 [] st)
    (hq : ∀ st' news, ICo sv pv gv l id k k news st' → Bk DG (K DG d) 0 (.exit 0) ks st' Q) : Wp DG (K DG d) 0 D.l47_0 ks st Q := by
  have hrb := rb3
  refine dw_loop (N := k) (small (by omega)) (fun i st => ∃ news, ICo sv pv gv l id k i news st) (fun e st' => e = .exit 0 ∧ ∃ news, ICo sv pv gv l id k k news st') (fun i st hle hI => ?_) ⟨[], h⟩ (fun e s' h => by obtain ⟨rfl, news, h⟩ := h; exact hq s' news h)
  obtain ⟨news, ⟨i1, h1, L1⟩, ⟨i2, h2, L2⟩, h22, h23, h24, hh, nl, hok⟩ := hI
  by_cases hi : i < k
  · have hi1 : (i : Int) < k := by omega
    have hi' := ilt_t hi1
    have hw8 : IntKind.i64.wrap ((i : Int) + 1) = (i : Int) + 1 := wr_succ hi (by omega)
    have hil : i < l.rts.length := by omega
    have rk := ok.or _ (nth_mem hil)
    obtain ⟨p', ep, sp⟩ := clone_i (D := d) hd rk.p (by have := hp i hil; simp; omega)
    obtain ⟨q', eq', sq⟩ := clone_n (D := d) hd rk.q (by have := fw i hil; simp; omega)
    obtain ⟨f', ef, sf⟩ := clone_n (D := d) hd rk.f (by have := fw i hil; simp; omega)
    have e0 : ((news ++ l.rts.drop i).map ivRt).map imms = (news.map ivRt).map imms ++ imms (ivRt (nth l.rts i)) :: ((l.rts.drop (i + 1)).map ivRt).map imms := by rw [drop_nth hil]; simp
    have hln : ((news.map ivRt).map imms).length = i := by simp [nl]
    generalize hr : ((news ++ l.rts.drop i).map ivRt).map imms = rows at hh e0
    have hrow : rows[i]? = some (imms (ivRt (nth l.rts i))) := by rw [e0, ← hln]; simp
    have iy := fun {n : Nat} => idx_hp (h := st.H.get) (n := n) (id := id) (row := 0) (len := k) (cap := k) hh rfl (k := .i64) (z := (i : Int)) (by omega) hi1
    have hlt : i < rows.length := by rw [e0]; simp [nl]
    have hset : rows.set i (imms (ivRt { nth l.rts i with pv := p', qv := q', fv := f' })) = ((news ++ [{ nth l.rts i with pv := p', qv := q', fv := f' }] ++ l.rts.drop (i + 1)).map ivRt).map imms := by
      rw [e0, ← hln]; simp
    simp only [ivRt, imms, List.map_cons, List.map_nil, Int.toNat_natCast, Nat.zero_add] at hrow hset iy
    generalize hQ : (fun (e : Ex) (s' : St) => _) = Q'
    simp only [D.l47_0b]
    simp [h1, h2, L1, L2, h22, h23, h24, hi', hw8, iy, hh, hrow, ep, eq', ef, rk.p.scal, rk.q.scal, rk.f.scal, sp.scal, sq.scal, sf.scal, B6, undT, fnEnd, argsT, PT.get_put, keep, opRun, ev, evs, evO, give, giveI, binOf, isNilK, PM.flip, putT, putL, putH, loadOf, storeOf, cut, over, ofCells, asNat, natOr, calm, clashes, Acc.clash, ressOf, resOf, frz, frz.frzs, DV.flat, DV.flat.flats, imms]
    subst hQ
    refine .inl ⟨rfl, hi, news ++ [{ nth l.rts i with pv := p', qv := q', fv := f' }], ⟨i1, by simp [PT.get_put], by simp [PT.get_put]⟩, ⟨i2, by simp [PT.get_put], by simp [PT.get_put]⟩, by simp [PT.get_put], by simp [PT.get_put], by simp [PT.get_put], ?_, by simp [nl], fun j hj => ?_⟩
    · simp only [PT.get_put, if_true]
      rw [hset]
    · rcases Nat.lt_or_eq_of_le (Nat.le_of_lt_succ hj) with hj | rfl
      · rw [nth_app (by omega)]; exact hok j hj
      · subst nl
        rw [nth_end]
        exact ⟨⟨rfl, rfl, rfl, rfl, rfl, rfl⟩, ⟨sp, sq, sf, rk.ln, rk.lp, rk.lq, rk.lf⟩⟩
  · obtain rfl : i = k := by omega
    generalize hQ : (fun (e : Ex) (s' : St) => _) = Q'
    simp only [D.l47_0b]
    simp [h1, h2, L1, L2, h22, h23, h24, B6, undT, fnEnd, argsT, PT.get_put, keep, opRun, ev, evs, evO, give, giveI, binOf, isNilK, PM.flip, putT, putL, putH, loadOf, storeOf, cut, over, ofCells, asNat, natOr, calm, clashes, Acc.clash, ressOf, resOf, frz, frz.frzs, DV.flat, DV.flat.flats, imms]
    subst hQ
    exact .inr ⟨nofun, rfl, news, ⟨i1, by simp [PT.get_put, h1], by simp [PT.get_put, L1]⟩, ⟨i2, by simp [PT.get_put, h2], by simp [PT.get_put, L2]⟩, by simp [PT.get_put], by simp [PT.get_put], by simp [PT.get_put], hh, nl, hok⟩
theorem copied_bl {D : Nat} (hD : 2 ≤ D) {l : Lo} (ok : LoOk l) (is : ISL l) : ∃ l', bl (K DG D) 47 [l.dv] = some l'.dv ∧ LoOk l' ∧ LoEq l l' := by
  obtain ⟨d, rfl⟩ : ∃ d, D = d + 2 := ⟨D - 2, by omega⟩
  have hrb := rb3
  have r6 := is.r2
  obtain ⟨sv, es, ss⟩ := clone_s (D := d + 1) (by omega) ok.s (by have := is.s2; simp; omega)
  obtain ⟨pv, ep, sp⟩ := clone_p (D := d + 1) (by omega) ok.p (by have := is.p2; simp; omega)
  obtain ⟨gv, eg, sg⟩ := clone_s (D := d + 1) (by omega) ok.g (by have := is.g2; simp; omega)
  obtain ⟨x, H1, n1, e1, hn1, hx⟩ := clone_r (d := d) ok.r (by simp; omega) .lf 2
  have key : Fe (K DG (d + 2) 47 [l.dv] .lf 0 0) (fun v H n => (∃ u, v = .agg [.imm sv, .imm pv, .imm gv, .imm u] ∧ Sl 6 u [] ∧ l.rts = []) ∨
      ∃ id news, v = .agg [.imm sv, .imm pv, .imm gv, .sl id 0 l.rts.length l.rts.length] ∧ H.get id = some ⟨6, (news.map ivRt).map imms⟩ ∧ news.length = l.rts.length ∧ ∀ j, j < l.rts.length → RtEq (nth l.rts j) (nth news j) ∧ RtOk (nth news j)) := by
    rw [D.k47]
    refine fn_dw rfl ?_
    rcases hx with ⟨h0, rfl, u, rfl, hu⟩ | ⟨h0, rfl, rfl, rfl⟩
    · have hr0 : l.rts = [] := by simpa using h0
      have ul := hu.len
      obtain ⟨k, hL⟩ : ∃ k, LOOP = k + 1 := ⟨2 ^ 62 - 1, rfl⟩
      have l0 : ILt 0 0 = False := ilt_f (by omega)
      simp [ok.s.scal, ok.p.scal, ok.g.scal, ok.r.scal, ss.scal, sp.scal, sg.scal, hu.scal, es, ep, eg, e1, ul, B6, undT, fnEnd, argsT, PT.get_put, keep, opRun, ev, evs, evO, give, giveI, binOf, isNilK, PM.flip, putT, putL, putH, loadOf, storeOf, cut, over, ofCells, asNat, natOr, calm, clashes, Acc.clash, ressOf, resOf, frz, frz.frzs, DV.flat, DV.flat.flats, imms]
      refine dw_loop (N := 0) (by unfold LOOP; omega) (fun i st => BoxD st 1 [.imm sv, .imm pv, .imm gv, .imm u] ∧ BoxD st 2 [.imm .nils, .imm .nils, .imm .nils, .imm .nils] ∧ st.T.get 23 = some (.imm (.int .i64 0)) ∧ st.T.get 24 = some (.imm (.int .i64 0))) (fun e st => e = .exit 0 ∧ BoxD st 1 [.imm sv, .imm pv, .imm gv, .imm u] ∧ BoxD st 2 [.imm .nils, .imm .nils, .imm .nils, .imm .nils]) (fun i st hle hI => ?_) ⟨⟨0, by simp [PT.get_put], by simp [PT.get_put]⟩, ⟨1, by simp [PT.get_put], by simp [PT.get_put, imms]⟩, by simp [PT.get_put], by simp [PT.get_put]⟩ ?_
      · obtain ⟨⟨i1, h1, L1⟩, ⟨i2, h2, L2⟩, h23, h24⟩ := hI
        generalize hQ : (fun (e : Ex) (s' : St) => _) = Q'
        simp only [D.l47_0b]
        simp [h1, h2, L1, L2, h23, h24, l0, B6, undT, fnEnd, argsT, PT.get_put, keep, opRun, ev, evs, evO, give, giveI, binOf, isNilK, PM.flip, putT, putL, putH, loadOf, storeOf, cut, over, ofCells, asNat, natOr, calm, clashes, Acc.clash, ressOf, resOf, frz, frz.frzs, DV.flat, DV.flat.flats, imms]
        subst hQ
        exact .inr ⟨nofun, rfl, ⟨i1, by simp [PT.get_put, h1], by simp [PT.get_put, L1]⟩, ⟨i2, by simp [PT.get_put, h2], by simp [PT.get_put, L2]⟩⟩
      · rintro e st' ⟨rfl, ⟨i1, h1, L1⟩, ⟨i2, h2, L2⟩⟩
        simp [h1, h2, L1, L2, ss.scal, sp.scal, sg.scal, hu.scal, B6, undT, fnEnd, argsT, PT.get_put, keep, opRun, ev, evs, evO, give, giveI, binOf, isNilK, PM.flip, putT, putL, putH, loadOf, storeOf, cut, over, ofCells, asNat, natOr, calm, clashes, Acc.clash, ressOf, resOf, frz, frz.frzs, DV.flat, DV.flat.flats, imms]
        exact ⟨hu, hr0⟩
    · have fw := is.few
      simp [ok.s.scal, ok.p.scal, ok.g.scal, ok.r.scal, ss.scal, sp.scal, sg.scal, es, ep, eg, e1, B6, undT, fnEnd, argsT, PT.get_put, keep, opRun, ev, evs, evO, give, giveI, binOf, isNilK, PM.flip, putT, putL, putH, loadOf, storeOf, cut, over, ofCells, asNat, natOr, calm, clashes, Acc.clash, ressOf, resOf, frz, frz.frzs, DV.flat, DV.flat.flats, imms]
      refine loopCo (sv := sv) (pv := pv) (gv := gv) (l := l) (id := 2) (k := l.rts.length) (by omega) ok fw (fun r hr => by have := (is.rr r hr).p5; omega) rfl (by omega) ⟨⟨0, by simp [PT.get_put], by simp [PT.get_put]⟩, ⟨1, by simp [PT.get_put], by simp [PT.get_put, imms]⟩, by simp [PT.get_put], by simp [PT.get_put], by simp [PT.get_put], by simp [PT.get_put], rfl, fun j hj => by omega⟩ ?_
      rintro st' news ⟨⟨i1, h1, L1⟩, ⟨i2, h2, L2⟩, h22, h23, h24, hh, nl, hok⟩
      simp [h1, h2, L1, L2, ss.scal, sp.scal, sg.scal, B6, undT, fnEnd, argsT, PT.get_put, keep, opRun, ev, evs, evO, give, giveI, binOf, isNilK, PM.flip, putT, putL, putH, loadOf, storeOf, cut, over, ofCells, asNat, natOr, calm, clashes, Acc.clash, ressOf, resOf, frz, frz.frzs, DV.flat, DV.flat.flats, imms]
      refine ⟨news, ?_, nl, hok⟩
      rw [hh]; simp
  obtain ⟨v, H, n, e, hv⟩ := key
  rcases hv with ⟨u, rfl, hu, h0⟩ | ⟨id, news, rfl, hh, nl, hok⟩
  · refine ⟨⟨sv, pv, gv, u, l.secs, l.pts, l.sigs, l.rts⟩, bl_of e rfl, ⟨ss, sp, sg, by rw [h0]; exact hu, ok.ls, ok.lp, ok.lg, ok.lr, ok.os, ok.op, ok.og, ok.or⟩, ⟨rfl, rfl, rfl, rfl, fun i hi => ⟨rfl, rfl, rfl, rfl, rfl, rfl⟩⟩⟩
  · refine ⟨⟨sv, pv, gv, .lst false 6 (news.map ivRt), l.secs, l.pts, l.sigs, news⟩, bl_of e ?_, ⟨ss, sp, sg, .inr ⟨_, rfl⟩, ok.ls, ok.lp, ok.lg, by rw [nl]; exact ok.lr, ok.os, ok.op, ok.og, fun x hx => ?_⟩, ⟨rfl, rfl, rfl, nl, fun i hi => (hok i hi).1⟩⟩
    · have hf : frzI H.get 0 frzDepth (.sl id 0 l.rts.length l.rts.length) = some (.lst false 6 (news.map ivRt)) := by
        show (if 0 ≤ id then _ else _) = _
        rw [if_pos (Nat.zero_le _)]
        simp only [hh]
        rw [if_pos (by simp [nl])]
        simp only [List.drop_zero]
        rw [List.take_of_length_le (by simp [nl]), mapO_frz2]
        rfl
      have hz : frz H.get 0 (.sl id 0 l.rts.length l.rts.length) = some (.imm (.lst false 6 (news.map ivRt))) := by
        have hz0 : frz H.get 0 (.sl id 0 l.rts.length l.rts.length) = if id < 0 then some (.sl id 0 l.rts.length l.rts.length) else (frzI H.get 0 frzDepth (.sl id 0 l.rts.length l.rts.length)).map .imm := rfl
        rw [hz0, if_neg (Nat.not_lt_zero _), hf]
        rfl
      show (frz.frzs H.get 0 _).map DV.agg = _
      simp only [frz.frzs, hz]
      rfl
    · obtain ⟨j, hj, rfl⟩ := mem_nth hx
      have hj' : j < news.length := hj
      exact (hok j (by omega)).2
end Go.Proofs.YtnpcgejfkonfdaaDoor.D

-- K3
set_option linter.unusedVariables false
set_option linter.unusedSimpArgs false
set_option maxHeartbeats 16000000
namespace Go.Proofs.YtnpcgejfkonfdaaDoor.D
open Go Go.PM Go.Lib
/-! ### How routes stand -/
structure Rst where
  mode : Int
  timer : Int
  gone : Int
  seen : Bool
  deriving Inhabited
abbrev rowRS (x : Rst) : List DV := [.imm (.int .i64 x.mode), .imm (.int .i64 x.timer), .imm (.int .i64 x.gone), .imm (.bool x.seen)]
def RsAt (H : PT HB) (x : DV) (own : List Nat) (rs : List Rst) : Prop := (rs = [] ∧ own = [] ∧ ∃ v, x = .imm v ∧ Sl 4 v []) ∨ ∃ id, own = [id] ∧ x = .sl id 0 rs.length rs.length ∧ H.get id = some ⟨4, rs.map rowRS⟩
def LkAt (H : PT HB) (p : Nat) (own : List Nat) (l : Lo) (rs : List Rst) : Prop := ∃ x, H.get p = some ⟨5, [[.imm l.sv, .imm l.pv, .imm l.gv, .imm l.rv, x]]⟩ ∧ RsAt H x own rs ∧ p ∉ own ∧ rs.length = l.rts.length
theorem RsAt.mono {H H' : PT HB} {x : DV} {own : List Nat} {rs : List Rst} (h : RsAt H x own rs) (hf : ∀ i ∈ own, H'.get i = H.get i) : RsAt H' x own rs := by
  rcases h with h | ⟨id, rfl, h1, h2⟩
  · exact .inl h
  · exact .inr ⟨id, rfl, h1, by rw [hf id (by simp)]; exact h2⟩
theorem LkAt.mono {H H' : PT HB} {p : Nat} {own : List Nat} {l : Lo} {rs : List Rst} (h : LkAt H p own l rs) (hf : ∀ i ∈ p :: own, H'.get i = H.get i) : LkAt H' p own l rs := by
  obtain ⟨x, h1, h2, h3, h4⟩ := h
  exact ⟨x, by rw [hf p (by simp)]; exact h1, h2.mono fun i hi => hf i (by simp [hi]), h3, h4⟩
abbrev rs0 : Rst := ⟨0, 0, 0, false⟩
theorem LockNew_of {d : Nat} (hd : 2 ≤ d) {l : Lo} (ok : LoOk l) (is : ISL l) (e1 : bl (K DG d) 46 [l.dv] = some (.imm (.bool true))) (H : PT HB) (n : Nat) :
    Fe (K DG (d + 1) 24 [l.dv] H n 0) (fun v H' n' => ∃ p own l', v = .tup [.ptr p 0 0, .imm (.int .i64 0)] ∧ LoOk l' ∧ LoEq l l' ∧ LkAt H' p own l' (List.replicate l.rts.length rs0) ∧ (∀ i ∈ p :: own, n ≤ i ∧ i < n') ∧ ∀ j, j < n → H'.get j = H.get j) := by
  obtain ⟨l', e2, ok', eq⟩ := copied_bl (D := d) (by omega) ok is
  have rl := ok.r.len
  simp only [List.length_map] at rl
  have r6 := is.r2
  have a1 : l.rts.length ≤ appMax := by unfold appMax; omega
  have a2 : l.rts.length * 32 ≤ appMax := by unfold appMax; omega
  rw [D.k24]
  refine fn_dw rfl ?_
  have b1 : ¬ n + 2 = n + 1 := by omega
  have b2 : ¬ n + 1 = n + 2 := by omega
  simp [ok.s.scal, ok.p.scal, ok.g.scal, ok.r.scal, ok'.s.scal, ok'.p.scal, ok'.g.scal, ok'.r.scal, e1, e2, rl, a1, a2, evParts, lay, B6, undT, fnEnd, argsT, PT.get_put, keep, opRun, ev, evs, evO, give, giveI, binOf, isNilK, PM.flip, putT, putL, putH, loadOf, storeOf, cut, over, ofCells, asNat, natOr, calm, clashes, Acc.clash, ressOf, resOf, frz, frz.frzs, DV.flat, DV.flat.flats, imms]
  refine ⟨[n + 1], l', ok', eq, ⟨_, by simp [PT.get_put], .inr ⟨n + 1, rfl, rfl, ?_⟩, by simp, by simp [eq.len]⟩, ?_, fun j hj => ?_⟩
  · simp [PT.get_put, imms]
  · simp
    omega
  · have c1 : ¬ j = n + 1 := by omega
    have c2 : ¬ j = n + 2 := by omega
    have c3 : ¬ j = n + 1 + 1 := by omega
    simp [PT.get_put, c1, c2, c3]
/-! ### What the field tells -/
def ivB1 (b : Bool) : List IV := [.bool b]
structure InOk (ov lv : IV) (os : List Bool) (ls : List Int) : Prop where
  o : Sl 1 ov (os.map ivB1)
  l : Sl 1 lv (ls.map ivI)
  lo : os.length ≤ reachBytes
  ll : ls.length ≤ reachBytes
abbrev inD (ov lv : IV) : DV := .agg [.imm ov, .imm lv]
def MI (l : Lo) (os : List Bool) (ls : List Int) : Prop := os.length = l.secs.length ∧ ls.length = l.pts.length ∧ ¬ ∃ z ∈ ls, z < 0 ∨ 2 < z
end Go.Proofs.YtnpcgejfkonfdaaDoor.D

-- K4
set_option linter.unusedVariables false
set_option linter.unusedSimpArgs false
set_option maxHeartbeats 16000000
namespace Go.Proofs.YtnpcgejfkonfdaaDoor.D
open Go Go.PM Go.Lib
/-! ### Safe -/
/-- What tells the field nothing, as a value. -/
abbrev safeV (l : Lo) : DV := .agg [.imm (.lst false 1 (List.replicate l.pts.length [.int .i64 0])), .imm (.lst false 1 (List.replicate l.sigs.length [.bool false]))]
/-! ### SameOut -/
structure OutV (v : DV) (ds : List Int) (ps : List Bool) : Prop where
  ex : ∃ a b, v = .agg [.imm a, .imm b] ∧ Sl 1 a (ds.map ivI) ∧ Sl 1 b (ps.map ivB1)
/-! ### What may not be -/
end Go.Proofs.YtnpcgejfkonfdaaDoor.D

-- K7
-- K5
set_option linter.unusedVariables false
set_option linter.unusedSimpArgs false
set_option maxHeartbeats 16000000
namespace Go.Proofs.YtnpcgejfkonfdaaDoor.D
open Go Go.PM Go.Lib
def hld (l : Lo) (rs : List Rst) (r : Nat) : List Int :=
  if (nth rs r).mode = 1 ∨ (nth rs r).mode = 2 ∨ (nth rs r).mode = 4 then (nth l.rts r).path else if (nth rs r).mode = 3 then (nth l.rts r).path.drop (nth rs r).gone.toNat else []
theorem hld_sub {l : Lo} {rs : List Rst} {r : Nat} {z : Int} (h : z ∈ hld l rs r) : z ∈ (nth l.rts r).path := by
  unfold hld at h
  split at h
  · exact h
  · split at h
    · exact List.mem_of_mem_drop h
    · cases h
theorem RsAt.sl {H : PT HB} {x : DV} {own : List Nat} {rs : List Rst} (h : RsAt H x own rs) (h0 : 0 < rs.length) : ∃ id, own = [id] ∧ x = .sl id 0 rs.length rs.length ∧ H.get id = some ⟨4, rs.map rowRS⟩ := by
  rcases h with ⟨rfl, _⟩ | h
  · simp at h0
  · exact h
theorem RsAt.len {H : PT HB} {x : DV} {own : List Nat} {rs : List Rst} (h : RsAt H x own rs) : lenOf x = some rs.length := by
  rcases h with ⟨rfl, _, v, rfl, hv⟩ | ⟨id, _, rfl, _⟩
  · exact hv.len
  · rfl
/-- Who holds a section: the first one; below 0: none does. -/
noncomputable def hol (l : Lo) (rs : List Rst) (z : Int) : Int := match (List.range l.rts.length).find? (fun r => decide (z ∈ hld l rs r)) with
  | some r => (r : Int)
  | none => -1
/-! ### How a point lies -/
def pos (x : Need) : Int := if x.rev then 2 else 1
end Go.Proofs.YtnpcgejfkonfdaaDoor.D

-- K6
set_option linter.unusedVariables false
set_option linter.unusedSimpArgs false
set_option maxHeartbeats 16000000
namespace Go.Proofs.YtnpcgejfkonfdaaDoor.D
open Go Go.PM Go.Lib
theorem ISL.p5 {l : Lo} (h : ISL l) : ∀ r, r < l.rts.length → (nth l.rts r).path.length ≤ 100 := fun r hr => by have := (h.rr r hr).p5; omega
def secOf (l : Lo) (x : Need) : Int := (nth l.pts x.pt.toNat).sec
/-- Does nothing stand against a need? -/
def NFree (l : Lo) (rs : List Rst) (os : List Bool) (ls : List Int) (x : Need) : Prop := nth ls x.pt.toNat = pos x ∨ (nth os (secOf l x).toNat = false ∧ hol l rs (secOf l x) < 0)
structure FRE (l : Lo) (rs : List Rst) (os : List Bool) (ls : List Int) (r : Nat) : Prop where
  cf : ∀ s, s < l.rts.length → (nth rs s).mode ≠ 0 → ¬ CF l r s
  nf : ∀ i, i < (nd (nth l.rts r)).length → NFree l rs os ls (nth (nd (nth l.rts r)) i)
  oc : ¬ ∃ z ∈ (nth l.rts r).path, nth os z.toNat = true
structure IF0 (H : PT HB) (p n0 : Nat) (x : DV) (ov lv : IV) (l : Lo) (rs : List Rst) (r : Nat) (i : Nat) (st : St) : Prop where
  h0 : st.T.get 0 = some (.ptr p 0 0)
  h2 : st.T.get 2 = some (.imm (.int .i64 r))
  b4 : Box st 4 [ov, lv]
  h15 : st.T.get 15 = some x
  h16 : st.T.get 16 = some (.imm (.int .i64 l.rts.length))
  h17 : st.T.get 17 = some (.imm (.int .i64 i))
  hh : st.H = H
  hn : n0 ≤ st.n
  all : ∀ s, s < i → (nth rs s).mode ≠ 0 → ¬ CF l r s
structure IF1 (H : PT HB) (p n0 : Nat) (nv ov lv : IV) (l : Lo) (rs : List Rst) (os : List Bool) (ls : List Int) (r : Nat) (i : Nat) (st : St) : Prop where
  h0 : st.T.get 0 = some (.ptr p 0 0)
  h2 : st.T.get 2 = some (.imm (.int .i64 r))
  b4 : Box st 4 [ov, lv]
  h40 : st.T.get 40 = some (.imm nv)
  h41 : st.T.get 41 = some (.imm (.int .i64 (nd (nth l.rts r)).length))
  h42 : st.T.get 42 = some (.imm (.int .i64 i))
  hh : st.H = H
  hn : n0 ≤ st.n
  all : ∀ j, j < i → NFree l rs os ls (nth (nd (nth l.rts r)) j)
end Go.Proofs.YtnpcgejfkonfdaaDoor.D

-- K7
set_option linter.unusedVariables false
set_option linter.unusedSimpArgs false
set_option maxHeartbeats 16000000
namespace Go.Proofs.YtnpcgejfkonfdaaDoor.D
open Go Go.PM Go.Lib
noncomputable def callF (l : Lo) (rs : List Rst) (os : List Bool) (ls : List Int) (r : Nat) : Int × List Rst :=
  bif dec ((nth rs r).mode = 0) then (bif dec (FRE l rs os ls r) then (0, rs.set r ⟨1, 0, 0, false⟩) else (8, rs)) else (7, rs)
noncomputable def cancelF (rs : List Rst) (r : Nat) : Int × List Rst :=
  bif dec ((nth rs r).mode = 1) then (0, rs.set r rs0) else bif dec ((nth rs r).mode = 2) then (0, rs.set r ⟨4, 0, 0, false⟩) else (7, rs)
noncomputable def cmdF (l : Lo) (rs : List Rst) (os : List Bool) (ls : List Int) (c r : Int) : Int × List Rst :=
  bif dec (¬ MI l os ls ∨ (c ≠ 1 ∧ c ≠ 2)) then (1, rs) else bif dec (InR r l.rts.length) then (bif dec (c = 1) then callF l rs os ls r.toNat else cancelF rs r.toNat) else (5, rs)
/-- What a call of the Lock does: an answer, how routes stand, nothing else. -/
def Does (K : Option (DV × PT HB × Nat)) (H : PT HB) (n : Nat) (p : Nat) (own : List Nat) (l : Lo) (v : DV) (rs' : List Rst) : Prop := ∃ H' n', K = some (v, H', n') ∧ LkAt H' p own l rs' ∧ n ≤ n' ∧ ∀ j, j ∉ own → H'.get j = H.get j
end Go.Proofs.YtnpcgejfkonfdaaDoor.D

-- K14
-- K8
set_option linter.unusedVariables false
set_option linter.unusedSimpArgs false
set_option maxHeartbeats 16000000
namespace Go.Proofs.YtnpcgejfkonfdaaDoor.D
open Go Go.PM Go.Lib
/-! ### All points lie as a route needs them -/
def Lie (l : Lo) (ls : List Int) (r : Nat) : Prop := ∀ x ∈ nd (nth l.rts r), nth ls x.pt.toNat = pos x
/-! ### How a route stands next -/
/-- What a route's state may be. -/
structure RsOk (l : Lo) (r : Nat) (x : Rst) : Prop where
  md : 0 ≤ x.mode ∧ x.mode ≤ 4
  t0 : 0 ≤ x.timer
  t8 : x.mode = 1 → x.timer ≤ 8
  t6 : x.mode = 4 → x.timer < 6
  tz : ¬ x.mode = 1 → ¬ x.mode = 4 → x.timer = 0
  g3 : x.mode = 3 → 0 ≤ x.gone ∧ x.gone < (nth l.rts r).path.length
  gz : ¬ x.mode = 3 → x.gone = 0 ∧ x.seen = false
noncomputable def laterF (x : Rst) (m : Int) : Rst := bif dec (m < x.timer + 1) then rs0 else ⟨x.mode, x.timer + 1, x.gone, x.seen⟩
noncomputable def usedF (l : Lo) (os : List Bool) (r : Nat) (x : Rst) : Rst :=
  bif nth os (nth (nth l.rts r).path x.gone.toNat).toNat then ⟨x.mode, x.timer, x.gone, true⟩
  else bif x.seen then (bif dec (x.gone + 1 < (nth l.rts r).path.length) then ⟨x.mode, x.timer, x.gone + 1, false⟩ else rs0) else x
noncomputable def stepF (l : Lo) (os : List Bool) (ls : List Int) (r : Nat) (x : Rst) : Rst :=
  bif dec (x.mode = 1) then (bif dec (Lie l ls r) then ⟨2, 0, 0, false⟩ else laterF x 8)
  else bif dec (x.mode = 2 ∨ x.mode = 4) then (bif nth os (nth (nth l.rts r).path 0).toNat then ⟨3, 0, 0, true⟩ else bif dec (x.mode = 4) then laterF x 5 else x)
  else bif dec (x.mode = 3) then usedF l os r x else x
end Go.Proofs.YtnpcgejfkonfdaaDoor.D

-- K9
set_option linter.unusedVariables false
set_option linter.unusedSimpArgs false
set_option maxHeartbeats 16000000
namespace Go.Proofs.YtnpcgejfkonfdaaDoor.D
open Go Go.PM Go.Lib
end Go.Proofs.YtnpcgejfkonfdaaDoor.D

-- K10
set_option linter.unusedVariables false
set_option linter.unusedSimpArgs false
set_option maxHeartbeats 16000000
namespace Go.Proofs.YtnpcgejfkonfdaaDoor.D
open Go Go.PM Go.Lib
structure ICy (p : Nat) (own : List Nat) (l : Lo) (os : List Bool) (ls : List Int) (rs : List Rst) (ov lv : IV) (us : List DV) (H1 : PT HB) (n1 : Nat) (i : Nat) (qs : List Rst) (st : St) : Prop where
  h0 : st.T.get 0 = some (.ptr p 0 0)
  h28 : st.T.get 28 = some (.imm (.int .i64 l.rts.length))
  h29 : st.T.get 29 = some (.imm (.int .i64 i))
  b3 : BoxD st 3 [.imm ov, .imm lv]
  b4 : BoxD st 4 [.imm .nils, .imm .nils]
  b5 : BoxD st 5 us
  lk : LkAt st.H p own l qs
  fr : ∀ j, j ∉ own → st.H.get j = H1.get j
  hn : n1 ≤ st.n
  al : ∀ j, j < l.rts.length → nth qs j = if j < i then stepF l os ls j (nth rs j) else nth rs j
end Go.Proofs.YtnpcgejfkonfdaaDoor.D

-- K11
set_option linter.unusedVariables false
set_option linter.unusedSimpArgs false
set_option maxHeartbeats 16000000
namespace Go.Proofs.YtnpcgejfkonfdaaDoor.D
open Go Go.PM Go.Lib
def rowI (z : Int) : List DV := [.imm (.int .i64 z)]
def DrAt (l : Lo) (rs : List Rst) (os : List Bool) (ls : List Int) (q : Nat) (z : Int) : Prop :=
  ∃ r x, r < l.rts.length ∧ (nth rs r).mode = 1 ∧ x ∈ nd (nth l.rts r) ∧ x.pt = (q : Int) ∧ z = pos x ∧ ¬ nth ls q = z ∧ nth os (nth l.pts q).sec.toNat = false ∧ (hol l rs (nth l.pts q).sec < 0 ∨ hol l rs (nth l.pts q).sec = (r : Int))
def DrOk (l : Lo) (rs : List Rst) (os : List Bool) (ls : List Int) (zs : List Int) : Prop := zs.length = l.pts.length ∧ ∀ q, q < l.pts.length → nth zs q = 0 ∨ DrAt l rs os ls q (nth zs q)
theorem DrOk.put {l : Lo} {rs : List Rst} {os : List Bool} {ls zs : List Int} (h : DrOk l rs os ls zs) {q : Nat} {z : Int} (hz : DrAt l rs os ls q z) : DrOk l rs os ls (zs.set q z) := by
  refine ⟨by simp [h.1], fun k hk => ?_⟩
  by_cases hq : q = k
  · subst hq
    right
    have : nth (zs.set q z) q = z := by simp [nth, h.1, hk]
    rw [this]; exact hz
  · have : nth (zs.set q z) k = nth zs k := by simp [nth, List.getD, List.getElem?_set, hq]
    rw [this]; exact h.2 k hk
/-- Rounds of a function. -/
def it {α : Type} (f : Nat → α → α) (z : α) : Nat → α
  | 0 => z
  | i + 1 => f i (it f z i)
/-- Is a need of a route driven? -/
def drC (l : Lo) (rs : List Rst) (os : List Bool) (ls : List Int) (r : Nat) (x : Need) : Prop := ¬ nth ls x.pt.toNat = pos x ∧ nth os (nth l.pts x.pt.toNat).sec.toNat = false ∧ (hol l rs (nth l.pts x.pt.toNat).sec < 0 ∨ hol l rs (nth l.pts x.pt.toNat).sec = (r : Int))
noncomputable def drN (l : Lo) (rs : List Rst) (os : List Bool) (ls : List Int) (r : Nat) (i : Nat) (zs : List Int) : List Int := bif dec (drC l rs os ls r (nth (nd (nth l.rts r)) i)) then zs.set (nth (nd (nth l.rts r)) i).pt.toNat (pos (nth (nd (nth l.rts r)) i)) else zs
noncomputable def drR (l : Lo) (rs : List Rst) (os : List Bool) (ls : List Int) (r : Nat) (zs : List Int) : List Int := bif dec ((nth rs r).mode = 1) then it (drN l rs os ls r) zs (nd (nth l.rts r)).length else zs
structure ID1 (p : Nat) (l : Lo) (rs : List Rst) (os : List Bool) (ls : List Int) (ov lv nv : IV) (sb xr : DV) (a : Nat) (H1 : PT HB) (n0 r : Nat) (z0 : List Int) (i : Nat) (zs : List Int) (st : St) : Prop where
  h0 : st.T.get 0 = some (.ptr p 0 0)
  b4 : BoxD st 4 [.imm ov, .imm lv]
  b5 : BoxD st 5 [.sl a 0 l.pts.length l.pts.length, sb]
  h6 : st.T.get 6 = some (.imm (.int .i64 r))
  h15 : st.T.get 15 = some xr
  h16 : st.T.get 16 = some (.imm (.int .i64 l.rts.length))
  h17 : st.T.get 17 = some (.imm (.int .i64 r))
  h30 : st.T.get 30 = some (.imm nv)
  h31 : st.T.get 31 = some (.imm (.int .i64 (nd (nth l.rts r)).length))
  h32 : st.T.get 32 = some (.imm (.int .i64 i))
  ha : st.H.get a = some ⟨1, zs.map rowI⟩
  fr : ∀ j, j ≠ a → st.H.get j = H1.get j
  hn : n0 ≤ st.n
  dr : zs.length = l.pts.length ∧ zs = it (drN l rs os ls r) z0 i
end Go.Proofs.YtnpcgejfkonfdaaDoor.D

-- K12
set_option linter.unusedVariables false
set_option linter.unusedSimpArgs false
set_option maxHeartbeats 16000000
namespace Go.Proofs.YtnpcgejfkonfdaaDoor.D
open Go Go.PM Go.Lib
structure ID0 (p : Nat) (l : Lo) (rs : List Rst) (os : List Bool) (ls : List Int) (ov lv : IV) (sb xr : DV) (a : Nat) (H1 : PT HB) (n0 : Nat) (i : Nat) (zs : List Int) (st : St) : Prop where
  h0 : st.T.get 0 = some (.ptr p 0 0)
  b4 : BoxD st 4 [.imm ov, .imm lv]
  b5 : BoxD st 5 [.sl a 0 l.pts.length l.pts.length, sb]
  h15 : st.T.get 15 = some xr
  h16 : st.T.get 16 = some (.imm (.int .i64 l.rts.length))
  h17 : st.T.get 17 = some (.imm (.int .i64 i))
  ha : st.H.get a = some ⟨1, zs.map rowI⟩
  fr : ∀ j, j ≠ a → st.H.get j = H1.get j
  hn : n0 ≤ st.n
  dr : zs.length = l.pts.length ∧ zs = it (drR l rs os ls) (List.replicate l.pts.length 0) i
end Go.Proofs.YtnpcgejfkonfdaaDoor.D

-- K13
set_option linter.unusedVariables false
set_option linter.unusedSimpArgs false
set_option maxHeartbeats 16000000
namespace Go.Proofs.YtnpcgejfkonfdaaDoor.D
open Go Go.PM Go.Lib
def rowB (z : Bool) : List DV := [.imm (.bool z)]
def PrAt (l : Lo) (rs : List Rst) (os : List Bool) (ls : List Int) (s : Nat) : Prop := ∃ r, r < l.rts.length ∧ (nth rs r).mode = 2 ∧ (nth l.rts r).fr = (s : Int) ∧ (¬ ∃ z ∈ (nth l.rts r).path, nth os z.toNat = true) ∧ Lie l ls r
def PrOk (l : Lo) (rs : List Rst) (os : List Bool) (ls : List Int) (bs : List Bool) : Prop := bs.length = l.sigs.length ∧ ∀ s, s < l.sigs.length → nth bs s = true → PrAt l rs os ls s
theorem PrOk.put {l : Lo} {rs : List Rst} {os : List Bool} {ls : List Int} {bs : List Bool} (h : PrOk l rs os ls bs) {q : Nat} (hz : PrAt l rs os ls q) : PrOk l rs os ls (bs.set q true) := by
  refine ⟨by simp [h.1], fun k hk ht => ?_⟩
  by_cases hq : q = k
  · subst hq; exact hz
  · have : nth (bs.set q true) k = nth bs k := by simp [nth, List.getD, List.getElem?_set, hq]
    rw [this] at ht
    exact h.2 k hk ht
def prC (l : Lo) (rs : List Rst) (os : List Bool) (ls : List Int) (r : Nat) : Prop := (nth rs r).mode = 2 ∧ (¬ ∃ z ∈ (nth l.rts r).path, nth os z.toNat = true) ∧ Lie l ls r
noncomputable def prR (l : Lo) (rs : List Rst) (os : List Bool) (ls : List Int) (r : Nat) (bs : List Bool) : List Bool := bif dec (prC l rs os ls r) then bs.set (nth l.rts r).fr.toNat true else bs
structure ICp (p : Nat) (l : Lo) (rs : List Rst) (os : List Bool) (ls : List Int) (ov lv : IV) (sa xr : DV) (b : Nat) (H1 : PT HB) (n0 : Nat) (i : Nat) (bs : List Bool) (st : St) : Prop where
  h0 : st.T.get 0 = some (.ptr p 0 0)
  b3 : BoxD st 3 [.imm ov, .imm lv]
  b4 : BoxD st 4 [.imm .nils, .imm .nils]
  b5 : BoxD st 5 [sa, .sl b 0 l.sigs.length l.sigs.length]
  h50 : st.T.get 50 = some xr
  h51 : st.T.get 51 = some (.imm (.int .i64 l.rts.length))
  h52 : st.T.get 52 = some (.imm (.int .i64 i))
  hb : st.H.get b = some ⟨1, bs.map rowB⟩
  fr : ∀ j, j ≠ b → st.H.get j = H1.get j
  hn : n0 ≤ st.n
  pr : bs.length = l.sigs.length ∧ bs = it (prR l rs os ls) (List.replicate l.sigs.length false) i
end Go.Proofs.YtnpcgejfkonfdaaDoor.D

-- K14
set_option linter.unusedVariables false
set_option linter.unusedSimpArgs false
set_option maxHeartbeats 16000000
namespace Go.Proofs.YtnpcgejfkonfdaaDoor.D
open Go Go.PM Go.Lib
theorem RsOk.idle {l : Lo} {r : Nat} : RsOk l r rs0 := ⟨by simp [rs0], by simp [rs0], by simp [rs0], by simp [rs0], by simp [rs0], by simp [rs0], by simp [rs0]⟩
theorem RsOk.step {l : Lo} (is : ISL l) {os : List Bool} {ls : List Int} {r : Nat} (hr : r < l.rts.length) {x : Rst} (h : RsOk l r x) : RsOk l r (stepF l os ls r x) := by
  have p1 := (is.rr r hr).p1
  obtain ⟨md, t0, t8, t6, tz, g3, gz⟩ := h
  obtain ⟨m, t, g, s⟩ := x
  simp only at *
  have hc : m = 0 ∨ m = 1 ∨ m = 2 ∨ m = 3 ∨ m = 4 := by omega
  rcases hc with rfl | rfl | rfl | rfl | rfl
  · have e : stepF l os ls r ⟨0, t, g, s⟩ = ⟨0, t, g, s⟩ := by simp [stepF, dec_false]
    rw [e]; exact ⟨md, t0, t8, t6, tz, g3, gz⟩
  · by_cases hL : Lie l ls r
    · have e : stepF l os ls r ⟨1, t, g, s⟩ = ⟨2, 0, 0, false⟩ := by simp [stepF, dec_true, dec_t hL]
      rw [e]; exact ⟨by simp, by simp, by simp, by simp, by simp, by simp, by simp⟩
    · have e : stepF l os ls r ⟨1, t, g, s⟩ = laterF ⟨1, t, g, s⟩ 8 := by simp [stepF, dec_true, dec_f hL]
      rw [e]
      by_cases ht : 8 < t + 1
      · have : laterF ⟨1, t, g, s⟩ 8 = rs0 := by simp [laterF, dec_t ht]
        rw [this]; exact RsOk.idle
      · have : laterF ⟨1, t, g, s⟩ 8 = ⟨1, t + 1, g, s⟩ := by simp [laterF, dec_f ht]
        rw [this]
        exact ⟨by simp, by simp; omega, by simp; omega, by simp, by simp, by simp, by simpa using gz⟩
  · cases ho : nth os (nth (nth l.rts r).path 0).toNat with
    | true =>
      have e : stepF l os ls r ⟨2, t, g, s⟩ = ⟨3, 0, 0, true⟩ := by simp [stepF, dec_true, dec_false, ho]
      rw [e]; exact ⟨by simp, by simp, by simp, by simp, by simp, by simp; omega, by simp⟩
    | false =>
      have e : stepF l os ls r ⟨2, t, g, s⟩ = ⟨2, t, g, s⟩ := by simp [stepF, dec_true, dec_false, ho]
      rw [e]; exact ⟨md, t0, t8, t6, tz, g3, gz⟩
  · have e : stepF l os ls r ⟨3, t, g, s⟩ = usedF l os r ⟨3, t, g, s⟩ := by simp [stepF, dec_true, dec_false]
    rw [e]
    have hz := tz (by omega) (by omega)
    have hg := g3 rfl
    cases ho : nth os (nth (nth l.rts r).path g.toNat).toNat with
    | true =>
      have e : usedF l os r ⟨3, t, g, s⟩ = ⟨3, t, g, true⟩ := by simp [usedF, ho]
      rw [e]; exact ⟨by simp, by simp; omega, by simp, by simp, by simp [hz], by simpa using hg, by simp⟩
    | false =>
      cases s with
      | true =>
        by_cases hl : g + 1 < (nth l.rts r).path.length
        · have e : usedF l os r ⟨3, t, g, true⟩ = ⟨3, t, g + 1, false⟩ := by simp [usedF, ho, dec_t hl]
          rw [e]; exact ⟨by simp, by simp; omega, by simp, by simp, by simp [hz], by simp; omega, by simp⟩
        · have e : usedF l os r ⟨3, t, g, true⟩ = rs0 := by simp [usedF, ho, dec_f hl]
          rw [e]; exact RsOk.idle
      | false =>
        have e : usedF l os r ⟨3, t, g, false⟩ = ⟨3, t, g, false⟩ := by simp [usedF, ho]
        rw [e]; exact ⟨md, t0, t8, t6, tz, g3, gz⟩
  · cases ho : nth os (nth (nth l.rts r).path 0).toNat with
    | true =>
      have e : stepF l os ls r ⟨4, t, g, s⟩ = ⟨3, 0, 0, true⟩ := by simp [stepF, dec_true, dec_false, ho]
      rw [e]; exact ⟨by simp, by simp, by simp, by simp, by simp, by simp; omega, by simp⟩
    | false =>
      have e : stepF l os ls r ⟨4, t, g, s⟩ = laterF ⟨4, t, g, s⟩ 5 := by simp [stepF, dec_true, dec_false, ho]
      rw [e]
      by_cases ht : 5 < t + 1
      · have : laterF ⟨4, t, g, s⟩ 5 = rs0 := by simp [laterF, dec_t ht]
        rw [this]; exact RsOk.idle
      · have : laterF ⟨4, t, g, s⟩ 5 = ⟨4, t + 1, g, s⟩ := by simp [laterF, dec_f ht]
        rw [this]
        exact ⟨by simp, by simp; omega, by simp, by simp; omega, by simp, by simp, by simpa using gz⟩
theorem nth_rep' {α : Type} [Inhabited α] {k i : Nat} {x : α} (h : i < k) : nth (List.replicate k x) i = x := by simp [nth, h]
end Go.Proofs.YtnpcgejfkonfdaaDoor.D

-- T8c
set_option linter.unusedVariables false
set_option linter.unusedSimpArgs false
set_option maxHeartbeats 16000000
namespace Go.Proofs.YtnpcgejfkonfdaaDoor.D
open Go Go.PM Go.Lib
/-! ### pointsmanref4.Needs -/
/-! ### Rows of numbers that are one -/
/-! ### Entry -/
end Go.Proofs.YtnpcgejfkonfdaaDoor.D

-- K21
-- K15
set_option linter.unusedVariables false
set_option linter.unusedSimpArgs false
set_option maxHeartbeats 16000000
namespace Go.Proofs.YtnpcgejfkonfdaaDoor.D
open Go Go.PM Go.Lib
def ivRS (x : Rst) : List IV := [.int .i64 x.mode, .int .i64 x.timer, .int .i64 x.gone, .bool x.seen]
/-- No two routes that stand are in each other's way. -/
def NC (l : Lo) (rs : List Rst) : Prop := ∀ i j, i < l.rts.length → j < l.rts.length → i ≠ j → (nth rs i).mode ≠ 0 → (nth rs j).mode ≠ 0 → ¬ CF l i j
end Go.Proofs.YtnpcgejfkonfdaaDoor.D

-- K16
set_option linter.unusedVariables false
set_option linter.unusedSimpArgs false
set_option maxHeartbeats 16000000
namespace Go.Proofs.YtnpcgejfkonfdaaDoor.D
open Go Go.PM Go.Lib
structure INV (l : Lo) (rs : List Rst) : Prop where
  ln : rs.length = l.rts.length
  ro : ∀ r, r < l.rts.length → RsOk l r (nth rs r)
  nc : NC l rs
theorem CF_sym {l : Lo} {r s : Nat} (h : CF l r s) : CF l s r := by
  rcases h with h | h | ⟨z, h1, h2⟩ | ⟨x, h1, h2⟩
  · exact .inl h.symm
  · exact .inr (.inl h.symm)
  · exact .inr (.inr (.inl ⟨z, h2, h1⟩))
  · exact .inr (.inr (.inr ⟨_, h2, by simpa using h1⟩))
theorem nth_setx {α : Type} [Inhabited α] {xs : List α} {i j : Nat} {y : α} (hi : i < xs.length) : nth (xs.set i y) j = if i = j then y else nth xs j := by
  simp only [nth, List.getD, List.getElem?_set]
  by_cases h : i = j
  · subst h; simp [hi]
  · simp [h]
theorem INV.new {l : Lo} : INV l (List.replicate l.rts.length rs0) :=
  ⟨by simp, fun r hr => by rw [nth_rep' hr]; exact RsOk.idle, fun i j hi hj _ hm => by rw [nth_rep' hi] at hm; exact absurd rfl hm⟩
theorem INV.set {l : Lo} {rs : List Rst} (h : INV l rs) {r : Nat} (hr : r < l.rts.length) {y : Rst} (hy : RsOk l r y) (hc : y.mode ≠ 0 → ∀ s, s < l.rts.length → s ≠ r → (nth rs s).mode ≠ 0 → ¬ CF l r s) : INV l (rs.set r y) := by
  have hl := h.ln
  refine ⟨by simp [hl], fun s hs => ?_, fun i j hi hj hij mi mj => ?_⟩
  · rw [nth_setx (by omega)]
    split
    · rename_i e; subst e; exact hy
    · exact h.ro s hs
  · rw [nth_setx (by omega)] at mi mj
    by_cases h1 : r = i
    · subst h1
      rw [if_pos rfl] at mi
      rw [if_neg hij] at mj
      exact hc mi j hj (fun e => hij e.symm) mj
    · rw [if_neg h1] at mi
      by_cases h2 : r = j
      · subst h2
        rw [if_pos rfl] at mj
        exact fun e => hc mj i hi hij mi (CF_sym e)
      · rw [if_neg h2] at mj
        exact h.nc i j hi hj hij mi mj
theorem INV.call {l : Lo} {rs : List Rst} (h : INV l rs) {os : List Bool} {ls : List Int} {r : Nat} (hr : r < l.rts.length) : INV l (callF l rs os ls r).2 := by
  by_cases m0 : (nth rs r).mode = 0
  · by_cases hf : FRE l rs os ls r
    · have e : callF l rs os ls r = (0, rs.set r ⟨1, 0, 0, false⟩) := by simp [callF, dec_t m0, dec_t hf]
      rw [e]
      exact h.set hr ⟨by simp, by simp, by simp, by simp, by simp, by simp, by simp⟩ fun _ s hs _ hm => hf.cf s hs hm
    · have e : callF l rs os ls r = (8, rs) := by simp [callF, dec_t m0, dec_f hf]
      rw [e]; exact h
  · have e : callF l rs os ls r = (7, rs) := by simp [callF, dec_f m0]
    rw [e]; exact h
theorem step_idle {l : Lo} {os : List Bool} {ls : List Int} {r : Nat} {x : Rst} (h : x.mode = 0) : stepF l os ls r x = x := by
  obtain ⟨m, t, g, s⟩ := x
  simp only at h
  subst h
  simp [stepF, dec_false]
theorem INV.step {l : Lo} (is : ISL l) {rs qs : List Rst} (h : INV l rs) {os : List Bool} {ls : List Int} (hl : qs.length = l.rts.length) (hq : ∀ j, j < l.rts.length → nth qs j = stepF l os ls j (nth rs j)) : INV l qs :=
  ⟨hl, fun r hr => by rw [hq r hr]; exact (h.ro r hr).step is hr, fun i j hi hj hij mi mj => h.nc i j hi hj hij
    (fun e => mi (by rw [hq i hi, step_idle e]; exact e)) (fun e => mj (by rw [hq j hj, step_idle e]; exact e))⟩
/-- Two routes that stand hold no section both. -/
theorem INV.apart {l : Lo} {rs : List Rst} (h : INV l rs) {i j : Nat} (hi : i < l.rts.length) (hj : j < l.rts.length) {z : Int} (ai : z ∈ hld l rs i) (aj : z ∈ hld l rs j) : i = j := by
  refine Classical.byContradiction fun hij => ?_
  have stands : ∀ {k : Nat}, z ∈ hld l rs k → (nth rs k).mode ≠ 0 := fun {k} hk e => by simp [hld, e] at hk
  exact h.nc i j hi hj hij (stands ai) (stands aj) (.inr (.inr (.inl ⟨z, hld_sub ai, hld_sub aj⟩)))
end Go.Proofs.YtnpcgejfkonfdaaDoor.D

-- K19
set_option linter.unusedVariables false
set_option linter.unusedSimpArgs false
set_option maxHeartbeats 16000000
namespace Go.Proofs.YtnpcgejfkonfdaaDoor.D
open Go Go.PM Go.Lib
structure Acv where
  kind : Int
  ov : IV
  lv : IV
  c : Int
  r : Int
  rv : IV
  os : List Bool
  ls : List Int
  rs : List Rst
instance : Inhabited Acv := ⟨⟨0, .nils, .nils, 0, 0, .nils, [], [], []⟩⟩
structure AcOk (x : Acv) : Prop where
  io : InOk x.ov x.lv x.os x.ls
  rv : Sl 4 x.rv (x.rs.map ivRS)
  lr : x.rs.length ≤ reachBytes
abbrev kdRS : List Kd := [.i .i64, .i .i64, .i .i64, .b]
abbrev kdAc : List Kd := [.i .i64, .sl [.b], .sl [.i .i64], .i .i64, .i .i64, .sl kdRS]
end Go.Proofs.YtnpcgejfkonfdaaDoor.D

-- K20
set_option linter.unusedVariables false
set_option linter.unusedSimpArgs false
set_option maxHeartbeats 16000000
namespace Go.Proofs.YtnpcgejfkonfdaaDoor.D
open Go Go.PM Go.Lib
theorem app_hp {h : Nat → Option HB} {n lo id : Nat} {rows : List (List DV)} (hh : h id = some ⟨4, rows⟩) (he : rows ≠ []) (hl : rows.length ≤ 2 ^ 20) :
    appOf h n lo 4 32 (.imm (.lst true 4 [])) (.sl id 0 rows.length rows.length) = some { v := .sl n 0 rows.length rows.length, hw := [(n, some ⟨4, rows⟩)], n' := n + 1, acc := [.wX n, .rX id] } := by
  have a1 : rows.length ≤ appMax := by unfold appMax; omega
  have a2 : rows.length * 32 ≤ appMax := by unfold appMax; omega
  simp [appOf, srcOf, rowsOf, hh, he, a1, a2, raccOf]
theorem app_hp0 {h : Nat → Option HB} {n lo id : Nat} (hh : h id = some ⟨4, []⟩) :
    appOf h n lo 4 32 (.imm (.lst true 4 [])) (.sl id 0 0 0) = some { v := .imm (.lst true 4 []), n' := n, acc := [.rX id] } := by
  simp [appOf, srcOf, rowsOf, hh, raccOf]
theorem map_rowRS (rs : List Rst) : rs.map rowRS = (rs.map ivRS).map imms := by
  induction rs with
  | nil => rfl
  | cons x xs ih => simp [rowRS, ivRS, imms] at *
theorem frz_rowK {h : Nat → Option HB} {lo id sz : Nat} {xs : List (List IV)} (hb : h id = some ⟨sz, xs.map imms⟩) (hlo : lo ≤ id) : frz h lo (.sl id 0 xs.length xs.length) = some (.imm (.lst false sz xs)) := by
  have ht : (xs.map imms).take xs.length = xs.map imms := List.take_of_length_le (by simp)
  have h1 : ¬ id < lo := by omega
  simp only [frz, if_neg h1, frzDepth, frzI, if_pos hlo, hb]
  simp [ht, mapO_frz2]
theorem frz_sl {H : PT HB} {m lo sz k : Nat} {es : List (List IV)} (h : H.get m = some ⟨sz, es.map imms⟩) (hk : es.length = k) (hlo : lo ≤ m) : frz H.get lo (.sl m 0 k k) = some (.imm (.lst false sz es)) := by
  subst hk
  exact frz_rowK h hlo
theorem cloneRS_run {d : Nat} {H : PT HB} {x : DV} {own : List Nat} {rs : List Rst} (h : RsAt H x own rs) (hl : rs.length ≤ 1000) {n lo : Nat} (hlo : lo ≤ n) :
    Fe (K DG (d + 1) 57 [x] H n lo) (fun v H' n' => n ≤ n' ∧ v.out = true ∧ ∃ w, frz H'.get lo v = some (.imm w) ∧ Sl 4 w (rs.map ivRS)) := by
  rw [D.k57]
  refine fn_dw rfl ?_
  rcases h with ⟨rfl, rfl, v, rfl, hv⟩ | ⟨id, rfl, rfl, hh⟩
  · have hv0 := hv
    rcases hv with ⟨rfl, _⟩ | ⟨f, rfl⟩
    · simp [B6, undT, fnEnd, argsT, PT.get_put, keep, opRun, ev, evs, evO, give, giveI, binOf, isNilK, PM.flip, putT, putL, putH, loadOf, storeOf, cut, over, ofCells, asNat, natOr, calm, clashes, Acc.clash, ressOf, resOf, frz, frz.frzs, DV.flat, DV.flat.flats, imms]
      first | exact .inl ⟨rfl, rfl⟩ | exact ⟨rfl, .inl ⟨rfl, rfl⟩⟩
    · have p1 := fun {h : Nat → Option HB} {n : Nat} {x : DV} hx => app_none (bytes := 32) (h := h) (n := n) (x := x) hx hv0
      simp [p1, evParts2, lay, unImms, unImm, mapO, rowsN, appOf, srcOf, rowsOf, raccOf, B6, undT, fnEnd, argsT, PT.get_put, keep, opRun, ev, evs, evO, give, giveI, binOf, isNilK, PM.flip, putT, putL, putH, loadOf, storeOf, cut, over, ofCells, asNat, natOr, calm, clashes, Acc.clash, ressOf, resOf, frz, frz.frzs, DV.flat, DV.flat.flats, imms]
      first | exact .inr ⟨_, rfl⟩ | exact ⟨rfl, .inr ⟨_, rfl⟩⟩
  · cases rs with
    | nil =>
      have p0 := fun {n : Nat} => app_hp0 (h := H.get) (n := n) (lo := lo) (id := id) (by simpa using hh)
      simp [hh, p0, evParts2, lay, unImms, unImm, mapO, rowsN, B6, undT, fnEnd, argsT, PT.get_put, keep, opRun, ev, evs, evO, give, giveI, binOf, isNilK, PM.flip, putT, putL, putH, loadOf, storeOf, cut, over, ofCells, asNat, natOr, calm, clashes, Acc.clash, ressOf, resOf, frz, frz.frzs, DV.flat, DV.flat.flats, imms]
      first | exact .inr ⟨_, rfl⟩ | exact ⟨rfl, .inr ⟨_, rfl⟩⟩
    | cons y ys =>
      have hlen : ((y :: ys).map rowRS).length = (y :: ys).length := by simp
      have p1 := fun {n : Nat} => app_hp (h := H.get) (n := n) (lo := lo) hh (by simp) (by rw [hlen]; omega)
      have hes := map_rowRS (y :: ys)
      have hel : ((y :: ys).map ivRS).length = (y :: ys).length := by simp
      rw [hlen] at p1
      generalize (y :: ys).map ivRS = es at hes hel ⊢
      generalize (y :: ys).map rowRS = rows at hh p1 hes
      generalize (y :: ys).length = k at hh p1 hel ⊢
      simp [hh, p1, evParts2, lay, unImms, unImm, mapO, rowsN, B6, undT, fnEnd, argsT, PT.get_put, keep, opRun, ev, evs, evO, give, giveI, binOf, isNilK, PM.flip, putT, putL, putH, loadOf, storeOf, cut, over, ofCells, asNat, natOr, calm, clashes, Acc.clash, ressOf, resOf, frz, frz.frzs, DV.flat, DV.flat.flats, imms]
      first | exact ⟨_, frz_sl (by simp [PT.get_put, hes]) hel hlo, .inr ⟨_, rfl⟩⟩ | exact ⟨rfl, _, frz_sl (by simp [PT.get_put, hes]) hel hlo, .inr ⟨_, rfl⟩⟩
theorem Routes_ro {d : Nat} (hd : 1 ≤ d) {H : PT HB} {p : Nat} {own : List Nat} {l : Lo} {rs : List Rst} (hl : rs.length ≤ 1000) (lk : LkAt H p own l rs) {n lo : Nat} :
    ∃ w m, callM (K DG (d + 1)) .ro 40 [.ptr p 0 0] H n lo = some ⟨.imm w, H, m, [.rA]⟩ ∧ n ≤ m ∧ Sl 4 w (rs.map ivRS) := by
  obtain ⟨d, rfl⟩ : ∃ d', d = d' + 1 := ⟨d - 1, by omega⟩
  obtain ⟨x, h1, h2, h3, h4⟩ := lk
  obtain ⟨v, H1, n1, e1, hn1, vo, w, hf, hw⟩ := cloneRS_run (d := d) h2 hl (n := n) (lo := n) (Nat.le_refl _)
  have xo : x.out = true := by
    rcases h2 with ⟨_, _, u, rfl, hu⟩ | ⟨id, _, rfl, _⟩
    · rfl
    · rfl
  have key : Fe (K DG (d + 1 + 1) 40 [.ptr p 0 0] H n n) (fun v' H' n' => v' = v ∧ H' = H1 ∧ n' = n1) := by
    rw [D.k40]
    refine fn_dw rfl ?_
    simp [h1, e1, xo, vo, B6, undT, fnEnd, argsT, PT.get_put, keep, opRun, ev, evs, evO, give, giveI, binOf, isNilK, PM.flip, putT, putL, putH, loadOf, storeOf, cut, over, ofCells, asNat, natOr, calm, clashes, Acc.clash, ressOf, resOf, frz, frz.frzs, DV.flat, DV.flat.flats, imms]
  obtain ⟨v', H', n', e, rfl, rfl, rfl⟩ := key
  have ho : DV.out.outs [DV.ptr p 0 0] = true := rfl
  refine ⟨w, n', ?_, hn1, hw⟩
  rw [callM_ro, if_pos ho, e]
  simp only [hf]
  rfl
end Go.Proofs.YtnpcgejfkonfdaaDoor.D

-- K21
set_option linter.unusedVariables false
set_option linter.unusedSimpArgs false
set_option maxHeartbeats 16000000
namespace Go.Proofs.YtnpcgejfkonfdaaDoor.D
open Go Go.PM Go.Lib
theorem LoEq.hld {l l' : Lo} (e : LoEq l l') {rs : List Rst} {r : Nat} (hr : r < l.rts.length) : hld l' rs r = hld l rs r := by
  simp only [D.hld, (e.rts r hr).path]
theorem find_congr {p q : Nat → Bool} : ∀ xs : List Nat, (∀ x ∈ xs, p x = q x) → xs.find? p = xs.find? q
  | [], _ => rfl
  | x :: xs, h => by
    simp only [List.find?_cons, h x (by simp), find_congr xs fun y hy => h y (by simp [hy])]
theorem LoEq.hol {l l' : Lo} (e : LoEq l l') {rs : List Rst} {z : Int} : hol l' rs z = hol l rs z := by
  have : (List.range l'.rts.length).find? (fun r => decide (z ∈ D.hld l' rs r)) = (List.range l.rts.length).find? (fun r => decide (z ∈ D.hld l rs r)) := by
    rw [e.len]
    refine find_congr _ fun x hx => ?_
    rw [e.hld (List.mem_range.1 hx)]
  simp only [D.hol, this]
theorem LoEq.nd {l l' : Lo} (e : LoEq l l') {r : Nat} (hr : r < l.rts.length) : nd (nth l'.rts r) = nd (nth l.rts r) := by
  simp only [D.nd, (e.rts r hr).pts, (e.rts r hr).flk]
theorem LoEq.lie {l l' : Lo} (e : LoEq l l') {ls : List Int} {r : Nat} (hr : r < l.rts.length) : Lie l' ls r ↔ Lie l ls r := by
  simp only [Lie, e.nd hr]
theorem LoEq.ro {l l' : Lo} (e : LoEq l l') {r : Nat} (hr : r < l.rts.length) {x : Rst} (h : RsOk l' r x) : RsOk l r x :=
  ⟨h.md, h.t0, h.t8, h.t6, h.tz, fun m => by have := h.g3 m; rw [(e.rts r hr).path] at this; exact this, h.gz⟩
theorem LoEq.inv {l l' : Lo} (e : LoEq l l') {rs : List Rst} (h : INV l' rs) : INV l rs :=
  ⟨by rw [h.ln, e.len], fun r hr => e.ro hr (h.ro r (by rw [e.len]; exact hr)), fun i j hi hj hij mi mj => by
    have := h.nc i j (by rw [e.len]; exact hi) (by rw [e.len]; exact hj) hij mi mj
    rw [e.cf hi hj] at this
    exact this⟩
theorem LoEq.dr {l l' : Lo} (e : LoEq l l') {rs : List Rst} {os : List Bool} {ls zs : List Int} (h : DrOk l' rs os ls zs) : DrOk l rs os ls zs := by
  refine ⟨by rw [h.1, e.pts], fun q hq => ?_⟩
  rcases h.2 q (by rw [e.pts]; exact hq) with h | ⟨r, x, h1, h2, h3, h4, h5, h6, h7, h8⟩
  · exact .inl h
  · have hr : r < l.rts.length := by rw [← e.len]; exact h1
    rw [e.nd hr] at h3
    rw [e.pts] at h7
    rw [e.pts, e.hol] at h8
    exact .inr ⟨r, x, hr, h2, h3, h4, h5, h6, h7, h8⟩
theorem LoEq.pr {l l' : Lo} (e : LoEq l l') {rs : List Rst} {os : List Bool} {ls : List Int} {bs : List Bool} (h : PrOk l' rs os ls bs) : PrOk l rs os ls bs := by
  refine ⟨by rw [h.1, e.sigs], fun s hs ht => ?_⟩
  obtain ⟨r, h1, h2, h3, h4, h5⟩ := h.2 s (by rw [e.sigs]; exact hs) ht
  have hr : r < l.rts.length := by rw [← e.len]; exact h1
  have hf := e.rts r hr
  rw [hf.fr] at h3
  rw [hf.path] at h4
  exact ⟨r, hr, h2, h3, h4, (e.lie hr).1 h5⟩
theorem eqSt_rs {a b c a' b' c' : Int} {e e' : Bool} : eqSt [.i, .i, .i, .b] [.imm (.int .i64 a), .imm (.int .i64 b), .imm (.int .i64 c), .imm (.bool e)] [.imm (.int .i64 a'), .imm (.int .i64 b'), .imm (.int .i64 c'), .imm (.bool e')] = some (dec ((⟨a, b, c, e⟩ : Rst) = ⟨a', b', c', e'⟩)) := by
  have : ((⟨a, b, c, e⟩ : Rst) = ⟨a', b', c', e'⟩) ↔ ((a == a') && ((b == b') && ((c == c') && ((e == e') && true)))) = true := by simp [Rst.mk.injEq]
  rw [dec_congr this]
  simp only [eqSt, eqSc, if_true]
  cases h : ((a == a') && ((b == b') && ((c == c') && ((e == e') && true)))) with
  | true => rw [dec_t rfl]
  | false => rw [dec_f nofun]
end Go.Proofs.YtnpcgejfkonfdaaDoor.D

-- FL
set_option linter.unusedVariables false
set_option linter.unusedSimpArgs false
set_option maxHeartbeats 16000000
namespace Go.Proofs.YtnpcgejfkonfdaaDoor.D
open Go Go.PM Go.Lib

/-- rows that a function makes: a block from w on -/
def Rw (sz : Nat) (H : PT HB) (w n : Nat) (x : DV) (rows : List (List IV)) : Prop := (x = .imm .nils ∧ rows = []) ∨ ∃ id, (w ≤ id ∧ id < n) ∧ x = .sl id 0 rows.length rows.length ∧ H.get id = some ⟨sz, rows.map imms⟩
theorem Rw.scal {sz : Nat} {H : PT HB} {w n : Nat} {x : DV} {rows : List (List IV)} (h : Rw sz H w n x rows) : x.scal = true := by
  rcases h with ⟨rfl, _⟩ | ⟨id, _, rfl, _⟩ <;> rfl
theorem Rw.out {sz : Nat} {H : PT HB} {w n : Nat} {x : DV} {rows : List (List IV)} (h : Rw sz H w n x rows) : x.out = true := by
  rcases h with ⟨rfl, _⟩ | ⟨id, _, rfl, _⟩ <;> rfl
theorem Rw.len {sz : Nat} {H : PT HB} {w n : Nat} {x : DV} {rows : List (List IV)} (h : Rw sz H w n x rows) : lenOf x = some rows.length := by
  rcases h with ⟨rfl, rfl⟩ | ⟨id, _, rfl, _⟩ <;> simp [lenOf]
theorem app_rw {sz bytes : Nat} {x : DV} {H : PT HB} {w n lo : Nat} {rows : List (List IV)} (hlo : lo ≤ w) (hwn : w ≤ n) (h : Rw sz H w n x rows) (hs : 0 < sz) (hl : rows.length ≤ 100000) (hb : bytes ≤ 100) {es : List (List IV)} (he : es ≠ []) (hel : es.length ≤ 100000) :
    ∃ x' hw acc, appOf H.get n lo sz bytes x (.imm (.lst true sz es)) = some { v := x', hw := hw, n' := n + 1, acc := acc } ∧ Rw sz (putH H hw) w (n + 1) x' (rows ++ es) ∧ ∀ j, j < w → (putH H hw).get j = H.get j := by
  have hm : 20000000 ≤ appMax := by unfold appMax; omega
  have hel0 : 0 < es.length := List.length_pos_iff.2 he
  rcases h with ⟨rfl, rfl⟩ | ⟨id, ⟨h1, h2⟩, rfl, h3⟩
  · have a2 : es.length ≤ appMax := by omega
    have a3 : es.length * bytes ≤ appMax := by
      have := Nat.mul_le_mul hel hb
      omega
    have hn0 : ¬ es = [] := he
    refine ⟨.sl n 0 es.length es.length, [(n, some ⟨sz, es.map imms⟩)], [.wX n], by simp [appOf, srcOf, rowsOf, raccOf, a2, a3, hs, hn0], .inr ⟨n, by omega, by simp, ?_⟩, fun j hj => ?_⟩
    · simp [putH, PT.get_put]
    · have : ¬ j = n := by omega
      simp [putH, PT.get_put, this]
  · have a1 : ¬ rows.length + es.length ≤ rows.length := by omega
    have a2 : rows.length + es.length ≤ appMax := by omega
    have a3 : (rows.length + es.length) * bytes ≤ appMax := by
      have := Nat.mul_le_mul (show rows.length + es.length ≤ 200000 by omega) hb
      omega
    have hn0 : ¬ es = [] := he
    have hl0 : lo ≤ id := by omega
    refine ⟨.sl n 0 (rows.length + es.length) (rows.length + es.length), [(id, none), (n, some ⟨sz, rows.map imms ++ es.map imms⟩)], _, by simp [appOf, srcOf, rowsOf, raccOf, h3, a1, a2, a3, hs, hn0, hl0]; rfl, .inr ⟨n, by omega, by simp, ?_⟩, fun j hj => ?_⟩
    · simp [putH, PT.get_put]
    · have b1 : ¬ j = n := by omega
      have b2 : ¬ j = id := by omega
      simp [putH, PT.get_put, b1, b2]
theorem frz_rw {sz : Nat} {x : DV} {H : PT HB} {w n : Nat} {rows : List (List IV)} (h : Rw sz H w n x rows) : ∃ v, frz H.get w x = some (.imm v) ∧ Sl sz v rows := by
  rcases h with ⟨rfl, rfl⟩ | ⟨id, ⟨h1, h2⟩, rfl, h3⟩
  · exact ⟨_, rfl, .inl ⟨rfl, rfl⟩⟩
  · refine ⟨.lst false sz rows, ?_, .inr ⟨_, rfl⟩⟩
    have hf : frzI H.get w frzDepth (.sl id 0 rows.length rows.length) = some (.lst false sz rows) := by
      show (if w ≤ id then _ else _) = _
      rw [if_pos h1]
      simp only [h3]
      rw [if_pos (by simp)]
      simp only [List.drop_zero]
      rw [List.take_of_length_le (by simp), mapO_frz2]
      rfl
    have hz : frz H.get w (.sl id 0 rows.length rows.length) = if id < w then some (.sl id 0 rows.length rows.length) else (frzI H.get w frzDepth (.sl id 0 rows.length rows.length)).map .imm := rfl
    rw [hz, if_neg (by omega), hf]
    rfl
def bi (b : Bool) : Int := if b then 1 else 0
def of1 (x : Rst) : List Int := [x.mode, x.timer, x.gone, bi x.seen]
def ofF (rs : List Rst) : List Int := rs.flatMap of1
theorem ofF_len (rs : List Rst) : (ofF rs).length = 4 * rs.length := by
  induction rs with
  | nil => rfl
  | cons x rs ih => simp only [ofF, List.flatMap_cons, List.length_append, of1, List.length_cons, List.length_nil] at *; omega
theorem ofF_succ {rs : List Rst} {i : Nat} (hi : i < rs.length) : ofF (rs.take (i + 1)) = ofF (rs.take i) ++ of1 (nth rs i) := by
  rw [List.take_add_one, List.getElem?_eq_getElem hi]
  simp only [Option.toList_some, ofF, List.flatMap_append, List.flatMap_cons, List.flatMap_nil, List.append_nil]
  congr 2
  simp [nth, List.getD_eq_getElem?_getD, List.getElem?_eq_getElem hi]
structure IOf (v : IV) (rs : List Rst) (i : Nat) (st : St) : Prop where
  c6 : st.T.get 6 = some (.imm v)
  c7 : st.T.get 7 = some (.imm (.int .i64 (rs.length : Int)))
  c8 : st.T.get 8 = some (.imm (.int .i64 (i : Int)))
  c3 : ∃ x, st.T.get 3 = some x ∧ Rw 1 st.H 0 st.n x ((ofF (rs.take i)).map ivI)
/-- what a telegram says -/
def layT (e c : Int) (rs : List Rst) : List Th := .text [115, 116, 97, 116, 101] :: ((e :: c :: (rs.length : Int) :: ofF rs).map .int)
structure ILy (H0 : PT HB) (w a : Nat) (x : DV) (zs : List Int) (i : Nat) (st : St) : Prop where
  c7 : st.T.get 7 = some (.ptr a 0 0)
  c8 : st.T.get 8 = some (.imm (.bool true))
  c21 : st.T.get 21 = some x
  c22 : st.T.get 22 = some (.imm (.int .i64 (zs.length : Int)))
  c23 : st.T.get 23 = some (.imm (.int .i64 (i : Int)))
  cr : CrAt st.H w st.n a (.text [115, 116, 97, 116, 101] :: (zs.take i).map .int)
  fr : ∀ j, j < w → st.H.get j = H0.get j
  xa : ∃ id, (w ≤ id ∧ id < st.n ∧ id ≠ a) ∧ x = .sl id 0 zs.length zs.length ∧ st.H.get id = some ⟨1, zs.map rowI⟩
end Go.Proofs.YtnpcgejfkonfdaaDoor.D

-- FM
set_option linter.unusedVariables false
set_option linter.unusedSimpArgs false
set_option maxHeartbeats 16000000
namespace Go.Proofs.YtnpcgejfkonfdaaDoor.D
open Go Go.PM Go.Lib

/-- a crate at a, its rows in the block ob -/
def CrX (H : PT HB) (a : Nat) (ob : Option Nat) (ts : List Th) : Prop := (H.get a = some ⟨1, [[.imm .nils]]⟩ ∧ ts = [] ∧ ob = none) ∨
  ∃ b, ob = some b ∧ b ≠ a ∧ H.get a = some ⟨1, [[.sl b 0 ts.length ts.length]]⟩ ∧ H.get b = some ⟨1, ts.map rowT⟩
/-! ### Lay -/
structure ILz (H0 : PT HB) (n0 a : Nat) (x : DV) (zs : List Int) (i : Nat) (st : St) : Prop where
  c7 : st.T.get 7 = some (.ptr a 0 0)
  c8 : st.T.get 8 = some (.imm (.bool true))
  c21 : st.T.get 21 = some x
  c22 : st.T.get 22 = some (.imm (.int .i64 (zs.length : Int)))
  c23 : st.T.get 23 = some (.imm (.int .i64 (i : Int)))
  cr : ∃ b, (n0 ≤ b ∧ b < st.n) ∧ CrX st.H a (some b) (.text [115, 116, 97, 116, 101] :: (zs.take i).map .int) ∧ x ≠ .sl b 0 zs.length zs.length
  fr : ∀ j, j < n0 → st.H.get j = H0.get j
  xa : x = .imm (.lst true 1 (zs.map ivI)) ∨ ∃ id, (n0 ≤ id ∧ id < st.n ∧ id ≠ a) ∧ x = .sl id 0 zs.length zs.length ∧ st.H.get id = some ⟨1, zs.map rowI⟩
  an : n0 ≤ a ∧ a < st.n
theorem CrX.at {H : PT HB} {w n a b : Nat} {ts : List Th} (h : CrX H a (some b) ts) (ha : w ≤ a ∧ a < n) (hb : w ≤ b ∧ b < n) : CrAt H w n a ts := by
  rcases h with ⟨_, _, h⟩ | ⟨c, hc, h1, h2, h3⟩
  · cases h
  · cases hc
    exact ⟨ha, .inr ⟨b, hb, h1, h2, h3⟩⟩
end Go.Proofs.YtnpcgejfkonfdaaDoor.D

-- FN
set_option linter.unusedVariables false
set_option linter.unusedSimpArgs false
set_option maxHeartbeats 16000000
namespace Go.Proofs.YtnpcgejfkonfdaaDoor.D
open Go Go.PM Go.Lib

def intsF : List Th → Option (List Int)
  | [] => some []
  | .int z :: r => (intsF r).map (z :: ·)
  | _ :: _ => none
theorem intsF_app {ts : List Th} {zs : List Int} (h : intsF ts = some zs) (z : Int) : intsF (ts ++ [.int z]) = some (zs ++ [z]) := by
  induction ts generalizing zs with
  | nil => simp only [intsF] at h; cases h; rfl
  | cons t ts ih =>
    cases t with
    | int y =>
      simp only [intsF, Option.map_eq_some_iff] at h
      obtain ⟨ys, h1, rfl⟩ := h
      simp only [List.cons_append, intsF, ih h1]
      rfl
    | text s => simp [intsF] at h
    | bool s => simp [intsF] at h
theorem intsF_none {ts : List Th} {i : Nat} (hi : i < ts.length) (h : ∀ z, ts[i] ≠ .int z) : intsF ts = none := by
  induction ts generalizing i with
  | nil => simp at hi
  | cons t ts ih =>
    cases t with
    | int y =>
      cases i with
      | zero => exact absurd rfl (h y)
      | succ i =>
        simp only [intsF]
        rw [ih (i := i) (by simpa using hi) (fun z => by simpa using h z)]
        rfl
    | text s => rfl
    | bool s => rfl
theorem intsF_len {ts : List Th} {zs : List Int} (h : intsF ts = some zs) : zs.length = ts.length := by
  induction ts generalizing zs with
  | nil => simp only [intsF] at h; cases h; rfl
  | cons t ts ih =>
    cases t with
    | int y =>
      simp only [intsF, Option.map_eq_some_iff] at h
      obtain ⟨ys, h1, rfl⟩ := h
      simp [ih h1]
    | text s => simp [intsF] at h
    | bool s => simp [intsF] at h
theorem intsF_map (zs : List Int) : intsF (zs.map .int) = some zs := by
  induction zs with
  | nil => rfl
  | cons z zs ih => simp only [List.map_cons, intsF, ih]; rfl
def tkF : List Int → Option (List Rst)
  | m :: t :: g :: s :: r => if s = 0 ∨ s = 1 then (tkF r).map (⟨m, t, g, s == 1⟩ :: ·) else none
  | _ => some []
theorem takeI_tk : ∀ zs : List Int, takeI zs = (tkF zs).map (·.map ivRS)
  | m :: t :: g :: s :: r => by
    have ih := takeI_tk r
    simp only [takeI, tkF]
    by_cases h : s = 0 ∨ s = 1
    · rw [if_pos h, if_pos h, ih, Option.map_map, Option.map_map]
      rfl
    · rw [if_neg h, if_neg h]
      rfl
  | [] => rfl
  | [_] => rfl
  | [_, _] => rfl
  | [_, _, _] => rfl
theorem tkF_len : ∀ {zs : List Int} {qs : List Rst}, tkF zs = some qs → 4 * qs.length ≤ zs.length
  | m :: t :: g :: s :: r, qs, h => by
    simp only [tkF] at h
    split at h
    · simp only [Option.map_eq_some_iff] at h
      obtain ⟨us, h1, rfl⟩ := h
      have := tkF_len h1
      simp
      omega
    · cases h
  | [], qs, h => by simp only [tkF] at h; cases h; simp
  | [_], qs, h => by simp only [tkF] at h; cases h; simp
  | [_, _], qs, h => by simp only [tkF] at h; cases h; simp
  | [_, _, _], qs, h => by simp only [tkF] at h; cases h; simp
theorem tkF_of : ∀ rs : List Rst, tkF (ofF rs) = some rs
  | [] => rfl
  | x :: rs => by
    have e : ofF (x :: rs) = x.mode :: x.timer :: x.gone :: bi x.seen :: ofF rs := by simp [ofF, of1]
    obtain ⟨m, t, g, s⟩ := x
    rw [e, tkF, tkF_of rs]
    cases s <;> simp [bi]
def readF (ts : List Th) : Option (Int × Int × List Rst) := match intsF (ts.drop 1) with
  | none => none
  | some zs => match ts with
    | .text s :: _ => if s = [115, 116, 97, 116, 101] ∧ 3 ≤ zs.length ∧ (zs.length - 3) % 4 = 0 then match tkF (zs.drop 3) with
        | some qs => if nth zs 2 = (qs.length : Int) then some (nth zs 0, nth zs 1, qs) else none
        | none => none
      else none
    | _ => none
theorem readF_lay (e c : Int) (rs : List Rst) : readF (layT e c rs) = some (e, c, rs) := by
  have h1 : intsF ((layT e c rs).drop 1) = some (e :: c :: (rs.length : Int) :: ofF rs) := intsF_map _
  unfold readF
  rw [h1]
  simp only [layT]
  rw [if_pos ⟨trivial, by simp, by simp [ofF_len]⟩]
  have h2 : (e :: c :: (rs.length : Int) :: ofF rs).drop 3 = ofF rs := rfl
  rw [h2, tkF_of]
  exact if_pos rfl
structure IRd (H0 : PT HB) (w a : Nat) (ts : List Th) (j : Nat) (st : St) : Prop where
  c0 : st.T.get 0 = some (.ptr a 0 0)
  c7 : st.T.get 7 = some (.imm (.int .i64 ((j + 1 : Nat) : Int)))
  s : ∃ x zs, intsF ((ts.drop 1).take j) = some zs ∧ st.T.get 6 = some x ∧ Rw 1 st.H w st.n x (zs.map ivI)
  fr : ∀ i, i < w → st.H.get i = H0.get i
  hn : w ≤ st.n
theorem loopRd {d : Nat} {H0 : PT HB} {w a lo : Nat} {ts : List Th} (hlo : lo ≤ w) (hc : CrAt H0 0 w a ts) (hl : ts.length ≤ 100)
    {st : St} (h : IRd H0 w a ts 0 st) {ks : List Kf} {Q : Ex → St → Prop}
    (hk : ∀ s', IRd H0 w a ts (ts.length - 1) s' → Bk DG (K DG (d + 3)) lo (.exit 0) ks s' Q)
    (hr : ∀ s', intsF (ts.drop 1) = none → s'.T.get 2 = some (.imm (.int .i64 0)) → s'.T.get 3 = some (.imm (.int .i64 0)) → s'.T.get 4 = some (.imm .nils) → s'.T.get 5 = some (.imm (.bool false)) → w ≤ s'.n → Bk DG (K DG (d + 3)) lo .ret ks s' Q) :
    Wp DG (K DG (d + 3)) lo D.l38_0 ks st Q := by
  refine dw_loop (N := ts.length - 1) (small (by have := rb3; omega)) (fun i st => IRd H0 w a ts i st) (fun e s' => (e = .exit 0 ∧ IRd H0 w a ts (ts.length - 1) s') ∨ (e = .ret ∧ intsF (ts.drop 1) = none ∧ s'.T.get 2 = some (.imm (.int .i64 0)) ∧ s'.T.get 3 = some (.imm (.int .i64 0)) ∧ s'.T.get 4 = some (.imm .nils) ∧ s'.T.get 5 = some (.imm (.bool false)) ∧ w ≤ s'.n)) (fun i st hle hI => ?_) h (fun e s' h => by
    rcases h with ⟨rfl, h⟩ | ⟨rfl, h1, h2, h3, h4, h5, h6⟩
    · exact hk s' h
    · exact hr s' h1 h2 h3 h4 h5 h6)
  obtain ⟨c0, c7, ⟨x, zs, hz, c6, hx⟩, fr, hn⟩ := hI
  have xs := hx.scal
  have hc1 : CrAt st.H 0 st.n a ts := hc.mono hn fr
  obtain ⟨m1, e1, hm1⟩ := CrLen_ro (d := d + 1) hc1 lo
  have hc2 : CrAt st.H 0 m1 a ts := hc1.mono hm1 fun _ _ => rfl
  obtain ⟨m2, e2, hm2⟩ := CrInt_ro (d := d) hc2 (((i + 1 : Nat)) : Int) lo
  by_cases hi : i < ts.length - 1
  · have hi1 : i + 1 < ts.length := by omega
    have hi' : ILt (((i + 1 : Nat)) : Int) (ts.length : Int) = True := ilt_t (by omega)
    have hw8 : IntKind.i64.wrap (((i + 1 : Nat) : Int) + 1) = ((i + 1 + 1 : Nat) : Int) := wr_succ (n := ts.length) hi1 (by have := rb3; omega)
    rw [atI_get hi1] at e2
    have htk : (ts.drop 1).take (i + 1) = (ts.drop 1).take i ++ [ts[i + 1]] := by
      rw [List.take_add_one, List.getElem?_drop, Nat.add_comm 1 i, List.getElem?_eq_getElem hi1]
      rfl
    have hnone : (∀ z, ts[i + 1] ≠ .int z) → intsF (ts.drop 1) = none := fun h => intsF_none (i := i) (by simp; omega) (fun z => by
      rw [List.getElem_drop]
      simpa [Nat.add_comm 1 i] using h z)
    have hzl := intsF_len hz
    cases ht : ts[i + 1] with
    | int z =>
      rw [ht] at e2 htk
      simp only [thI, intOf, Option.getD_some, Option.isSome_some] at e2
      obtain ⟨x', hw, acc, a1, a2, a3⟩ := app_rw (bytes := 8) (lo := lo) (w := w) (n := m2) (H := st.H) hlo (by omega) (show Rw 1 st.H w m2 x _ from by
        rcases hx with hx | ⟨id, ⟨p1, p2⟩, p3⟩
        · exact .inl hx
        · exact .inr ⟨id, ⟨p1, by omega⟩, p3⟩) (by omega) (by simp at hzl ⊢; omega) (by omega) (es := [[.int .i64 z]]) (by simp) (by simp)
      have a2s := a2.scal
      have a2' : Rw 1 (putH st.H hw) w (m2 + 1) x' ((zs ++ [z]).map ivI) := by
        rw [List.map_append]
        exact a2
      generalize (((i + 1 : Nat)) : Int) = iz at *
      generalize hQ : (fun (e : Ex) (s' : St) => _) = Q'
      simp only [D.l38_0b]
      simp [c0, c6, c7, xs, hi', hw8, e1, e2, a1, a2s, evParts2, lay, unImms, unImm, mapO, rowsN, imms, B6, undT, fnEnd, argsT, PT.get_put, keep, opRun, ev, evs, evO, give, giveI, binOf, isNilK, PM.flip, putT, putL, putH, loadOf, storeOf, cut, over, ofCells, asNat, natOr, calm, clashes, Acc.clash, ressOf, resOf, frz, frz.frzs, DV.flat, DV.flat.flats, imms]
      subst hQ
      exact .inl ⟨rfl, hi, by simp [PT.get_put], by simp [PT.get_put], ⟨x', zs ++ [z], by rw [htk]; exact intsF_app hz z, by simp [PT.get_put], a2'⟩, fun j hj => (a3 j hj).trans (fr j hj), by simp; omega⟩
    | text s =>
      rw [ht] at e2
      simp only [thI, intOf, Option.getD_none, Option.isSome_none] at e2
      have hno := hnone (fun z => by rw [ht]; exact nofun)
      generalize (((i + 1 : Nat)) : Int) = iz at *
      generalize hQ : (fun (e : Ex) (s' : St) => _) = Q'
      simp only [D.l38_0b]
      simp [c0, c6, c7, xs, hi', hw8, e1, e2, B6, undT, fnEnd, argsT, PT.get_put, keep, opRun, ev, evs, evO, give, giveI, binOf, isNilK, PM.flip, putT, putL, putH, loadOf, storeOf, cut, over, ofCells, asNat, natOr, calm, clashes, Acc.clash, ressOf, resOf, frz, frz.frzs, DV.flat, DV.flat.flats, imms]
      subst hQ
      exact .inr ⟨nofun, .inr ⟨rfl, hno, by simp [PT.get_put], by simp [PT.get_put], by simp [PT.get_put], by simp [PT.get_put], by simp; omega⟩⟩
    | bool s =>
      rw [ht] at e2
      simp only [thI, intOf, Option.getD_none, Option.isSome_none] at e2
      have hno := hnone (fun z => by rw [ht]; exact nofun)
      generalize (((i + 1 : Nat)) : Int) = iz at *
      generalize hQ : (fun (e : Ex) (s' : St) => _) = Q'
      simp only [D.l38_0b]
      simp [c0, c6, c7, xs, hi', hw8, e1, e2, B6, undT, fnEnd, argsT, PT.get_put, keep, opRun, ev, evs, evO, give, giveI, binOf, isNilK, PM.flip, putT, putL, putH, loadOf, storeOf, cut, over, ofCells, asNat, natOr, calm, clashes, Acc.clash, ressOf, resOf, frz, frz.frzs, DV.flat, DV.flat.flats, imms]
      subst hQ
      exact .inr ⟨nofun, .inr ⟨rfl, hno, by simp [PT.get_put], by simp [PT.get_put], by simp [PT.get_put], by simp [PT.get_put], by simp; omega⟩⟩
  · obtain rfl : i = ts.length - 1 := by omega
    have hi' : ILt (((ts.length - 1 + 1 : Nat)) : Int) (ts.length : Int) = False := ilt_f (by omega)
    generalize hiz : (((ts.length - 1 + 1 : Nat)) : Int) = iz at c7 hi'
    generalize hQ : (fun (e : Ex) (s' : St) => _) = Q'
    simp only [D.l38_0b]
    simp [c0, c6, c7, xs, hi', e1, B6, undT, fnEnd, argsT, PT.get_put, keep, opRun, ev, evs, evO, give, giveI, binOf, isNilK, PM.flip, putT, putL, putH, loadOf, storeOf, cut, over, ofCells, asNat, natOr, calm, clashes, Acc.clash, ressOf, resOf, frz, frz.frzs, DV.flat, DV.flat.flats, imms]
    subst hQ
    exact .inr ⟨nofun, .inl ⟨rfl, by simp [PT.get_put, c0], by rw [hiz]; simp [PT.get_put, c7], ⟨x, zs, hz, by simp [PT.get_put, c6], by
      rcases hx with hx | ⟨id, ⟨p1, p2⟩, p3⟩
      · exact .inl hx
      · exact .inr ⟨id, ⟨p1, by simp; omega⟩, p3⟩⟩, fr, by simp; omega⟩⟩
theorem mapO_rowInt : ∀ zs : List Int, mapO rowInt (zs.map rowI) = some zs
  | [] => rfl
  | z :: zs => by
    have h := mapO_rowInt zs
    simp only [List.map_cons, mapO, h]
    rfl
theorem rowI_imms (zs : List Int) : (zs.map ivI).map imms = zs.map rowI := by
  rw [List.map_map]
  rfl
/-- what Take answers -/
theorem takeP_of {zs : List Int} : (zs.length % 4 ≠ 0 ∧ takeP zs = (.nils, false)) ∨ (zs.length % 4 = 0 ∧ ((tkF zs = none ∧ takeP zs = (.nils, false)) ∨ ∃ qs v, tkF zs = some qs ∧ takeP zs = (v, true) ∧ Sl 4 v (qs.map ivRS))) := by
  unfold takeP
  by_cases h : zs.length % 4 ≠ 0
  · exact .inl ⟨h, if_pos h⟩
  · refine .inr ⟨by omega, ?_⟩
    rw [if_neg h, takeI_tk]
    cases htk : tkF zs with
    | none => exact .inl ⟨rfl, rfl⟩
    | some qs =>
      refine .inr ⟨qs, ?_⟩
      cases qs with
      | nil => exact ⟨.nils, rfl, rfl, .inl ⟨rfl, rfl⟩⟩
      | cons q qs => exact ⟨_, rfl, rfl, .inr ⟨false, rfl⟩⟩
theorem Take_ro {d : Nat} {H : PT HB} {n lo : Nat} {w : Option Nat} {x : DV} {zs : List Int} (hx : rowsOf H.get x = some (w, 1, zs.map rowI) ∨ (zs = [] ∧ ∃ s sz, rowsOf H.get x = some (s, sz, []))) (ho : x.out = true) (hl : zs.length ≤ 1000) :
    callM (K DG (d + 1)) .ro 56 [x] H n lo = some ⟨.tup [.imm (takeP zs).1, .imm (.bool (takeP zs).2)], H, n, [.rA]⟩ := by
  have e : K DG (d + 1) 56 [x] H n n = some (.tup [.imm (takeP zs).1, .imm (.bool (takeP zs).2)], H, n) := by
    rw [D.k56]
    show primTake [x] H n n = _
    unfold primTake
    rcases hx with hx | ⟨rfl, s, sz, hx⟩
    · simp only [hx, mapO_rowInt]
      rw [if_pos ⟨.inl trivial, by omega⟩]
    · simp only [hx, mapO]
      rw [if_pos ⟨.inr trivial, by simp⟩]
  rw [callM_ro, if_pos (by simp [DV.out.outs, ho]), e]
  rfl
def RdP (ts : List Th) (v : DV) : Prop := (readF ts = none ∧ v = .tup [.imm (.int .i64 0), .imm (.int .i64 0), .imm .nils, .imm (.bool false)]) ∨
  ∃ e c qs u, readF ts = some (e, c, qs) ∧ v = .tup [.imm (.int .i64 e), .imm (.int .i64 c), .imm u, .imm (.bool true)] ∧ Sl 4 u (qs.map ivRS)
theorem Read_fe {d : Nat} {H : PT HB} {n a : Nat} {ts : List Th} (hc : CrAt H 0 n a ts) (hl : ts.length ≤ 100) :
    Fe (K DG (d + 4) 38 [.ptr a 0 0] H n n) (fun v _ n' => n ≤ n' ∧ RdP ts v) := by
  rw [D.k38]
  refine fn_dw rfl ?_
  simp [B6, undT, fnEnd, argsT, PT.get_put, keep, opRun, ev, evs, evO, give, giveI, binOf, isNilK, PM.flip, putT, putL, putH, loadOf, storeOf, cut, over, ofCells, asNat, natOr, calm, clashes, Acc.clash, ressOf, resOf, frz, frz.frzs, DV.flat, DV.flat.flats, imms]
  refine loopRd (w := n) (H0 := H) (ts := ts) (Nat.le_refl _) hc hl ⟨by simp [PT.get_put], by simp [PT.get_put], ⟨.imm .nils, [], by simp [intsF], by simp [PT.get_put], .inl ⟨rfl, rfl⟩⟩, fun _ _ => rfl, by simp⟩ (fun s' hI => ?_) (fun s' h1 h2 h3 h4 h5 h6 => ?_)
  · obtain ⟨c0, c7, ⟨x, zs, hz, c6, hx⟩, fr, hn⟩ := hI
    have hz' : intsF (ts.drop 1) = some zs := by
      rw [List.take_of_length_le (by simp)] at hz
      exact hz
    have hzl := intsF_len hz'
    simp only [List.length_drop] at hzl
    have hc1 : CrAt s'.H 0 s'.n a ts := hc.mono hn fr
    obtain ⟨m1, e1, hm1⟩ := CrText_ro (d := d) hc1 0 n
    have xs := hx.scal
    have xl := hx.len
    simp only [List.length_map] at xl
    have er : ∀ r, readF ts = r → readF ts = r := fun _ h => h
    cases ts with
    | nil =>
      have eF : readF [] = none := rfl
      have e0 : atI [] 0 = .nili := rfl
      rw [e0] at e1
      simp only [textOf, Option.getD_none, Option.isSome_none] at e1
      simp [c0, c6, xs, xl, e1, B6, undT, fnEnd, argsT, PT.get_put, keep, opRun, ev, evs, evO, give, giveI, binOf, isNilK, PM.flip, putT, putL, putH, loadOf, storeOf, cut, over, ofCells, asNat, natOr, calm, clashes, Acc.clash, ressOf, resOf, frz, frz.frzs, DV.flat, DV.flat.flats, imms]
      exact ⟨by omega, .inl ⟨eF, rfl⟩⟩
    | cons t r =>
      have e0 : atI (t :: r) 0 = thI t := atI_get (ts := t :: r) (i := 0) (by simp)
      rw [e0] at e1
      simp only [List.drop_succ_cons, List.drop_zero] at hz'
      cases t with
      | int z =>
        have eF : readF (.int z :: r) = none := by unfold readF; simp only [List.drop_succ_cons, List.drop_zero, hz']
        simp only [thI, textOf, Option.getD_none, Option.isSome_none] at e1
        simp [c0, c6, xs, xl, e1, B6, undT, fnEnd, argsT, PT.get_put, keep, opRun, ev, evs, evO, give, giveI, binOf, isNilK, PM.flip, putT, putL, putH, loadOf, storeOf, cut, over, ofCells, asNat, natOr, calm, clashes, Acc.clash, ressOf, resOf, frz, frz.frzs, DV.flat, DV.flat.flats, imms]
        exact ⟨by omega, .inl ⟨eF, rfl⟩⟩
      | bool z =>
        have eF : readF (.bool z :: r) = none := by unfold readF; simp only [List.drop_succ_cons, List.drop_zero, hz']
        simp only [thI, textOf, Option.getD_none, Option.isSome_none] at e1
        simp [c0, c6, xs, xl, e1, B6, undT, fnEnd, argsT, PT.get_put, keep, opRun, ev, evs, evO, give, giveI, binOf, isNilK, PM.flip, putT, putL, putH, loadOf, storeOf, cut, over, ofCells, asNat, natOr, calm, clashes, Acc.clash, ressOf, resOf, frz, frz.frzs, DV.flat, DV.flat.flats, imms]
        exact ⟨by omega, .inl ⟨eF, rfl⟩⟩
      | text s =>
        simp only [thI, textOf, Option.getD_some, Option.isSome_some] at e1
        have eF : readF (.text s :: r) = if s = [115, 116, 97, 116, 101] ∧ 3 ≤ zs.length ∧ (zs.length - 3) % 4 = 0 then match tkF (zs.drop 3) with
            | some qs => if nth zs 2 = (qs.length : Int) then some (nth zs 0, nth zs 1, qs) else none
            | none => none
          else none := by unfold readF; simp only [List.drop_succ_cons, List.drop_zero, hz']
        by_cases hs : s = [115, 116, 97, 116, 101]
        · by_cases h3 : 3 ≤ zs.length
          · have i0 : ILt (zs.length : Int) 3 = False := ilt_f (by omega)
            rcases hx with ⟨_, h0⟩ | ⟨id, ⟨p1, p2⟩, rfl, p3⟩
            · have := congrArg List.length h0
              simp at this
              subst this
              simp at h3
            · simp only [List.length_map, rowI_imms] at p3 c6 xs xl
              have hdl : (zs.drop 3).length ≤ 1000 := by rw [List.length_drop]; omega
              have tp := takeP_of (zs := zs.drop 3)
              simp only [List.length_drop] at tp
              have g0 : (zs.map rowI)[0]? = some (rowI (nth zs 0)) := by rw [List.getElem?_map, nth_get (by omega)]; rfl
              have g1 : (zs.map rowI)[1]? = some (rowI (nth zs 1)) := by rw [List.getElem?_map, nth_get (by omega)]; rfl
              have g2 : (zs.map rowI)[2]? = some (rowI (nth zs 2)) := by rw [List.getElem?_map, nth_get (by omega)]; rfl
              have ix := fun {n : Nat} {k : Nat} (hk : k < zs.length) => idx_hp (h := s'.H.get) (n := n) (id := id) (row := 0) (len := zs.length) (cap := zs.length) p3 rfl (k := .i64) (z := (k : Int)) (by omega) (by omega)
              have i1 := fun {n : Nat} => ix (n := n) (k := 0) (by omega)
              have i2 := fun {n : Nat} => ix (n := n) (k := 1) (by omega)
              have i3 := fun {n : Nat} => ix (n := n) (k := 2) (by omega)
              simp at i1 i2 i3
              obtain ⟨y, acc, hsl, ys, tk⟩ : ∃ y acc, (∀ n, sliceOf s'.H.get n 1 (.sl id 0 zs.length zs.length) (some (.imm (.int .i64 3))) none none = some { v := y, n' := n, acc := acc }) ∧ y.scal = true ∧ ∀ {n lo : Nat}, callM (K DG (d + 3)) .ro 56 [y] s'.H n lo = some ⟨.tup [.imm (takeP (zs.drop 3)).1, .imm (.bool (takeP (zs.drop 3)).2)], s'.H, n, [.rA]⟩ := by
                have e6 : asNat (.imm (.int .i64 3)) = some 3 := by simp [asNat]
                by_cases h4 : 3 < zs.length
                · refine ⟨.sl id 3 (zs.length - 3) (zs.length - 3), [.rX id], fun n => ?_, rfl, fun {n lo} => Take_ro (d := d + 2) (w := some id) (.inl ?_) rfl hdl⟩
                  · simp only [sliceOf, natOr, e6, p3, if_true]
                    rw [if_pos ⟨h3, Nat.le_refl _, Nat.le_refl _⟩, if_neg (by omega), if_pos h4]
                  · simp only [rowsOf, p3]
                    have : 3 + (zs.length - 3) ≤ (zs.map rowI).length := by simp; omega
                    rw [if_pos this]
                    congr 3
                    rw [List.take_of_length_le (by simp), List.map_drop]
                · have hz0 : zs.drop 3 = [] := List.drop_eq_nil_of_le (by omega)
                  refine ⟨.imm (.lst false 1 []), [], fun n => ?_, rfl, fun {n lo} => Take_ro (d := d + 2) (w := none) (.inr ⟨hz0, none, 1, rfl⟩) rfl hdl⟩
                  simp only [sliceOf, natOr, e6, p3, if_true]
                  rw [if_pos ⟨h3, Nat.le_refl _, Nat.le_refl _⟩, if_neg (by omega), if_neg h4]
              rcases tp with ⟨t1, t2⟩ | ⟨t1, ⟨t2, t3⟩ | ⟨qs, v, t2, t3, t4⟩⟩
              · rw [if_neg (fun h => t1 h.2.2)] at eF
                rw [t2] at tk
                simp only at tk
                generalize zs.map rowI = rows at *
                simp [c0, c6, xs, xl, e1, hs, i0, hsl, ys, tk, B6, undT, fnEnd, argsT, PT.get_put, keep, opRun, ev, evs, evO, give, giveI, binOf, isNilK, PM.flip, putT, putL, putH, loadOf, storeOf, cut, over, ofCells, asNat, natOr, calm, clashes, Acc.clash, ressOf, resOf, frz, frz.frzs, DV.flat, DV.flat.flats, imms]
                exact ⟨by omega, .inl ⟨hs ▸ eF, rfl⟩⟩
              · rw [if_pos ⟨hs, h3, t1⟩, t2] at eF
                rw [t3] at tk
                simp only at tk
                generalize zs.map rowI = rows at *
                simp [c0, c6, xs, xl, e1, hs, i0, hsl, ys, tk, B6, undT, fnEnd, argsT, PT.get_put, keep, opRun, ev, evs, evO, give, giveI, binOf, isNilK, PM.flip, putT, putL, putH, loadOf, storeOf, cut, over, ofCells, asNat, natOr, calm, clashes, Acc.clash, ressOf, resOf, frz, frz.frzs, DV.flat, DV.flat.flats, imms]
                exact ⟨by omega, .inl ⟨hs ▸ eF, rfl⟩⟩
              · rw [if_pos ⟨hs, h3, t1⟩, t2] at eF
                rw [t3] at tk
                simp only at tk eF
                have vs := t4.scal
                have vl := t4.len
                simp only [List.length_map] at vl
                generalize zs.map rowI = rows at *
                by_cases hq : nth zs 2 = (qs.length : Int)
                · rw [if_pos hq] at eF
                  simp [c0, c6, xs, xl, e1, hs, i0, hsl, ys, tk, vs, vl, i1, i2, i3, p3, g0, g1, g2, rowI, hq, B6, undT, fnEnd, argsT, PT.get_put, keep, opRun, ev, evs, evO, give, giveI, binOf, isNilK, PM.flip, putT, putL, putH, loadOf, storeOf, cut, over, ofCells, asNat, natOr, calm, clashes, Acc.clash, ressOf, resOf, frz, frz.frzs, DV.flat, DV.flat.flats, imms]
                  exact ⟨by omega, .inr ⟨_, _, qs, v, hs ▸ eF, rfl, t4⟩⟩
                · rw [if_neg hq] at eF
                  simp [c0, c6, xs, xl, e1, hs, i0, hsl, ys, tk, vs, vl, i1, i2, i3, p3, g0, g1, g2, rowI, hq, B6, undT, fnEnd, argsT, PT.get_put, keep, opRun, ev, evs, evO, give, giveI, binOf, isNilK, PM.flip, putT, putL, putH, loadOf, storeOf, cut, over, ofCells, asNat, natOr, calm, clashes, Acc.clash, ressOf, resOf, frz, frz.frzs, DV.flat, DV.flat.flats, imms]
                  exact ⟨by omega, .inl ⟨hs ▸ eF, rfl⟩⟩
          · have i0 : ILt (zs.length : Int) 3 = True := ilt_t (by omega)
            rw [if_neg (fun h => h3 h.2.1)] at eF
            simp [c0, c6, xs, xl, e1, hs, i0, B6, undT, fnEnd, argsT, PT.get_put, keep, opRun, ev, evs, evO, give, giveI, binOf, isNilK, PM.flip, putT, putL, putH, loadOf, storeOf, cut, over, ofCells, asNat, natOr, calm, clashes, Acc.clash, ressOf, resOf, frz, frz.frzs, DV.flat, DV.flat.flats, imms]
            exact ⟨by omega, .inl ⟨hs ▸ eF, rfl⟩⟩
        · rw [if_neg (fun h => hs h.1)] at eF
          simp [c0, c6, xs, xl, e1, hs, B6, undT, fnEnd, argsT, PT.get_put, keep, opRun, ev, evs, evO, give, giveI, binOf, isNilK, PM.flip, putT, putL, putH, loadOf, storeOf, cut, over, ofCells, asNat, natOr, calm, clashes, Acc.clash, ressOf, resOf, frz, frz.frzs, DV.flat, DV.flat.flats, imms]
          exact ⟨by omega, .inl ⟨eF, rfl⟩⟩
  · have eF : readF ts = none := by unfold readF; rw [h1]
    simp [h2, h3, h4, h5, B6, undT, fnEnd, argsT, PT.get_put, keep, opRun, ev, evs, evO, give, giveI, binOf, isNilK, PM.flip, putT, putL, putH, loadOf, storeOf, cut, over, ofCells, asNat, natOr, calm, clashes, Acc.clash, ressOf, resOf, frz, frz.frzs, DV.flat, DV.flat.flats, imms]
    exact ⟨h6, .inl ⟨eF, rfl⟩⟩
theorem Read_ro {d : Nat} {H : PT HB} {n a lo : Nat} {ts : List Th} (hc : CrAt H 0 n a ts) (hl : ts.length ≤ 100) :
    ∃ v m, callM (K DG (d + 4)) .ro 38 [.ptr a 0 0] H n lo = some ⟨v, H, m, [.rA]⟩ ∧ n ≤ m ∧ RdP ts v := by
  obtain ⟨v, H', n', e, hn, hv⟩ := Read_fe (d := d) hc hl
  refine ⟨v, n', ?_, hn, hv⟩
  rw [callM_ro, if_pos (by rfl), e]
  rcases hv with ⟨_, rfl⟩ | ⟨_, _, _, _, _, rfl, _⟩ <;> rfl
end Go.Proofs.YtnpcgejfkonfdaaDoor.D

-- RA
set_option linter.unusedVariables false
set_option linter.unusedSimpArgs false
set_option maxHeartbeats 16000000
namespace Go.Proofs.YtnpcgejfkonfdaaDoor.D
open Go Go.PM Go.Lib

theorem bool9_bl {d : Nat} (b : Bool) : bl (K DG (d + 1)) 88 [.imm (.bool b)] = some (.imm (.int .i64 (bi b))) := by
  refine bl_fe ?_
  rw [D.k88]
  refine fn_dw rfl ?_
  cases b <;> simp [bi, B6, undT, fnEnd, argsT, PT.get_put, keep, opRun, ev, evs, evO, give, giveI, binOf, isNilK, PM.flip, putT, putL, putH, loadOf, storeOf, cut, over, ofCells, asNat, natOr, calm, clashes, Acc.clash, ressOf, resOf, frz, frz.frzs, DV.flat, DV.flat.flats, imms]
structure IO9 (v : IV) (rs : List Rst) (i : Nat) (st : St) : Prop where
  c0 : st.T.get 0 = some (.imm v)
  c4 : st.T.get 4 = some (.imm (.int .i64 (i : Int)))
  c3 : ∃ x, st.T.get 3 = some x ∧ Rw 1 st.H 0 st.n x ((ofF (rs.take i)).map ivI)
theorem loopO9 {d : Nat} {v : IV} {rs : List Rst} (hv : Sl 4 v (rs.map ivRS)) (hl : rs.length ≤ 1000) {st : St} (h : IO9 v rs 0 st) {ks : List Kf} {Q : Ex → St → Prop}
    (hk : ∀ s', IO9 v rs rs.length s' → Bk DG (K DG (d + 1)) 0 (.exit 0) ks s' Q) : Wp DG (K DG (d + 1)) 0 D.l60_0 ks st Q := by
  refine dw_loop (N := rs.length) (small (by have := rb3; omega)) (fun i st => IO9 v rs i st) (fun e s' => e = .exit 0 ∧ IO9 v rs rs.length s') (fun i st hle hI => ?_) h (fun e s' h => by
    obtain ⟨rfl, h⟩ := h
    exact hk s' h)
  obtain ⟨c0, c4, x, c3, hx⟩ := hI
  have vs := hv.scal
  have xs := hx.scal
  have vl := hv.len
  simp only [List.length_map] at vl
  by_cases hi : i < rs.length
  · have hi1 : (i : Int) < rs.length := by omega
    have hi' := ilt_t hi1
    have hw8 : IntKind.i64.wrap ((i : Int) + 1) = (i : Int) + 1 := wr_succ hi (by have := rb3; omega)
    have ix := fun {h : Nat → Option HB} {n : Nat} => idx_sl (h := h) (n := n) hv (by omega) (k := .i64) (z := (i : Int)) (by omega) hi1
    simp only [Int.toNat_natCast] at ix
    have sc := ofF_succ hi
    have fb := bool9_bl (d := d) (nth rs i).seen
    have ol := ofF_len (rs.take i)
    obtain ⟨x', hw, acc, a1, a2, a3⟩ := app_rw (bytes := 8) (lo := 0) (w := 0) (n := st.n) (H := st.H) (Nat.le_refl _) (by omega) hx (by omega) (by simp at ol ⊢; omega) (by omega) (es := [[.int .i64 (nth rs i).mode], [.int .i64 (nth rs i).timer], [.int .i64 (nth rs i).gone], [.int .i64 (bi (nth rs i).seen)]]) (by simp) (by simp)
    have a2s := a2.scal
    have fin : Rw 1 (putH st.H hw) 0 (st.n + 1) x' ((ofF (rs.take (i + 1))).map ivI) := by
      rw [sc, List.map_append]
      exact a2
    generalize nth rs i = y at *
    obtain ⟨ym, yt, yg, ys⟩ := y
    generalize hQ : (fun (e : Ex) (s' : St) => _) = Q'
    simp only [D.l60_0b]
    simp [c0, c4, c3, vs, vl, xs, hi', hw8, ix, fb, a1, a2s, ivRS, evParts2, lay, unImms, unImm, mapO, rowsN, imms, B6, undT, fnEnd, argsT, PT.get_put, keep, opRun, ev, evs, evO, give, giveI, binOf, isNilK, PM.flip, putT, putL, putH, loadOf, storeOf, cut, over, ofCells, asNat, natOr, calm, clashes, Acc.clash, ressOf, resOf, frz, frz.frzs, DV.flat, DV.flat.flats, imms]
    subst hQ
    exact .inl ⟨rfl, hi, by simp [PT.get_put], by simp [PT.get_put], x', by simp [PT.get_put], fin⟩
  · obtain rfl : i = rs.length := by omega
    generalize hQ : (fun (e : Ex) (s' : St) => _) = Q'
    simp only [D.l60_0b]
    simp [c0, c4, c3, vs, vl, xs, B6, undT, fnEnd, argsT, PT.get_put, keep, opRun, ev, evs, evO, give, giveI, binOf, isNilK, PM.flip, putT, putL, putH, loadOf, storeOf, cut, over, ofCells, asNat, natOr, calm, clashes, Acc.clash, ressOf, resOf, frz, frz.frzs, DV.flat, DV.flat.flats, imms]
    subst hQ
    exact .inr ⟨nofun, rfl, by simp [PT.get_put, c0], by simp [PT.get_put, c4], x, by simp [PT.get_put, c3], hx⟩
theorem Of9_bl {d : Nat} {v : IV} {rs : List Rst} (hv : Sl 4 v (rs.map ivRS)) (hl : rs.length ≤ 1000) : ∃ w, bl (K DG (d + 2)) 60 [.imm v] = some (.imm w) ∧ Sl 1 w ((ofF rs).map ivI) := by
  have key : Fe (K DG (d + 1 + 1) 60 [.imm v] .lf 0 0) (fun x H n => Rw 1 H 0 n x ((ofF rs).map ivI)) := by
    rw [D.k60]
    refine fn_dw rfl ?_
    have vs := hv.scal
    simp [vs, B6, undT, fnEnd, argsT, PT.get_put, keep, opRun, ev, evs, evO, give, giveI, binOf, isNilK, PM.flip, putT, putL, putH, loadOf, storeOf, cut, over, ofCells, asNat, natOr, calm, clashes, Acc.clash, ressOf, resOf, frz, frz.frzs, DV.flat, DV.flat.flats, imms]
    refine loopO9 hv hl ⟨by simp [PT.get_put], by simp [PT.get_put], .imm .nils, by simp [PT.get_put], .inl ⟨rfl, by simp [ofF]⟩⟩ (fun s' hI => ?_)
    obtain ⟨c0, c4, x, c3, hx⟩ := hI
    rw [List.take_length] at hx
    have xs := hx.scal
    have xo := hx.out
    simp [c0, c4, c3, xs, xo, B6, undT, fnEnd, argsT, PT.get_put, keep, opRun, ev, evs, evO, give, giveI, binOf, isNilK, PM.flip, putT, putL, putH, loadOf, storeOf, cut, over, ofCells, asNat, natOr, calm, clashes, Acc.clash, ressOf, resOf, frz, frz.frzs, DV.flat, DV.flat.flats, imms]
    exact hx
  obtain ⟨x, H, n, e, hx⟩ := key
  obtain ⟨w, h1, h2⟩ := frz_rw hx
  exact ⟨w, bl_of e h1, h2⟩
/-! ### the crate of pointsmanref2 -/
def rowTh : Th → List IV
  | .int z => [.int .i64 1, .int .i64 z, .str [], .bool false]
  | .text s => [.int .i64 2, .int .i64 0, .str s, .bool false]
  | .bool b => [.int .i64 3, .int .i64 0, .str [], .bool b]
def CrR (H : PT HB) (a : Nat) (ob : Option Nat) (ts : List Th) : Prop := (H.get a = some ⟨1, [[.imm .nils]]⟩ ∧ ts = [] ∧ ob = none) ∨ (H.get a = some ⟨1, [[.imm (.lst true 4 (ts.map rowTh))]]⟩ ∧ ob = none) ∨
  ∃ b, ob = some b ∧ b ≠ a ∧ H.get a = some ⟨1, [[.sl b 0 ts.length ts.length]]⟩ ∧ H.get b = some ⟨4, (ts.map rowTh).map imms⟩
theorem rowTh_sc (t : Th) : ∃ a b c e, rowTh t = [a, b, c, e] ∧ (DV.imm a).scal = true ∧ (DV.imm b).scal = true ∧ (DV.imm c).scal = true ∧ (DV.imm e).scal = true := by
  cases t <;> exact ⟨_, _, _, _, rfl, rfl, rfl, rfl, rfl⟩
theorem AddR {d : Nat} {H : PT HB} {n a lo : Nat} {ob : Option Nat} {ts : List Th} (hla : lo ≤ a) (ha : a < n) (hob : ∀ b, ob = some b → b < n ∧ lo ≤ b) (h : CrR H a ob ts) (hlt : ts.length ≤ 100) (t : Th) :
    Fe (K DG (d + 1) 36 [.ptr a 0 0, .agg (imms (rowTh t))] H n lo) (fun v H' n' => v = .imm (.bool (decide (ts.length < 100))) ∧ n ≤ n' ∧ (ts.length < 100 → ∃ b, n ≤ b ∧ b < n' ∧ CrR H' a (some b) (ts ++ [t])) ∧ ∀ j, j < n → j ≠ a → ob ≠ some j → H'.get j = H.get j) := by
  obtain ⟨r1, r2, r3, r4, hr, s1, s2, s3, s4⟩ := rowTh_sc t
  rw [D.k36]
  refine fn_dw rfl ?_
  rw [hr]
  by_cases h100 : ts.length < 100
  · have i0 : ILt (ts.length : Int) 100 = True := ilt_t (by omega)
    have i1 : ILt 0 100 = True := ilt_t (by omega)
    have a2 : 40 ≤ appMax := by unfold appMax; omega
    have a0 : 1 ≤ appMax := by unfold appMax; omega
    have b2 : ts.length + 1 ≤ appMax := by unfold appMax; omega
    have b3 : (ts.length + 1) * 40 ≤ appMax := by unfold appMax; omega
    have e1 : ¬ a = n + 1 := by omega
    have e2 : ¬ n + 1 = a := by omega
    have l3 : lo ≤ n + 1 := by omega
    have hmap : ((ts ++ [t]).map rowTh).map imms = (ts.map rowTh).map imms ++ [[.imm r1, .imm r2, .imm r3, .imm r4]] := by
      simp [hr, imms]
    rcases h with ⟨h1, rfl, rfl⟩ | ⟨h1, rfl⟩ | ⟨b, rfl, hba, h1, h2⟩
    · simp (config := {contextual := true}) [CrR, h1, e1, e2, ha, hla, l3, i1, s1, s2, s3, s4, imms, evParts2, lay, unImms, unImm, mapO, rowsN, appOf, srcOf, rowsOf, raccOf, a0, a2, hr, B6, undT, fnEnd, argsT, PT.get_put, keep, opRun, ev, evs, evO, give, giveI, binOf, isNilK, PM.flip, putT, putL, putH, loadOf, storeOf, cut, over, ofCells, asNat, natOr, calm, clashes, Acc.clash, ressOf, resOf, frz, frz.frzs, DV.flat, DV.flat.flats, imms]
      refine ⟨by omega, ⟨n + 1, by omega, by omega, by simp [e2]⟩, fun j hj h4 => ?_⟩
      have h3 : ¬ j = n + 1 := by omega
      simp [h3, h4]
    · have hml : (ts.map rowTh).length = ts.length := by simp
      generalize hes : ts.map rowTh = es at *
      simp (config := {contextual := true}) [CrR, h1, hml, e1, e2, ha, hla, l3, h100, i0, s1, s2, s3, s4, imms, evParts2, lay, unImms, unImm, mapO, rowsN, appOf, srcOf, rowsOf, raccOf, b2, b3, hr, B6, undT, fnEnd, argsT, PT.get_put, keep, opRun, ev, evs, evO, give, giveI, binOf, isNilK, PM.flip, putT, putL, putH, loadOf, storeOf, cut, over, ofCells, asNat, natOr, calm, clashes, Acc.clash, ressOf, resOf, frz, frz.frzs, DV.flat, DV.flat.flats, imms]
      refine ⟨by omega, ⟨n + 1, by omega, by omega, by simp [e2]; rw [← hes]; simp [imms]⟩, fun j hj h4 => ?_⟩
      have h3 : ¬ j = n + 1 := by omega
      simp [h3, h4]
    · obtain ⟨hb, l2⟩ := hob b rfl
      have hab : ¬ a = b := fun e => hba e.symm
      have a1 : ¬ ts.length + 1 ≤ ts.length := by omega
      have e3 : ¬ b = n + 1 := by omega
      have e4 : ¬ n + 1 = b := by omega
      have hml : ((ts.map rowTh).map imms).length = ts.length := by simp
      generalize hes : (ts.map rowTh).map imms = es at *
      simp (config := {contextual := true}) [CrR, h1, h2, hml, hba, hab, e1, e2, e3, e4, ha, hla, l2, l3, h100, i0, s1, s2, s3, s4, imms, evParts2, lay, unImms, unImm, mapO, rowsN, appOf, srcOf, rowsOf, raccOf, a1, b2, b3, hr, B6, undT, fnEnd, argsT, PT.get_put, keep, opRun, ev, evs, evO, give, giveI, binOf, isNilK, PM.flip, putT, putL, putH, loadOf, storeOf, cut, over, ofCells, asNat, natOr, calm, clashes, Acc.clash, ressOf, resOf, frz, frz.frzs, DV.flat, DV.flat.flats, imms]
      refine ⟨by omega, ⟨n + 1, by omega, by omega, by simp [e2]; rw [← hes]; simp [imms]⟩, fun j hj h4 h5 => ?_⟩
      have h3 : ¬ j = n + 1 := by omega
      have h6 : ¬ j = b := fun e => h5 e.symm
      simp [h3, h4, h6]
  · have i0 : ILt (ts.length : Int) 100 = False := ilt_f (by omega)
    rcases h with ⟨h1, rfl, rfl⟩ | ⟨h1, rfl⟩ | ⟨b, rfl, hba, h1, h2⟩
    · simp at h100
    · have hml : (ts.map rowTh).length = ts.length := by simp
      generalize hes : ts.map rowTh = es at *
      simp (config := {contextual := true}) [h1, hml, ha, h100, i0, s1, s2, s3, s4, imms, B6, undT, fnEnd, argsT, PT.get_put, keep, opRun, ev, evs, evO, give, giveI, binOf, isNilK, PM.flip, putT, putL, putH, loadOf, storeOf, cut, over, ofCells, asNat, natOr, calm, clashes, Acc.clash, ressOf, resOf, frz, frz.frzs, DV.flat, DV.flat.flats, imms]
    · simp (config := {contextual := true}) [h1, ha, h100, i0, s1, s2, s3, s4, imms, B6, undT, fnEnd, argsT, PT.get_put, keep, opRun, ev, evs, evO, give, giveI, binOf, isNilK, PM.flip, putT, putL, putH, loadOf, storeOf, cut, over, ofCells, asNat, natOr, calm, clashes, Acc.clash, ressOf, resOf, frz, frz.frzs, DV.flat, DV.flat.flats, imms]
end Go.Proofs.YtnpcgejfkonfdaaDoor.D

-- RB
set_option linter.unusedVariables false
set_option linter.unusedSimpArgs false
set_option maxHeartbeats 16000000
namespace Go.Proofs.YtnpcgejfkonfdaaDoor.D
open Go Go.PM Go.Lib

structure ILr (lo a : Nat) (x : DV) (zs : List Int) (i : Nat) (st : St) : Prop where
  c7 : st.T.get 7 = some x
  c8 : st.T.get 8 = some (.ptr a 0 0)
  c9 : st.T.get 9 = some (.imm (.int .i64 (i : Int)))
  cr : ∃ ob, (∀ b, ob = some b → b < st.n ∧ lo ≤ b) ∧ CrR st.H a ob (.text [115, 116, 97, 116, 101] :: (zs.take i).map .int) ∧ ∀ b, ob = some b → x ≠ .sl b 0 zs.length zs.length
  xa : x = .imm (.lst true 1 (zs.map ivI)) ∨ ∃ id, (id < st.n ∧ id ≠ a) ∧ x = .sl id 0 zs.length zs.length ∧ st.H.get id = some ⟨1, zs.map rowI⟩
  an : lo ≤ a ∧ a < st.n
theorem loopLr {d : Nat} {lo a : Nat} {x : DV} {zs : List Int} (hl : zs.length ≤ 99) {st : St} (h : ILr lo a x zs 0 st) {ks : List Kf} {Q : Ex → St → Prop}
    (hk : ∀ s', ILr lo a x zs zs.length s' → Bk DG (K DG (d + 1)) lo (.exit 0) ks s' Q) : Wp DG (K DG (d + 1)) lo D.l42_0 ks st Q := by
  refine dw_loop (N := zs.length) (small (by have := rb3; omega)) (fun i st => ILr lo a x zs i st) (fun e s' => e = .exit 0 ∧ ILr lo a x zs zs.length s') (fun i st hle hI => ?_) h (fun e s' h => by
    obtain ⟨rfl, h⟩ := h
    exact hk s' h)
  obtain ⟨c7, c8, c9, ⟨ob, hob, cr, hxb⟩, xa, ⟨anl, an⟩⟩ := hI
  have xs : x.scal = true := by rcases xa with rfl | ⟨id, _, rfl, _⟩ <;> rfl
  have xl : lenOf x = some zs.length := by rcases xa with rfl | ⟨id, _, rfl, _⟩ <;> simp [lenOf]
  by_cases hi : i < zs.length
  · have hi1 : (i : Int) < zs.length := by omega
    have hi' := ilt_t hi1
    have hw8 : IntKind.i64.wrap ((i : Int) + 1) = (i : Int) + 1 := wr_succ hi (by have := rb3; omega)
    have hL : (Th.text [115, 116, 97, 116, 101] :: (zs.take i).map Th.int).length < 100 := by simp; omega
    have hmt : (zs.take (i + 1)).map Th.int = (zs.take i).map Th.int ++ [.int zs[i]] := by
      rw [List.take_add_one, List.getElem?_eq_getElem hi, List.map_append]
      rfl
    obtain ⟨v, H', n', e, rfl, hn, hcr, p4⟩ := AddR (d := d) (lo := lo) anl an hob cr (by omega) (.int zs[i])
    obtain ⟨b', p1, p2, p3⟩ := hcr hL
    rw [decide_eq_true hL] at e
    have cr2 : CrR H' a (some b') (.text [115, 116, 97, 116, 101] :: (zs.take (i + 1)).map .int) := by
      rw [hmt]
      exact p3
    simp only [rowTh, imms, List.map_cons, List.map_nil] at e
    rcases xa with rfl | ⟨id, ⟨i2, i3⟩, rfl, hx⟩
    · have ix := fun {h : Nat → Option HB} {n : Nat} => idx_sl (h := h) (n := n) (v := .lst true 1 (zs.map ivI)) (xs := zs) (f := ivI) (.inr ⟨true, rfl⟩) (by omega) (k := .i64) (z := (i : Int)) (by omega) hi1
      simp only [Int.toNat_natCast, nth, List.getD_eq_getElem?_getD, List.getElem?_eq_getElem hi, Option.getD_some] at ix
      generalize hes : zs.map ivI = es at *
      have hel : es.length = zs.length := by rw [← hes]; simp
      generalize zs[i] = z at *
      generalize hQ : (fun (e : Ex) (s' : St) => _) = Q'
      simp only [D.l42_0b]
      simp [c7, c8, c9, hel, hi', hw8, ix, e, ivI, imms, evParts, lay, unImms, unImm, mapO, B6, undT, fnEnd, argsT, PT.get_put, keep, opRun, ev, evs, evO, give, giveI, binOf, isNilK, PM.flip, putT, putL, putH, loadOf, storeOf, cut, over, ofCells, asNat, natOr, calm, clashes, Acc.clash, ressOf, resOf, frz, frz.frzs, DV.flat, DV.flat.flats, imms]
      subst hQ
      exact .inl ⟨rfl, hi, by simp [PT.get_put], by simp [PT.get_put], by simp [PT.get_put], ⟨some b', fun b hb => by cases hb; exact ⟨p2, by omega⟩, cr2, fun b _ e => by cases e⟩, .inl (by rw [hes]), by simp; omega⟩
    · have hidb : ob ≠ some id := fun e => hxb id e rfl
      have ix := fun {n : Nat} => idx_hp (h := st.H.get) (n := n) (id := id) (row := 0) (len := zs.length) (cap := zs.length) hx rfl (k := .i64) (z := (i : Int)) (by omega) hi1
      simp only [Int.toNat_natCast, Nat.zero_add] at ix
      have hrow : (zs.map rowI)[i]? = some (rowI (zs[i])) := by rw [List.getElem?_map, List.getElem?_eq_getElem hi]; rfl
      have hx2 : H'.get id = some ⟨1, zs.map rowI⟩ := by rw [p4 id i2 i3 hidb]; exact hx
      generalize hrows : zs.map rowI = rows at *
      generalize zs[i] = z at *
      generalize hQ : (fun (e : Ex) (s' : St) => _) = Q'
      simp only [D.l42_0b]
      simp [c7, c8, c9, hi', hw8, ix, hx, hrow, e, rowI, evParts, lay, unImms, unImm, mapO, B6, undT, fnEnd, argsT, PT.get_put, keep, opRun, ev, evs, evO, give, giveI, binOf, isNilK, PM.flip, putT, putL, putH, loadOf, storeOf, cut, over, ofCells, asNat, natOr, calm, clashes, Acc.clash, ressOf, resOf, frz, frz.frzs, DV.flat, DV.flat.flats, imms]
      subst hQ
      exact .inl ⟨rfl, hi, by simp [PT.get_put], by simp [PT.get_put], by simp [PT.get_put], ⟨some b', fun b hb => by cases hb; exact ⟨p2, by omega⟩, cr2, fun b hb e => by cases hb; cases e; omega⟩, .inr ⟨id, by simp; omega, rfl, by simpa [hrows] using hx2⟩, by simp; omega⟩
  · obtain rfl : i = zs.length := by omega
    generalize hQ : (fun (e : Ex) (s' : St) => _) = Q'
    simp only [D.l42_0b]
    simp [c7, c8, c9, xs, xl, B6, undT, fnEnd, argsT, PT.get_put, keep, opRun, ev, evs, evO, give, giveI, binOf, isNilK, PM.flip, putT, putL, putH, loadOf, storeOf, cut, over, ofCells, asNat, natOr, calm, clashes, Acc.clash, ressOf, resOf, frz, frz.frzs, DV.flat, DV.flat.flats, imms]
    subst hQ
    exact .inr ⟨nofun, rfl, by simp [PT.get_put, c7], by simp [PT.get_put, c8], by simp [PT.get_put, c9], ⟨ob, hob, cr, hxb⟩, xa, anl, an⟩
/-! ### pointsmanref8 -/
theorem numY_get (m : Nat) : ∀ (k j : Nat), j < k → (numY m k)[j]? = some (UInt8.ofNat (m / 256 ^ (k - 1 - j)))
  | 0, j, h => by omega
  | k + 1, 0, h => by simp [numY]
  | k + 1, j + 1, h => by
    have := numY_get m k j (by omega)
    rw [numY, List.getElem?_cons_succ, this, show k + 1 - 1 - (j + 1) = k - 1 - j by omega]
theorem num_byteB (m c : Nat) : IntKind.u8.wrap ((m : Int).fdiv (2 ^ (8 * c))) = ((UInt8.ofNat (m / 256 ^ c)).toNat : Int) := by
  have e : ((2 : Int) ^ (8 * c)) = ((256 ^ c : Nat) : Int) := by
    rw [Int.natCast_pow, Int.pow_mul]; rfl
  rw [e, Int.fdiv_eq_ediv_of_nonneg _ (Int.natCast_nonneg _), ← Int.natCast_ediv, UInt8.toNat_ofNat']
  generalize m / 256 ^ c = y
  simp only [IntKind.wrap, IntKind.bits, IntKind.signed]
  simp
structure IBg (H0 : PT HB) (w : Nat) (m k j : Nat) (st : St) : Prop where
  c0 : st.T.get 0 = some (.imm (.int .u64 (m : Int)))
  c6 : st.T.get 6 = some (.imm (.int .i64 ((k : Int) - 1 - (j : Int))))
  y : ∃ x, st.T.get 5 = some x ∧ Rw 1 st.H w st.n x (((numY m k).take j).map ivY)
  fr : ∀ i, i < w → st.H.get i = H0.get i
  hn : w ≤ st.n
theorem loopBg {d : Nat} {H0 : PT HB} {w lo m k : Nat} (hlo : lo ≤ w) (hk8 : k ≤ 8) (hm : m < 2 ^ 64) {st : St} (h : IBg H0 w m k 0 st) {ks : List Kf} {Q : Ex → St → Prop}
    (hk : ∀ s', IBg H0 w m k k s' → Bk DG (K DG d) lo (.exit 0) ks s' Q) : Wp DG (K DG d) lo D.l62_0 ks st Q := by
  refine dw_loop (N := k) (small (by have := rb3; omega)) (fun i st => IBg H0 w m k i st) (fun e s' => e = .exit 0 ∧ IBg H0 w m k k s') (fun i st hle hI => ?_) h (fun e s' h => by
    obtain ⟨rfl, h⟩ := h
    exact hk s' h)
  obtain ⟨c0, c6, ⟨x, c5, hx⟩, fr, hn⟩ := hI
  have xs := hx.scal
  by_cases hi : i < k
  · obtain ⟨c, hc⟩ : ∃ c : Nat, c = k - 1 - i := ⟨_, rfl⟩
    have hci : (k : Int) - 1 - (i : Int) = (c : Int) := by omega
    have hci2 : (k : Int) - 1 - ((i + 1 : Nat) : Int) = (c : Int) - 1 := by omega
    rw [hci] at c6
    have hi' : ILt (c : Int) 0 = False := ilt_f (by omega)
    have w1 : IntKind.i64.wrap ((c : Int) - 1) = (c : Int) - 1 := wr_id (by omega) (by omega)
    have w2 : IntKind.i64.wrap (8 * (c : Int)) = ((8 * c : Nat) : Int) := by rw [wr_id (by omega) (by omega)]; omega
    have w3 : IntKind.u64.wrap ((8 * c : Nat) : Int) = ((8 * c : Nat) : Int) := wu64' (by omega)
    have b64 : IntKind.u64.bits = 64 := rfl
    have nb := num_byteB m c
    have gt := numY_get m k i hi
    rw [← hc] at gt
    obtain ⟨x', hw, acc, a1, a2, a3⟩ := app_rw (bytes := 1) (lo := lo) (w := w) (n := st.n) (H := st.H) hlo hn hx (by omega) (by simp; omega) (by omega) (es := [ivY (UInt8.ofNat (m / 256 ^ c))]) (by simp) (by simp)
    have a2s := a2.scal
    have fin : Rw 1 (putH st.H hw) w (st.n + 1) x' (((numY m k).take (i + 1)).map ivY) := by
      rw [List.take_add_one, gt, List.map_append]
      exact a2
    simp only [ivY] at a1
    generalize hub : UInt8.ofNat (m / 256 ^ c) = ub at *
    have g0 : ¬ ((8 * c : Nat) : Int) < 0 := by omega
    have g1 : min ((8 * c : Nat) : Int).toNat 64 = 8 * c := by omega
    generalize ((8 * c : Nat) : Int) = c8 at *
    generalize hQ : (fun (e : Ex) (s' : St) => _) = Q'
    simp only [D.l62_0b]
    simp [c0, c5, c6, xs, hi', w1, w2, w3, b64, g0, g1, nb, a1, a2s, evParts2, lay, unImms, unImm, mapO, rowsN, B6, undT, fnEnd, argsT, PT.get_put, keep, opRun, ev, evs, evO, give, giveI, binOf, isNilK, PM.flip, putT, putL, putH, loadOf, storeOf, cut, over, ofCells, asNat, natOr, calm, clashes, Acc.clash, ressOf, resOf, frz, frz.frzs, DV.flat, DV.flat.flats, imms]
    subst hQ
    exact .inl ⟨rfl, hi, by simp [PT.get_put], by simp [PT.get_put]; omega, ⟨x', by simp [PT.get_put], fin⟩, fun j hj => (a3 j hj).trans (fr j hj), by simp; omega⟩
  · obtain rfl : i = k := by omega
    have hi' : ILt ((i : Int) - 1 - (i : Int)) 0 = True := ilt_t (by omega)
    generalize hz : (i : Int) - 1 - (i : Int) = z at c6 hi'
    generalize hQ : (fun (e : Ex) (s' : St) => _) = Q'
    simp only [D.l62_0b]
    simp [c0, c5, c6, xs, hi', B6, undT, fnEnd, argsT, PT.get_put, keep, opRun, ev, evs, evO, give, giveI, binOf, isNilK, PM.flip, putT, putL, putH, loadOf, storeOf, cut, over, ofCells, asNat, natOr, calm, clashes, Acc.clash, ressOf, resOf, frz, frz.frzs, DV.flat, DV.flat.flats, imms]
    subst hQ
    exact .inr ⟨nofun, rfl, by simp [PT.get_put, c0], by rw [hz]; simp [PT.get_put, c6], ⟨x, by simp [PT.get_put, c5], hx⟩, fr, hn⟩
end Go.Proofs.YtnpcgejfkonfdaaDoor.D
