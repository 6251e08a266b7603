/-
  Copies; lock.copied, lock.New of any layout. Over D.
-/
import Derived.Test.YtkgjgehffijepabDoorT6
set_option linter.unusedVariables false
set_option linter.unusedSimpArgs false
set_option maxHeartbeats 16000000
namespace Go.Proofs.YtkgjgehffijepabDoor.D
open Go Go.PM Go.Lib
/-! ### slices.Clone -/
/-- What a copy is: nothing, an empty row, a row of the heap. -/
def Cl (sz : Nat) (x : DV) (H : PT HB) (n : Nat) (es : List (List IV)) : Prop := (x = .imm .nils ∧ es = []) ∨ (x = .imm (.lst true sz []) ∧ es = []) ∨ AtS sz x H n es
theorem Cl.frz {sz : Nat} {x : DV} {H : PT HB} {n : Nat} {es : List (List IV)} (h : Cl sz x H n es) : ∃ v, PM.frz H.get 0 x = some (.imm v) ∧ Sl sz v es := by
  rcases h with ⟨rfl, rfl⟩ | ⟨rfl, rfl⟩ | h
  · exact ⟨_, rfl, .inl ⟨rfl, rfl⟩⟩
  · exact ⟨_, rfl, .inr ⟨_, rfl⟩⟩
  · exact frz_row h
theorem clone_s {D : Nat} (hD : 1 ≤ D) {v : IV} {es : List (List IV)} (hv : Sl 1 v es) (hl : es.length ≤ 2 ^ 25) : ∃ v', bl (K DG D) 52 [.imm v] = some (.imm v') ∧ Sl 1 v' es := by
  obtain ⟨d, rfl⟩ : ∃ d, D = d + 1 := ⟨D - 1, by omega⟩
  have hv0 := hv
  have key : Fe (K DG (d + 1) 52 [.imm v] .lf 0 0) (fun x H n => Cl 1 x H n es) := by
    rw [D.k52]
    refine fn_dw rfl ?_
    rcases hv with ⟨rfl, rfl⟩ | ⟨f, rfl⟩
    · simp [B6, undT, fnEnd, argsT, PT.get_put, keep, opRun, ev, evs, evO, give, giveI, binOf, isNilK, PM.flip, putT, putL, putH, loadOf, storeOf, cut, over, ofCells, asNat, natOr, calm, clashes, Acc.clash, ressOf, resOf, frz, frz.frzs, DV.flat, DV.flat.flats, imms]
      exact .inl ⟨rfl, rfl⟩
    · by_cases he : es = []
      · have p1 := fun {h : Nat → Option HB} {n : Nat} {x : DV} hx => app_none (bytes := 16) (h := h) (n := n) (x := x) hx (he ▸ hv0)
        subst he
        simp [p1, evParts2, lay, unImms, unImm, mapO, rowsN, B6, undT, fnEnd, argsT, PT.get_put, keep, opRun, ev, evs, evO, give, giveI, binOf, isNilK, PM.flip, putT, putL, putH, loadOf, storeOf, cut, over, ofCells, asNat, natOr, calm, clashes, Acc.clash, ressOf, resOf, frz, frz.frzs, DV.flat, DV.flat.flats, imms]
        exact .inr (.inl ⟨rfl, rfl⟩)
      · have p1 := fun {h : Nat → Option HB} {n : Nat} => app_new (bytes := 16) (h := h) (n := n) hv0 he (by omega) hl (by omega)
        simp [p1, evParts2, lay, unImms, unImm, mapO, rowsN, B6, undT, fnEnd, argsT, PT.get_put, keep, opRun, ev, evs, evO, give, giveI, binOf, isNilK, PM.flip, putT, putL, putH, loadOf, storeOf, cut, over, ofCells, asNat, natOr, calm, clashes, Acc.clash, ressOf, resOf, frz, frz.frzs, DV.flat, DV.flat.flats, imms]
        exact .inr (.inr (.inr ⟨_, by omega, rfl, by simp [PT.get_put]⟩))
  obtain ⟨x, H, n, e, hc⟩ := key
  obtain ⟨v', e2, h2⟩ := hc.frz
  exact ⟨v', bl_of e e2, h2⟩
theorem clone_p {D : Nat} (hD : 1 ≤ D) {v : IV} {es : List (List IV)} (hv : Sl 2 v es) (hl : es.length ≤ 2 ^ 25) : ∃ v', bl (K DG D) 53 [.imm v] = some (.imm v') ∧ Sl 2 v' es := by
  obtain ⟨d, rfl⟩ : ∃ d, D = d + 1 := ⟨D - 1, by omega⟩
  have hv0 := hv
  have key : Fe (K DG (d + 1) 53 [.imm v] .lf 0 0) (fun x H n => Cl 2 x H n es) := by
    rw [D.k53]
    refine fn_dw rfl ?_
    rcases hv with ⟨rfl, rfl⟩ | ⟨f, rfl⟩
    · simp [B6, undT, fnEnd, argsT, PT.get_put, keep, opRun, ev, evs, evO, give, giveI, binOf, isNilK, PM.flip, putT, putL, putH, loadOf, storeOf, cut, over, ofCells, asNat, natOr, calm, clashes, Acc.clash, ressOf, resOf, frz, frz.frzs, DV.flat, DV.flat.flats, imms]
      exact .inl ⟨rfl, rfl⟩
    · by_cases he : es = []
      · have p1 := fun {h : Nat → Option HB} {n : Nat} {x : DV} hx => app_none (bytes := 24) (h := h) (n := n) (x := x) hx (he ▸ hv0)
        subst he
        simp [p1, evParts2, lay, unImms, unImm, mapO, rowsN, B6, undT, fnEnd, argsT, PT.get_put, keep, opRun, ev, evs, evO, give, giveI, binOf, isNilK, PM.flip, putT, putL, putH, loadOf, storeOf, cut, over, ofCells, asNat, natOr, calm, clashes, Acc.clash, ressOf, resOf, frz, frz.frzs, DV.flat, DV.flat.flats, imms]
        exact .inr (.inl ⟨rfl, rfl⟩)
      · have p1 := fun {h : Nat → Option HB} {n : Nat} => app_new (bytes := 24) (h := h) (n := n) hv0 he (by omega) hl (by omega)
        simp [p1, evParts2, lay, unImms, unImm, mapO, rowsN, B6, undT, fnEnd, argsT, PT.get_put, keep, opRun, ev, evs, evO, give, giveI, binOf, isNilK, PM.flip, putT, putL, putH, loadOf, storeOf, cut, over, ofCells, asNat, natOr, calm, clashes, Acc.clash, ressOf, resOf, frz, frz.frzs, DV.flat, DV.flat.flats, imms]
        exact .inr (.inr (.inr ⟨_, by omega, rfl, by simp [PT.get_put]⟩))
  obtain ⟨x, H, n, e, hc⟩ := key
  obtain ⟨v', e2, h2⟩ := hc.frz
  exact ⟨v', bl_of e e2, h2⟩
theorem clone_i {D : Nat} (hD : 1 ≤ D) {v : IV} {es : List (List IV)} (hv : Sl 1 v es) (hl : es.length ≤ 2 ^ 25) : ∃ v', bl (K DG D) 55 [.imm v] = some (.imm v') ∧ Sl 1 v' es := by
  obtain ⟨d, rfl⟩ : ∃ d, D = d + 1 := ⟨D - 1, by omega⟩
  have hv0 := hv
  have key : Fe (K DG (d + 1) 55 [.imm v] .lf 0 0) (fun x H n => Cl 1 x H n es) := by
    rw [D.k55]
    refine fn_dw rfl ?_
    rcases hv with ⟨rfl, rfl⟩ | ⟨f, rfl⟩
    · simp [B6, undT, fnEnd, argsT, PT.get_put, keep, opRun, ev, evs, evO, give, giveI, binOf, isNilK, PM.flip, putT, putL, putH, loadOf, storeOf, cut, over, ofCells, asNat, natOr, calm, clashes, Acc.clash, ressOf, resOf, frz, frz.frzs, DV.flat, DV.flat.flats, imms]
      exact .inl ⟨rfl, rfl⟩
    · by_cases he : es = []
      · have p1 := fun {h : Nat → Option HB} {n : Nat} {x : DV} hx => app_none (bytes := 8) (h := h) (n := n) (x := x) hx (he ▸ hv0)
        subst he
        simp [p1, evParts2, lay, unImms, unImm, mapO, rowsN, B6, undT, fnEnd, argsT, PT.get_put, keep, opRun, ev, evs, evO, give, giveI, binOf, isNilK, PM.flip, putT, putL, putH, loadOf, storeOf, cut, over, ofCells, asNat, natOr, calm, clashes, Acc.clash, ressOf, resOf, frz, frz.frzs, DV.flat, DV.flat.flats, imms]
        exact .inr (.inl ⟨rfl, rfl⟩)
      · have p1 := fun {h : Nat → Option HB} {n : Nat} => app_new (bytes := 8) (h := h) (n := n) hv0 he (by omega) hl (by omega)
        simp [p1, evParts2, lay, unImms, unImm, mapO, rowsN, B6, undT, fnEnd, argsT, PT.get_put, keep, opRun, ev, evs, evO, give, giveI, binOf, isNilK, PM.flip, putT, putL, putH, loadOf, storeOf, cut, over, ofCells, asNat, natOr, calm, clashes, Acc.clash, ressOf, resOf, frz, frz.frzs, DV.flat, DV.flat.flats, imms]
        exact .inr (.inr (.inr ⟨_, by omega, rfl, by simp [PT.get_put]⟩))
  obtain ⟨x, H, n, e, hc⟩ := key
  obtain ⟨v', e2, h2⟩ := hc.frz
  exact ⟨v', bl_of e e2, h2⟩
theorem clone_n {D : Nat} (hD : 1 ≤ D) {v : IV} {es : List (List IV)} (hv : Sl 2 v es) (hl : es.length ≤ 2 ^ 25) : ∃ v', bl (K DG D) 56 [.imm v] = some (.imm v') ∧ Sl 2 v' es := by
  obtain ⟨d, rfl⟩ : ∃ d, D = d + 1 := ⟨D - 1, by omega⟩
  have hv0 := hv
  have key : Fe (K DG (d + 1) 56 [.imm v] .lf 0 0) (fun x H n => Cl 2 x H n es) := by
    rw [D.k56]
    refine fn_dw rfl ?_
    rcases hv with ⟨rfl, rfl⟩ | ⟨f, rfl⟩
    · simp [B6, undT, fnEnd, argsT, PT.get_put, keep, opRun, ev, evs, evO, give, giveI, binOf, isNilK, PM.flip, putT, putL, putH, loadOf, storeOf, cut, over, ofCells, asNat, natOr, calm, clashes, Acc.clash, ressOf, resOf, frz, frz.frzs, DV.flat, DV.flat.flats, imms]
      exact .inl ⟨rfl, rfl⟩
    · by_cases he : es = []
      · have p1 := fun {h : Nat → Option HB} {n : Nat} {x : DV} hx => app_none (bytes := 16) (h := h) (n := n) (x := x) hx (he ▸ hv0)
        subst he
        simp [p1, evParts2, lay, unImms, unImm, mapO, rowsN, B6, undT, fnEnd, argsT, PT.get_put, keep, opRun, ev, evs, evO, give, giveI, binOf, isNilK, PM.flip, putT, putL, putH, loadOf, storeOf, cut, over, ofCells, asNat, natOr, calm, clashes, Acc.clash, ressOf, resOf, frz, frz.frzs, DV.flat, DV.flat.flats, imms]
        exact .inr (.inl ⟨rfl, rfl⟩)
      · have p1 := fun {h : Nat → Option HB} {n : Nat} => app_new (bytes := 16) (h := h) (n := n) hv0 he (by omega) hl (by omega)
        simp [p1, evParts2, lay, unImms, unImm, mapO, rowsN, B6, undT, fnEnd, argsT, PT.get_put, keep, opRun, ev, evs, evO, give, giveI, binOf, isNilK, PM.flip, putT, putL, putH, loadOf, storeOf, cut, over, ofCells, asNat, natOr, calm, clashes, Acc.clash, ressOf, resOf, frz, frz.frzs, DV.flat, DV.flat.flats, imms]
        exact .inr (.inr (.inr ⟨_, by omega, rfl, by simp [PT.get_put]⟩))
  obtain ⟨x, H, n, e, hc⟩ := key
  obtain ⟨v', e2, h2⟩ := hc.frz
  exact ⟨v', bl_of e e2, h2⟩
theorem clone_r {d : Nat} {v : IV} {es : List (List IV)} (hv : Sl 6 v es) (hl : es.length ≤ 2 ^ 25) (H : PT HB) (n : Nat) :
    Fe (K DG (d + 1) 54 [.imm v] H n 0) (fun x H' n' => n ≤ n' ∧ ((es = [] ∧ H' = H ∧ ∃ u, x = .imm u ∧ Sl 6 u []) ∨ (es ≠ [] ∧ x = .sl n 0 es.length es.length ∧ H' = H.put n (some ⟨6, es.map imms⟩) ∧ n' = n + 1))) := by
  have hv0 := hv
  rw [D.k54]
  refine fn_dw rfl ?_
  rcases hv with ⟨rfl, rfl⟩ | ⟨f, rfl⟩
  · simp [B6, undT, fnEnd, argsT, PT.get_put, keep, opRun, ev, evs, evO, give, giveI, binOf, isNilK, PM.flip, putT, putL, putH, loadOf, storeOf, cut, over, ofCells, asNat, natOr, calm, clashes, Acc.clash, ressOf, resOf, frz, frz.frzs, DV.flat, DV.flat.flats, imms]
    exact .inl ⟨rfl, rfl⟩
  · by_cases he : es = []
    · have p1 := fun {h : Nat → Option HB} {n : Nat} {x : DV} hx => app_none (bytes := 104) (h := h) (n := n) (x := x) hx (he ▸ hv0)
      subst he
      simp [p1, evParts2, lay, unImms, unImm, mapO, rowsN, B6, undT, fnEnd, argsT, PT.get_put, keep, opRun, ev, evs, evO, give, giveI, binOf, isNilK, PM.flip, putT, putL, putH, loadOf, storeOf, cut, over, ofCells, asNat, natOr, calm, clashes, Acc.clash, ressOf, resOf, frz, frz.frzs, DV.flat, DV.flat.flats, imms]
      exact .inr ⟨_, rfl⟩
    · have p1 := fun {h : Nat → Option HB} {n : Nat} => app_new (bytes := 104) (h := h) (n := n) hv0 he (by omega) hl (by omega)
      simp [p1, he, evParts2, lay, unImms, unImm, mapO, rowsN, B6, undT, fnEnd, argsT, PT.get_put, keep, opRun, ev, evs, evO, give, giveI, binOf, isNilK, PM.flip, putT, putL, putH, loadOf, storeOf, cut, over, ofCells, asNat, natOr, calm, clashes, Acc.clash, ressOf, resOf, frz, frz.frzs, DV.flat, DV.flat.flats, imms]
end Go.Proofs.YtkgjgehffijepabDoor.D
