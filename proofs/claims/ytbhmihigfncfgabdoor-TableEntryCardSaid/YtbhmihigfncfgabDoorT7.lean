/-
  Rows of needs that are one. Over D.
-/
import Derived.Test.YtbhmihigfncfgabDoorT6
set_option linter.unusedVariables false
set_option linter.unusedSimpArgs false
set_option maxHeartbeats 16000000
namespace Go.Proofs.YtbhmihigfncfgabDoor.D
open Go Go.PM Go.Lib
/-! ### Rows that are one -/
def ISN (v w : IV) (i : Nat) (st : St) : Prop := st.T.get 0 = some (.imm v) ∧ st.T.get 1 = some (.imm w) ∧ st.T.get 5 = some (.imm (.int .i64 i))
theorem loopSN {d : Nat} {v w : IV} {xs : List Need} (hv : Sl 2 v (xs.map ivN)) (hw : Sl 2 w (xs.map ivN)) (hl : xs.length ≤ reachBytes) {ks : List Kf} {st : St} {Q : Ex → St → Prop} (h : ISN v w 0 st)
    (hk : ∀ st', Bk DG (K DG d) 0 (.exit 0) ks st' Q) : Wp DG (K DG d) 0 D.l18_0 ks st Q := by
  refine dw_loop (N := xs.length) (small hl) (ISN v w) (fun e st' => e = .exit 0) (fun i st hle hI => ?_) h (fun e s' h => by rw [h]; exact hk s')
  obtain ⟨h0, h1, h5⟩ := hI
  have vl := hv.len
  simp only [List.length_map] at vl
  by_cases hi : i < xs.length
  · have hi' : (i : Int) < xs.length := by omega
    have hj' := ilt_t hi'
    have hw8 : IntKind.i64.wrap ((i : Int) + 1) = (i : Int) + 1 := wr_succ hi hl
    have ix := fun {h : Nat → Option HB} {n : Nat} => idx_sl (h := h) (n := n) hv (by omega) (k := .i64) (z := (i : Int)) (by omega) hi'
    have iy := fun {h : Nat → Option HB} {n : Nat} => idx_sl (h := h) (n := n) hw (by omega) (k := .i64) (z := (i : Int)) (by omega) hi'
    have eq : dec (NEq (nth xs i).pt (nth xs i).rev (nth xs i).pt (nth xs i).rev) = true := dec_t ⟨rfl, rfl⟩
    generalize hQ : (fun (e : Ex) (s' : St) => _) = Q'
    simp only [D.l18_0b]
    simp [h0, h1, h5, vl, hj', hw8, ix, iy, ivN, eq_need, eq, B6, undT, fnEnd, argsT, PT.get_put, keep, opRun, ev, evs, evO, give, giveI, binOf, isNilK, PM.flip, putT, putL, putH, loadOf, storeOf, cut, over, ofCells, asNat, natOr, calm, clashes, Acc.clash, ressOf, resOf, frz, frz.frzs, DV.flat, DV.flat.flats, imms]
    subst hQ
    simp [ISN, PT.get_put, hi]
  · obtain rfl : i = xs.length := by omega
    generalize hQ : (fun (e : Ex) (s' : St) => _) = Q'
    simp only [D.l18_0b]
    simp [h0, h1, h5, vl, B6, undT, fnEnd, argsT, PT.get_put, keep, opRun, ev, evs, evO, give, giveI, binOf, isNilK, PM.flip, putT, putL, putH, loadOf, storeOf, cut, over, ofCells, asNat, natOr, calm, clashes, Acc.clash, ressOf, resOf, frz, frz.frzs, DV.flat, DV.flat.flats, imms]
    subst hQ
    simp
theorem needs_same {D : Nat} (hD : 1 ≤ D) {v w : IV} {xs : List Need} (hv : Sl 2 v (xs.map ivN)) (hw : Sl 2 w (xs.map ivN)) (hl : xs.length ≤ reachBytes) :
    bl (K DG D) 18 [.imm v, .imm w] = some (.imm (.bool true)) := by
  obtain ⟨d, rfl⟩ : ∃ d, D = d + 1 := ⟨D - 1, by omega⟩
  refine bl_fe ?_
  rw [D.k18]
  refine fn_dw rfl ?_
  have vl := hv.len
  have wl := hw.len
  simp only [List.length_map] at vl wl
  simp [vl, wl, B6, undT, fnEnd, argsT, PT.get_put, keep, opRun, ev, evs, evO, give, giveI, binOf, isNilK, PM.flip, putT, putL, putH, loadOf, storeOf, cut, over, ofCells, asNat, natOr, calm, clashes, Acc.clash, ressOf, resOf, frz, frz.frzs, DV.flat, DV.flat.flats, imms]
  refine loopSN hv hw hl ⟨by simp [PT.get_put], by simp [PT.get_put], by simp [PT.get_put]⟩ ?_
  intro st'
  simp [B6, undT, fnEnd, argsT, PT.get_put, keep, opRun, ev, evs, evO, give, giveI, binOf, isNilK, PM.flip, putT, putL, putH, loadOf, storeOf, cut, over, ofCells, asNat, natOr, calm, clashes, Acc.clash, ressOf, resOf, frz, frz.frzs, DV.flat, DV.flat.flats, imms]
end Go.Proofs.YtbhmihigfncfgabDoor.D
