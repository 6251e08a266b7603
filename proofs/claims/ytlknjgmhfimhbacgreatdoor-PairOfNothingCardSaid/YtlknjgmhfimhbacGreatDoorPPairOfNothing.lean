/-
  PairOfNothing over D.
-/
import Derived.Test.YtlknjgmhfimhbacGreatDoorT4
import Derived.Test.YtlknjgmhfimhbacGreatDoorKN
import Derived.Test.YtlknjgmhfimhbacGreatDoorF1
set_option linter.unusedVariables false
set_option linter.unusedSimpArgs false
set_option maxHeartbeats 16000000
set_option maxRecDepth 10000
namespace Go.Proofs.YtlknjgmhfimhbacGreatDoor.D
open Go Go.PM Go.Lib
abbrev kdEv : List Kd := [.i .i64, .i .i64, .i .i64, .i .i64, .i .i64]
def ss_PairOfNothing : List (Bool × List Kd) := [(true, kdL), (false, [.sl kdEv])]
/-- What a call that makes a thing leaves: a pointer and no error, all as it was. -/
def Made (r : Option (DV × PT HB × Nat)) (H : PT HB) (n : Nat) : Prop := ∃ p H' n', r = some (.tup [.ptr p 0 0, .imm (.int .i64 0)], H', n') ∧ n ≤ n' ∧ p < n' ∧ ∀ j, j < n → H'.get j = H.get j
theorem LockNew_no {d : Nat} (hd : 6 ≤ d) {l : Lo} (ok : LoOk l) (is : ¬ ISL l) (H : PT HB) (n : Nat) :
    ∃ n', K DG (d + 1) 41 [l.dv] H n 0 = some (.tup [.imm .nilp, .imm (.int .i64 9)], H, n') ∧ n ≤ n' := by
  have e1 := Is_bl (D := d) (by omega) ok
  rw [dec_f is] at e1
  suffices key : Fe (K DG (d + 1) 41 [l.dv] H n 0) (fun v H' n' => v = .tup [.imm .nilp, .imm (.int .i64 9)] ∧ H' = H ∧ n ≤ n') by
    obtain ⟨v, H', n', e, rfl, rfl, h⟩ := key
    exact ⟨n', e, h⟩
  rw [D.k41]
  refine fn_dw rfl ?_
  simp [ok.s.scal, ok.p.scal, ok.g.scal, ok.r.scal, e1, B6, undT, fnEnd, argsT, PT.get_put, keep, opRun, ev, evs, evO, give, giveI, binOf, isNilK, PM.flip, putT, putL, putH, loadOf, storeOf, cut, over, ofCells, asNat, natOr, calm, clashes, Acc.clash, ressOf, resOf, frz, frz.frzs, DV.flat, DV.flat.flats, imms]
theorem UnitNew_run {d : Nat} (hd : 7 ≤ d) {l : Lo} (ok : LoOk l) (is : ISL l) (H : PT HB) (n : Nat) : Made (K DG (d + 1) 45 [l.dv] H n 0) H n := by
  obtain ⟨d, rfl⟩ : ∃ d', d = d' + 1 := ⟨d - 1, by omega⟩
  obtain ⟨v1, H1, n1, e1, p, own, l', rfl, ok', eq, lk, hown, fr⟩ := LockNew_run (d := d) (by omega) ok is H (n + 1)
  have hp := hown p (by simp)
  have el := fun (H : PT HB) (n : Nat) => D.k102 (G := DG) (d := d) (args := []) (H := H) (n := n) (lo := 0)
  suffices key : Fe (K DG (d + 1 + 1) 45 [l.dv] H n 0) (fun v H' n' => ∃ p, v = .tup [.ptr p 0 0, .imm (.int .i64 0)] ∧ n ≤ n' ∧ p < n' ∧ ∀ j, j < n → H'.get j = H.get j) by
    obtain ⟨v, H', n', e, p, rfl, h⟩ := key
    exact ⟨p, H', n', e, h⟩
  have key2 : ∀ (H : PT HB) (n : Nat), Fe (K DG (d + 1) 102 [] H n 0) (fun v H' n' => v = .ptr n 0 0 ∧ n' = n + 1 ∧ H' = H.put n (some ⟨3, [[.imm (.int .i64 0), .imm (.int .i64 0), .imm (.bool false)]]⟩)) := fun H n => by
    rw [D.k102]
    refine fn_dw rfl ?_
    simp [evParts, lay, imms, B6, undT, fnEnd, argsT, PT.get_put, keep, opRun, ev, evs, evO, give, giveI, binOf, isNilK, PM.flip, putT, putL, putH, loadOf, storeOf, cut, over, ofCells, asNat, natOr, calm, clashes, Acc.clash, ressOf, resOf, frz, frz.frzs, DV.flat, DV.flat.flats, imms]
  obtain ⟨v2, H2, n2, e2, rfl, rfl, rfl⟩ := key2 H1 n1
  rw [D.k45]
  refine fn_dw rfl ?_
  simp [ok.s.scal, ok.p.scal, ok.g.scal, ok.r.scal, e1, e2, evParts, lay, imms, B6, undT, fnEnd, argsT, PT.get_put, keep, opRun, ev, evs, evO, give, giveI, binOf, isNilK, PM.flip, putT, putL, putH, loadOf, storeOf, cut, over, ofCells, asNat, natOr, calm, clashes, Acc.clash, ressOf, resOf, frz, frz.frzs, DV.flat, DV.flat.flats, imms]
  refine ⟨by omega, fun j hj => ?_⟩
  have a1 : ¬ j = n1 := by omega
  have a2 : ¬ j = n1 + 1 := by omega
  simp [PT.get_put, a1, a2, fr j (by omega)]
theorem PairNew_run {d : Nat} (hd : 8 ≤ d) {l : Lo} (ok : LoOk l) (is : ISL l) (H : PT HB) (n : Nat) :
    ∃ q H' n', K DG (d + 1) 10 [l.dv] H n 0 = some (.tup [.ptr q 0 0, .imm (.int .i64 0)], H', n') := by
  obtain ⟨d, rfl⟩ : ∃ d', d = d' + 1 := ⟨d - 1, by omega⟩
  obtain ⟨v1, H1, n1, e1, p, own, l', rfl, ok', eq, lk, hown, fr⟩ := LockNew_run (d := d) (by omega) ok is H (n + 1)
  obtain ⟨v2, H2, n2, e2, f, own2, rfl, fd, hown2, fr2⟩ := New_run (d := d) (by omega) ok is H1 n1
  have kr : ∀ (H : PT HB) (n : Nat), Fe (K DG (d + 1) 43 [] H n 0) (fun v H' n' => v = .ptr n 0 0 ∧ n' = n + 1) := fun H n => by
    rw [D.k43]
    refine fn_dw rfl ?_
    simp [evParts, lay, imms, B6, undT, fnEnd, argsT, PT.get_put, keep, opRun, ev, evs, evO, give, giveI, binOf, isNilK, PM.flip, putT, putL, putH, loadOf, storeOf, cut, over, ofCells, asNat, natOr, calm, clashes, Acc.clash, ressOf, resOf, frz, frz.frzs, DV.flat, DV.flat.flats, imms]
  have kl : ∀ (H : PT HB) (n : Nat), Fe (K DG (d + 1) 44 [] H n 0) (fun v H' n' => v = .ptr n 0 0 ∧ n' = n + 1) := fun H n => by
    rw [D.k44]
    refine fn_dw rfl ?_
    simp [evParts, lay, imms, B6, undT, fnEnd, argsT, PT.get_put, keep, opRun, ev, evs, evO, give, giveI, binOf, isNilK, PM.flip, putT, putL, putH, loadOf, storeOf, cut, over, ofCells, asNat, natOr, calm, clashes, Acc.clash, ressOf, resOf, frz, frz.frzs, DV.flat, DV.flat.flats, imms]
  obtain ⟨v3, H3, n3, e3, rfl, rfl⟩ := kr H2 n2
  obtain ⟨v4, H4, n4, e4, rfl, rfl⟩ := kl H3 (n2 + 1)
  suffices key : Fe (K DG (d + 1 + 1) 10 [l.dv] H n 0) (fun v H' n' => ∃ q, v = .tup [.ptr q 0 0, .imm (.int .i64 0)]) by
    obtain ⟨v, H', n', e, q, rfl⟩ := key
    exact ⟨q, H', n', e⟩
  rw [D.k10]
  refine fn_dw rfl ?_
  simp [ok.s.scal, ok.p.scal, ok.g.scal, ok.r.scal, e1, e2, e3, e4, evParts, lay, imms, B6, undT, fnEnd, argsT, PT.get_put, keep, opRun, ev, evs, evO, give, giveI, binOf, isNilK, PM.flip, putT, putL, putH, loadOf, storeOf, cut, over, ofCells, asNat, natOr, calm, clashes, Acc.clash, ressOf, resOf, frz, frz.frzs, DV.flat, DV.flat.flats, imms]
  refine dw_loop (N := 2) (by decide) (fun i st => Box st 1 l.ivs ∧ st.T.get 8 = some (.ptr (n2 + 1 + 1) 0 0) ∧ st.T.get 29 = some (.imm (.int .i64 i)) ∧ n2 + 1 + 1 < st.n ∧ ∃ c0 c1, st.H.get (n2 + 1 + 1) = some ⟨7, [[c0, c1, .ptr n2 0 0, .ptr (n2 + 1) 0 0, .ptr f 0 0, .ptr p 0 0, .imm (.int .i64 0)]]⟩) (fun e st' => e = .exit 0 ∧ st'.T.get 8 = some (.ptr (n2 + 1 + 1) 0 0)) (fun i st hle hI => ?_) ⟨⟨n, by simp [PT.get_put], by simp [PT.get_put, imms]⟩, by simp [PT.get_put], by simp [PT.get_put], by simp, _, _, by simp [PT.get_put]; exact ⟨rfl, rfl⟩⟩ ?_
  · obtain ⟨⟨i1, g1, L1⟩, g8, g29, hn, c0, c1, hq⟩ := hI
    obtain ⟨u, H5, n5, e5, hn5, hu, fr5⟩ := UnitNew_run (d := d) (by omega) ok is st.H st.n
    have hq5 := fr5 (n2 + 1 + 1) hn
    rw [hq] at hq5
    have w1 : IntKind.i64.wrap (0 + 1) = 1 := by decide
    have w1' : IntKind.i64.wrap 1 = 1 := by decide
    have w2 : IntKind.i64.wrap (1 + 1) = 2 := by decide
    have w2' : IntKind.i64.wrap 2 = 2 := by decide
    have j02 : ILt 0 2 = True := ilt_t (by omega)
    have j12 : ILt 1 2 = True := ilt_t (by omega)
    generalize hQ : (fun (e : Ex) (s' : St) => _) = Q'
    simp only [D.l10_0b]
    rcases (by omega : i = 0 ∨ i = 1 ∨ i = 2) with rfl | rfl | rfl
    · simp [g1, L1, g8, g29, e5, hq5, j02, w1, w1', imms, B6, undT, fnEnd, argsT, PT.get_put, keep, opRun, ev, evs, evO, give, giveI, binOf, isNilK, PM.flip, putT, putL, putH, loadOf, storeOf, cut, over, ofCells, asNat, natOr, calm, clashes, Acc.clash, ressOf, resOf, frz, frz.frzs, DV.flat, DV.flat.flats, imms]
      subst hQ
      exact .inl ⟨rfl, by omega, ⟨i1, by simp [PT.get_put], by simp [PT.get_put, imms]⟩, by simp [PT.get_put], by simp [PT.get_put], by simp; omega, _, _, by simp [PT.get_put]; exact ⟨rfl, rfl⟩⟩
    · simp [g1, L1, g8, g29, e5, hq5, j12, w2, w2', imms, B6, undT, fnEnd, argsT, PT.get_put, keep, opRun, ev, evs, evO, give, giveI, binOf, isNilK, PM.flip, putT, putL, putH, loadOf, storeOf, cut, over, ofCells, asNat, natOr, calm, clashes, Acc.clash, ressOf, resOf, frz, frz.frzs, DV.flat, DV.flat.flats, imms]
      subst hQ
      exact .inl ⟨rfl, by omega, ⟨i1, by simp [PT.get_put], by simp [PT.get_put, imms]⟩, by simp [PT.get_put], by simp [PT.get_put], by simp; omega, _, _, by simp [PT.get_put]; exact ⟨rfl, rfl⟩⟩
    · simp [g1, L1, g8, g29, imms, B6, undT, fnEnd, argsT, PT.get_put, keep, opRun, ev, evs, evO, give, giveI, binOf, isNilK, PM.flip, putT, putL, putH, loadOf, storeOf, cut, over, ofCells, asNat, natOr, calm, clashes, Acc.clash, ressOf, resOf, frz, frz.frzs, DV.flat, DV.flat.flats, imms]
      subst hQ
      exact .inr ⟨nofun, rfl, by simp [PT.get_put, g8]⟩
  · rintro e s2 ⟨rfl, g8⟩
    simp [g8, B6, undT, fnEnd, argsT, PT.get_put, keep, opRun, ev, evs, evO, give, giveI, binOf, isNilK, PM.flip, putT, putL, putH, loadOf, storeOf, cut, over, ofCells, asNat, natOr, calm, clashes, Acc.clash, ressOf, resOf, frz, frz.frzs, DV.flat, DV.flat.flats, imms]
theorem PairNew_no {d : Nat} (hd : 8 ≤ d) {l : Lo} (ok : LoOk l) (is : ¬ ISL l) (H : PT HB) (n : Nat) :
    ∃ H' n', K DG (d + 1) 10 [l.dv] H n 0 = some (.tup [.imm .nilp, .imm (.int .i64 9)], H', n') := by
  obtain ⟨d, rfl⟩ : ∃ d', d = d' + 1 := ⟨d - 1, by omega⟩
  obtain ⟨n1, e1, hn1⟩ := LockNew_no (d := d) (by omega) ok is H (n + 1)
  suffices key : Fe (K DG (d + 1 + 1) 10 [l.dv] H n 0) (fun v H' n' => v = .tup [.imm .nilp, .imm (.int .i64 9)]) by
    obtain ⟨v, H', n', e, rfl⟩ := key
    exact ⟨H', n', e⟩
  rw [D.k10]
  refine fn_dw rfl ?_
  simp [ok.s.scal, ok.p.scal, ok.g.scal, ok.r.scal, e1, B6, undT, fnEnd, argsT, PT.get_put, keep, opRun, ev, evs, evO, give, giveI, binOf, isNilK, PM.flip, putT, putL, putH, loadOf, storeOf, cut, over, ofCells, asNat, natOr, calm, clashes, Acc.clash, ressOf, resOf, frz, frz.frzs, DV.flat, DV.flat.flats, imms]
/-! ### A nil Pair -/
theorem nilCycle (v : IV) (hv : (DV.imm v).scal = true) (H : PT HB) (n : Nat) : ∃ n', K DG 29 11 [.imm .nilp, .imm v] H n 0 = some (.agg [.imm .nils, .imm .nils], H, n') := by
  suffices key : Fe (K DG 29 11 [.imm .nilp, .imm v] H n 0) (fun w H' n' => w = .agg [.imm .nils, .imm .nils] ∧ H' = H) by
    obtain ⟨w, H', n', e, rfl, rfl⟩ := key
    exact ⟨n', e⟩
  rw [D.k11]
  refine fn_dw rfl ?_
  simp [hv, evParts, lay, imms, B6, undT, fnEnd, argsT, PT.get_put, keep, opRun, ev, evs, evO, give, giveI, binOf, isNilK, PM.flip, putT, putL, putH, loadOf, storeOf, cut, over, ofCells, asNat, natOr, calm, clashes, Acc.clash, ressOf, resOf, frz, frz.frzs, DV.flat, DV.flat.flats, imms]
theorem nilIn (H : PT HB) (n lo : Nat) : ∃ n', K DG 29 21 [.imm .nilp] H n lo = some (.agg [.imm .nils, .imm .nils], H, n') := by
  suffices key : Fe (K DG 29 21 [.imm .nilp] H n lo) (fun w H' n' => w = .agg [.imm .nils, .imm .nils] ∧ H' = H) by
    obtain ⟨w, H', n', e, rfl, rfl⟩ := key
    exact ⟨n', e⟩
  rw [D.k21]
  refine fn_dw rfl ?_
  simp [evParts, lay, imms, B6, undT, fnEnd, argsT, PT.get_put, keep, opRun, ev, evs, evO, give, giveI, binOf, isNilK, PM.flip, putT, putL, putH, loadOf, storeOf, cut, over, ofCells, asNat, natOr, calm, clashes, Acc.clash, ressOf, resOf, frz, frz.frzs, DV.flat, DV.flat.flats, imms]
theorem nilAt (z : Int) (H : PT HB) (n lo : Nat) : ∃ n', K DG 28 57 [.imm .nilp, .imm (.int .i64 z)] H n lo = some (.imm .nilp, H, n') := by
  suffices key : Fe (K DG 28 57 [.imm .nilp, .imm (.int .i64 z)] H n lo) (fun w H' n' => w = .imm .nilp ∧ H' = H) by
    obtain ⟨w, H', n', e, rfl, rfl⟩ := key
    exact ⟨n', e⟩
  rw [D.k57]
  refine fn_dw rfl ?_
  simp [B6, undT, fnEnd, argsT, PT.get_put, keep, opRun, ev, evs, evO, give, giveI, binOf, isNilK, PM.flip, putT, putL, putH, loadOf, storeOf, cut, over, ofCells, asNat, natOr, calm, clashes, Acc.clash, ressOf, resOf, frz, frz.frzs, DV.flat, DV.flat.flats, imms]
theorem nilUMode (H : PT HB) (n lo : Nat) : ∃ n', K DG 28 59 [.imm .nilp] H n lo = some (.imm (.int .i64 0), H, n') := by
  suffices key : Fe (K DG 28 59 [.imm .nilp] H n lo) (fun w H' n' => w = .imm (.int .i64 0) ∧ H' = H) by
    obtain ⟨w, H', n', e, rfl, rfl⟩ := key
    exact ⟨n', e⟩
  rw [D.k59]
  refine fn_dw rfl ?_
  simp [B6, undT, fnEnd, argsT, PT.get_put, keep, opRun, ev, evs, evO, give, giveI, binOf, isNilK, PM.flip, putT, putL, putH, loadOf, storeOf, cut, over, ofCells, asNat, natOr, calm, clashes, Acc.clash, ressOf, resOf, frz, frz.frzs, DV.flat, DV.flat.flats, imms]
theorem nilURoutes (H : PT HB) (n lo : Nat) : ∃ n', K DG 28 58 [.imm .nilp] H n lo = some (.imm .nils, H, n') := by
  suffices key : Fe (K DG 28 58 [.imm .nilp] H n lo) (fun w H' n' => w = .imm .nils ∧ H' = H) by
    obtain ⟨w, H', n', e, rfl, rfl⟩ := key
    exact ⟨n', e⟩
  rw [D.k58]
  refine fn_dw rfl ?_
  simp [B6, undT, fnEnd, argsT, PT.get_put, keep, opRun, ev, evs, evO, give, giveI, binOf, isNilK, PM.flip, putT, putL, putH, loadOf, storeOf, cut, over, ofCells, asNat, natOr, calm, clashes, Acc.clash, ressOf, resOf, frz, frz.frzs, DV.flat, DV.flat.flats, imms]
theorem nilMode (H : PT HB) (n lo : Nat) : ∃ n', K DG 29 15 [.imm .nilp, .imm (.int .i64 0)] H n lo = some (.imm (.int .i64 0), H, n') := by
  obtain ⟨f, hf⟩ := Classical.axiomOfChoice fun x : PT HB × Nat × Nat => nilAt 0 x.1 x.2.1 x.2.2
  obtain ⟨g, hg⟩ := Classical.axiomOfChoice fun x : PT HB × Nat × Nat => nilUMode x.1 x.2.1 x.2.2
  have ef := fun (H : PT HB) (n lo : Nat) => hf (H, n, lo)
  have eg := fun (H : PT HB) (n lo : Nat) => hg (H, n, lo)
  suffices key : Fe (K DG 29 15 [.imm .nilp, .imm (.int .i64 0)] H n lo) (fun w H' n' => w = .imm (.int .i64 0) ∧ H' = H) by
    obtain ⟨w, H', n', e, rfl, rfl⟩ := key
    exact ⟨n', e⟩
  rw [D.k15]
  refine fn_dw rfl ?_
  simp [ef, eg, B6, undT, fnEnd, argsT, PT.get_put, keep, opRun, ev, evs, evO, give, giveI, binOf, isNilK, PM.flip, putT, putL, putH, loadOf, storeOf, cut, over, ofCells, asNat, natOr, calm, clashes, Acc.clash, ressOf, resOf, frz, frz.frzs, DV.flat, DV.flat.flats, imms]
theorem nilRoutes (H : PT HB) (n lo : Nat) : ∃ n', K DG 29 14 [.imm .nilp, .imm (.int .i64 0)] H n lo = some (.imm .nils, H, n') := by
  obtain ⟨f, hf⟩ := Classical.axiomOfChoice fun x : PT HB × Nat × Nat => nilAt 0 x.1 x.2.1 x.2.2
  obtain ⟨g, hg⟩ := Classical.axiomOfChoice fun x : PT HB × Nat × Nat => nilURoutes x.1 x.2.1 x.2.2
  have ef := fun (H : PT HB) (n lo : Nat) => hf (H, n, lo)
  have eg := fun (H : PT HB) (n lo : Nat) => hg (H, n, lo)
  suffices key : Fe (K DG 29 14 [.imm .nilp, .imm (.int .i64 0)] H n lo) (fun w H' n' => w = .imm .nils ∧ H' = H) by
    obtain ⟨w, H', n', e, rfl, rfl⟩ := key
    exact ⟨n', e⟩
  rw [D.k14]
  refine fn_dw rfl ?_
  simp [ef, eg, B6, undT, fnEnd, argsT, PT.get_put, keep, opRun, ev, evs, evO, give, giveI, binOf, isNilK, PM.flip, putT, putL, putH, loadOf, storeOf, cut, over, ofCells, asNat, natOr, calm, clashes, Acc.clash, ressOf, resOf, frz, frz.frzs, DV.flat, DV.flat.flats, imms]
theorem nilNow (H : PT HB) (n lo : Nat) : ∃ n', K DG 29 22 [.imm .nilp] H n lo = some (.imm (.int .i64 0), H, n') := by
  suffices key : Fe (K DG 29 22 [.imm .nilp] H n lo) (fun w H' n' => w = .imm (.int .i64 0) ∧ H' = H) by
    obtain ⟨w, H', n', e, rfl, rfl⟩ := key
    exact ⟨n', e⟩
  rw [D.k22]
  refine fn_dw rfl ?_
  simp [B6, undT, fnEnd, argsT, PT.get_put, keep, opRun, ev, evs, evO, give, giveI, binOf, isNilK, PM.flip, putT, putL, putH, loadOf, storeOf, cut, over, ofCells, asNat, natOr, calm, clashes, Acc.clash, ressOf, resOf, frz, frz.frzs, DV.flat, DV.flat.flats, imms]
theorem nilCon (H : PT HB) (n lo : Nat) : ∃ n', K DG 29 23 [.imm .nilp] H n lo = some (.imm (.int .i64 (-1)), H, n') := by
  suffices key : Fe (K DG 29 23 [.imm .nilp] H n lo) (fun w H' n' => w = .imm (.int .i64 (-1)) ∧ H' = H) by
    obtain ⟨w, H', n', e, rfl, rfl⟩ := key
    exact ⟨n', e⟩
  rw [D.k23]
  refine fn_dw rfl ?_
  simp [B6, undT, fnEnd, argsT, PT.get_put, keep, opRun, ev, evs, evO, give, giveI, binOf, isNilK, PM.flip, putT, putL, putH, loadOf, storeOf, cut, over, ofCells, asNat, natOr, calm, clashes, Acc.clash, ressOf, resOf, frz, frz.frzs, DV.flat, DV.flat.flats, imms]
theorem len_of {iv : IV} {ks : List Kd} (h : FitK (.sl ks) iv) : ∃ k : Nat, lenOf (.imm iv) = some k ∧ (DV.imm iv).scal = true := by
  cases h with
  | nil => exact ⟨0, rfl, rfl⟩
  | sl => exact ⟨_, rfl, rfl⟩
theorem run_PairOfNothing {l : Lo} (ok : LoOk l) {v : IV} {k : Nat} (hk : lenOf (.imm v) = some k) (hv : (DV.imm v).scal = true) : Fe (K DG 30 5 [l.dv, .imm v] .lf 0 0) (fun v _ _ => v = .imm (.bool true)) := by
  have hrb := rb3
  obtain ⟨m, hm, hs⟩ := size_bl (D := 29) (by omega) ok
  have hkn := known_bl
  obtain ⟨f1, h1⟩ := Classical.axiomOfChoice fun x : PT HB × Nat => nilCycle v hv x.1 x.2
  obtain ⟨f2, h2⟩ := Classical.axiomOfChoice fun x : PT HB × Nat × Nat => nilIn x.1 x.2.1 x.2.2
  obtain ⟨f3, h3⟩ := Classical.axiomOfChoice fun x : PT HB × Nat × Nat => nilMode x.1 x.2.1 x.2.2
  obtain ⟨f4, h4⟩ := Classical.axiomOfChoice fun x : PT HB × Nat × Nat => nilRoutes x.1 x.2.1 x.2.2
  obtain ⟨f5, h5⟩ := Classical.axiomOfChoice fun x : PT HB × Nat × Nat => nilNow x.1 x.2.1 x.2.2
  obtain ⟨f6, h6⟩ := Classical.axiomOfChoice fun x : PT HB × Nat × Nat => nilCon x.1 x.2.1 x.2.2
  have e1 := fun (H : PT HB) (n : Nat) => h1 (H, n)
  have e2 := fun (H : PT HB) (n lo : Nat) => h2 (H, n, lo)
  have e3 := fun (H : PT HB) (n lo : Nat) => h3 (H, n, lo)
  have e4 := fun (H : PT HB) (n lo : Nat) => h4 (H, n, lo)
  have e5 := fun (H : PT HB) (n lo : Nat) => h5 (H, n, lo)
  have e6 := fun (H : PT HB) (n lo : Nat) => h6 (H, n, lo)
  have w0 : IntKind.i64.wrap 0 = 0 := by decide
  have w00 : IntKind.i64.wrap (0 + 0) = 0 := by decide
  rw [D.k5]
  refine fn_dw rfl ?_
  by_cases hm3 : m < 3000
  · have hj3 : ILt (m : Int) 3000 = True := ilt_t (by omega)
    have ei := Is4_bl (D := 29) (by omega) ok (hs hm3).sm
    by_cases hx : 100 < k
    · have j4 : ILt 100 (k : Int) = True := ilt_t (by omega)
      simp [ok.s.scal, ok.p.scal, ok.g.scal, ok.r.scal, hv, hk, hm, hj3, j4, B6, undT, fnEnd, argsT, PT.get_put, keep, opRun, ev, evs, evO, give, giveI, binOf, isNilK, PM.flip, putT, putL, putH, loadOf, storeOf, cut, over, ofCells, asNat, natOr, calm, clashes, Acc.clash, ressOf, resOf, frz, frz.frzs, DV.flat, DV.flat.flats, imms]
    · have j4 : ILt 100 (k : Int) = False := ilt_f (by omega)
      by_cases is : ISL l
      · rw [dec_t is] at ei
        obtain ⟨g, hg⟩ := Classical.axiomOfChoice fun x : PT HB × Nat => PairNew_run (d := 28) (by omega) ok is x.1 x.2
        obtain ⟨g2, hg2⟩ := Classical.axiomOfChoice hg
        obtain ⟨g3, hg3⟩ := Classical.axiomOfChoice hg2
        have en := fun (H : PT HB) (n : Nat) => hg3 (H, n)
        simp [ok.s.scal, ok.p.scal, ok.g.scal, ok.r.scal, hv, hk, hm, hj3, j4, e1, e2, e3, e4, e5, e6, en, ei, hkn, w0, w00, evParts, lay, imms, B6, undT, fnEnd, argsT, PT.get_put, keep, opRun, ev, evs, evO, give, giveI, binOf, isNilK, PM.flip, putT, putL, putH, loadOf, storeOf, cut, over, ofCells, asNat, natOr, calm, clashes, Acc.clash, ressOf, resOf, frz, frz.frzs, DV.flat, DV.flat.flats, imms]
      · rw [dec_f is] at ei
        obtain ⟨g, hg⟩ := Classical.axiomOfChoice fun x : PT HB × Nat => PairNew_no (d := 28) (by omega) ok is x.1 x.2
        obtain ⟨g2, hg2⟩ := Classical.axiomOfChoice hg
        have en := fun (H : PT HB) (n : Nat) => hg2 (H, n)
        simp [ok.s.scal, ok.p.scal, ok.g.scal, ok.r.scal, hv, hk, hm, hj3, j4, e1, e2, e3, e4, e5, e6, en, ei, hkn, w0, w00, evParts, lay, imms, B6, undT, fnEnd, argsT, PT.get_put, keep, opRun, ev, evs, evO, give, giveI, binOf, isNilK, PM.flip, putT, putL, putH, loadOf, storeOf, cut, over, ofCells, asNat, natOr, calm, clashes, Acc.clash, ressOf, resOf, frz, frz.frzs, DV.flat, DV.flat.flats, imms]
  · have hj3 : ILt (m : Int) 3000 = False := ilt_f (by omega)
    simp [ok.s.scal, ok.p.scal, ok.g.scal, ok.r.scal, hv, hk, hm, hj3, B6, undT, fnEnd, argsT, PT.get_put, keep, opRun, ev, evs, evO, give, giveI, binOf, isNilK, PM.flip, putT, putL, putH, loadOf, storeOf, cut, over, ofCells, asNat, natOr, calm, clashes, Acc.clash, ressOf, resOf, frz, frz.frzs, DV.flat, DV.flat.flats, imms]
theorem pure_PairOfNothing : ∀ cs, ArgsFit ss_PairOfNothing cs → ∃ H' n', K (doorG 0 1) 30 5 cs .lf 0 0 = some (.imm (.bool true), H', n') := fun cs h => by
  obtain ⟨d, ds, rfl, h1, h2⟩ := fit_cons h
  obtain ⟨l, rfl, ok⟩ := lay_of h1
  obtain ⟨d1, r1, rfl, g1, h3⟩ := fit_cons h2
  obtain ⟨k, iv, hk, rfl, hf⟩ := g1
  cases hk
  obtain ⟨k, hk, hv⟩ := len_of hf
  cases fit0 (r := []) h3
  obtain ⟨v, H, n, e, rfl⟩ := run_PairOfNothing ok hk hv
  exact ⟨H, n, e⟩
end Go.Proofs.YtlknjgmhfimhbacGreatDoor.D
