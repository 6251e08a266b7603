/-
  The document's field: Step, New. Over D.
-/
import Derived.Test.YtbhmihigfncfgabDoorFP2
set_option linter.unusedVariables false
set_option linter.unusedSimpArgs false
set_option maxHeartbeats 16000000
namespace Go.Proofs.YtbhmihigfncfgabDoor.D
open Go Go.PM Go.Lib
theorem idx_hs {h : Nat → Option HB} {n s id row len cap : Nat} {k : IntKind} {i : Nat} (hi : i < len) (hh : (h id).map HB.sz = some s) :
    idxE h n s (some (.sl id row len cap)) (some (.imm (.int k (i : Int)))) = some { v := .ptr id (row + i) 0, n' := n, acc := [.rX id] } := by
  cases e : h id with
  | none => rw [e] at hh; cases hh
  | some b =>
    rw [e] at hh
    have := idx_hp (n := n) (row := row) (len := len) (cap := cap) e (Option.some.inj hh) (k := k) (z := (i : Int)) (by omega) (by omega)
    simpa using this
theorem set_same {α : Type} {xs : List α} {i : Nat} {y : α} (h : xs[i]? = some y) : xs.set i y = xs := by
  refine List.ext_getElem? fun k => ?_
  rw [List.getElem?_set]
  split
  · rename_i e; subst e
    have hi : i < xs.length := (List.getElem?_eq_some_iff.1 h).1
    rw [if_pos hi, h]
  · rfl
theorem set_self {α : Type} {xs : List α} {i : Nat} {y : α} (h : i < xs.length) : (xs.set i y)[i]? = some y := by simp [h]
/-- Steps that are counted are few. -/
def PB (pts : List FPt) : Prop := ∀ p ∈ pts, 0 ≤ p.s ∧ p.s ≤ 2
theorem wr12 {s : Int} (h : 0 ≤ s ∧ s ≤ 2) : IntKind.i64.wrap (s + 1) = s + 1 := wr_id (by omega) (by omega)
theorem drv_s {p : FPt} (h : 0 ≤ p.s ∧ p.s ≤ 2) (d : Int) : 0 ≤ (drivenP p d).s ∧ (drivenP p d).s ≤ 2 := by
  have w1 : IntKind.i64.wrap (0 + 1) = 1 := by decide
  unfold drivenP
  by_cases c : d = 0 ∨ d = p.l
  · rw [if_pos c]; exact ⟨by simp, by simp⟩
  · rw [if_neg c]
    by_cases e : d = p.t
    · rw [if_pos e, wr12 h]
      split
      · exact ⟨by simp, by simp⟩
      · exact ⟨by simp; omega, by simp; omega⟩
    · rw [if_neg e, w1]
      exact ⟨by simp, by simp⟩
theorem PB.stp {pts : List FPt} (h : PB pts) (ds : List Int) (i : Nat) : PB (stp pts ds i) := fun p hp => by
  obtain ⟨j, hj⟩ := List.getElem?_of_mem hp
  simp only [D.stp, List.getElem?_mapIdx, Option.map_eq_some_iff] at hj
  obtain ⟨q, hq, rfl⟩ := hj
  have hm := h q (List.mem_of_getElem? hq)
  split
  · split
    · exact drv_s hm _
    · exact hm
  · exact hm
structure IWs (H0 : PT HB) (n0 g x y z : Nat) (vo : DV) (dv : IV) (pts : List FPt) (ds : List Int) (i : Nat) (st : St) : Prop where
  h0 : st.T.get 0 = some (.ptr g 0 0)
  h1 : st.T.get 1 = some (.imm dv)
  h4 : st.T.get 4 = some (.imm (.int .i64 i))
  hg : st.H.get g = some ⟨4, [[vo, .sl x 0 pts.length pts.length, .sl y 0 pts.length pts.length, .sl z 0 pts.length pts.length]]⟩
  hx : st.H.get x = some ⟨1, (stp pts ds i).map rL⟩
  hy : st.H.get y = some ⟨1, (stp pts ds i).map rT⟩
  hz : st.H.get z = some ⟨1, (stp pts ds i).map rS⟩
  fr : ∀ j, ¬ j = x → ¬ j = y → ¬ j = z → st.H.get j = H0.get j
  hn : n0 ≤ st.n
theorem loopWs {d : Nat} {H0 : PT HB} {n0 g x y z : Nat} {vo : DV} {dv : IV} {pts : List FPt} (hb : PB pts) {ds : List Int} (hd : Sl 1 dv (ds.map ivI)) (hl : ds.length = pts.length) (hp : pts.length ≤ 1000) (n1 : ¬ g = x) (n2 : ¬ g = y) (n3 : ¬ g = z) (n4 : ¬ x = y) (n5 : ¬ x = z) (n6 : ¬ y = z) {ks : List Kf} {st : St} {Q : Ex → St → Prop}
    (h : IWs H0 n0 g x y z vo dv pts ds 0 st) (hk : ∀ st', IWs H0 n0 g x y z vo dv pts ds pts.length st' → Bk DG (K DG d) 0 (.exit 0) ks st' Q) : Wp DG (K DG d) 0 D.l34_0 ks st Q := by
  have hrb := rb3
  refine dw_loop (N := pts.length) (small (by omega)) (IWs H0 n0 g x y z vo dv pts ds) (fun e st' => e = .exit 0 ∧ IWs H0 n0 g x y z vo dv pts ds pts.length st') (fun i st hle hI => ?_) h (fun e s' h => by rw [h.1]; exact hk s' h.2)
  obtain ⟨g0, g1, g4, hg, hx, hy, hz, fr, hn⟩ := hI
  have n4' : ¬ y = x := fun e => n4 e.symm
  have n5' : ¬ z = x := fun e => n5 e.symm
  have n6' : ¬ z = y := fun e => n6 e.symm
  by_cases hi : i < pts.length
  · have hi1 : (i : Int) < pts.length := by omega
    have hi' := ilt_t hi1
    have hw8 : IntKind.i64.wrap ((i : Int) + 1) = (i : Int) + 1 := wr_succ hi (by omega)
    have ix := fun {h : Nat → Option HB} {n : Nat} => idx_sl (h := h) (n := n) hd (by omega) (k := .i64) (z := (i : Int)) (by omega) (by omega)
    simp only [Int.toNat_natCast] at ix
    have hds : ds[i]? = some (nth ds i) := nth_get (by omega)
    have hpi : pts[i]? = some (nthP pts i) := by simp [nthP, hi]
    have hps := hb _ (List.mem_of_getElem? hpi)
    have hq : (stp pts ds i)[i]? = some (nthP pts i) := by rw [stp_at]; exact hpi
    have hs := stp_set pts ds i _ _ hpi hds
    have ql : i < (stp pts ds i).length := by rw [stp_len]; exact hi
    have ex : (stp pts ds (i + 1)).map rL = ((stp pts ds i).map rL).set i (rL (drivenP (nthP pts i) (nth ds i))) := by rw [← hs, List.map_set]
    have ey : (stp pts ds (i + 1)).map rT = ((stp pts ds i).map rT).set i (rT (drivenP (nthP pts i) (nth ds i))) := by rw [← hs, List.map_set]
    have ez : (stp pts ds (i + 1)).map rS = ((stp pts ds i).map rS).set i (rS (drivenP (nthP pts i) (nth ds i))) := by rw [← hs, List.map_set]
    have rx : ((stp pts ds i).map rL)[i]? = some (rL (nthP pts i)) := by rw [List.getElem?_map, hq]; rfl
    have ry : ((stp pts ds i).map rT)[i]? = some (rT (nthP pts i)) := by rw [List.getElem?_map, hq]; rfl
    have rz : ((stp pts ds i).map rS)[i]? = some (rS (nthP pts i)) := by rw [List.getElem?_map, hq]; rfl
    have lx : i < ((stp pts ds i).map rL).length := by rw [List.length_map]; exact ql
    have ly : i < ((stp pts ds i).map rT).length := by rw [List.length_map]; exact ql
    have lz : i < ((stp pts ds i).map rS).length := by rw [List.length_map]; exact ql
    have ihx := fun {h : Nat → Option HB} {n : Nat} hh => idx_hs (h := h) (n := n) (id := x) (row := 0) (cap := pts.length) (s := 1) (k := .i64) hi hh
    have ihy := fun {h : Nat → Option HB} {n : Nat} hh => idx_hs (h := h) (n := n) (id := y) (row := 0) (cap := pts.length) (s := 1) (k := .i64) hi hh
    have ihz := fun {h : Nat → Option HB} {n : Nat} hh => idx_hs (h := h) (n := n) (id := z) (row := 0) (cap := pts.length) (s := 1) (k := .i64) hi hh
    simp only [Nat.zero_add] at ihx ihy ihz
    generalize nthP pts i = p at *
    generalize nth ds i = dd at *
    generalize (stp pts ds i).map rL = wx at *
    generalize (stp pts ds i).map rT = wy at *
    generalize (stp pts ds i).map rS = wz at *
    have sx := fun v : List DV => set_self (y := v) lx
    have sy := fun v : List DV => set_self (y := v) ly
    have sz := fun v : List DV => set_self (y := v) lz
    have mx := set_same rx
    have my := set_same ry
    have mz := set_same rz
    have fin : ∀ s2 : St, s2.T.get 0 = some (.ptr g 0 0) → s2.T.get 1 = some (.imm dv) → s2.T.get 4 = some (.imm (.int .i64 ((i + 1 : Nat) : Int))) → n0 ≤ s2.n → s2.H.get x = some ⟨1, wx.set i (rL (drivenP p dd))⟩ → s2.H.get y = some ⟨1, wy.set i (rT (drivenP p dd))⟩ → s2.H.get z = some ⟨1, wz.set i (rS (drivenP p dd))⟩ → (∀ j, ¬ j = x → ¬ j = y → ¬ j = z → s2.H.get j = st.H.get j) → IWs H0 n0 g x y z vo dv pts ds (i + 1) s2 :=
      fun s2 a1 a2 a3 a4 a5 a6 a7 a8 => ⟨a1, a2, a3, by rw [a8 g n1 n2 n3]; exact hg, by rw [ex]; exact a5, by rw [ey]; exact a6, by rw [ez]; exact a7, fun j b1 b2 b3 => by rw [a8 j b1 b2 b3]; exact fr j b1 b2 b3, a4⟩
    clear ex ey ez hs
    simp only [rL, rT, rS, rowI] at rx ry rz fin mx my mz
    obtain ⟨pl, pt, ps⟩ := p
    simp only at rx ry rz mx my mz hps
    have w1 : IntKind.i64.wrap (0 + 1) = 1 := by decide
    have w1' : IntKind.i64.wrap 1 = 1 := by decide
    have wps := wr12 hps
    generalize hQ : (fun (e : Ex) (s' : St) => _) = Q'
    simp only [D.l34_0b]
    by_cases c0 : dd = 0
    · have e : drivenP ⟨pl, pt, ps⟩ dd = ⟨pl, 0, 0⟩ := by unfold drivenP; rw [if_pos (.inl c0)]
      rw [e] at fin
      subst c0
      simp [g0, g1, g4, hg, hx, hy, hz, hi', hw8, ix, ihx, ihy, ihz, rx, ry, rz, n1, n2, n3, n4, n5, n6, n4', n5', n6', ivI, lenOf, B6, undT, fnEnd, argsT, PT.get_put, keep, opRun, ev, evs, evO, give, giveI, binOf, isNilK, PM.flip, putT, putL, putH, loadOf, storeOf, cut, over, ofCells, asNat, natOr, calm, clashes, Acc.clash, ressOf, resOf, frz, frz.frzs, DV.flat, DV.flat.flats, imms]
      subst hQ
      refine .inl ⟨rfl, hi, fin _ (by simp [PT.get_put]) (by simp [PT.get_put]) (by simp [PT.get_put]) (by simp; omega) ?_ ?_ ?_ ?_⟩
      · simp [PT.get_put, n4, n5, hx, mx]
      · simp [PT.get_put, n6]
      · simp [PT.get_put]
      · intro j b1 b2 b3; simp [PT.get_put, b1, b2, b3]
    by_cases c1 : dd = pl
    · have e : drivenP ⟨pl, pt, ps⟩ dd = ⟨pl, 0, 0⟩ := by unfold drivenP; rw [if_pos (.inr c1)]
      rw [e] at fin
      subst c1
      simp [g0, g1, g4, hg, hx, hy, hz, hi', hw8, ix, ihx, ihy, ihz, rx, ry, rz, c0, n1, n2, n3, n4, n5, n6, n4', n5', n6', ivI, lenOf, B6, undT, fnEnd, argsT, PT.get_put, keep, opRun, ev, evs, evO, give, giveI, binOf, isNilK, PM.flip, putT, putL, putH, loadOf, storeOf, cut, over, ofCells, asNat, natOr, calm, clashes, Acc.clash, ressOf, resOf, frz, frz.frzs, DV.flat, DV.flat.flats, imms]
      subst hQ
      refine .inl ⟨rfl, hi, fin _ (by simp [PT.get_put]) (by simp [PT.get_put]) (by simp [PT.get_put]) (by simp; omega) ?_ ?_ ?_ ?_⟩
      · simp [PT.get_put, n4, n5, hx, mx]
      · simp [PT.get_put, n6]
      · simp [PT.get_put]
      · intro j b1 b2 b3; simp [PT.get_put, b1, b2, b3]
    by_cases c2 : dd = pt
    · subst c2
      by_cases c3 : ps = 2
      · have e : drivenP ⟨pl, dd, ps⟩ dd = ⟨dd, 0, 0⟩ := by
          unfold drivenP
          rw [if_neg (by simp [c0, c1])]
          simp only [if_true]
          rw [if_pos (by rw [wps]; omega)]
        rw [e] at fin
        subst c3
        have w3 : IntKind.i64.wrap (2 + 1) = 3 := by decide
        have w3' : IntKind.i64.wrap 3 = 3 := by decide
        simp [g0, g1, g4, hg, hx, hy, hz, hi', hw8, ix, ihx, ihy, ihz, rx, ry, rz, sx, sy, sz, List.set_set, w3, w3', c0, c1, n1, n2, n3, n4, n5, n6, n4', n5', n6', ivI, lenOf, B6, undT, fnEnd, argsT, PT.get_put, keep, opRun, ev, evs, evO, give, giveI, binOf, isNilK, PM.flip, putT, putL, putH, loadOf, storeOf, cut, over, ofCells, asNat, natOr, calm, clashes, Acc.clash, ressOf, resOf, frz, frz.frzs, DV.flat, DV.flat.flats, imms]
        subst hQ
        refine .inl ⟨rfl, hi, fin _ (by simp [PT.get_put]) (by simp [PT.get_put]) (by simp [PT.get_put]) (by simp; omega) ?_ ?_ ?_ ?_⟩
        · simp [PT.get_put, n4, n5]
        · simp [PT.get_put, n6]
        · simp [PT.get_put]
        · intro j b1 b2 b3; simp [PT.get_put, b1, b2, b3]
      · have e : drivenP ⟨pl, dd, ps⟩ dd = ⟨0, dd, ps + 1⟩ := by
          unfold drivenP
          rw [if_neg (by simp [c0, c1])]
          simp only [if_true]
          rw [if_neg (by rw [wps]; omega), wps]
        rw [e] at fin
        have c4 : ¬ ps + 1 = 3 := by omega
        simp [g0, g1, g4, hg, hx, hy, hz, hi', hw8, ix, ihx, ihy, ihz, rx, ry, rz, sx, sy, sz, List.set_set, wps, c0, c1, c4, n1, n2, n3, n4, n5, n6, n4', n5', n6', ivI, lenOf, B6, undT, fnEnd, argsT, PT.get_put, keep, opRun, ev, evs, evO, give, giveI, binOf, isNilK, PM.flip, putT, putL, putH, loadOf, storeOf, cut, over, ofCells, asNat, natOr, calm, clashes, Acc.clash, ressOf, resOf, frz, frz.frzs, DV.flat, DV.flat.flats, imms]
        subst hQ
        refine .inl ⟨rfl, hi, fin _ (by simp [PT.get_put]) (by simp [PT.get_put]) (by simp [PT.get_put]) (by simp; omega) ?_ ?_ ?_ ?_⟩
        · simp [PT.get_put]
        · simp [PT.get_put, n4', n6, hy, my]
        · simp [PT.get_put, n5']
        · intro j b1 b2 b3; simp [PT.get_put, b1, b2, b3]
    · have e : drivenP ⟨pl, pt, ps⟩ dd = ⟨0, dd, 1⟩ := by
        unfold drivenP
        rw [if_neg (by simp [c0, c1])]
        simp only [c2, if_false]
        rw [if_neg (by rw [w1]; omega), w1]
      rw [e] at fin
      have c2' : ¬ pt = dd := fun e => c2 e.symm
      simp [g0, g1, g4, hg, hx, hy, hz, hi', hw8, ix, ihx, ihy, ihz, rx, ry, rz, sx, sy, sz, List.set_set, w1, w1', c0, c1, c2', n1, n2, n3, n4, n5, n6, n4', n5', n6', ivI, lenOf, B6, undT, fnEnd, argsT, PT.get_put, keep, opRun, ev, evs, evO, give, giveI, binOf, isNilK, PM.flip, putT, putL, putH, loadOf, storeOf, cut, over, ofCells, asNat, natOr, calm, clashes, Acc.clash, ressOf, resOf, frz, frz.frzs, DV.flat, DV.flat.flats, imms]
      subst hQ
      refine .inl ⟨rfl, hi, fin _ (by simp [PT.get_put]) (by simp [PT.get_put]) (by simp [PT.get_put]) (by simp; omega) ?_ ?_ ?_ ?_⟩
      · simp [PT.get_put]
      · simp [PT.get_put, n4', n6]
      · simp [PT.get_put, n5']
      · intro j b1 b2 b3; simp [PT.get_put, b1, b2, b3]
  · obtain rfl : i = pts.length := by omega
    generalize hQ : (fun (e : Ex) (s' : St) => _) = Q'
    simp only [D.l34_0b]
    simp [g0, g1, g4, hg, hx, hy, hz, lenOf, B6, undT, fnEnd, argsT, PT.get_put, keep, opRun, ev, evs, evO, give, giveI, binOf, isNilK, PM.flip, putT, putL, putH, loadOf, storeOf, cut, over, ofCells, asNat, natOr, calm, clashes, Acc.clash, ressOf, resOf, frz, frz.frzs, DV.flat, DV.flat.flats, imms]
    subst hQ
    exact .inr ⟨nofun, rfl, by simp [PT.get_put, g0], by simp [PT.get_put, g1], by simp [PT.get_put, g4], hg, hx, hy, hz, fr, hn⟩
theorem Step6_run {d : Nat} {H : PT HB} {g : Nat} {o a b c : List Nat} {occ : List Bool} {pts : List FPt} (hx : X6 H g o a b c occ pts) (hb : PB pts) {dv : IV} {ds : List Int} (hd : Sl 1 dv (ds.map ivI)) (hl : ds.length = pts.length) (hp : pts.length ≤ 1000) (n : Nat) :
    ∃ v H' n', K DG (d + 1) 34 [.ptr g 0 0, .imm dv] H n 0 = some (v, H', n') ∧ X6 H' g o a b c occ (stp pts ds pts.length) ∧ n ≤ n' ∧ ∀ j, j ∉ a ++ (b ++ c) → H'.get j = H.get j := by
  suffices key : Fe (K DG (d + 1) 34 [.ptr g 0 0, .imm dv] H n 0) (fun v H' n' => X6 H' g o a b c occ (stp pts ds pts.length) ∧ n ≤ n' ∧ ∀ j, j ∉ a ++ (b ++ c) → H'.get j = H.get j) by
    obtain ⟨v, H', n', e, h⟩ := key
    exact ⟨v, H', n', e, h⟩
  have hrb := rb3
  rw [D.k34]
  refine fn_dw rfl ?_
  by_cases h0 : pts = []
  · subst h0
    have hx0 := hx
    obtain ⟨⟨vo, vl, vt, vd, h1, h2, h3, h4, h5⟩, nd⟩ := hx
    have vll := h3.len
    simp only [List.map_nil, List.length_nil] at vll
    simp [B6, undT, fnEnd, argsT, PT.get_put, keep, opRun, ev, evs, evO, give, giveI, binOf, isNilK, PM.flip, putT, putL, putH, loadOf, storeOf, cut, over, ofCells, asNat, natOr, calm, clashes, Acc.clash, ressOf, resOf, frz, frz.frzs, DV.flat, DV.flat.flats, imms]
    refine dw_loop (N := 0) (small (by omega)) (fun i st => st.T.get 0 = some (.ptr g 0 0) ∧ st.T.get 4 = some (.imm (.int .i64 (0 : Nat))) ∧ st.H = H ∧ n ≤ st.n) (fun e st' => e = .exit 0 ∧ st'.H = H ∧ n ≤ st'.n) (fun i st hle hI => ?_) ⟨by simp [PT.get_put], by simp [PT.get_put], rfl, by simp⟩ (fun e s' h => ?_)
    · obtain ⟨g0, g4, hH, hn⟩ := hI
      generalize hQ : (fun (e : Ex) (s' : St) => _) = Q'
      simp only [D.l34_0b]
      simp [g0, g4, hH, h1, vll, B6, undT, fnEnd, argsT, PT.get_put, keep, opRun, ev, evs, evO, give, giveI, binOf, isNilK, PM.flip, putT, putL, putH, loadOf, storeOf, cut, over, ofCells, asNat, natOr, calm, clashes, Acc.clash, ressOf, resOf, frz, frz.frzs, DV.flat, DV.flat.flats, imms]
      subst hQ
      exact .inr ⟨nofun, rfl, rfl, hn⟩
    · obtain ⟨rfl, hH, hn⟩ := h
      simp [hH, hn, B6, undT, fnEnd, argsT, PT.get_put, keep, opRun, ev, evs, evO, give, giveI, binOf, isNilK, PM.flip, putT, putL, putH, loadOf, storeOf, cut, over, ofCells, asNat, natOr, calm, clashes, Acc.clash, ressOf, resOf, frz, frz.frzs, DV.flat, DV.flat.flats, imms]
      exact hx0
  · have hnd := hx.nd
    obtain ⟨vo, x, y, z, rfl, rfl, rfl, h1, h2, hx, hy, hz, n1, n2, n3, n4, n5, n6, m1, m2, m3⟩ := hx.rows h0
    simp [B6, undT, fnEnd, argsT, PT.get_put, keep, opRun, ev, evs, evO, give, giveI, binOf, isNilK, PM.flip, putT, putL, putH, loadOf, storeOf, cut, over, ofCells, asNat, natOr, calm, clashes, Acc.clash, ressOf, resOf, frz, frz.frzs, DV.flat, DV.flat.flats, imms]
    refine loopWs (H0 := H) (n0 := n) (vo := vo) hb hd hl hp n1 n2 n3 n4 n5 n6 ⟨by simp [PT.get_put], by simp [PT.get_put], by simp [PT.get_put], h1, by rw [stp_zero]; exact hx, by rw [stp_zero]; exact hy, by rw [stp_zero]; exact hz, fun j _ _ _ => rfl, by simp⟩ ?_
    rintro s2 ⟨g0, g1, g4, gg, gx, gy, gz, fr, gn⟩
    have h0' : stp pts ds pts.length ≠ [] := fun e => by
      have := congrArg List.length e
      rw [stp_len] at this
      exact h0 (List.eq_nil_of_length_eq_zero this)
    simp [B6, undT, fnEnd, argsT, PT.get_put, keep, opRun, ev, evs, evO, give, giveI, binOf, isNilK, PM.flip, putT, putL, putH, loadOf, storeOf, cut, over, ofCells, asNat, natOr, calm, clashes, Acc.clash, ressOf, resOf, frz, frz.frzs, DV.flat, DV.flat.flats, imms]
    refine ⟨X6.mk' h0' (by rw [stp_len]; exact gg) (h2.mono fun i hi => ?_) gx gy gz hnd, gn, fun j b1 b2 b3 => fr j b1 b2 b3⟩
    exact fr i (fun e => m1 (e ▸ hi)) (fun e => m2 (e ▸ hi)) (fun e => m3 (e ▸ hi))
end Go.Proofs.YtbhmihigfncfgabDoor.D
