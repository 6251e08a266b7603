/-
  pointsmanref5's one, Holds and May on states that may be. What the Lock keeps. Acts among the arguments; long. Routes. What holds over the copy holds over the layout. Over D.
-/
import Derived.Test.YtkgjgehffijepaaDoorK14
import Derived.Test.YtkgjgehffijepaaDoorT8c
-- K15
set_option linter.unusedVariables false
set_option linter.unusedSimpArgs false
set_option maxHeartbeats 16000000
namespace Go.Proofs.YtkgjgehffijepaaDoor.D
open Go Go.PM Go.Lib
def ivRS (x : Rst) : List IV := [.int .i64 x.mode, .int .i64 x.timer, .int .i64 x.gone, .bool x.seen]
/-- No two routes that stand are in each other's way. -/
def NC (l : Lo) (rs : List Rst) : Prop := ∀ i j, i < l.rts.length → j < l.rts.length → i ≠ j → (nth rs i).mode ≠ 0 → (nth rs j).mode ≠ 0 → ¬ CF l i j
theorem one_bl {D : Nat} (hD : 1 ≤ D) {l : Lo} {r : Nat} {x : Rst} (h : RsOk l r x) {pv : IV} (hv : Sl 1 pv ((nth l.rts r).path.map ivI)) :
    bl (K DG D) 44 [.agg (rowRS x), .imm pv] = some (.imm (.bool true)) := by
  obtain ⟨d, rfl⟩ : ∃ d, D = d + 1 := ⟨D - 1, by omega⟩
  have pl := hv.len
  simp only [List.length_map] at pl
  obtain ⟨md, t0, t8, t6, tz, g3, gz⟩ := h
  obtain ⟨m, t, g, s⟩ := x
  simp only at *
  have key : Fe (K DG (d + 1) 44 [.agg (rowRS ⟨m, t, g, s⟩), .imm pv] .lf 0 0) (fun v _ _ => v = .imm (.bool true)) := by
    rw [D.k44]
    refine fn_dw rfl ?_
    have hc : m = 0 ∨ m = 1 ∨ m = 2 ∨ m = 3 ∨ m = 4 := by omega
    rcases hc with rfl | rfl | rfl | rfl | rfl
    · obtain ⟨rfl, rfl⟩ := gz (by omega)
      obtain rfl := tz (by omega) (by omega)
      simp [hv.scal, rowRS, evParts, lay, B6, undT, fnEnd, argsT, PT.get_put, keep, opRun, ev, evs, evO, give, giveI, binOf, isNilK, PM.flip, putT, putL, putH, loadOf, storeOf, cut, over, ofCells, asNat, natOr, calm, clashes, Acc.clash, ressOf, resOf, frz, frz.frzs, DV.flat, DV.flat.flats, imms]
    · obtain ⟨rfl, rfl⟩ := gz (by omega)
      have j1 := ilt_f t0
      have j2 := ilt_f (t8 rfl)
      simp [hv.scal, rowRS, j1, j2, evParts, lay, B6, undT, fnEnd, argsT, PT.get_put, keep, opRun, ev, evs, evO, give, giveI, binOf, isNilK, PM.flip, putT, putL, putH, loadOf, storeOf, cut, over, ofCells, asNat, natOr, calm, clashes, Acc.clash, ressOf, resOf, frz, frz.frzs, DV.flat, DV.flat.flats, imms]
    · obtain ⟨rfl, rfl⟩ := gz (by omega)
      obtain rfl := tz (by omega) (by omega)
      simp [hv.scal, rowRS, evParts, lay, B6, undT, fnEnd, argsT, PT.get_put, keep, opRun, ev, evs, evO, give, giveI, binOf, isNilK, PM.flip, putT, putL, putH, loadOf, storeOf, cut, over, ofCells, asNat, natOr, calm, clashes, Acc.clash, ressOf, resOf, frz, frz.frzs, DV.flat, DV.flat.flats, imms]
    · obtain rfl := tz (by omega) (by omega)
      have j1 := ilt_f (g3 rfl).1
      have j2 := ilt_t (g3 rfl).2
      simp [hv.scal, rowRS, j1, j2, pl, evParts, lay, B6, undT, fnEnd, argsT, PT.get_put, keep, opRun, ev, evs, evO, give, giveI, binOf, isNilK, PM.flip, putT, putL, putH, loadOf, storeOf, cut, over, ofCells, asNat, natOr, calm, clashes, Acc.clash, ressOf, resOf, frz, frz.frzs, DV.flat, DV.flat.flats, imms]
    · obtain ⟨rfl, rfl⟩ := gz (by omega)
      have j1 := ilt_f t0
      have j2 := ilt_t (t6 rfl)
      simp [hv.scal, rowRS, j1, j2, evParts, lay, B6, undT, fnEnd, argsT, PT.get_put, keep, opRun, ev, evs, evO, give, giveI, binOf, isNilK, PM.flip, putT, putL, putH, loadOf, storeOf, cut, over, ofCells, asNat, natOr, calm, clashes, Acc.clash, ressOf, resOf, frz, frz.frzs, DV.flat, DV.flat.flats, imms]
  obtain ⟨v, H, n, e, rfl⟩ := key
  exact bl_of e rfl
theorem Holds_bl {D : Nat} (hD : 2 ≤ D) {l : Lo} (ok : LoOk l) (is : ISL l) {rs : List Rst} (go : GoneOk l rs) {r : Nat} (hr : r < l.rts.length) (z : Int) :
    bl (K DG D) 47 [l.dv, .imm (.int .i64 r), .agg (rowRS (nth rs r)), .imm (.int .i64 z)] = some (.imm (.bool (decide (z ∈ hld l rs r)))) := by
  obtain ⟨d, rfl⟩ : ∃ d, D = d + 1 := ⟨D - 1, by omega⟩
  have rk := ok.or _ (nth_mem hr)
  have hr1 : (r : Int) < l.rts.length := by omega
  have p5 := is.p5 r hr
  have hrb := rb3
  have ix := fun {h : Nat → Option HB} {n : Nat} => idx_sl (h := h) (n := n) ok.r (by omega) (k := .i64) (z := (r : Int)) (by omega) hr1
  have i1 := in_bl (D := d) (by omega) rk.p (by omega) z
  simp only [Int.toNat_natCast] at ix
  have key : Fe (K DG (d + 1) 47 [l.dv, .imm (.int .i64 r), .agg (rowRS (nth rs r)), .imm (.int .i64 z)] .lf 0 0) (fun v _ _ => v = .imm (.bool (decide (z ∈ hld l rs r)))) := by
    rw [D.k47]
    refine fn_dw rfl ?_
    by_cases m1 : (nth rs r).mode = 1
    · have e : hld l rs r = (nth l.rts r).path := by simp [hld, m1]
      rw [e]
      simp [ok.s.scal, ok.p.scal, ok.g.scal, ok.r.scal, ix, i1, rowRS, m1, ivRt, evParts, lay, B6, undT, fnEnd, argsT, PT.get_put, keep, opRun, ev, evs, evO, give, giveI, binOf, isNilK, PM.flip, putT, putL, putH, loadOf, storeOf, cut, over, ofCells, asNat, natOr, calm, clashes, Acc.clash, ressOf, resOf, frz, frz.frzs, DV.flat, DV.flat.flats, imms]
    · by_cases m2 : (nth rs r).mode = 2
      · have e : hld l rs r = (nth l.rts r).path := by simp [hld, m2]
        rw [e]
        simp [ok.s.scal, ok.p.scal, ok.g.scal, ok.r.scal, ix, i1, rowRS, m2, ivRt, evParts, lay, B6, undT, fnEnd, argsT, PT.get_put, keep, opRun, ev, evs, evO, give, giveI, binOf, isNilK, PM.flip, putT, putL, putH, loadOf, storeOf, cut, over, ofCells, asNat, natOr, calm, clashes, Acc.clash, ressOf, resOf, frz, frz.frzs, DV.flat, DV.flat.flats, imms]
      · by_cases m4 : (nth rs r).mode = 4
        · have e : hld l rs r = (nth l.rts r).path := by simp [hld, m4]
          rw [e]
          simp [ok.s.scal, ok.p.scal, ok.g.scal, ok.r.scal, ix, i1, rowRS, m4, ivRt, evParts, lay, B6, undT, fnEnd, argsT, PT.get_put, keep, opRun, ev, evs, evO, give, giveI, binOf, isNilK, PM.flip, putT, putL, putH, loadOf, storeOf, cut, over, ofCells, asNat, natOr, calm, clashes, Acc.clash, ressOf, resOf, frz, frz.frzs, DV.flat, DV.flat.flats, imms]
        · by_cases m3 : (nth rs r).mode = 3
          · have e : hld l rs r = (nth l.rts r).path.drop (nth rs r).gone.toNat := by simp [hld, m3]
            obtain ⟨g0, g1⟩ := go r hr m3
            have sc := fun {h : Nat → Option HB} {n : Nat} => slc_from (h := h) (n := n) rk.p g0 g1
            have hd := dropV_sl rk.p (nth rs r).gone.toNat
            have i2 := in_bl (D := d) (by omega) (v := dropV (nth l.rts r).pv (nth rs r).gone.toNat) (zs := (nth l.rts r).path.drop (nth rs r).gone.toNat) (by simpa [List.map_drop] using hd) (by simp; omega) z
            rw [e]
            simp [ok.s.scal, ok.p.scal, ok.g.scal, ok.r.scal, ix, i2, sc, rowRS, m3, ivRt, evParts, lay, B6, undT, fnEnd, argsT, PT.get_put, keep, opRun, ev, evs, evO, give, giveI, binOf, isNilK, PM.flip, putT, putL, putH, loadOf, storeOf, cut, over, ofCells, asNat, natOr, calm, clashes, Acc.clash, ressOf, resOf, frz, frz.frzs, DV.flat, DV.flat.flats, imms]
          · have e : hld l rs r = [] := by simp [hld, m1, m2, m3, m4]
            rw [e]
            simp [ok.s.scal, ok.p.scal, ok.g.scal, ok.r.scal, ix, rowRS, m1, m2, m3, m4, ivRt, evParts, lay, B6, undT, fnEnd, argsT, PT.get_put, keep, opRun, ev, evs, evO, give, giveI, binOf, isNilK, PM.flip, putT, putL, putH, loadOf, storeOf, cut, over, ofCells, asNat, natOr, calm, clashes, Acc.clash, ressOf, resOf, frz, frz.frzs, DV.flat, DV.flat.flats, imms]
  obtain ⟨v, H, n, e, rfl⟩ := key
  exact bl_of e rfl
def IM1 (l : Lo) (w : IV) (i j : Nat) (st : St) : Prop := st.T.get 1 = some (.imm w) ∧ Box st 2 l.ivs ∧ st.T.get 5 = some (.imm (.int .i64 i)) ∧ st.T.get 6 = some (.imm (.int .i64 j))
theorem loopM1 {d : Nat} (hd : 3 ≤ d) {l : Lo} (ok : LoOk l) (is : ISL l) {rs : List Rst} (nc : NC l rs) (hrl : rs.length = l.rts.length) {w : IV} (hw : Sl 4 w (rs.map ivRS)) {i : Nat} (hi : i < l.rts.length) {ks : List Kf} {st : St} {Q : Ex → St → Prop} (h : IM1 l w i 0 st)
    (hk : ∀ st', IM1 l w i i st' → Bk DG (K DG d) 0 (.exit 2) ks st' Q) : Wp DG (K DG d) 0 D.l20_1 ks st Q := by
  have hrb := rb3
  have hl6 := is.r2
  have hi1 : (i : Int) < rs.length := by omega
  refine dw_loop (N := i) (small (by omega)) (IM1 l w i) (fun e st' => e = .exit 2 ∧ IM1 l w i i st') (fun j st hle hI => ?_) h (fun e s' h => by obtain ⟨rfl, h⟩ := h; exact hk s' h)
  obtain ⟨h1, ⟨i2, h2, L2⟩, h5, h6⟩ := hI
  by_cases hj : j < i
  · have hj' := ilt_t (show (j : Int) < (i : Int) by omega)
    have hw8 : IntKind.i64.wrap ((j : Int) + 1) = (j : Int) + 1 := wr_succ hj (by omega)
    have ixi := fun {h : Nat → Option HB} {n : Nat} => idx_sl (h := h) (n := n) hw (by omega) (k := .i64) (z := (i : Int)) (by omega) hi1
    have ixj := fun {h : Nat → Option HB} {n : Nat} => idx_sl (h := h) (n := n) hw (by omega) (k := .i64) (z := (j : Int)) (by omega) (by omega)
    have hc := Conflict4_bl (D := d) (by omega) ok is.few hi (show j < l.rts.length by omega)
    have hnc := nc i j hi (by omega) (by omega)
    simp only [Int.toNat_natCast] at ixi ixj
    generalize hQ : (fun (e : Ex) (s' : St) => _) = Q'
    simp only [D.l20_1b]
    have done : ∀ s2 : St, s2.T.get 1 = some (.imm w) → Box s2 2 l.ivs → s2.T.get 5 = some (.imm (.int .i64 i)) → s2.T.get 6 = some (.imm (.int .i64 ((j + 1 : Nat) : Int))) → IM1 l w i (j + 1) s2 := fun s2 a b c d => ⟨a, b, c, d⟩
    by_cases a : (nth rs i).mode = 0
    · simp [h1, h2, L2, h5, h6, hj', hw8, ixi, a, ivRS, ok.s.scal, ok.p.scal, ok.g.scal, ok.r.scal, evParts, lay, imms, B6, undT, fnEnd, argsT, PT.get_put, keep, opRun, ev, evs, evO, give, giveI, binOf, isNilK, PM.flip, putT, putL, putH, loadOf, storeOf, cut, over, ofCells, asNat, natOr, calm, clashes, Acc.clash, ressOf, resOf, frz, frz.frzs, DV.flat, DV.flat.flats, imms]
      subst hQ
      exact .inl ⟨rfl, hj, done _ (by simp [PT.get_put]) ⟨i2, by simp [PT.get_put], by simp [PT.get_put, imms]⟩ (by simp [PT.get_put]) (by simp [PT.get_put])⟩
    · by_cases b : (nth rs j).mode = 0
      · simp [h1, h2, L2, h5, h6, hj', hw8, ixi, ixj, a, b, ivRS, ok.s.scal, ok.p.scal, ok.g.scal, ok.r.scal, evParts, lay, imms, B6, undT, fnEnd, argsT, PT.get_put, keep, opRun, ev, evs, evO, give, giveI, binOf, isNilK, PM.flip, putT, putL, putH, loadOf, storeOf, cut, over, ofCells, asNat, natOr, calm, clashes, Acc.clash, ressOf, resOf, frz, frz.frzs, DV.flat, DV.flat.flats, imms]
        subst hQ
        exact .inl ⟨rfl, hj, done _ (by simp [PT.get_put]) ⟨i2, by simp [PT.get_put], by simp [PT.get_put, imms]⟩ (by simp [PT.get_put]) (by simp [PT.get_put])⟩
      · rw [dec_f (hnc a b)] at hc
        simp [h1, h2, L2, h5, h6, hj', hw8, ixi, ixj, a, b, hc, ivRS, ok.s.scal, ok.p.scal, ok.g.scal, ok.r.scal, evParts, lay, imms, B6, undT, fnEnd, argsT, PT.get_put, keep, opRun, ev, evs, evO, give, giveI, binOf, isNilK, PM.flip, putT, putL, putH, loadOf, storeOf, cut, over, ofCells, asNat, natOr, calm, clashes, Acc.clash, ressOf, resOf, frz, frz.frzs, DV.flat, DV.flat.flats, imms]
        subst hQ
        exact .inl ⟨rfl, hj, done _ (by simp [PT.get_put]) ⟨i2, by simp [PT.get_put], by simp [PT.get_put, imms]⟩ (by simp [PT.get_put]) (by simp [PT.get_put])⟩
  · obtain rfl : j = i := by omega
    generalize hQ : (fun (e : Ex) (s' : St) => _) = Q'
    simp only [D.l20_1b]
    simp [h1, h2, L2, h5, h6, imms, B6, undT, fnEnd, argsT, PT.get_put, keep, opRun, ev, evs, evO, give, giveI, binOf, isNilK, PM.flip, putT, putL, putH, loadOf, storeOf, cut, over, ofCells, asNat, natOr, calm, clashes, Acc.clash, ressOf, resOf, frz, frz.frzs, DV.flat, DV.flat.flats, imms]
    subst hQ
    exact .inr ⟨nofun, rfl, by simp [PT.get_put], ⟨i2, by simp [PT.get_put], by simp [PT.get_put, imms]⟩, by simp [PT.get_put], by simp [PT.get_put]⟩
def IM0 (l : Lo) (w : IV) (i : Nat) (st : St) : Prop := st.T.get 1 = some (.imm w) ∧ Box st 2 l.ivs ∧ st.T.get 5 = some (.imm (.int .i64 i))
theorem loopM0 {d : Nat} (hd : 3 ≤ d) {l : Lo} (ok : LoOk l) (is : ISL l) {rs : List Rst} (ro : ∀ r, r < l.rts.length → RsOk l r (nth rs r)) (nc : NC l rs) (hrl : rs.length = l.rts.length) {w : IV} (hw : Sl 4 w (rs.map ivRS)) {ks : List Kf} {st : St} {Q : Ex → St → Prop} (h : IM0 l w 0 st)
    (hk : ∀ st', IM0 l w l.rts.length st' → Bk DG (K DG d) 0 (.exit 0) ks st' Q) : Wp DG (K DG d) 0 D.l20_0 ks st Q := by
  have hrb := rb3
  have hl6 := is.r2
  have wl := hw.len
  simp only [List.length_map, hrl] at wl
  refine dw_loop (N := l.rts.length) (small ok.lr) (IM0 l w) (fun e st' => e = .exit 0 ∧ IM0 l w l.rts.length st') (fun i st hle hI => ?_) h (fun e s' h => by obtain ⟨rfl, h⟩ := h; exact hk s' h)
  obtain ⟨h1, ⟨i2, h2, L2⟩, h5⟩ := hI
  by_cases hi : i < l.rts.length
  · have hi1 : (i : Int) < l.rts.length := by omega
    have hi' := ilt_t hi1
    have hw8 : IntKind.i64.wrap ((i : Int) + 1) = (i : Int) + 1 := wr_succ hi ok.lr
    have rk := ok.or _ (nth_mem hi)
    have ixi := fun {h : Nat → Option HB} {n : Nat} => idx_sl (h := h) (n := n) hw (by omega) (k := .i64) (z := (i : Int)) (by omega) (by omega)
    have ixr := fun {h : Nat → Option HB} {n : Nat} => idx_sl (h := h) (n := n) ok.r (by omega) (k := .i64) (z := (i : Int)) (by omega) hi1
    have ho := one_bl (D := d) (by omega) (ro i hi) rk.p
    simp only [Int.toNat_natCast] at ixi ixr
    simp only [rowRS] at ho
    generalize hQ : (fun (e : Ex) (s' : St) => _) = Q'
    simp only [D.l20_0b]
    simp [h1, h2, L2, h5, hi', wl, ixi, ixr, ho, ivRS, ivRt, ok.s.scal, ok.p.scal, ok.g.scal, ok.r.scal, evParts, lay, imms, B6, undT, fnEnd, argsT, PT.get_put, keep, opRun, ev, evs, evO, give, giveI, binOf, isNilK, PM.flip, putT, putL, putH, loadOf, storeOf, cut, over, ofCells, asNat, natOr, calm, clashes, Acc.clash, ressOf, resOf, frz, frz.frzs, DV.flat, DV.flat.flats, imms]
    refine loopM1 (rs := rs) hd ok is nc hrl hw hi ⟨by simp [PT.get_put], ⟨i2, by simp [PT.get_put], by simp [PT.get_put, imms]⟩, by simp [PT.get_put], by simp [PT.get_put]⟩ ?_
    rintro s2 ⟨f1, ⟨j2, f2, M2⟩, f5, f6⟩
    simp [f1, f2, M2, f5, f6, hw8, imms, B6, undT, fnEnd, argsT, PT.get_put, keep, opRun, ev, evs, evO, give, giveI, binOf, isNilK, PM.flip, putT, putL, putH, loadOf, storeOf, cut, over, ofCells, asNat, natOr, calm, clashes, Acc.clash, ressOf, resOf, frz, frz.frzs, DV.flat, DV.flat.flats, imms]
    subst hQ
    exact .inl ⟨rfl, hi, by simp [PT.get_put, f1], ⟨j2, by simp [PT.get_put, f2], by simp [PT.get_put, M2, imms]⟩, by simp [PT.get_put]⟩
  · obtain rfl : i = l.rts.length := by omega
    generalize hQ : (fun (e : Ex) (s' : St) => _) = Q'
    simp only [D.l20_0b]
    simp [h1, h2, L2, h5, wl, imms, B6, undT, fnEnd, argsT, PT.get_put, keep, opRun, ev, evs, evO, give, giveI, binOf, isNilK, PM.flip, putT, putL, putH, loadOf, storeOf, cut, over, ofCells, asNat, natOr, calm, clashes, Acc.clash, ressOf, resOf, frz, frz.frzs, DV.flat, DV.flat.flats, imms]
    subst hQ
    exact .inr ⟨nofun, rfl, by simp [PT.get_put], ⟨i2, by simp [PT.get_put], by simp [PT.get_put, imms]⟩, by simp [PT.get_put]⟩
theorem May_bl {D : Nat} (hD : 4 ≤ D) {l : Lo} (ok : LoOk l) (is : ISL l) {rs : List Rst} (ro : ∀ r, r < l.rts.length → RsOk l r (nth rs r)) (nc : NC l rs) (hrl : rs.length = l.rts.length) {w : IV} (hw : Sl 4 w (rs.map ivRS)) :
    bl (K DG D) 20 [l.dv, .imm w] = some (.imm (.bool true)) := by
  obtain ⟨d, rfl⟩ : ∃ d, D = d + 1 := ⟨D - 1, by omega⟩
  have wl := hw.len
  have rl := ok.r.len
  simp only [List.length_map, hrl] at wl rl
  have key : Fe (K DG (d + 1) 20 [l.dv, .imm w] .lf 0 0) (fun v _ _ => v = .imm (.bool true)) := by
    rw [D.k20]
    refine fn_dw rfl ?_
    simp [ok.s.scal, ok.p.scal, ok.g.scal, ok.r.scal, wl, rl, hw.scal, B6, undT, fnEnd, argsT, PT.get_put, keep, opRun, ev, evs, evO, give, giveI, binOf, isNilK, PM.flip, putT, putL, putH, loadOf, storeOf, cut, over, ofCells, asNat, natOr, calm, clashes, Acc.clash, ressOf, resOf, frz, frz.frzs, DV.flat, DV.flat.flats, imms]
    refine loopM0 (by omega) ok is ro nc hrl hw ⟨by simp [PT.get_put], ⟨0, by simp [PT.get_put], by simp [PT.get_put, imms]⟩, by simp [PT.get_put]⟩ ?_
    rintro s2 ⟨f1, ⟨j2, f2, M2⟩, f5⟩
    simp [f1, f2, M2, f5, B6, undT, fnEnd, argsT, PT.get_put, keep, opRun, ev, evs, evO, give, giveI, binOf, isNilK, PM.flip, putT, putL, putH, loadOf, storeOf, cut, over, ofCells, asNat, natOr, calm, clashes, Acc.clash, ressOf, resOf, frz, frz.frzs, DV.flat, DV.flat.flats, imms]
  obtain ⟨v, H, n, e, rfl⟩ := key
  exact bl_of e rfl
end Go.Proofs.YtkgjgehffijepaaDoor.D

-- K16
set_option linter.unusedVariables false
set_option linter.unusedSimpArgs false
set_option maxHeartbeats 16000000
namespace Go.Proofs.YtkgjgehffijepaaDoor.D
open Go Go.PM Go.Lib
structure INV (l : Lo) (rs : List Rst) : Prop where
  ln : rs.length = l.rts.length
  ro : ∀ r, r < l.rts.length → RsOk l r (nth rs r)
  nc : NC l rs
theorem CF_sym {l : Lo} {r s : Nat} (h : CF l r s) : CF l s r := by
  rcases h with h | h | ⟨z, h1, h2⟩ | ⟨x, h1, h2⟩
  · exact .inl h.symm
  · exact .inr (.inl h.symm)
  · exact .inr (.inr (.inl ⟨z, h2, h1⟩))
  · exact .inr (.inr (.inr ⟨_, h2, by simpa using h1⟩))
theorem nth_setx {α : Type} [Inhabited α] {xs : List α} {i j : Nat} {y : α} (hi : i < xs.length) : nth (xs.set i y) j = if i = j then y else nth xs j := by
  simp only [nth, List.getD, List.getElem?_set]
  by_cases h : i = j
  · subst h; simp [hi]
  · simp [h]
theorem INV.new {l : Lo} : INV l (List.replicate l.rts.length rs0) :=
  ⟨by simp, fun r hr => by rw [nth_rep' hr]; exact RsOk.idle, fun i j hi hj _ hm => by rw [nth_rep' hi] at hm; exact absurd rfl hm⟩
theorem INV.set {l : Lo} {rs : List Rst} (h : INV l rs) {r : Nat} (hr : r < l.rts.length) {y : Rst} (hy : RsOk l r y) (hc : y.mode ≠ 0 → ∀ s, s < l.rts.length → s ≠ r → (nth rs s).mode ≠ 0 → ¬ CF l r s) : INV l (rs.set r y) := by
  have hl := h.ln
  refine ⟨by simp [hl], fun s hs => ?_, fun i j hi hj hij mi mj => ?_⟩
  · rw [nth_setx (by omega)]
    split
    · rename_i e; subst e; exact hy
    · exact h.ro s hs
  · rw [nth_setx (by omega)] at mi mj
    by_cases h1 : r = i
    · subst h1
      rw [if_pos rfl] at mi
      rw [if_neg hij] at mj
      exact hc mi j hj (fun e => hij e.symm) mj
    · rw [if_neg h1] at mi
      by_cases h2 : r = j
      · subst h2
        rw [if_pos rfl] at mj
        exact fun e => hc mj i hi hij mi (CF_sym e)
      · rw [if_neg h2] at mj
        exact h.nc i j hi hj hij mi mj
theorem INV.call {l : Lo} {rs : List Rst} (h : INV l rs) {os : List Bool} {ls : List Int} {r : Nat} (hr : r < l.rts.length) : INV l (callF l rs os ls r).2 := by
  by_cases m0 : (nth rs r).mode = 0
  · by_cases hf : FRE l rs os ls r
    · have e : callF l rs os ls r = (0, rs.set r ⟨1, 0, 0, false⟩) := by simp [callF, dec_t m0, dec_t hf]
      rw [e]
      exact h.set hr ⟨by simp, by simp, by simp, by simp, by simp, by simp, by simp⟩ fun _ s hs _ hm => hf.cf s hs hm
    · have e : callF l rs os ls r = (8, rs) := by simp [callF, dec_t m0, dec_f hf]
      rw [e]; exact h
  · have e : callF l rs os ls r = (7, rs) := by simp [callF, dec_f m0]
    rw [e]; exact h
theorem INV.cancel {l : Lo} {rs : List Rst} (h : INV l rs) {r : Nat} (hr : r < l.rts.length) : INV l (cancelF rs r).2 := by
  by_cases m1 : (nth rs r).mode = 1
  · have e : cancelF rs r = (0, rs.set r rs0) := by simp [cancelF, dec_t m1]
    rw [e]
    exact h.set hr RsOk.idle fun h0 => absurd rfl h0
  · by_cases m2 : (nth rs r).mode = 2
    · have e : cancelF rs r = (0, rs.set r ⟨4, 0, 0, false⟩) := by simp [cancelF, dec_f m1, dec_t m2]
      rw [e]
      exact h.set hr ⟨by simp, by simp, by simp, by simp, by simp, by simp, by simp⟩ fun _ s hs hsr hm => h.nc r s hr hs (fun e => hsr e.symm) (by omega) hm
    · have e : cancelF rs r = (7, rs) := by simp [cancelF, dec_f m1, dec_f m2]
      rw [e]; exact h
theorem INV.cmd {l : Lo} {rs : List Rst} (h : INV l rs) {os : List Bool} {ls : List Int} {c r : Int} : INV l (cmdF l rs os ls c r).2 := by
  by_cases h1 : ¬ MI l os ls ∨ (c ≠ 1 ∧ c ≠ 2)
  · have e : cmdF l rs os ls c r = (1, rs) := by simp only [cmdF, dec_t h1, cond_true]
    rw [e]; exact h
  · by_cases hr : InR r l.rts.length
    · have hn : r.toNat < l.rts.length := by have := hr.1; have := hr.2; omega
      by_cases hc : c = 1
      · have e : cmdF l rs os ls c r = callF l rs os ls r.toNat := by simp only [cmdF, dec_f h1, dec_t hr, dec_t hc, cond_true, cond_false]
        rw [e]; exact h.call hn
      · have e : cmdF l rs os ls c r = cancelF rs r.toNat := by simp only [cmdF, dec_f h1, dec_t hr, dec_f hc, cond_true, cond_false]
        rw [e]; exact h.cancel hn
    · have e : cmdF l rs os ls c r = (5, rs) := by simp only [cmdF, dec_f h1, dec_f hr, cond_true, cond_false]
      rw [e]; exact h
theorem step_idle {l : Lo} {os : List Bool} {ls : List Int} {r : Nat} {x : Rst} (h : x.mode = 0) : stepF l os ls r x = x := by
  obtain ⟨m, t, g, s⟩ := x
  simp only at h
  subst h
  simp [stepF, dec_false]
theorem INV.step {l : Lo} (is : ISL l) {rs qs : List Rst} (h : INV l rs) {os : List Bool} {ls : List Int} (hl : qs.length = l.rts.length) (hq : ∀ j, j < l.rts.length → nth qs j = stepF l os ls j (nth rs j)) : INV l qs :=
  ⟨hl, fun r hr => by rw [hq r hr]; exact (h.ro r hr).step is hr, fun i j hi hj hij mi mj => h.nc i j hi hj hij
    (fun e => mi (by rw [hq i hi, step_idle e]; exact e)) (fun e => mj (by rw [hq j hj, step_idle e]; exact e))⟩
/-- Two routes that stand hold no section both. -/
theorem INV.apart {l : Lo} {rs : List Rst} (h : INV l rs) {i j : Nat} (hi : i < l.rts.length) (hj : j < l.rts.length) {z : Int} (ai : z ∈ hld l rs i) (aj : z ∈ hld l rs j) : i = j := by
  refine Classical.byContradiction fun hij => ?_
  have stands : ∀ {k : Nat}, z ∈ hld l rs k → (nth rs k).mode ≠ 0 := fun {k} hk e => by simp [hld, e] at hk
  exact h.nc i j hi hj hij (stands ai) (stands aj) (.inr (.inr (.inl ⟨z, hld_sub ai, hld_sub aj⟩)))
theorem hol_mem {l : Lo} {rs : List Rst} {z : Int} {r : Nat} (h : hol l rs z = (r : Int)) : z ∈ hld l rs r := by
  unfold hol at h
  split at h
  · rename_i k hk
    have := List.find?_some hk
    have hkr : k = r := by omega
    subst hkr
    simpa using this
  · omega
end Go.Proofs.YtkgjgehffijepaaDoor.D

-- K19
set_option linter.unusedVariables false
set_option linter.unusedSimpArgs false
set_option maxHeartbeats 16000000
namespace Go.Proofs.YtkgjgehffijepaaDoor.D
open Go Go.PM Go.Lib
structure Acv where
  kind : Int
  ov : IV
  lv : IV
  c : Int
  r : Int
  rv : IV
  os : List Bool
  ls : List Int
  rs : List Rst
instance : Inhabited Acv := ⟨⟨0, .nils, .nils, 0, 0, .nils, [], [], []⟩⟩
def ivAc (x : Acv) : List IV := [.int .i64 x.kind, x.ov, x.lv, .int .i64 x.c, .int .i64 x.r, x.rv]
structure AcOk (x : Acv) : Prop where
  io : InOk x.ov x.lv x.os x.ls
  rv : Sl 4 x.rv (x.rs.map ivRS)
  lr : x.rs.length ≤ reachBytes
abbrev kdRS : List Kd := [.i .i64, .i .i64, .i .i64, .b]
abbrev kdAc : List Kd := [.i .i64, .sl [.b], .sl [.i .i64], .i .i64, .i .i64, .sl kdRS]
theorem sts_of {iv : IV} (h : FitK (.sl kdRS) iv) : ∃ xs : List Rst, Sl 4 iv (xs.map ivRS) ∧ xs.length ≤ reachBytes ∧ ∀ x ∈ xs, True :=
  rows_of h ivRS _ fun e hl hk => by
    match e, hl with
    | [c0, c1, c2, c3], _ =>
      have f0 := hk 0 _ _ rfl rfl
      have f1 := hk 1 _ _ rfl rfl
      have f2 := hk 2 _ _ rfl rfl
      have f3 := hk 3 _ _ rfl rfl
      cases f0; cases f1; cases f2; cases f3
      exact ⟨⟨_, _, _, _⟩, rfl, trivial⟩
theorem acts_of {iv : IV} (h : FitK (.sl kdAc) iv) : ∃ xs : List Acv, Sl 6 iv (xs.map ivAc) ∧ xs.length ≤ reachBytes ∧ ∀ x ∈ xs, AcOk x :=
  rows_of h ivAc _ fun e hl hk => by
    match e, hl with
    | [c0, c1, c2, c3, c4, c5], _ =>
      have f0 := hk 0 _ _ rfl rfl
      have f1 := hk 1 _ _ rfl rfl
      have f2 := hk 2 _ _ rfl rfl
      have f3 := hk 3 _ _ rfl rfl
      have f4 := hk 4 _ _ rfl rfl
      have f5 := hk 5 _ _ rfl rfl
      obtain ⟨os, o1, o2, _⟩ := bools_of f1
      obtain ⟨ls, l1, l2, _⟩ := ints_of f2
      obtain ⟨rs, r1, r2, _⟩ := sts_of f5
      cases f0; cases f3; cases f4
      exact ⟨⟨_, _, _, _, _, _, os, ls, rs⟩, rfl, ⟨o1, l1, o2, l2⟩, r1, r2⟩
theorem wideB_bl {D : Nat} (hD : 1 ≤ D) {ov lv : IV} {os : List Bool} {ls : List Int} (io : InOk ov lv os ls) : ∃ b : Bool, bl (K DG D) 31 [inD ov lv] = some (.imm (.bool b)) := by
  obtain ⟨d, rfl⟩ : ∃ d, D = d + 1 := ⟨D - 1, by omega⟩
  have ol := io.o.len
  have il := io.l.len
  simp only [List.length_map] at ol il
  have key : Fe (K DG (d + 1) 31 [inD ov lv] .lf 0 0) (fun v _ _ => ∃ b : Bool, v = .imm (.bool b)) := by
    rw [D.k31]
    refine fn_dw rfl ?_
    generalize hQ : Fin _ _ = Q
    simp (config := {contextual := true}) [io.o.scal, io.l.scal, ol, il, B6, undT, fnEnd, argsT, PT.get_put, keep, opRun, ev, evs, evO, give, giveI, binOf, isNilK, PM.flip, putT, putL, putH, loadOf, storeOf, cut, over, ofCells, asNat, natOr, calm, clashes, Acc.clash, ressOf, resOf, frz, frz.frzs, DV.flat, DV.flat.flats, imms]
    subst hQ
    simp (config := {contextual := true}) [B6, undT, fnEnd, argsT, PT.get_put, keep, opRun, ev, evs, evO, give, giveI, binOf, isNilK, PM.flip, putT, putL, putH, loadOf, storeOf, cut, over, ofCells, asNat, natOr, calm, clashes, Acc.clash, ressOf, resOf, frz, frz.frzs, DV.flat, DV.flat.flats, imms]
    exact fun _ => (Classical.em _).symm
  obtain ⟨v, H, n, e, b, rfl⟩ := key
  exact ⟨b, bl_imm e⟩
theorem long_bl {D : Nat} (hD : 2 ≤ D) {v : IV} {xs : List Acv} (hv : Sl 6 v (xs.map ivAc)) (hl : xs.length ≤ reachBytes) (hx : ∀ x ∈ xs, AcOk x) : ∃ b : Bool, bl (K DG D) 11 [.imm v] = some (.imm (.bool b)) := by
  obtain ⟨d, rfl⟩ : ∃ d, D = d + 1 := ⟨D - 1, by omega⟩
  have vl := hv.len
  simp only [List.length_map] at vl
  have key : Fe (K DG (d + 1) 11 [.imm v] .lf 0 0) (fun v _ _ => ∃ b : Bool, v = .imm (.bool b)) := by
    rw [D.k11]
    refine fn_dw rfl ?_
    simp [hv.scal, B6, undT, fnEnd, argsT, PT.get_put, keep, opRun, ev, evs, evO, give, giveI, binOf, isNilK, PM.flip, putT, putL, putH, loadOf, storeOf, cut, over, ofCells, asNat, natOr, calm, clashes, Acc.clash, ressOf, resOf, frz, frz.frzs, DV.flat, DV.flat.flats, imms]
    refine dw_loop (N := xs.length) (small hl) (fun i st => st.T.get 0 = some (.imm v) ∧ st.T.get 3 = some (.imm (.int .i64 i))) (fun e st' => (e = .ret ∧ st'.T.get 2 = some (.imm (.bool true))) ∨ e = .exit 0) (fun i st hle hI => ?_) ⟨by simp [PT.get_put], by simp [PT.get_put]⟩ ?_
    · obtain ⟨h0, h3⟩ := hI
      by_cases hi : i < xs.length
      · have hi1 : (i : Int) < xs.length := by omega
        have hi' := ilt_t hi1
        have hw8 : IntKind.i64.wrap ((i : Int) + 1) = (i : Int) + 1 := wr_succ hi hl
        have ac := hx _ (nth_mem hi)
        have rl := ac.rv.len
        simp only [List.length_map] at rl
        have ix := fun {h : Nat → Option HB} {n : Nat} => idx_sl (h := h) (n := n) hv (by omega) (k := .i64) (z := (i : Int)) (by omega) hi1
        obtain ⟨b, eb⟩ := wideB_bl (D := d) (by omega) ac.io
        simp only [Int.toNat_natCast] at ix
        generalize hQ : (fun (e : Ex) (s' : St) => _) = Q'
        simp only [D.l11_0b]
        by_cases h60 : (i : Int) < 60
        · have j60 := ilt_t h60
          cases b with
          | true =>
            simp [h0, h3, vl, hi', hw8, j60, ix, eb, ivAc, ac.io.o.scal, ac.io.l.scal, B6, undT, fnEnd, argsT, PT.get_put, keep, opRun, ev, evs, evO, give, giveI, binOf, isNilK, PM.flip, putT, putL, putH, loadOf, storeOf, cut, over, ofCells, asNat, natOr, calm, clashes, Acc.clash, ressOf, resOf, frz, frz.frzs, DV.flat, DV.flat.flats, imms]
            subst hQ
            exact .inr ⟨nofun, .inl ⟨rfl, by simp [PT.get_put]⟩⟩
          | false =>
            by_cases h50 : (50 : Int) < (nth xs i).rs.length
            · have j50 := ilt_t h50
              simp [h0, h3, vl, hi', hw8, j60, ix, eb, ivAc, rl, j50, ac.io.o.scal, ac.io.l.scal, B6, undT, fnEnd, argsT, PT.get_put, keep, opRun, ev, evs, evO, give, giveI, binOf, isNilK, PM.flip, putT, putL, putH, loadOf, storeOf, cut, over, ofCells, asNat, natOr, calm, clashes, Acc.clash, ressOf, resOf, frz, frz.frzs, DV.flat, DV.flat.flats, imms]
              subst hQ
              exact .inr ⟨nofun, .inl ⟨rfl, by simp [PT.get_put]⟩⟩
            · have j50 := ilt_f (show ((nth xs i).rs.length : Int) ≤ 50 by omega)
              simp [h0, h3, vl, hi', hw8, j60, ix, eb, ivAc, rl, j50, ac.io.o.scal, ac.io.l.scal, B6, undT, fnEnd, argsT, PT.get_put, keep, opRun, ev, evs, evO, give, giveI, binOf, isNilK, PM.flip, putT, putL, putH, loadOf, storeOf, cut, over, ofCells, asNat, natOr, calm, clashes, Acc.clash, ressOf, resOf, frz, frz.frzs, DV.flat, DV.flat.flats, imms]
              subst hQ
              exact .inl ⟨rfl, hi, by simp [PT.get_put], by simp [PT.get_put]⟩
        · have j60 := ilt_f (show (60 : Int) ≤ i by omega)
          simp [h0, h3, vl, hi', j60, B6, undT, fnEnd, argsT, PT.get_put, keep, opRun, ev, evs, evO, give, giveI, binOf, isNilK, PM.flip, putT, putL, putH, loadOf, storeOf, cut, over, ofCells, asNat, natOr, calm, clashes, Acc.clash, ressOf, resOf, frz, frz.frzs, DV.flat, DV.flat.flats, imms]
          subst hQ
          exact .inr ⟨nofun, .inr rfl⟩
      · obtain rfl : i = xs.length := by omega
        generalize hQ : (fun (e : Ex) (s' : St) => _) = Q'
        simp only [D.l11_0b]
        simp [h0, h3, vl, B6, undT, fnEnd, argsT, PT.get_put, keep, opRun, ev, evs, evO, give, giveI, binOf, isNilK, PM.flip, putT, putL, putH, loadOf, storeOf, cut, over, ofCells, asNat, natOr, calm, clashes, Acc.clash, ressOf, resOf, frz, frz.frzs, DV.flat, DV.flat.flats, imms]
        subst hQ
        exact .inr ⟨nofun, .inr rfl⟩
    · rintro e st' (⟨rfl, h⟩ | rfl)
      · simp [h, B6, undT, fnEnd, argsT, PT.get_put, keep, opRun, ev, evs, evO, give, giveI, binOf, isNilK, PM.flip, putT, putL, putH, loadOf, storeOf, cut, over, ofCells, asNat, natOr, calm, clashes, Acc.clash, ressOf, resOf, frz, frz.frzs, DV.flat, DV.flat.flats, imms]
      · simp [B6, undT, fnEnd, argsT, PT.get_put, keep, opRun, ev, evs, evO, give, giveI, binOf, isNilK, PM.flip, putT, putL, putH, loadOf, storeOf, cut, over, ofCells, asNat, natOr, calm, clashes, Acc.clash, ressOf, resOf, frz, frz.frzs, DV.flat, DV.flat.flats, imms]
  obtain ⟨v, H, n, e, b, rfl⟩ := key
  exact ⟨b, bl_imm e⟩
end Go.Proofs.YtkgjgehffijepaaDoor.D

-- K20
set_option linter.unusedVariables false
set_option linter.unusedSimpArgs false
set_option maxHeartbeats 16000000
namespace Go.Proofs.YtkgjgehffijepaaDoor.D
open Go Go.PM Go.Lib
theorem app_hp {h : Nat → Option HB} {n lo id : Nat} {rows : List (List DV)} (hh : h id = some ⟨4, rows⟩) (he : rows ≠ []) (hl : rows.length ≤ 2 ^ 20) :
    appOf h n lo 4 32 (.imm (.lst true 4 [])) (.sl id 0 rows.length rows.length) = some { v := .sl n 0 rows.length rows.length, hw := [(n, some ⟨4, rows⟩)], n' := n + 1, acc := [.wX n, .rX id] } := by
  have a1 : rows.length ≤ appMax := by unfold appMax; omega
  have a2 : rows.length * 32 ≤ appMax := by unfold appMax; omega
  simp [appOf, srcOf, rowsOf, hh, he, a1, a2, raccOf]
theorem app_hp0 {h : Nat → Option HB} {n lo id : Nat} (hh : h id = some ⟨4, []⟩) :
    appOf h n lo 4 32 (.imm (.lst true 4 [])) (.sl id 0 0 0) = some { v := .imm (.lst true 4 []), n' := n, acc := [.rX id] } := by
  simp [appOf, srcOf, rowsOf, hh, raccOf]
theorem map_rowRS (rs : List Rst) : rs.map rowRS = (rs.map ivRS).map imms := by
  induction rs with
  | nil => rfl
  | cons x xs ih => simp [rowRS, ivRS, imms] at *
theorem frz_rowK {h : Nat → Option HB} {lo id sz : Nat} {xs : List (List IV)} (hb : h id = some ⟨sz, xs.map imms⟩) (hlo : lo ≤ id) : frz h lo (.sl id 0 xs.length xs.length) = some (.imm (.lst false sz xs)) := by
  have ht : (xs.map imms).take xs.length = xs.map imms := List.take_of_length_le (by simp)
  have h1 : ¬ id < lo := by omega
  simp only [frz, if_neg h1, frzDepth, frzI, if_pos hlo, hb]
  simp [ht, mapO_frz2]
theorem frz_sl {H : PT HB} {m lo sz k : Nat} {es : List (List IV)} (h : H.get m = some ⟨sz, es.map imms⟩) (hk : es.length = k) (hlo : lo ≤ m) : frz H.get lo (.sl m 0 k k) = some (.imm (.lst false sz es)) := by
  subst hk
  exact frz_rowK h hlo
theorem cloneRS_run {d : Nat} {H : PT HB} {x : DV} {own : List Nat} {rs : List Rst} (h : RsAt H x own rs) (hl : rs.length ≤ 1000) {n lo : Nat} (hlo : lo ≤ n) :
    Fe (K DG (d + 1) 43 [x] H n lo) (fun v H' n' => n ≤ n' ∧ v.out = true ∧ ∃ w, frz H'.get lo v = some (.imm w) ∧ Sl 4 w (rs.map ivRS)) := by
  rw [D.k43]
  refine fn_dw rfl ?_
  rcases h with ⟨rfl, rfl, v, rfl, hv⟩ | ⟨id, rfl, rfl, hh⟩
  · have hv0 := hv
    rcases hv with ⟨rfl, _⟩ | ⟨f, rfl⟩
    · simp [B6, undT, fnEnd, argsT, PT.get_put, keep, opRun, ev, evs, evO, give, giveI, binOf, isNilK, PM.flip, putT, putL, putH, loadOf, storeOf, cut, over, ofCells, asNat, natOr, calm, clashes, Acc.clash, ressOf, resOf, frz, frz.frzs, DV.flat, DV.flat.flats, imms]
      first | exact .inl ⟨rfl, rfl⟩ | exact ⟨rfl, .inl ⟨rfl, rfl⟩⟩
    · have p1 := fun {h : Nat → Option HB} {n : Nat} {x : DV} hx => app_none (bytes := 32) (h := h) (n := n) (x := x) hx hv0
      simp [p1, evParts2, lay, unImms, unImm, mapO, rowsN, appOf, srcOf, rowsOf, raccOf, B6, undT, fnEnd, argsT, PT.get_put, keep, opRun, ev, evs, evO, give, giveI, binOf, isNilK, PM.flip, putT, putL, putH, loadOf, storeOf, cut, over, ofCells, asNat, natOr, calm, clashes, Acc.clash, ressOf, resOf, frz, frz.frzs, DV.flat, DV.flat.flats, imms]
      first | exact .inr ⟨_, rfl⟩ | exact ⟨rfl, .inr ⟨_, rfl⟩⟩
  · cases rs with
    | nil =>
      have p0 := fun {n : Nat} => app_hp0 (h := H.get) (n := n) (lo := lo) (id := id) (by simpa using hh)
      simp [hh, p0, evParts2, lay, unImms, unImm, mapO, rowsN, B6, undT, fnEnd, argsT, PT.get_put, keep, opRun, ev, evs, evO, give, giveI, binOf, isNilK, PM.flip, putT, putL, putH, loadOf, storeOf, cut, over, ofCells, asNat, natOr, calm, clashes, Acc.clash, ressOf, resOf, frz, frz.frzs, DV.flat, DV.flat.flats, imms]
      first | exact .inr ⟨_, rfl⟩ | exact ⟨rfl, .inr ⟨_, rfl⟩⟩
    | cons y ys =>
      have hlen : ((y :: ys).map rowRS).length = (y :: ys).length := by simp
      have p1 := fun {n : Nat} => app_hp (h := H.get) (n := n) (lo := lo) hh (by simp) (by rw [hlen]; omega)
      have hes := map_rowRS (y :: ys)
      have hel : ((y :: ys).map ivRS).length = (y :: ys).length := by simp
      rw [hlen] at p1
      generalize (y :: ys).map ivRS = es at hes hel ⊢
      generalize (y :: ys).map rowRS = rows at hh p1 hes
      generalize (y :: ys).length = k at hh p1 hel ⊢
      simp [hh, p1, evParts2, lay, unImms, unImm, mapO, rowsN, B6, undT, fnEnd, argsT, PT.get_put, keep, opRun, ev, evs, evO, give, giveI, binOf, isNilK, PM.flip, putT, putL, putH, loadOf, storeOf, cut, over, ofCells, asNat, natOr, calm, clashes, Acc.clash, ressOf, resOf, frz, frz.frzs, DV.flat, DV.flat.flats, imms]
      first | exact ⟨_, frz_sl (by simp [PT.get_put, hes]) hel hlo, .inr ⟨_, rfl⟩⟩ | exact ⟨rfl, _, frz_sl (by simp [PT.get_put, hes]) hel hlo, .inr ⟨_, rfl⟩⟩
theorem Routes_ro {d : Nat} (hd : 1 ≤ d) {H : PT HB} {p : Nat} {own : List Nat} {l : Lo} {rs : List Rst} (hl : rs.length ≤ 1000) (lk : LkAt H p own l rs) {n lo : Nat} :
    ∃ w m, callM (K DG (d + 1)) .ro 16 [.ptr p 0 0] H n lo = some ⟨.imm w, H, m, [.rA]⟩ ∧ n ≤ m ∧ Sl 4 w (rs.map ivRS) := by
  obtain ⟨d, rfl⟩ : ∃ d', d = d' + 1 := ⟨d - 1, by omega⟩
  obtain ⟨x, h1, h2, h3, h4⟩ := lk
  obtain ⟨v, H1, n1, e1, hn1, vo, w, hf, hw⟩ := cloneRS_run (d := d) h2 hl (n := n) (lo := n) (Nat.le_refl _)
  have xo : x.out = true := by
    rcases h2 with ⟨_, _, u, rfl, hu⟩ | ⟨id, _, rfl, _⟩
    · rfl
    · rfl
  have key : Fe (K DG (d + 1 + 1) 16 [.ptr p 0 0] H n n) (fun v' H' n' => v' = v ∧ H' = H1 ∧ n' = n1) := by
    rw [D.k16]
    refine fn_dw rfl ?_
    simp [h1, e1, xo, vo, B6, undT, fnEnd, argsT, PT.get_put, keep, opRun, ev, evs, evO, give, giveI, binOf, isNilK, PM.flip, putT, putL, putH, loadOf, storeOf, cut, over, ofCells, asNat, natOr, calm, clashes, Acc.clash, ressOf, resOf, frz, frz.frzs, DV.flat, DV.flat.flats, imms]
  obtain ⟨v', H', n', e, rfl, rfl, rfl⟩ := key
  have ho : DV.out.outs [DV.ptr p 0 0] = true := rfl
  refine ⟨w, n', ?_, hn1, hw⟩
  rw [callM_ro, if_pos ho, e]
  simp only [hf]
  rfl
end Go.Proofs.YtkgjgehffijepaaDoor.D

-- K21
set_option linter.unusedVariables false
set_option linter.unusedSimpArgs false
set_option maxHeartbeats 16000000
namespace Go.Proofs.YtkgjgehffijepaaDoor.D
open Go Go.PM Go.Lib
theorem LoEq.hld {l l' : Lo} (e : LoEq l l') {rs : List Rst} {r : Nat} (hr : r < l.rts.length) : hld l' rs r = hld l rs r := by
  simp only [D.hld, (e.rts r hr).path]
theorem find_congr {p q : Nat → Bool} : ∀ xs : List Nat, (∀ x ∈ xs, p x = q x) → xs.find? p = xs.find? q
  | [], _ => rfl
  | x :: xs, h => by
    simp only [List.find?_cons, h x (by simp), find_congr xs fun y hy => h y (by simp [hy])]
theorem LoEq.hol {l l' : Lo} (e : LoEq l l') {rs : List Rst} {z : Int} : hol l' rs z = hol l rs z := by
  have : (List.range l'.rts.length).find? (fun r => decide (z ∈ D.hld l' rs r)) = (List.range l.rts.length).find? (fun r => decide (z ∈ D.hld l rs r)) := by
    rw [e.len]
    refine find_congr _ fun x hx => ?_
    rw [e.hld (List.mem_range.1 hx)]
  simp only [D.hol, this]
theorem LoEq.nd {l l' : Lo} (e : LoEq l l') {r : Nat} (hr : r < l.rts.length) : nd (nth l'.rts r) = nd (nth l.rts r) := by
  simp only [D.nd, (e.rts r hr).pts, (e.rts r hr).flk]
theorem LoEq.lie {l l' : Lo} (e : LoEq l l') {ls : List Int} {r : Nat} (hr : r < l.rts.length) : Lie l' ls r ↔ Lie l ls r := by
  simp only [Lie, e.nd hr]
theorem LoEq.mi' {l l' : Lo} (e : LoEq l l') {os : List Bool} {ls : List Int} : MI l' os ls ↔ MI l os ls := by simp only [MI, e.secs, e.pts]
theorem LoEq.ro {l l' : Lo} (e : LoEq l l') {r : Nat} (hr : r < l.rts.length) {x : Rst} (h : RsOk l' r x) : RsOk l r x :=
  ⟨h.md, h.t0, h.t8, h.t6, h.tz, fun m => by have := h.g3 m; rw [(e.rts r hr).path] at this; exact this, h.gz⟩
theorem LoEq.inv {l l' : Lo} (e : LoEq l l') {rs : List Rst} (h : INV l' rs) : INV l rs :=
  ⟨by rw [h.ln, e.len], fun r hr => e.ro hr (h.ro r (by rw [e.len]; exact hr)), fun i j hi hj hij mi mj => by
    have := h.nc i j (by rw [e.len]; exact hi) (by rw [e.len]; exact hj) hij mi mj
    rw [e.cf hi hj] at this
    exact this⟩
theorem LoEq.dr {l l' : Lo} (e : LoEq l l') {rs : List Rst} {os : List Bool} {ls zs : List Int} (h : DrOk l' rs os ls zs) : DrOk l rs os ls zs := by
  refine ⟨by rw [h.1, e.pts], fun q hq => ?_⟩
  rcases h.2 q (by rw [e.pts]; exact hq) with h | ⟨r, x, h1, h2, h3, h4, h5, h6, h7, h8⟩
  · exact .inl h
  · have hr : r < l.rts.length := by rw [← e.len]; exact h1
    rw [e.nd hr] at h3
    rw [e.pts] at h7
    rw [e.pts, e.hol] at h8
    exact .inr ⟨r, x, hr, h2, h3, h4, h5, h6, h7, h8⟩
theorem LoEq.pr {l l' : Lo} (e : LoEq l l') {rs : List Rst} {os : List Bool} {ls : List Int} {bs : List Bool} (h : PrOk l' rs os ls bs) : PrOk l rs os ls bs := by
  refine ⟨by rw [h.1, e.sigs], fun s hs ht => ?_⟩
  obtain ⟨r, h1, h2, h3, h4, h5⟩ := h.2 s (by rw [e.sigs]; exact hs) ht
  have hr : r < l.rts.length := by rw [← e.len]; exact h1
  have hf := e.rts r hr
  rw [hf.fr] at h3
  rw [hf.path] at h4
  exact ⟨r, hr, h2, h3, h4, (e.lie hr).1 h5⟩
/-- A row in the heap that is handed over as a value. -/
theorem snap_row {H : PT HB} {m sz k : Nat} {es : List (List IV)} (h : H.get m = some ⟨sz, es.map imms⟩) (hk : es.length = k) : snap H.get (.sl m 0 k k) = some (.imm (.lst false sz es)) := by
  subst hk
  have ht : (es.map imms).take es.length = es.map imms := List.take_of_length_le (by simp)
  have hf : frzI H.get 0 frzDepth (.sl m 0 es.length es.length) = some (.lst false sz es) := by
    simp only [frzDepth, frzI, if_pos (Nat.zero_le m), h]
    simp [ht, mapO_frz2]
  show (frzI H.get 0 frzDepth (.sl m 0 es.length es.length)).map DV.imm = _
  rw [hf]
  rfl
theorem rowI_map (zs : List Int) : zs.map rowI = (zs.map ivI).map imms := by simp [rowI, ivI, imms, Function.comp_def]
theorem rowB_map (zs : List Bool) : zs.map rowB = (zs.map ivB1).map imms := by simp [rowB, ivB1, imms, Function.comp_def]
theorem eqSt_rs {a b c a' b' c' : Int} {e e' : Bool} : eqSt [.i, .i, .i, .b] [.imm (.int .i64 a), .imm (.int .i64 b), .imm (.int .i64 c), .imm (.bool e)] [.imm (.int .i64 a'), .imm (.int .i64 b'), .imm (.int .i64 c'), .imm (.bool e')] = some (dec ((⟨a, b, c, e⟩ : Rst) = ⟨a', b', c', e'⟩)) := by
  have : ((⟨a, b, c, e⟩ : Rst) = ⟨a', b', c', e'⟩) ↔ ((a == a') && ((b == b') && ((c == c') && ((e == e') && true)))) = true := by simp [Rst.mk.injEq]
  rw [dec_congr this]
  simp only [eqSt, eqSc, if_true]
  cases h : ((a == a') && ((b == b') && ((c == c') && ((e == e') && true)))) with
  | true => rw [dec_t rfl]
  | false => rw [dec_f nofun]
end Go.Proofs.YtkgjgehffijepaaDoor.D

