/-
  pointsmanref5's step, call, Command. Over D.
-/
import Derived.Test.YtkgjgehffijepaaDoorK25
set_option linter.unusedVariables false
set_option linter.unusedSimpArgs false
set_option maxHeartbeats 16000000
namespace Go.Proofs.YtkgjgehffijepaaDoor.D
open Go Go.PM Go.Lib
theorem set_self {α : Type} {xs : List α} {i : Nat} {y : α} (h : i < xs.length) : (xs.set i y)[i]? = some y := by simp [h]
theorem step5_run {d : Nat} (hd : 4 ≤ d) {H : PT HB} {p : Nat} {own : List Nat} {l : Lo} {rs : List Rst} (ok : LoOk l) (is : ISL l) (lk : LkAt H p own l rs) {ov lv : IV} {os : List Bool} {ls : List Int} (io : InOk ov lv os ls) (mi : MI l os ls) {r : Nat} (hr : r < l.rts.length) (ro : RsOk l r (nth rs r)) {n : Nat} :
    ∃ v H' n', K DG (d + 1) 50 [.ptr p 0 0, inD ov lv, .imm (.int .i64 r)] H n 0 = some (v, H', n') ∧ LkAt H' p own l (rs.set r (stepF l os ls r (nth rs r))) ∧ n ≤ n' ∧ ∀ j, j ∉ own → H'.get j = H.get j := by
  obtain ⟨x, h1, h2, h3, h4⟩ := lk
  obtain ⟨id, rfl, rfl, hrs⟩ := h2.sl (by omega)
  have hpi : ¬ p = id := fun e => h3 (by simp [e])
  have rk := ok.or _ (nth_mem hr)
  have pl := rk.p.len
  simp only [List.length_map] at pl
  have hr1 : (r : Int) < l.rts.length := by omega
  have p1 := (is.rr r hr).p1
  have p5 := is.p5 r hr
  have ix := fun {h : Nat → Option HB} {n : Nat} => idx_sl (h := h) (n := n) ok.r (by omega) (k := .i64) (z := (r : Int)) (by omega) hr1
  have iy := fun {n : Nat} => idx_hp (h := H.get) (n := n) (id := id) (row := 0) (len := rs.length) (cap := rs.length) hrs rfl (k := .i64) (z := (r : Int)) (by omega) (by omega)
  have ip := fun {h : Nat → Option HB} {n : Nat} => idx_sl (h := h) (n := n) rk.p (by omega) (k := .i64) (z := (0 : Int)) (by omega) (by omega)
  have hpin := path_in is hr (nth_mem (xs := (nth l.rts r).path) (i := 0) (by omega))
  have io' := fun {h : Nat → Option HB} {n : Nat} => idx_in (h := h) (n := n) io.o (by omega) (k := .i64) (z := nth (nth l.rts r).path 0) (by rw [mi.1]; exact hpin)
  have ea := Right_dec (D := d) (by omega) ok is io mi hr
  have hrow : (rs.map rowRS)[r]? = some (rowRS (nth rs r)) := by rw [List.getElem?_map, nth_get (by omega)]; rfl
  have hset := set_lk h1 h3 h4 (by omega) (stepF l os ls r (nth rs r)) (r := r)
  have hlen : r < (rs.map rowRS).length := by simp; omega
  have ss := fun y : List DV => set_self (y := y) hlen
  generalize hws : rs.set r (stepF l os ls r (nth rs r)) = ws at hset ⊢
  generalize hrr : rs.map rowRS = rows at hrs hrow hset hlen ss
  have g3 := ro.g3
  have t8 := ro.t8
  have t6 := ro.t6
  have hmd := ro.md
  have ht0 := ro.t0
  have ht : (nth rs r).timer ≤ 100 := by
    by_cases m1 : (nth rs r).mode = 1
    · have := ro.t8 m1; omega
    by_cases m4 : (nth rs r).mode = 4
    · have := ro.t6 m4; omega
    have := ro.tz m1 m4; omega
  generalize nth rs r = y at *
  have ipg := fun {h : Nat → Option HB} {n : Nat} (h3 : y.mode = 3) => idx_sl (h := h) (n := n) rk.p (by omega) (k := .i64) (z := y.gone) (g3 h3).1 (g3 h3).2
  have iog := fun {h : Nat → Option HB} {n : Nat} (h3 : y.mode = 3) => idx_in (h := h) (n := n) io.o (by omega) (k := .i64) (z := nth (nth l.rts r).path y.gone.toNat) (by rw [mi.1]; exact path_in is hr (nth_mem (by have := g3 h3; omega)))
  simp only [Int.toNat_natCast, Nat.zero_add] at iy ix
  have key : Fe (K DG (d + 1) 50 [.ptr p 0 0, inD ov lv, .imm (.int .i64 r)] H n 0) (fun v H' n' => n ≤ n' ∧ H'.get id = some ⟨4, rows.set r (rowRS (stepF l os ls r y))⟩ ∧ ∀ j, ¬ j = id → H'.get j = H.get j) := by
    clear hset
    rw [D.k50]
    refine fn_dw rfl ?_
    obtain ⟨ym, yt, yg, ys⟩ := y
    simp only at hmd ht0 ht t8 t6 g3 ipg iog
    have hc : ym = 0 ∨ ym = 1 ∨ ym = 2 ∨ ym = 3 ∨ ym = 4 := by omega
    have hw : IntKind.i64.wrap (yt + 1) = yt + 1 := wr_id (by omega) (by omega)
    have same : rows.set r (rowRS ⟨ym, yt, yg, ys⟩) = rows := by
      refine List.ext_getElem? fun k => ?_
      rw [List.getElem?_set]
      split
      · rename_i e; subst e; rw [hrow]
      · rfl
    rcases hc with rfl | rfl | rfl | rfl | rfl
    · have e : stepF l os ls r ⟨0, yt, yg, ys⟩ = ⟨0, yt, yg, ys⟩ := by simp [stepF, dec_false]
      rw [e, same]
      simp [io.o.scal, io.l.scal, h1, hrs, ix, iy, ip, io', hrow, pl, ivRt, ivI, ivB1, evParts, lay, B6, undT, fnEnd, argsT, PT.get_put, keep, opRun, ev, evs, evO, give, giveI, binOf, isNilK, PM.flip, putT, putL, putH, loadOf, storeOf, cut, over, ofCells, asNat, natOr, calm, clashes, Acc.clash, ressOf, resOf, frz, frz.frzs, DV.flat, DV.flat.flats, imms]
      all_goals omega
    · by_cases hL : Lie l ls r
      · rw [dec_t hL] at ea
        have e : stepF l os ls r ⟨1, yt, yg, ys⟩ = ⟨2, 0, 0, false⟩ := by simp [stepF, dec_true, dec_t hL]
        rw [e]
        simp [io.o.scal, io.l.scal, ok.s.scal, ok.p.scal, ok.g.scal, ok.r.scal, h1, hrs, ix, iy, ip, io', hrow, pl, ea, ivRt, ivI, ivB1, evParts, lay, rowRS, B6, undT, fnEnd, argsT, PT.get_put, keep, opRun, ev, evs, evO, give, giveI, binOf, isNilK, PM.flip, putT, putL, putH, loadOf, storeOf, cut, over, ofCells, asNat, natOr, calm, clashes, Acc.clash, ressOf, resOf, frz, frz.frzs, DV.flat, DV.flat.flats, imms]
        all_goals first | omega | (intro j hj; simp [hj])
      · rw [dec_f hL] at ea
        have e : stepF l os ls r ⟨1, yt, yg, ys⟩ = laterF ⟨1, yt, yg, ys⟩ 8 := by simp [stepF, dec_true, dec_f hL]
        rw [e]
        by_cases h8 : 8 < yt + 1
        · have e : laterF ⟨1, yt, yg, ys⟩ 8 = rs0 := by simp [laterF, dec_t h8]
          rw [e]
          have j8 := ilt_t h8
          simp [io.o.scal, io.l.scal, ok.s.scal, ok.p.scal, ok.g.scal, ok.r.scal, h1, hrs, ix, iy, ip, io', hrow, ss, List.set_set, pl, ea, hw, j8, ivRt, ivI, ivB1, evParts, lay, rowRS, B6, undT, fnEnd, argsT, PT.get_put, keep, opRun, ev, evs, evO, give, giveI, binOf, isNilK, PM.flip, putT, putL, putH, loadOf, storeOf, cut, over, ofCells, asNat, natOr, calm, clashes, Acc.clash, ressOf, resOf, frz, frz.frzs, DV.flat, DV.flat.flats, imms]
          all_goals first | omega | (intro j hj; simp [hj])
        · have e : laterF ⟨1, yt, yg, ys⟩ 8 = ⟨1, yt + 1, yg, ys⟩ := by simp [laterF, dec_f h8]
          rw [e]
          have j8 := ilt_f (show yt + 1 ≤ 8 by omega)
          simp [io.o.scal, io.l.scal, ok.s.scal, ok.p.scal, ok.g.scal, ok.r.scal, h1, hrs, ix, iy, ip, io', hrow, ss, List.set_set, pl, ea, hw, j8, ivRt, ivI, ivB1, evParts, lay, rowRS, B6, undT, fnEnd, argsT, PT.get_put, keep, opRun, ev, evs, evO, give, giveI, binOf, isNilK, PM.flip, putT, putL, putH, loadOf, storeOf, cut, over, ofCells, asNat, natOr, calm, clashes, Acc.clash, ressOf, resOf, frz, frz.frzs, DV.flat, DV.flat.flats, imms]
          all_goals first | omega | (intro j hj; simp [hj])
    · cases ho : nth os (nth (nth l.rts r).path 0).toNat with
      | true =>
        have e : stepF l os ls r ⟨2, yt, yg, ys⟩ = ⟨3, 0, 0, true⟩ := by simp [stepF, dec_true, dec_false, ho]
        rw [e]
        simp [io.o.scal, io.l.scal, h1, hrs, ix, iy, ip, io', hrow, ho, pl, ivRt, ivI, ivB1, evParts, lay, rowRS, B6, undT, fnEnd, argsT, PT.get_put, keep, opRun, ev, evs, evO, give, giveI, binOf, isNilK, PM.flip, putT, putL, putH, loadOf, storeOf, cut, over, ofCells, asNat, natOr, calm, clashes, Acc.clash, ressOf, resOf, frz, frz.frzs, DV.flat, DV.flat.flats, imms]
        all_goals first | omega | (intro j hj; simp [hj])
      | false =>
        have e : stepF l os ls r ⟨2, yt, yg, ys⟩ = ⟨2, yt, yg, ys⟩ := by simp [stepF, dec_true, dec_false, ho]
        rw [e, same]
        simp [io.o.scal, io.l.scal, h1, hrs, ix, iy, ip, io', hrow, ho, pl, ivRt, ivI, ivB1, evParts, lay, B6, undT, fnEnd, argsT, PT.get_put, keep, opRun, ev, evs, evO, give, giveI, binOf, isNilK, PM.flip, putT, putL, putH, loadOf, storeOf, cut, over, ofCells, asNat, natOr, calm, clashes, Acc.clash, ressOf, resOf, frz, frz.frzs, DV.flat, DV.flat.flats, imms]
        all_goals omega
    · have i1 := fun {h : Nat → Option HB} {n : Nat} => ipg (h := h) (n := n) rfl
      have i2 := fun {h : Nat → Option HB} {n : Nat} => iog (h := h) (n := n) rfl
      have gg := g3 rfl
      have hwg : IntKind.i64.wrap (yg + 1) = yg + 1 := wr_id (by omega) (by omega)
      have e : stepF l os ls r ⟨3, yt, yg, ys⟩ = usedF l os r ⟨3, yt, yg, ys⟩ := by simp [stepF, dec_true, dec_false]
      rw [e]
      cases ho : nth os (nth (nth l.rts r).path yg.toNat).toNat with
      | true =>
        have e : usedF l os r ⟨3, yt, yg, ys⟩ = ⟨3, yt, yg, true⟩ := by simp [usedF, ho]
        rw [e]
        simp [io.o.scal, io.l.scal, h1, hrs, ix, iy, ip, io', i1, i2, hrow, ho, pl, ivRt, ivI, ivB1, evParts, lay, rowRS, B6, undT, fnEnd, argsT, PT.get_put, keep, opRun, ev, evs, evO, give, giveI, binOf, isNilK, PM.flip, putT, putL, putH, loadOf, storeOf, cut, over, ofCells, asNat, natOr, calm, clashes, Acc.clash, ressOf, resOf, frz, frz.frzs, DV.flat, DV.flat.flats, imms]
        all_goals first | omega | (intro j hj; simp [hj])
      | false =>
        cases ys with
        | true =>
          by_cases hg : yg + 1 < (nth l.rts r).path.length
          · have e : usedF l os r ⟨3, yt, yg, true⟩ = ⟨3, yt, yg + 1, false⟩ := by simp [usedF, ho, dec_t hg]
            rw [e]
            have hne : ¬ yg + 1 = ((nth l.rts r).path.length : Int) := by omega
            simp [io.o.scal, io.l.scal, h1, hrs, ix, iy, ip, io', i1, i2, hrow, ss, List.set_set, ho, hwg, hne, pl, ivRt, ivI, ivB1, evParts, lay, rowRS, B6, undT, fnEnd, argsT, PT.get_put, keep, opRun, ev, evs, evO, give, giveI, binOf, isNilK, PM.flip, putT, putL, putH, loadOf, storeOf, cut, over, ofCells, asNat, natOr, calm, clashes, Acc.clash, ressOf, resOf, frz, frz.frzs, DV.flat, DV.flat.flats, imms]
            all_goals first | omega | (intro j hj; simp [hj])
          · have e : usedF l os r ⟨3, yt, yg, true⟩ = rs0 := by simp [usedF, ho, dec_f hg]
            rw [e]
            have hne : yg + 1 = ((nth l.rts r).path.length : Int) := by omega
            rw [hne] at hwg
            simp [io.o.scal, io.l.scal, h1, hrs, ix, iy, ip, io', i1, i2, hrow, ss, List.set_set, ho, hwg, hne, pl, ivRt, ivI, ivB1, evParts, lay, rowRS, B6, undT, fnEnd, argsT, PT.get_put, keep, opRun, ev, evs, evO, give, giveI, binOf, isNilK, PM.flip, putT, putL, putH, loadOf, storeOf, cut, over, ofCells, asNat, natOr, calm, clashes, Acc.clash, ressOf, resOf, frz, frz.frzs, DV.flat, DV.flat.flats, imms]
            all_goals first | omega | (intro j hj; simp [hj])
        | false =>
          have e : usedF l os r ⟨3, yt, yg, false⟩ = ⟨3, yt, yg, false⟩ := by simp [usedF, ho]
          rw [e, same]
          simp [io.o.scal, io.l.scal, h1, hrs, ix, iy, ip, io', i1, i2, hrow, ho, pl, ivRt, ivI, ivB1, evParts, lay, rowRS, B6, undT, fnEnd, argsT, PT.get_put, keep, opRun, ev, evs, evO, give, giveI, binOf, isNilK, PM.flip, putT, putL, putH, loadOf, storeOf, cut, over, ofCells, asNat, natOr, calm, clashes, Acc.clash, ressOf, resOf, frz, frz.frzs, DV.flat, DV.flat.flats, imms]
          all_goals omega
    · cases ho : nth os (nth (nth l.rts r).path 0).toNat with
      | true =>
        have e : stepF l os ls r ⟨4, yt, yg, ys⟩ = ⟨3, 0, 0, true⟩ := by simp [stepF, dec_true, dec_false, ho]
        rw [e]
        simp [io.o.scal, io.l.scal, h1, hrs, ix, iy, ip, io', hrow, ho, pl, ivRt, ivI, ivB1, evParts, lay, rowRS, B6, undT, fnEnd, argsT, PT.get_put, keep, opRun, ev, evs, evO, give, giveI, binOf, isNilK, PM.flip, putT, putL, putH, loadOf, storeOf, cut, over, ofCells, asNat, natOr, calm, clashes, Acc.clash, ressOf, resOf, frz, frz.frzs, DV.flat, DV.flat.flats, imms]
        all_goals first | omega | (intro j hj; simp [hj])
      | false =>
        have e : stepF l os ls r ⟨4, yt, yg, ys⟩ = laterF ⟨4, yt, yg, ys⟩ 5 := by simp [stepF, dec_true, dec_false, ho]
        rw [e]
        have h6 := t6 rfl
        by_cases h5 : 5 < yt + 1
        · have e : laterF ⟨4, yt, yg, ys⟩ 5 = rs0 := by simp [laterF, dec_t h5]
          rw [e]
          have j6 : yt + 1 = 6 := by omega
          rw [j6] at hw
          simp [io.o.scal, io.l.scal, h1, hrs, ix, iy, ip, io', hrow, ho, ss, List.set_set, hw, j6, pl, ivRt, ivI, ivB1, evParts, lay, rowRS, B6, undT, fnEnd, argsT, PT.get_put, keep, opRun, ev, evs, evO, give, giveI, binOf, isNilK, PM.flip, putT, putL, putH, loadOf, storeOf, cut, over, ofCells, asNat, natOr, calm, clashes, Acc.clash, ressOf, resOf, frz, frz.frzs, DV.flat, DV.flat.flats, imms]
          all_goals first | omega | (intro j hj; simp [hj])
        · have e : laterF ⟨4, yt, yg, ys⟩ 5 = ⟨4, yt + 1, yg, ys⟩ := by simp [laterF, dec_f h5]
          rw [e]
          have j6 : ¬ yt + 1 = 6 := by omega
          simp [io.o.scal, io.l.scal, h1, hrs, ix, iy, ip, io', hrow, ho, ss, List.set_set, hw, j6, pl, ivRt, ivI, ivB1, evParts, lay, rowRS, B6, undT, fnEnd, argsT, PT.get_put, keep, opRun, ev, evs, evO, give, giveI, binOf, isNilK, PM.flip, putT, putL, putH, loadOf, storeOf, cut, over, ofCells, asNat, natOr, calm, clashes, Acc.clash, ressOf, resOf, frz, frz.frzs, DV.flat, DV.flat.flats, imms]
          all_goals first | omega | (intro j hj; simp [hj])
  obtain ⟨v, H', n', e, hn, hid, hfr⟩ := key
  refine ⟨v, H', n', e, hset.mono fun i hi => ?_, hn, fun j hj => hfr j (by simpa using hj)⟩
  by_cases hi' : i = id
  · subst hi'; rw [hid]; simp [PT.get_put]
  · rw [hfr i hi']; simp [PT.get_put, hi']
structure IL0 (H : PT HB) (p n0 : Nat) (ov lv : IV) (l : Lo) (rs : List Rst) (r : Nat) (i : Nat) (st : St) : Prop where
  h0 : st.T.get 0 = some (.ptr p 0 0)
  h2 : st.T.get 2 = some (.imm (.int .i64 r))
  b4 : Box st 4 [ov, lv]
  h7 : st.T.get 7 = some (.imm (.int .i64 i))
  hh : st.H = H
  hn : n0 ≤ st.n
  all : ∀ s, s < i → (nth rs s).mode ≠ 0 → ¬ CF l r s
theorem loopL0 {d : Nat} (hd : 3 ≤ d) {H : PT HB} {p n0 : Nat} {own : List Nat} {l : Lo} {rs : List Rst} (ok : LoOk l) (is : ISL l) (lk : LkAt H p own l rs) {ov lv : IV} {r : Nat} (hr : r < l.rts.length) {os : List Bool} {ls : List Int} {ks : List Kf} {st : St} {Q : Ex → St → Prop}
    (h : IL0 H p n0 ov lv l rs r 0 st) (hk : ∀ e st', (e = .ret ∧ st'.H = H ∧ n0 ≤ st'.n ∧ st'.T.get 6 = some (.imm (.int .i64 8)) ∧ ¬ FRE l rs os ls r) ∨ (e = .exit 0 ∧ IL0 H p n0 ov lv l rs r l.rts.length st') → Bk DG (K DG d) 0 e ks st' Q) :
    Wp DG (K DG d) 0 D.l48_0 ks st Q := by
  obtain ⟨x, h1, h2, h3, h4⟩ := lk
  have xl := h2.len
  rw [h4] at xl
  refine dw_loop (N := l.rts.length) (small ok.lr) (IL0 H p n0 ov lv l rs r) (fun e st' => (e = .ret ∧ st'.H = H ∧ n0 ≤ st'.n ∧ st'.T.get 6 = some (.imm (.int .i64 8)) ∧ ¬ FRE l rs os ls r) ∨ (e = .exit 0 ∧ IL0 H p n0 ov lv l rs r l.rts.length st')) (fun i st hle hI => ?_) h (fun e s' h => hk e s' h)
  obtain ⟨g0, g2, ⟨i4, g4, L4⟩, g7, hH, hn, hall⟩ := hI
  by_cases hi : i < l.rts.length
  · have hi1 : (i : Int) < l.rts.length := by omega
    have hi' := ilt_t hi1
    have hw8 : IntKind.i64.wrap ((i : Int) + 1) = (i : Int) + 1 := wr_succ hi ok.lr
    obtain ⟨id, rfl, rfl, hrs⟩ := h2.sl (by omega)
    have iy := fun {n : Nat} => idx_hp (h := H.get) (n := n) (id := id) (row := 0) (len := rs.length) (cap := rs.length) hrs rfl (k := .i64) (z := (i : Int)) (by omega) (by omega)
    have hrow : (rs.map rowRS)[i]? = some (rowRS (nth rs i)) := by rw [List.getElem?_map, nth_get (by omega)]; rfl
    generalize hrr : rs.map rowRS = rows at hrs hrow
    simp only [Int.toNat_natCast, Nat.zero_add, h4] at iy
    simp only [h4] at h1
    have hc := Conflict4_bl (D := d) hd ok is.few hr hi
    have no : (nth rs i).mode ≠ 0 → CF l r i → ¬ FRE l rs os ls r := fun a b h => h.cf i hi a b
    generalize hQ : (fun (e : Ex) (s' : St) => _) = Q'
    simp only [D.l48_0b]
    by_cases hm : (nth rs i).mode = 0
    · simp [g0, g2, g4, L4, g7, hH, h1, hi', hw8, iy, hrs, hrow, hm, B6, undT, fnEnd, argsT, PT.get_put, keep, opRun, ev, evs, evO, give, giveI, binOf, isNilK, PM.flip, putT, putL, putH, loadOf, storeOf, cut, over, ofCells, asNat, natOr, calm, clashes, Acc.clash, ressOf, resOf, frz, frz.frzs, DV.flat, DV.flat.flats, imms]
      subst hQ
      refine .inl ⟨rfl, hi, by simp [PT.get_put], by simp [PT.get_put], ⟨i4, by simp [PT.get_put], by simp [PT.get_put, imms]⟩, by simp [PT.get_put], rfl, by simp; omega, fun s hs => ?_⟩
      rcases Nat.lt_or_eq_of_le (Nat.le_of_lt_succ hs) with hs | rfl
      · exact hall s hs
      · exact fun h => absurd hm h
    · by_cases hcf : CF l r i
      · rw [dec_t hcf] at hc
        simp [g0, g2, g4, L4, g7, hH, h1, hi', hw8, iy, hrs, hrow, hm, hc, B6, undT, fnEnd, argsT, PT.get_put, keep, opRun, ev, evs, evO, give, giveI, binOf, isNilK, PM.flip, putT, putL, putH, loadOf, storeOf, cut, over, ofCells, asNat, natOr, calm, clashes, Acc.clash, ressOf, resOf, frz, frz.frzs, DV.flat, DV.flat.flats, imms]
        subst hQ
        exact .inr ⟨nofun, .inl ⟨rfl, rfl, by simp; omega, by simp [PT.get_put], no hm hcf⟩⟩
      · rw [dec_f hcf] at hc
        simp [g0, g2, g4, L4, g7, hH, h1, hi', hw8, iy, hrs, hrow, hm, hc, B6, undT, fnEnd, argsT, PT.get_put, keep, opRun, ev, evs, evO, give, giveI, binOf, isNilK, PM.flip, putT, putL, putH, loadOf, storeOf, cut, over, ofCells, asNat, natOr, calm, clashes, Acc.clash, ressOf, resOf, frz, frz.frzs, DV.flat, DV.flat.flats, imms]
        subst hQ
        refine .inl ⟨rfl, hi, by simp [PT.get_put], by simp [PT.get_put], ⟨i4, by simp [PT.get_put], by simp [PT.get_put, imms]⟩, by simp [PT.get_put], rfl, by simp; omega, fun s hs => ?_⟩
        rcases Nat.lt_or_eq_of_le (Nat.le_of_lt_succ hs) with hs | rfl
        · exact hall s hs
        · exact fun _ => hcf
  · obtain rfl : i = l.rts.length := by omega
    generalize hQ : (fun (e : Ex) (s' : St) => _) = Q'
    simp only [D.l48_0b]
    simp [g0, g2, g4, L4, g7, hH, h1, xl, B6, undT, fnEnd, argsT, PT.get_put, keep, opRun, ev, evs, evO, give, giveI, binOf, isNilK, PM.flip, putT, putL, putH, loadOf, storeOf, cut, over, ofCells, asNat, natOr, calm, clashes, Acc.clash, ressOf, resOf, frz, frz.frzs, DV.flat, DV.flat.flats, imms]
    subst hQ
    exact .inr ⟨nofun, .inr ⟨rfl, by simp [PT.get_put, g0], by simp [PT.get_put, g2], ⟨i4, by simp [PT.get_put, g4], by simp [PT.get_put, L4, imms]⟩, by simp [PT.get_put, g7], rfl, hn, hall⟩⟩
structure IL1 (H : PT HB) (p n0 : Nat) (nv ov lv : IV) (l : Lo) (rs : List Rst) (os : List Bool) (ls : List Int) (r : Nat) (i : Nat) (st : St) : Prop where
  h0 : st.T.get 0 = some (.ptr p 0 0)
  h2 : st.T.get 2 = some (.imm (.int .i64 r))
  b4 : Box st 4 [ov, lv]
  h8 : st.T.get 8 = some (.imm nv)
  h9 : st.T.get 9 = some (.imm (.int .i64 i))
  hh : st.H = H
  hn : n0 ≤ st.n
  all : ∀ j, j < i → NFree l rs os ls (nth (nd (nth l.rts r)) j)
theorem loopL1 {d : Nat} (hd : 3 ≤ d) {H : PT HB} {p n0 : Nat} {own : List Nat} {l : Lo} {rs : List Rst} (ok : LoOk l) (is : ISL l) (lk : LkAt H p own l rs) (go : GoneOk l rs) {ov lv : IV} {os : List Bool} {ls : List Int} (io : InOk ov lv os ls) (mi : MI l os ls) {r : Nat} (hr : r < l.rts.length) {nv : IV} (hv : Sl 2 nv ((nd (nth l.rts r)).map ivN)) {ks : List Kf} {st : St} {Q : Ex → St → Prop}
    (h : IL1 H p n0 nv ov lv l rs os ls r 0 st) (hk : ∀ e st', (e = .ret ∧ st'.H = H ∧ n0 ≤ st'.n ∧ st'.T.get 6 = some (.imm (.int .i64 8)) ∧ ¬ FRE l rs os ls r) ∨ (e = .exit 2 ∧ IL1 H p n0 nv ov lv l rs os ls r (nd (nth l.rts r)).length st') → Bk DG (K DG d) 0 e ks st' Q) :
    Wp DG (K DG d) 0 D.l48_1 ks st Q := by
  have hrb := rb3
  obtain ⟨d, rfl⟩ : ∃ d', d = d' + 1 := ⟨d - 1, by omega⟩
  have vl := hv.len
  simp only [List.length_map] at vl
  have hnl : (nd (nth l.rts r)).length ≤ reachBytes := by have := is.few r hr; simp [nd]; omega
  refine dw_loop (N := (nd (nth l.rts r)).length) (small hnl) (IL1 H p n0 nv ov lv l rs os ls r) (fun e st' => (e = .ret ∧ st'.H = H ∧ n0 ≤ st'.n ∧ st'.T.get 6 = some (.imm (.int .i64 8)) ∧ ¬ FRE l rs os ls r) ∨ (e = .exit 2 ∧ IL1 H p n0 nv ov lv l rs os ls r (nd (nth l.rts r)).length st')) (fun i st hle hI => ?_) h (fun e s' h => hk e s' h)
  obtain ⟨g0, g2, ⟨i4, g4, L4⟩, g8, g9, hH, hn, hall⟩ := hI
  have lk0 := lk
  obtain ⟨x, h1, h2, h3, h4⟩ := lk
  by_cases hi : i < (nd (nth l.rts r)).length
  · have hi1 : (i : Int) < (nd (nth l.rts r)).length := by omega
    have hi' := ilt_t hi1
    have hw8 : IntKind.i64.wrap ((i : Int) + 1) = (i : Int) + 1 := wr_succ hi hnl
    have ix := fun {h : Nat → Option HB} {n : Nat} => idx_sl (h := h) (n := n) hv (by omega) (k := .i64) (z := (i : Int)) (by omega) hi1
    have no : ¬ NFree l rs os ls (nth (nd (nth l.rts r)) i) → ¬ FRE l rs os ls r := fun a h => a (h.nf i hi)
    have hmem := nth_mem hi
    have yes : NFree l rs os ls (nth (nd (nth l.rts r)) i) → ∀ j, j < i + 1 → NFree l rs os ls (nth (nd (nth l.rts r)) j) := fun h j hj => by
      rcases Nat.lt_or_eq_of_le (Nat.le_of_lt_succ hj) with hj | rfl
      · exact hall j hj
      · exact h
    simp only [Int.toNat_natCast] at ix
    generalize hgx : nth (nd (nth l.rts r)) i = y at *
    have hpt := nd_in is hr hmem
    have hsec := sec_in is hr hmem
    have ip := fun {h : Nat → Option HB} {n : Nat} => idx_in (h := h) (n := n) ok.p (by omega) (k := .i64) (z := y.pt) hpt
    have il := fun {h : Nat → Option HB} {n : Nat} => idx_in (h := h) (n := n) io.l (by omega) (k := .i64) (z := y.pt) (by rw [mi.2.1]; exact hpt)
    have io' := fun {h : Nat → Option HB} {n : Nat} => idx_in (h := h) (n := n) io.o (by omega) (k := .i64) (z := secOf l y) (by rw [mi.1]; exact hsec)
    have hs := Side_bl (D := d + 1) (by omega) y.pt y.rev
    have ho := fun n lo => Holder5_run (d := d) (by omega) ok is lk0 go (secOf l y) (n := n) (lo := lo)
    have nfr : NFree l rs os ls y ↔ (nth ls y.pt.toNat = pos y ∨ (nth os (secOf l y).toNat = false ∧ hol l rs (secOf l y) < 0)) := Iff.rfl
    simp only [secOf] at io' ho nfr
    generalize hQ : (fun (e : Ex) (s' : St) => _) = Q'
    simp only [D.l48_1b]
    by_cases hly : nth ls y.pt.toNat = pos y
    · simp [g0, g2, g4, L4, g8, g9, hH, hi', hw8, vl, ix, ip, il, h1, hs, hly, ivN, ivP, ivI, imms, B6, undT, fnEnd, argsT, PT.get_put, keep, opRun, ev, evs, evO, give, giveI, binOf, isNilK, PM.flip, putT, putL, putH, loadOf, storeOf, cut, over, ofCells, asNat, natOr, calm, clashes, Acc.clash, ressOf, resOf, frz, frz.frzs, DV.flat, DV.flat.flats, imms]
      subst hQ
      exact .inl ⟨rfl, hi, by simp [PT.get_put], by simp [PT.get_put], ⟨i4, by simp [PT.get_put], by simp [PT.get_put, imms]⟩, by simp [PT.get_put], by simp [PT.get_put], rfl, by simp; omega, yes (.inl hly)⟩
    · cases hoc : nth os (nth l.pts y.pt.toNat).sec.toNat with
      | true =>
        simp [g0, g2, g4, L4, g8, g9, hH, hi', hw8, vl, ix, ip, il, io', hoc, h1, hs, hly, ivN, ivP, ivI, ivB1, imms, B6, undT, fnEnd, argsT, PT.get_put, keep, opRun, ev, evs, evO, give, giveI, binOf, isNilK, PM.flip, putT, putL, putH, loadOf, storeOf, cut, over, ofCells, asNat, natOr, calm, clashes, Acc.clash, ressOf, resOf, frz, frz.frzs, DV.flat, DV.flat.flats, imms]
        subst hQ
        exact .inr ⟨nofun, .inl ⟨rfl, rfl, by simp; omega, by simp [PT.get_put], no fun h => (nfr.1 h).elim hly fun h => by rw [hoc] at h; cases h.1⟩⟩
      | false =>
        obtain ⟨n2, e2, hn2⟩ := ho st.n st.n
        by_cases hho : hol l rs (nth l.pts y.pt.toNat).sec < 0
        · have hj := ilt_t hho
          simp [g0, g2, g4, L4, g8, g9, hH, hi', hw8, vl, ix, ip, il, io', hoc, h1, hs, hly, e2, hj, ivN, ivP, ivI, ivB1, imms, B6, undT, fnEnd, argsT, PT.get_put, keep, opRun, ev, evs, evO, give, giveI, binOf, isNilK, PM.flip, putT, putL, putH, loadOf, storeOf, cut, over, ofCells, asNat, natOr, calm, clashes, Acc.clash, ressOf, resOf, frz, frz.frzs, DV.flat, DV.flat.flats, imms]
          subst hQ
          exact .inl ⟨rfl, hi, by simp [PT.get_put], by simp [PT.get_put], ⟨i4, by simp [PT.get_put], by simp [PT.get_put, imms]⟩, by simp [PT.get_put], by simp [PT.get_put], rfl, by simp; omega, yes (.inr ⟨hoc, hho⟩)⟩
        · have hj := ilt_f (show 0 ≤ hol l rs (nth l.pts y.pt.toNat).sec by omega)
          simp [g0, g2, g4, L4, g8, g9, hH, hi', hw8, vl, ix, ip, il, io', hoc, h1, hs, hly, e2, hj, ivN, ivP, ivI, ivB1, imms, B6, undT, fnEnd, argsT, PT.get_put, keep, opRun, ev, evs, evO, give, giveI, binOf, isNilK, PM.flip, putT, putL, putH, loadOf, storeOf, cut, over, ofCells, asNat, natOr, calm, clashes, Acc.clash, ressOf, resOf, frz, frz.frzs, DV.flat, DV.flat.flats, imms]
          subst hQ
          exact .inr ⟨nofun, .inl ⟨rfl, rfl, by simp; omega, by simp [PT.get_put], no fun h => (nfr.1 h).elim hly fun h => hho h.2⟩⟩
  · obtain rfl : i = (nd (nth l.rts r)).length := by omega
    generalize hQ : (fun (e : Ex) (s' : St) => _) = Q'
    simp only [D.l48_1b]
    simp [g0, g2, g4, L4, g8, g9, hH, vl, B6, undT, fnEnd, argsT, PT.get_put, keep, opRun, ev, evs, evO, give, giveI, binOf, isNilK, PM.flip, putT, putL, putH, loadOf, storeOf, cut, over, ofCells, asNat, natOr, calm, clashes, Acc.clash, ressOf, resOf, frz, frz.frzs, DV.flat, DV.flat.flats, imms]
    subst hQ
    exact .inr ⟨nofun, .inr ⟨rfl, by simp [PT.get_put, g0], by simp [PT.get_put, g2], ⟨i4, by simp [PT.get_put, g4], by simp [PT.get_put, L4, imms]⟩, by simp [PT.get_put, g8], by simp [PT.get_put, g9], rfl, hn, hall⟩⟩
theorem call5_run {d : Nat} (hd : 4 ≤ d) {H : PT HB} {p : Nat} {own : List Nat} {l : Lo} {rs : List Rst} (ok : LoOk l) (is : ISL l) (lk : LkAt H p own l rs) (go : GoneOk l rs) {ov lv : IV} {os : List Bool} {ls : List Int} (io : InOk ov lv os ls) (mi : MI l os ls) {r : Nat} (hr : r < l.rts.length) {n : Nat} :
    Does (K DG (d + 1) 48 [.ptr p 0 0, inD ov lv, .imm (.int .i64 r)] H n 0) H n p own l (.imm (.int .i64 (callF l rs os ls r).1)) (callF l rs os ls r).2 := by
  have lk0 := lk
  obtain ⟨x, h1, h2, h3, h4⟩ := lk
  obtain ⟨id, rfl, rfl, hrs⟩ := h2.sl (by omega)
  have hpi : ¬ p = id := fun e => h3 (by simp [e])
  have iy := fun {n : Nat} => idx_hp (h := H.get) (n := n) (id := id) (row := 0) (len := rs.length) (cap := rs.length) hrs rfl (k := .i64) (z := (r : Int)) (by omega) (by omega)
  have hrow : (rs.map rowRS)[r]? = some (rowRS (nth rs r)) := by rw [List.getElem?_map, nth_get (by omega)]; rfl
  have hset := set_lk h1 h3 h4 (by omega) ⟨1, 0, 0, false⟩ (r := r)
  obtain ⟨nv, en, hv⟩ := Needs4_bl (D := d) (by omega) ok hr (is.few r hr).1 (is.few r hr).2
  have ec := Clear_dec (D := d) (by omega) ok is io mi hr
  simp only [Int.toNat_natCast, Nat.zero_add] at iy
  have key : Fe (K DG (d + 1) 48 [.ptr p 0 0, inD ov lv, .imm (.int .i64 r)] H n 0) (fun v H' n' => v = .imm (.int .i64 (callF l rs os ls r).1) ∧ LkAt H' p [id] l (callF l rs os ls r).2 ∧ n ≤ n' ∧ ∀ j, j ∉ [id] → H'.get j = H.get j) := by
    rw [D.k48]
    refine fn_dw rfl ?_
    by_cases m0 : (nth rs r).mode = 0
    · have busy : ¬ FRE l rs os ls r → callF l rs os ls r = (8, rs) := fun h => by simp [callF, dec_t m0, dec_f h]
      have free : FRE l rs os ls r → callF l rs os ls r = (0, rs.set r ⟨1, 0, 0, false⟩) := fun h => by simp [callF, dec_t m0, dec_t h]
      generalize callF l rs os ls r = cf at busy free ⊢
      generalize hrr : rs.map rowRS = rows at hrs hrow hset
      generalize hws : rs.set r ⟨1, 0, 0, false⟩ = ws at hset free
      simp [io.o.scal, io.l.scal, h1, hrs, iy, hrow, m0, rowRS, B6, undT, fnEnd, argsT, PT.get_put, keep, opRun, ev, evs, evO, give, giveI, binOf, isNilK, PM.flip, putT, putL, putH, loadOf, storeOf, cut, over, ofCells, asNat, natOr, calm, clashes, Acc.clash, ressOf, resOf, frz, frz.frzs, DV.flat, DV.flat.flats, imms]
      refine loopL0 (n0 := n) (os := os) (ls := ls) (ov := ov) (lv := lv) (r := r) (by omega) ok is lk0 hr ⟨by simp [PT.get_put], by simp [PT.get_put], ⟨n, by simp [PT.get_put], by simp [PT.get_put, imms]⟩, by simp [PT.get_put], rfl, by simp, fun s hs => by omega⟩ ?_
      rintro e st' (⟨rfl, hH, hn, g6, hno⟩ | ⟨rfl, g0, g2, ⟨i4, g4, L4⟩, g7, hH, hn, hcf⟩)
      · rw [busy hno]
        simp [g6, hH, hn, B6, undT, fnEnd, argsT, PT.get_put, keep, opRun, ev, evs, evO, give, giveI, binOf, isNilK, PM.flip, putT, putL, putH, loadOf, storeOf, cut, over, ofCells, asNat, natOr, calm, clashes, Acc.clash, ressOf, resOf, frz, frz.frzs, DV.flat, DV.flat.flats, imms]
        exact lk0
      simp [g0, g2, g4, L4, hH, h1, en, ok.s.scal, ok.p.scal, ok.g.scal, ok.r.scal, B6, undT, fnEnd, argsT, PT.get_put, keep, opRun, ev, evs, evO, give, giveI, binOf, isNilK, PM.flip, putT, putL, putH, loadOf, storeOf, cut, over, ofCells, asNat, natOr, calm, clashes, Acc.clash, ressOf, resOf, frz, frz.frzs, DV.flat, DV.flat.flats, imms]
      refine loopL1 (n0 := n) (by omega) ok is lk0 go io mi hr hv ⟨by simp [PT.get_put, g0], by simp [PT.get_put, g2], ⟨i4, by simp [PT.get_put, g4], by simp [PT.get_put, L4, imms]⟩, by simp [PT.get_put], by simp [PT.get_put], rfl, by simp; omega, fun j hj => by omega⟩ ?_
      rintro e st2 (⟨rfl, hH2, hn2, g6, hno⟩ | ⟨rfl, f0, f2, ⟨i5, f4, M4⟩, f8, f9, hH2, hn2, hnf⟩)
      · rw [busy hno]
        simp [g6, hH2, hn2, B6, undT, fnEnd, argsT, PT.get_put, keep, opRun, ev, evs, evO, give, giveI, binOf, isNilK, PM.flip, putT, putL, putH, loadOf, storeOf, cut, over, ofCells, asNat, natOr, calm, clashes, Acc.clash, ressOf, resOf, frz, frz.frzs, DV.flat, DV.flat.flats, imms]
        exact lk0
      by_cases hP : ∃ z ∈ (nth l.rts r).path, nth os z.toNat = true
      · rw [dec_f fun h => h hP] at ec
        rw [busy fun h => h.oc hP]
        simp [f0, f2, f4, M4, hH2, h1, ec, hn2, ok.s.scal, ok.p.scal, ok.g.scal, ok.r.scal, io.o.scal, io.l.scal, imms, B6, undT, fnEnd, argsT, PT.get_put, keep, opRun, ev, evs, evO, give, giveI, binOf, isNilK, PM.flip, putT, putL, putH, loadOf, storeOf, cut, over, ofCells, asNat, natOr, calm, clashes, Acc.clash, ressOf, resOf, frz, frz.frzs, DV.flat, DV.flat.flats, imms]
        exact lk0
      · rw [dec_t hP] at ec
        rw [free ⟨hcf, hnf, hP⟩]
        simp [f0, f2, f4, M4, hH2, h1, hrs, iy, hrow, ec, hn2, ok.s.scal, ok.p.scal, ok.g.scal, ok.r.scal, io.o.scal, io.l.scal, imms, rowRS, evParts, lay, B6, undT, fnEnd, argsT, PT.get_put, keep, opRun, ev, evs, evO, give, giveI, binOf, isNilK, PM.flip, putT, putL, putH, loadOf, storeOf, cut, over, ofCells, asNat, natOr, calm, clashes, Acc.clash, ressOf, resOf, frz, frz.frzs, DV.flat, DV.flat.flats, imms]
        exact ⟨hset, fun j hj => by simp [PT.get_put, hj]⟩
    · have e : callF l rs os ls r = (7, rs) := by simp [callF, dec_f m0]
      rw [e]
      generalize hrr : rs.map rowRS = rows at hrs hrow
      simp [io.o.scal, io.l.scal, h1, hrs, iy, hrow, m0, rowRS, B6, undT, fnEnd, argsT, PT.get_put, keep, opRun, ev, evs, evO, give, giveI, binOf, isNilK, PM.flip, putT, putL, putH, loadOf, storeOf, cut, over, ofCells, asNat, natOr, calm, clashes, Acc.clash, ressOf, resOf, frz, frz.frzs, DV.flat, DV.flat.flats, imms]
      exact lk0
  obtain ⟨v, H', n', e, rfl, a, b, c⟩ := key
  exact ⟨H', n', e, a, b, c⟩
theorem Command5_run {d : Nat} (hd : 5 ≤ d) {H : PT HB} {p : Nat} {own : List Nat} {l : Lo} {rs : List Rst} (ok : LoOk l) (is : ISL l) (lk : LkAt H p own l rs) (go : GoneOk l rs) {ov lv : IV} {os : List Bool} {ls : List Int} (io : InOk ov lv os ls) (c r : Int) {n : Nat} :
    Does (K DG (d + 1) 24 [.ptr p 0 0, inD ov lv, .agg [.imm (.int .i64 c), .imm (.int .i64 r)]] H n 0) H n p own l (.imm (.int .i64 (cmdF l rs os ls c r).1)) (cmdF l rs os ls c r).2 := by
  obtain ⟨d, rfl⟩ : ∃ d', d = d' + 1 := ⟨d - 1, by omega⟩
  have lk0 := lk
  obtain ⟨x, h1, h2, h3, h4⟩ := lk
  have xl := h2.len
  rw [h4] at xl
  have em := MayIn5_bl (D := d + 1) (by omega) ok io
  suffices key : Fe (K DG (d + 1 + 1) 24 [.ptr p 0 0, inD ov lv, .agg [.imm (.int .i64 c), .imm (.int .i64 r)]] H n 0) (fun v H' n' => v = .imm (.int .i64 (cmdF l rs os ls c r).1) ∧ LkAt H' p own l (cmdF l rs os ls c r).2 ∧ n ≤ n' ∧ ∀ j, j ∉ own → H'.get j = H.get j) by
    obtain ⟨v, H', n', e, rfl, a, b, c⟩ := key
    exact ⟨H', n', e, a, b, c⟩
  rw [D.k24]
  refine fn_dw rfl ?_
  by_cases hm : MI l os ls
  · rw [dec_t hm] at em
    by_cases hc : c ≠ 1 ∧ c ≠ 2
    · have e : cmdF l rs os ls c r = (1, rs) := by simp only [cmdF, dec_t (show ¬ MI l os ls ∨ (c ≠ 1 ∧ c ≠ 2) from .inr hc), cond_true]
      rw [e]
      simp [io.o.scal, io.l.scal, h1, em, hc.1, hc.2, ok.s.scal, ok.p.scal, ok.g.scal, ok.r.scal, imms, B6, undT, fnEnd, argsT, PT.get_put, keep, opRun, ev, evs, evO, give, giveI, binOf, isNilK, PM.flip, putT, putL, putH, loadOf, storeOf, cut, over, ofCells, asNat, natOr, calm, clashes, Acc.clash, ressOf, resOf, frz, frz.frzs, DV.flat, DV.flat.flats, imms]
      exact ⟨lk0, by omega⟩
    · have hn1 : ¬ (¬ MI l os ls ∨ (c ≠ 1 ∧ c ≠ 2)) := fun h => h.elim (fun h => h hm) hc
      have h12 : c = 1 ∨ c = 2 := by omega
      by_cases hr : InR r l.rts.length
      · have hrn : r.toNat < l.rts.length := by have := hr.1; have := hr.2; omega
        have hre : ((r.toNat : Nat) : Int) = r := by have := hr.1; omega
        have j0 := ilt_f hr.1
        have j1 := ilt_t hr.2
        rcases h12 with rfl | rfl
        · obtain ⟨H', n', e5, lk5, hn5, fr5⟩ := call5_run (d := d) (by omega) ok is lk0 go io hm hrn (n := n + 1 + 1)
          rw [hre] at e5
          have e : cmdF l rs os ls 1 r = callF l rs os ls r.toNat := by simp only [cmdF, dec_f hn1, dec_t hr, dec_true, cond_true, cond_false]
          rw [e]
          simp [io.o.scal, io.l.scal, h1, xl, em, j0, j1, e5, ok.s.scal, ok.p.scal, ok.g.scal, ok.r.scal, imms, B6, undT, fnEnd, argsT, PT.get_put, keep, opRun, ev, evs, evO, give, giveI, binOf, isNilK, PM.flip, putT, putL, putH, loadOf, storeOf, cut, over, ofCells, asNat, natOr, calm, clashes, Acc.clash, ressOf, resOf, frz, frz.frzs, DV.flat, DV.flat.flats, imms]
          exact ⟨lk5, by omega, fr5⟩
        · have e : cmdF l rs os ls 2 r = cancelF rs r.toNat := by
            simp only [cmdF, dec_f hn1, dec_t hr, dec_f (show ¬ (2 : Int) = 1 by omega), cond_true, cond_false]
          rw [e]
          obtain ⟨id, rfl, rfl, hrs⟩ := h2.sl (by omega)
          have iy := fun {n : Nat} => idx_hp (h := H.get) (n := n) (id := id) (row := 0) (len := rs.length) (cap := rs.length) hrs rfl (k := .i64) (z := r) hr.1 (by have := hr.2; omega)
          have hrow : (rs.map rowRS)[r.toNat]? = some (rowRS (nth rs r.toNat)) := by rw [List.getElem?_map, nth_get (by omega)]; rfl
          have hs0 := set_lk h1 h3 h4 (by omega) rs0 (r := r.toNat)
          have hs4 := set_lk h1 h3 h4 (by omega) ⟨4, 0, 0, false⟩ (r := r.toNat)
          simp only [Nat.zero_add, h4] at iy
          simp only [h4] at h1
          by_cases m1 : (nth rs r.toNat).mode = 1
          · have e : cancelF rs r.toNat = (0, rs.set r.toNat rs0) := by simp [cancelF, dec_t m1]
            rw [e]
            generalize hrr : rs.map rowRS = rows at hrs hrow hs0
            generalize rs.set r.toNat rs0 = ws at hs0 ⊢
            simp [io.o.scal, io.l.scal, h1, em, j0, j1, hrs, iy, hrow, m1, ok.s.scal, ok.p.scal, ok.g.scal, ok.r.scal, imms, rowRS, evParts, lay, B6, undT, fnEnd, argsT, PT.get_put, keep, opRun, ev, evs, evO, give, giveI, binOf, isNilK, PM.flip, putT, putL, putH, loadOf, storeOf, cut, over, ofCells, asNat, natOr, calm, clashes, Acc.clash, ressOf, resOf, frz, frz.frzs, DV.flat, DV.flat.flats, imms]
            exact ⟨hs0, by omega, fun j hj => by simp [PT.get_put, hj]⟩
          · by_cases m2 : (nth rs r.toNat).mode = 2
            · have e : cancelF rs r.toNat = (0, rs.set r.toNat ⟨4, 0, 0, false⟩) := by simp [cancelF, dec_f m1, dec_t m2]
              rw [e]
              generalize hrr : rs.map rowRS = rows at hrs hrow hs4
              generalize rs.set r.toNat ⟨4, 0, 0, false⟩ = ws at hs4 ⊢
              simp [io.o.scal, io.l.scal, h1, em, j0, j1, hrs, iy, hrow, m1, m2, ok.s.scal, ok.p.scal, ok.g.scal, ok.r.scal, imms, rowRS, evParts, lay, B6, undT, fnEnd, argsT, PT.get_put, keep, opRun, ev, evs, evO, give, giveI, binOf, isNilK, PM.flip, putT, putL, putH, loadOf, storeOf, cut, over, ofCells, asNat, natOr, calm, clashes, Acc.clash, ressOf, resOf, frz, frz.frzs, DV.flat, DV.flat.flats, imms]
              exact ⟨hs4, by omega, fun j hj => by simp [PT.get_put, hj]⟩
            · have e : cancelF rs r.toNat = (7, rs) := by simp [cancelF, dec_f m1, dec_f m2]
              rw [e]
              generalize hrr : rs.map rowRS = rows at hrs hrow
              simp [io.o.scal, io.l.scal, h1, em, j0, j1, hrs, iy, hrow, m1, m2, ok.s.scal, ok.p.scal, ok.g.scal, ok.r.scal, imms, rowRS, evParts, lay, B6, undT, fnEnd, argsT, PT.get_put, keep, opRun, ev, evs, evO, give, giveI, binOf, isNilK, PM.flip, putT, putL, putH, loadOf, storeOf, cut, over, ofCells, asNat, natOr, calm, clashes, Acc.clash, ressOf, resOf, frz, frz.frzs, DV.flat, DV.flat.flats, imms]
              exact ⟨lk0, by omega⟩
      · have e : cmdF l rs os ls c r = (5, rs) := by simp only [cmdF, dec_f hn1, dec_f hr, cond_true, cond_false]
        rw [e]
        have hcc : ¬ c = 1 → c = 2 := fun h => h12.resolve_left h
        by_cases r0 : r < 0
        · have j0 := ilt_t r0
          rcases h12 with rfl | rfl
          · simp [io.o.scal, io.l.scal, h1, xl, em, j0, ok.s.scal, ok.p.scal, ok.g.scal, ok.r.scal, imms, B6, undT, fnEnd, argsT, PT.get_put, keep, opRun, ev, evs, evO, give, giveI, binOf, isNilK, PM.flip, putT, putL, putH, loadOf, storeOf, cut, over, ofCells, asNat, natOr, calm, clashes, Acc.clash, ressOf, resOf, frz, frz.frzs, DV.flat, DV.flat.flats, imms]
            exact ⟨lk0, by omega⟩
          · simp [io.o.scal, io.l.scal, h1, xl, em, j0, ok.s.scal, ok.p.scal, ok.g.scal, ok.r.scal, imms, B6, undT, fnEnd, argsT, PT.get_put, keep, opRun, ev, evs, evO, give, giveI, binOf, isNilK, PM.flip, putT, putL, putH, loadOf, storeOf, cut, over, ofCells, asNat, natOr, calm, clashes, Acc.clash, ressOf, resOf, frz, frz.frzs, DV.flat, DV.flat.flats, imms]
            exact ⟨lk0, by omega⟩
        · have j0 := ilt_f (show 0 ≤ r by omega)
          have j1 := ilt_f (show (l.rts.length : Int) ≤ r by unfold InR at hr; omega)
          rcases h12 with rfl | rfl
          · simp [io.o.scal, io.l.scal, h1, xl, em, j0, j1, ok.s.scal, ok.p.scal, ok.g.scal, ok.r.scal, imms, B6, undT, fnEnd, argsT, PT.get_put, keep, opRun, ev, evs, evO, give, giveI, binOf, isNilK, PM.flip, putT, putL, putH, loadOf, storeOf, cut, over, ofCells, asNat, natOr, calm, clashes, Acc.clash, ressOf, resOf, frz, frz.frzs, DV.flat, DV.flat.flats, imms]
            exact ⟨lk0, by omega⟩
          · simp [io.o.scal, io.l.scal, h1, xl, em, j0, j1, ok.s.scal, ok.p.scal, ok.g.scal, ok.r.scal, imms, B6, undT, fnEnd, argsT, PT.get_put, keep, opRun, ev, evs, evO, give, giveI, binOf, isNilK, PM.flip, putT, putL, putH, loadOf, storeOf, cut, over, ofCells, asNat, natOr, calm, clashes, Acc.clash, ressOf, resOf, frz, frz.frzs, DV.flat, DV.flat.flats, imms]
            exact ⟨lk0, by omega⟩
  · rw [dec_f hm] at em
    have e : cmdF l rs os ls c r = (1, rs) := by simp only [cmdF, dec_t (show ¬ MI l os ls ∨ (c ≠ 1 ∧ c ≠ 2) from .inl hm), cond_true]
    rw [e]
    simp [io.o.scal, io.l.scal, h1, em, ok.s.scal, ok.p.scal, ok.g.scal, ok.r.scal, imms, B6, undT, fnEnd, argsT, PT.get_put, keep, opRun, ev, evs, evO, give, giveI, binOf, isNilK, PM.flip, putT, putL, putH, loadOf, storeOf, cut, over, ofCells, asNat, natOr, calm, clashes, Acc.clash, ressOf, resOf, frz, frz.frzs, DV.flat, DV.flat.flats, imms]
    exact ⟨lk0, by omega⟩
end Go.Proofs.YtkgjgehffijepaaDoor.D
