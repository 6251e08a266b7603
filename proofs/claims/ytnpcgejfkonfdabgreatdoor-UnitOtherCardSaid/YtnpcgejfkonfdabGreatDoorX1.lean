/-
  UnitOther: what its functions compute, and the law (part 1).
-/
import Derived.Test.YtnpcgejfkonfdabGreatDoorX0
-- K14
-- K8
set_option linter.unusedVariables false
set_option linter.unusedSimpArgs false
set_option maxHeartbeats 16000000
namespace Go.Proofs.YtnpcgejfkonfdabGreatDoor.D
open Go Go.PM Go.Lib
/-! ### All points lie as a route needs them -/
def Lie (l : Lo) (ls : List Int) (r : Nat) : Prop := ∀ x ∈ nd (nth l.rts r), nth ls x.pt.toNat = pos x
theorem saysLie {d : Nat} (hd : 3 ≤ d) {ov lv : IV} {os : List Bool} {ls : List Int} (io : InOk ov lv os ls) {H : PT HB} {a n0 : Nat} (ha : H.get a = some ⟨2, [[.imm ov, .imm lv]]⟩) {xs : List Need} (hx : ∀ x ∈ xs, InR x.pt ls.length) :
    Says d 167 [.ptr a 0 0] H n0 (fun x : Need => .agg [.imm (.int .i64 x.pt), .imm (.bool x.rev)]) (fun x => ¬ nth ls x.pt.toNat = pos x) (fun x => x ∈ xs) := fun x hm n hn => by
  obtain ⟨d, rfl⟩ : ∃ d', d = d' + 1 := ⟨d - 1, by omega⟩
  have hl := lies_bl (D := d) (by omega) io (hx x hm)
  have key : Fe (K DG (d + 1) 167 [.agg [.imm (.int .i64 x.pt), .imm (.bool x.rev)], .ptr a 0 0] H n n) (fun y _ n' => n ≤ n' ∧ y = .imm (.bool (dec (¬ nth ls x.pt.toNat = pos x)))) := by
    rw [D.k167]
    refine fn_dw rfl ?_
    by_cases h : nth ls x.pt.toNat = pos x
    · rw [dec_t h] at hl
      simp [ha, hl, h, dec_true, dec_false, B6, undT, fnEnd, argsT, PT.get_put, keep, opRun, ev, evs, evO, give, giveI, binOf, isNilK, PM.flip, putT, putL, putH, loadOf, storeOf, cut, over, ofCells, asNat, natOr, calm, clashes, Acc.clash, ressOf, resOf, frz, frz.frzs, DV.flat, DV.flat.flats, imms]
    · rw [dec_f h] at hl
      simp [ha, hl, h, dec_true, dec_false, B6, undT, fnEnd, argsT, PT.get_put, keep, opRun, ev, evs, evO, give, giveI, binOf, isNilK, PM.flip, putT, putL, putH, loadOf, storeOf, cut, over, ofCells, asNat, natOr, calm, clashes, Acc.clash, ressOf, resOf, frz, frz.frzs, DV.flat, DV.flat.flats, imms]
  obtain ⟨y, H1, n1, e, h1, rfl⟩ := key
  exact ⟨H1, n1, e, h1⟩
theorem allLie_run {d : Nat} (hd : 6 ≤ d) {H : PT HB} {p : Nat} {own : List Nat} {l : Lo} {rs : List Rst} (ok : LoOk l) (is : ISL l) (lk : LkAt H p own l rs) {ov lv : IV} {os : List Bool} {ls : List Int} (io : InOk ov lv os ls) (mi : MI l os ls) {r : Nat} (hr : r < l.rts.length) {n lo : Nat} (hpn : p < n) :
    ∃ n' H', K DG (d + 1) 132 [.ptr p 0 0, inD ov lv, .imm (.int .i64 r)] H n lo = some (.imm (.bool (dec (Lie l ls r))), H', n') ∧ n ≤ n' := by
  obtain ⟨d, rfl⟩ : ∃ d', d = d' + 2 := ⟨d - 2, by omega⟩
  obtain ⟨x, h1, h2, h3, h4⟩ := lk
  have hrb := rb3
  obtain ⟨nv, en, hv⟩ := Needs_bl (D := d + 2) (by omega) ok hr (is.few r hr).1 (is.few r hr).2
  have hnl : (nd (nth l.rts r)).length ≤ reachBytes := by have := is.few r hr; simp [nd]; omega
  have hpn' : ¬ p = n := by omega
  obtain ⟨x1, H1, n1, e1, hn1, rfl⟩ := containsF_needs (d := d) (n := n + 1) (H := H.put n (some ⟨2, [[.imm ov, .imm lv]]⟩)) (f := 167) (caps := [.ptr n 0 0]) rfl (saysLie (by omega) io (by simp [PT.get_put]) fun x hx => by rw [mi.2.1]; exact nd_in is hr hx) hv hnl (n + 1)
  have hL : Lie l ls r ↔ ¬ ∃ x ∈ nd (nth l.rts r), ¬ nth ls x.pt.toNat = pos x := ⟨fun h ⟨x, hx, hn⟩ => hn (h x hx), fun h x hx => Classical.byContradiction fun hn => h ⟨x, hx, hn⟩⟩
  rw [dec_congr hL]
  generalize (∃ x ∈ nd (nth l.rts r), ¬ nth ls x.pt.toNat = pos x) = P at e1 ⊢
  have key : Fe (K DG (d + 2 + 1) 132 [.ptr p 0 0, inD ov lv, .imm (.int .i64 r)] H n lo) (fun v H' n' => v = .imm (.bool (dec (¬ P))) ∧ n ≤ n') := by
    rw [D.k132]
    refine fn_dw rfl ?_
    simp [io.o.scal, io.l.scal, hpn', h1, en, e1, B6, undT, fnEnd, argsT, PT.get_put, keep, opRun, ev, evs, evO, give, giveI, binOf, isNilK, PM.flip, putT, putL, putH, loadOf, storeOf, cut, over, ofCells, asNat, natOr, calm, clashes, Acc.clash, ressOf, resOf, frz, frz.frzs, DV.flat, DV.flat.flats, imms]
    by_cases hP : P
    · simp [hP, dec_true, dec_false]; omega
    · simp [hP, dec_true, dec_false]; omega
  obtain ⟨v, H', n', e, rfl, hn⟩ := key
  exact ⟨n', H', e, hn⟩
/-! ### How a route stands next -/
/-- What a route's state may be. -/
structure RsOk (l : Lo) (r : Nat) (x : Rst) : Prop where
  md : 0 ≤ x.mode ∧ x.mode ≤ 4
  t0 : 0 ≤ x.timer
  t8 : x.mode = 1 → x.timer ≤ 8
  t6 : x.mode = 4 → x.timer < 6
  tz : ¬ x.mode = 1 → ¬ x.mode = 4 → x.timer = 0
  g3 : x.mode = 3 → 0 ≤ x.gone ∧ x.gone < (nth l.rts r).path.length
  gz : ¬ x.mode = 3 → x.gone = 0 ∧ x.seen = false
noncomputable def laterF (x : Rst) (m : Int) : Rst := bif dec (m < x.timer + 1) then rs0 else ⟨x.mode, x.timer + 1, x.gone, x.seen⟩
noncomputable def usedF (l : Lo) (os : List Bool) (r : Nat) (x : Rst) : Rst :=
  bif nth os (nth (nth l.rts r).path x.gone.toNat).toNat then ⟨x.mode, x.timer, x.gone, true⟩
  else bif x.seen then (bif dec (x.gone + 1 < (nth l.rts r).path.length) then ⟨x.mode, x.timer, x.gone + 1, false⟩ else rs0) else x
noncomputable def stepF (l : Lo) (os : List Bool) (ls : List Int) (r : Nat) (x : Rst) : Rst :=
  bif dec (x.mode = 1) then (bif dec (Lie l ls r) then ⟨2, 0, 0, false⟩ else laterF x 8)
  else bif dec (x.mode = 2 ∨ x.mode = 4) then (bif nth os (nth (nth l.rts r).path 0).toNat then ⟨3, 0, 0, true⟩ else bif dec (x.mode = 4) then laterF x 5 else x)
  else bif dec (x.mode = 3) then usedF l os r x else x
theorem later_bl {D : Nat} (hD : 1 ≤ D) (x : Rst) (h0 : 0 ≤ x.timer) (h1 : x.timer ≤ 100) (m : Int) : bl (K DG D) 161 [.agg (rowRS x), .imm (.int .i64 m)] = some (.agg (rowRS (laterF x m))) := by
  obtain ⟨d, rfl⟩ : ∃ d, D = d + 1 := ⟨D - 1, by omega⟩
  have hw : IntKind.i64.wrap (x.timer + 1) = x.timer + 1 := wr_id (by omega) (by omega)
  have key : Fe (K DG (d + 1) 161 [.agg (rowRS x), .imm (.int .i64 m)] .lf 0 0) (fun v _ _ => v = .agg (rowRS (laterF x m))) := by
    rw [D.k161]
    refine fn_dw rfl ?_
    by_cases h : m < x.timer + 1
    · have e : laterF x m = rs0 := by simp [laterF, dec_t h]
      rw [e]
      simp [hw, ilt_t h, evParts, lay, B6, undT, fnEnd, argsT, PT.get_put, keep, opRun, ev, evs, evO, give, giveI, binOf, isNilK, PM.flip, putT, putL, putH, loadOf, storeOf, cut, over, ofCells, asNat, natOr, calm, clashes, Acc.clash, ressOf, resOf, frz, frz.frzs, DV.flat, DV.flat.flats, imms]
    · have e : laterF x m = ⟨x.mode, x.timer + 1, x.gone, x.seen⟩ := by simp [laterF, dec_f h]
      rw [e]
      simp [hw, ilt_f (show x.timer + 1 ≤ m by omega), evParts, lay, B6, undT, fnEnd, argsT, PT.get_put, keep, opRun, ev, evs, evO, give, giveI, binOf, isNilK, PM.flip, putT, putL, putH, loadOf, storeOf, cut, over, ofCells, asNat, natOr, calm, clashes, Acc.clash, ressOf, resOf, frz, frz.frzs, DV.flat, DV.flat.flats, imms]
  obtain ⟨v, H, n, e, rfl⟩ := key
  exact bl_of e rfl
theorem used_run {d : Nat} {H : PT HB} {p : Nat} {own : List Nat} {l : Lo} {rs : List Rst} (ok : LoOk l) (is : ISL l) (lk : LkAt H p own l rs) {ov lv : IV} {os : List Bool} {ls : List Int} (io : InOk ov lv os ls) (mi : MI l os ls) {r : Nat} (hr : r < l.rts.length) (ro : RsOk l r (nth rs r)) (h3' : (nth rs r).mode = 3) {n lo : Nat} :
    ∃ n', K DG (d + 1) 162 [.ptr p 0 0, inD ov lv, .imm (.int .i64 r)] H n lo = some (.agg (rowRS (usedF l os r (nth rs r))), H, n') ∧ n ≤ n' := by
  obtain ⟨x, h1, h2, h3, h4⟩ := lk
  obtain ⟨id, rfl, rfl, hrs⟩ := h2.sl (by omega)
  have rk := ok.or _ (nth_mem hr)
  have pl := rk.p.len
  simp only [List.length_map] at pl
  have hr1 : (r : Int) < l.rts.length := by omega
  have ix := fun {h : Nat → Option HB} {n : Nat} => idx_sl (h := h) (n := n) ok.r (by omega) (k := .i64) (z := (r : Int)) (by omega) hr1
  have iy := fun {n : Nat} => idx_hp (h := H.get) (n := n) (id := id) (row := 0) (len := rs.length) (cap := rs.length) hrs rfl (k := .i64) (z := (r : Int)) (by omega) (by omega)
  have hrow : (rs.map rowRS)[r]? = some (rowRS (nth rs r)) := by rw [List.getElem?_map, nth_get (by omega)]; rfl
  generalize hrr : rs.map rowRS = rows at hrs hrow
  generalize nth rs r = y at *
  simp only [Int.toNat_natCast, Nat.zero_add] at iy
  obtain ⟨g0, g1⟩ := ro.g3 h3'
  have p5 := is.p5 r hr
  have ip := fun {h : Nat → Option HB} {n : Nat} => idx_sl (h := h) (n := n) rk.p (by omega) (k := .i64) (z := y.gone) g0 g1
  have hpin := path_in is hr (nth_mem (xs := (nth l.rts r).path) (i := y.gone.toNat) (by omega))
  have io' := fun {h : Nat → Option HB} {n : Nat} => idx_in (h := h) (n := n) io.o (by omega) (k := .i64) (z := nth (nth l.rts r).path y.gone.toNat) (by rw [mi.1]; exact hpin)
  have hw : IntKind.i64.wrap (y.gone + 1) = y.gone + 1 := wr_id (by omega) (by omega)
  have j1 := ilt_t g1
  have key : Fe (K DG (d + 1) 162 [.ptr p 0 0, inD ov lv, .imm (.int .i64 r)] H n lo) (fun v H' n' => v = .agg (rowRS (usedF l os r y)) ∧ H' = H ∧ n ≤ n') := by
    rw [D.k162]
    refine fn_dw rfl ?_
    cases ho : nth os (nth (nth l.rts r).path y.gone.toNat).toNat with
    | true =>
      have e : usedF l os r y = ⟨y.mode, y.timer, y.gone, true⟩ := by simp [usedF, ho]
      rw [e]
      simp [io.o.scal, io.l.scal, h1, hrs, ix, iy, ip, io', hrow, ho, j1, pl, ivRt, ivI, ivB1, evParts, lay, B6, undT, fnEnd, argsT, PT.get_put, keep, opRun, ev, evs, evO, give, giveI, binOf, isNilK, PM.flip, putT, putL, putH, loadOf, storeOf, cut, over, ofCells, asNat, natOr, calm, clashes, Acc.clash, ressOf, resOf, frz, frz.frzs, DV.flat, DV.flat.flats, imms]
      omega
    | false =>
      cases hse : y.seen with
      | true =>
        by_cases hg : y.gone + 1 < (nth l.rts r).path.length
        · have e : usedF l os r y = ⟨y.mode, y.timer, y.gone + 1, false⟩ := by simp [usedF, ho, hse, dec_t hg]
          rw [e]
          simp [io.o.scal, io.l.scal, h1, hrs, ix, iy, ip, io', hrow, ho, hse, hw, ilt_t hg, pl, ivRt, ivI, ivB1, evParts, lay, B6, undT, fnEnd, argsT, PT.get_put, keep, opRun, ev, evs, evO, give, giveI, binOf, isNilK, PM.flip, putT, putL, putH, loadOf, storeOf, cut, over, ofCells, asNat, natOr, calm, clashes, Acc.clash, ressOf, resOf, frz, frz.frzs, DV.flat, DV.flat.flats, imms]
          omega
        · have e : usedF l os r y = rs0 := by simp [usedF, ho, hse, dec_f hg]
          rw [e]
          simp [io.o.scal, io.l.scal, h1, hrs, ix, iy, ip, io', hrow, ho, hse, hw, ilt_f (show ((nth l.rts r).path.length : Int) ≤ y.gone + 1 by omega), pl, ivRt, ivI, ivB1, evParts, lay, B6, undT, fnEnd, argsT, PT.get_put, keep, opRun, ev, evs, evO, give, giveI, binOf, isNilK, PM.flip, putT, putL, putH, loadOf, storeOf, cut, over, ofCells, asNat, natOr, calm, clashes, Acc.clash, ressOf, resOf, frz, frz.frzs, DV.flat, DV.flat.flats, imms]
          omega
      | false =>
        have e : usedF l os r y = y := by simp [usedF, ho, hse]
        rw [e]
        simp [io.o.scal, io.l.scal, h1, hrs, ix, iy, ip, io', hrow, ho, hse, j1, pl, ivRt, ivI, ivB1, evParts, lay, B6, undT, fnEnd, argsT, PT.get_put, keep, opRun, ev, evs, evO, give, giveI, binOf, isNilK, PM.flip, putT, putL, putH, loadOf, storeOf, cut, over, ofCells, asNat, natOr, calm, clashes, Acc.clash, ressOf, resOf, frz, frz.frzs, DV.flat, DV.flat.flats, imms]
        omega
  obtain ⟨v, H', n', e, rfl, rfl, hn⟩ := key
  exact ⟨n', e, hn⟩
end Go.Proofs.YtnpcgejfkonfdabGreatDoor.D

-- K9
set_option linter.unusedVariables false
set_option linter.unusedSimpArgs false
set_option maxHeartbeats 16000000
namespace Go.Proofs.YtnpcgejfkonfdabGreatDoor.D
open Go Go.PM Go.Lib
theorem step_run {d : Nat} (hd : 8 ≤ d) {H : PT HB} {p : Nat} {own : List Nat} {l : Lo} {rs : List Rst} (ok : LoOk l) (is : ISL l) (lk : LkAt H p own l rs) {ov lv : IV} {os : List Bool} {ls : List Int} (io : InOk ov lv os ls) (mi : MI l os ls) {r : Nat} (hr : r < l.rts.length) (ro : RsOk l r (nth rs r)) {n lo : Nat} (hpn : p < n) :
    ∃ n', K DG (d + 1) 129 [.ptr p 0 0, inD ov lv, .imm (.int .i64 r)] H n lo = some (.agg (rowRS (stepF l os ls r (nth rs r))), H, n') ∧ n ≤ n' := by
  obtain ⟨d, rfl⟩ : ∃ d', d = d' + 1 := ⟨d - 1, by omega⟩
  have lk0 := lk
  obtain ⟨x, h1, h2, h3, h4⟩ := lk
  obtain ⟨id, rfl, rfl, hrs⟩ := h2.sl (by omega)
  have rk := ok.or _ (nth_mem hr)
  have pl := rk.p.len
  simp only [List.length_map] at pl
  have hr1 : (r : Int) < l.rts.length := by omega
  have hr2 : (r : Int) < (rs.length : Int) := by omega
  have p1 := (is.rr r hr).p1
  have ix := fun {h : Nat → Option HB} {n : Nat} => idx_sl (h := h) (n := n) ok.r (by omega) (k := .i64) (z := (r : Int)) (by omega) hr1
  have iy := fun {n : Nat} => idx_hp (h := H.get) (n := n) (id := id) (row := 0) (len := rs.length) (cap := rs.length) hrs rfl (k := .i64) (z := (r : Int)) (by omega) (by omega)
  have ip := fun {h : Nat → Option HB} {n : Nat} => idx_sl (h := h) (n := n) rk.p (by omega) (k := .i64) (z := (0 : Int)) (by omega) (by omega)
  have hpin := path_in is hr (nth_mem (xs := (nth l.rts r).path) (i := 0) (by omega))
  have io' := fun {h : Nat → Option HB} {n : Nat} => idx_in (h := h) (n := n) io.o (by omega) (k := .i64) (z := nth (nth l.rts r).path 0) (by rw [mi.1]; exact hpin)
  obtain ⟨na, Ha, ea, hna⟩ := allLie_run (d := d) (by omega) ok is lk0 io mi hr (n := n + 1 + 1 + 1) (lo := n + 1 + 1 + 1) (by omega)
  have lt := later_bl (D := d + 1) (by omega) (nth rs r) ro.t0 (by
    by_cases m1 : (nth rs r).mode = 1
    · have := ro.t8 m1; omega
    by_cases m4 : (nth rs r).mode = 4
    · have := ro.t6 m4; omega
    have := ro.tz m1 m4; omega)
  have us := fun (h : (nth rs r).mode = 3) => used_run (d := d) ok is lk0 io mi hr ro h (n := n + 1 + 1 + 1) (lo := n + 1 + 1 + 1)
  have hrow : (rs.map rowRS)[r]? = some (rowRS (nth rs r)) := by rw [List.getElem?_map, nth_get (by omega)]; rfl
  have hmd := ro.md
  generalize hrr : rs.map rowRS = rows at hrs hrow
  generalize nth rs r = y at *
  simp only [Int.toNat_natCast, Nat.zero_add] at iy
  have key : Fe (K DG (d + 1 + 1) 129 [.ptr p 0 0, inD ov lv, .imm (.int .i64 r)] H n lo) (fun v H' n' => v = .agg (rowRS (stepF l os ls r y)) ∧ H' = H ∧ n ≤ n') := by
    rw [D.k129]
    refine fn_dw rfl ?_
    obtain ⟨ym, yt, yg, ys⟩ := y
    simp only at hmd
    have hc : ym = 0 ∨ ym = 1 ∨ ym = 2 ∨ ym = 3 ∨ ym = 4 := by omega
    rcases hc with rfl | rfl | rfl | rfl | rfl
    · have e : stepF l os ls r ⟨0, yt, yg, ys⟩ = ⟨0, yt, yg, ys⟩ := by simp [stepF, dec_false]
      rw [e]
      simp [io.o.scal, io.l.scal, h1, hrs, ix, iy, ip, io', hrow, pl, ivRt, ivI, ivB1, evParts, lay, B6, undT, fnEnd, argsT, PT.get_put, keep, opRun, ev, evs, evO, give, giveI, binOf, isNilK, PM.flip, putT, putL, putH, loadOf, storeOf, cut, over, ofCells, asNat, natOr, calm, clashes, Acc.clash, ressOf, resOf, frz, frz.frzs, DV.flat, DV.flat.flats, imms]
      omega
    · by_cases hL : Lie l ls r
      · rw [dec_t hL] at ea
        have e : stepF l os ls r ⟨1, yt, yg, ys⟩ = ⟨2, 0, 0, false⟩ := by simp [stepF, dec_true, dec_t hL]
        rw [e]
        simp [io.o.scal, io.l.scal, h1, hrs, ix, iy, ip, io', hrow, pl, ea, ivRt, ivI, ivB1, evParts, lay, rowRS, B6, undT, fnEnd, argsT, PT.get_put, keep, opRun, ev, evs, evO, give, giveI, binOf, isNilK, PM.flip, putT, putL, putH, loadOf, storeOf, cut, over, ofCells, asNat, natOr, calm, clashes, Acc.clash, ressOf, resOf, frz, frz.frzs, DV.flat, DV.flat.flats, imms]
        omega
      · rw [dec_f hL] at ea
        have e : stepF l os ls r ⟨1, yt, yg, ys⟩ = laterF ⟨1, yt, yg, ys⟩ 8 := by simp [stepF, dec_true, dec_f hL]
        rw [e]
        simp [io.o.scal, io.l.scal, h1, hrs, ix, iy, ip, io', hrow, pl, ea, lt, ivRt, ivI, ivB1, evParts, lay, B6, undT, fnEnd, argsT, PT.get_put, keep, opRun, ev, evs, evO, give, giveI, binOf, isNilK, PM.flip, putT, putL, putH, loadOf, storeOf, cut, over, ofCells, asNat, natOr, calm, clashes, Acc.clash, ressOf, resOf, frz, frz.frzs, DV.flat, DV.flat.flats, imms]
        omega
    · cases ho : nth os (nth (nth l.rts r).path 0).toNat with
      | true =>
        have e : stepF l os ls r ⟨2, yt, yg, ys⟩ = ⟨3, 0, 0, true⟩ := by simp [stepF, dec_true, dec_false, ho]
        rw [e]
        simp [io.o.scal, io.l.scal, h1, hrs, ix, iy, ip, io', hrow, ho, pl, ivRt, ivI, ivB1, evParts, lay, B6, undT, fnEnd, argsT, PT.get_put, keep, opRun, ev, evs, evO, give, giveI, binOf, isNilK, PM.flip, putT, putL, putH, loadOf, storeOf, cut, over, ofCells, asNat, natOr, calm, clashes, Acc.clash, ressOf, resOf, frz, frz.frzs, DV.flat, DV.flat.flats, imms]
        omega
      | false =>
        have e : stepF l os ls r ⟨2, yt, yg, ys⟩ = ⟨2, yt, yg, ys⟩ := by simp [stepF, dec_true, dec_false, ho]
        rw [e]
        simp [io.o.scal, io.l.scal, h1, hrs, ix, iy, ip, io', hrow, ho, pl, ivRt, ivI, ivB1, evParts, lay, B6, undT, fnEnd, argsT, PT.get_put, keep, opRun, ev, evs, evO, give, giveI, binOf, isNilK, PM.flip, putT, putL, putH, loadOf, storeOf, cut, over, ofCells, asNat, natOr, calm, clashes, Acc.clash, ressOf, resOf, frz, frz.frzs, DV.flat, DV.flat.flats, imms]
        omega
    · obtain ⟨nu, eu, hnu⟩ := us rfl
      have e : stepF l os ls r ⟨3, yt, yg, ys⟩ = usedF l os r ⟨3, yt, yg, ys⟩ := by simp [stepF, dec_true, dec_false]
      rw [e]
      simp [io.o.scal, io.l.scal, h1, hrs, ix, iy, ip, io', hrow, pl, eu, ivRt, ivI, ivB1, evParts, lay, B6, undT, fnEnd, argsT, PT.get_put, keep, opRun, ev, evs, evO, give, giveI, binOf, isNilK, PM.flip, putT, putL, putH, loadOf, storeOf, cut, over, ofCells, asNat, natOr, calm, clashes, Acc.clash, ressOf, resOf, frz, frz.frzs, DV.flat, DV.flat.flats, imms]
      omega
    · cases ho : nth os (nth (nth l.rts r).path 0).toNat with
      | true =>
        have e : stepF l os ls r ⟨4, yt, yg, ys⟩ = ⟨3, 0, 0, true⟩ := by simp [stepF, dec_true, dec_false, ho]
        rw [e]
        simp [io.o.scal, io.l.scal, h1, hrs, ix, iy, ip, io', hrow, ho, pl, ivRt, ivI, ivB1, evParts, lay, B6, undT, fnEnd, argsT, PT.get_put, keep, opRun, ev, evs, evO, give, giveI, binOf, isNilK, PM.flip, putT, putL, putH, loadOf, storeOf, cut, over, ofCells, asNat, natOr, calm, clashes, Acc.clash, ressOf, resOf, frz, frz.frzs, DV.flat, DV.flat.flats, imms]
        omega
      | false =>
        have e : stepF l os ls r ⟨4, yt, yg, ys⟩ = laterF ⟨4, yt, yg, ys⟩ 5 := by simp [stepF, dec_true, dec_false, ho]
        rw [e]
        simp [io.o.scal, io.l.scal, h1, hrs, ix, iy, ip, io', hrow, ho, pl, lt, ivRt, ivI, ivB1, evParts, lay, B6, undT, fnEnd, argsT, PT.get_put, keep, opRun, ev, evs, evO, give, giveI, binOf, isNilK, PM.flip, putT, putL, putH, loadOf, storeOf, cut, over, ofCells, asNat, natOr, calm, clashes, Acc.clash, ressOf, resOf, frz, frz.frzs, DV.flat, DV.flat.flats, imms]
        omega
  obtain ⟨v, H', n', e, rfl, rfl, hn⟩ := key
  exact ⟨n', e, hn⟩
end Go.Proofs.YtnpcgejfkonfdabGreatDoor.D

-- K10
set_option linter.unusedVariables false
set_option linter.unusedSimpArgs false
set_option maxHeartbeats 16000000
namespace Go.Proofs.YtnpcgejfkonfdabGreatDoor.D
open Go Go.PM Go.Lib
structure ICy (p : Nat) (own : List Nat) (l : Lo) (os : List Bool) (ls : List Int) (rs : List Rst) (ov lv : IV) (us : List DV) (H1 : PT HB) (n1 : Nat) (i : Nat) (qs : List Rst) (st : St) : Prop where
  h0 : st.T.get 0 = some (.ptr p 0 0)
  h28 : st.T.get 28 = some (.imm (.int .i64 l.rts.length))
  h29 : st.T.get 29 = some (.imm (.int .i64 i))
  b3 : BoxD st 3 [.imm ov, .imm lv]
  b4 : BoxD st 4 [.imm .nils, .imm .nils]
  b5 : BoxD st 5 us
  lk : LkAt st.H p own l qs
  fr : ∀ j, j ∉ own → st.H.get j = H1.get j
  hn : n1 ≤ st.n
  al : ∀ j, j < l.rts.length → nth qs j = if j < i then stepF l os ls j (nth rs j) else nth rs j
theorem loopCy0 {d : Nat} (hd : 9 ≤ d) {p : Nat} {own : List Nat} {l : Lo} {os : List Bool} {ls : List Int} {rs : List Rst} (ok : LoOk l) (is : ISL l) {ov lv : IV} (io : InOk ov lv os ls) (mi : MI l os ls) (ro : ∀ r, r < l.rts.length → RsOk l r (nth rs r))
    {us : List DV} {H1 : PT HB} {n1 : Nat} (hpn : p < n1) {ks : List Kf} {st : St} {Q : Ex → St → Prop} (h : ICy p own l os ls rs ov lv us H1 n1 0 rs st)
    (hk : ∀ st' qs, ICy p own l os ls rs ov lv us H1 n1 l.rts.length qs st' → Bk DG (K DG d) 0 (.exit 0) ks st' Q) : Wp DG (K DG d) 0 D.l80_0 ks st Q := by
  have hrb := rb3
  obtain ⟨d, rfl⟩ : ∃ d', d = d' + 1 := ⟨d - 1, by omega⟩
  refine dw_loop (N := l.rts.length) (small ok.lr) (fun i st => ∃ qs, ICy p own l os ls rs ov lv us H1 n1 i qs st) (fun e st' => e = .exit 0 ∧ ∃ qs, ICy p own l os ls rs ov lv us H1 n1 l.rts.length qs st') (fun i st hle hI => ?_) ⟨rs, h⟩ (fun e s' h => by obtain ⟨rfl, qs, h⟩ := h; exact hk s' qs h)
  obtain ⟨qs, h0, h28, h29, ⟨i3, h3, L3⟩, ⟨i4, h4, L4⟩, ⟨i5, h5, L5⟩, lk, fr, hn, al⟩ := hI
  by_cases hi : i < l.rts.length
  · have hi1 : (i : Int) < l.rts.length := by omega
    have hi' := ilt_t hi1
    have hw8 : IntKind.i64.wrap ((i : Int) + 1) = (i : Int) + 1 := wr_succ hi ok.lr
    have eqi : nth qs i = nth rs i := by rw [al i hi, if_neg (by omega)]
    obtain ⟨n2, e2, hn2⟩ := step_run (d := d) (by omega) ok is lk io mi hi (by rw [eqi]; exact ro i hi) (n := st.n) (lo := st.n) (by omega)
    obtain ⟨x, k1, k2, k3, k4⟩ := lk
    obtain ⟨id, rfl, rfl, hrs⟩ := k2.sl (by omega)
    have iy := fun {n : Nat} => idx_hp (h := st.H.get) (n := n) (id := id) (row := 0) (len := qs.length) (cap := qs.length) hrs rfl (k := .i64) (z := (i : Int)) (by omega) (by omega)
    have hrow : (qs.map rowRS)[i]? = some (rowRS (nth qs i)) := by rw [List.getElem?_map, nth_get (by omega)]; rfl
    have hset := set_lk k1 k3 k4 (by omega) (stepF l os ls i (nth qs i)) (r := i)
    have hal : ∀ j, j < l.rts.length → nth (qs.set i (stepF l os ls i (nth qs i))) j = if j < i + 1 then stepF l os ls j (nth rs j) else nth rs j := fun j hj => by
      by_cases hij : i = j
      · subst hij
        rw [if_pos (by omega), ← eqi]
        simp [nth, k4, hi]
      · have : nth (qs.set i (stepF l os ls i (nth qs i))) j = nth qs j := by simp [nth, List.getD, List.getElem?_set, hij]
        rw [this, al j hj]
        by_cases hji : j < i
        · rw [if_pos hji, if_pos (by omega)]
        · rw [if_neg hji, if_neg (by omega)]
    generalize qs.set i (stepF l os ls i (nth qs i)) = ws at hset hal
    generalize hrr : qs.map rowRS = rows at hrs hrow hset
    generalize stepF l os ls i (nth qs i) = y at *
    generalize nth qs i = w at *
    simp only [Int.toNat_natCast, Nat.zero_add] at iy
    generalize hQ : (fun (e : Ex) (s' : St) => _) = Q'
    simp only [D.l80_0b]
    simp [h0, h28, h29, h3, L3, h4, L4, h5, L5, hi', hw8, e2, k1, hrs, iy, hrow, rowRS, io.o.scal, io.l.scal, evParts, lay, B6, undT, fnEnd, argsT, PT.get_put, keep, opRun, ev, evs, evO, give, giveI, binOf, isNilK, PM.flip, putT, putL, putH, loadOf, storeOf, cut, over, ofCells, asNat, natOr, calm, clashes, Acc.clash, ressOf, resOf, frz, frz.frzs, DV.flat, DV.flat.flats, imms]
    subst hQ
    refine .inl ⟨rfl, hi, ws, by simp [PT.get_put], by simp [PT.get_put], by simp [PT.get_put], ⟨i3, by simp [PT.get_put], by simp [PT.get_put]⟩, ⟨i4, by simp [PT.get_put], by simp [PT.get_put]⟩, ⟨i5, by simp [PT.get_put], by simp [PT.get_put]⟩, hset, fun j hj => ?_, by simp; omega, hal⟩
    have := fr j hj
    simp at hj
    simp [PT.get_put, hj, this]
  · obtain rfl : i = l.rts.length := by omega
    generalize hQ : (fun (e : Ex) (s' : St) => _) = Q'
    simp only [D.l80_0b]
    simp [h0, h28, h29, h3, L3, h4, L4, h5, L5, B6, undT, fnEnd, argsT, PT.get_put, keep, opRun, ev, evs, evO, give, giveI, binOf, isNilK, PM.flip, putT, putL, putH, loadOf, storeOf, cut, over, ofCells, asNat, natOr, calm, clashes, Acc.clash, ressOf, resOf, frz, frz.frzs, DV.flat, DV.flat.flats, imms]
    subst hQ
    exact .inr ⟨nofun, rfl, qs, by simp [PT.get_put, h0], by simp [PT.get_put, h28], by simp [PT.get_put, h29], ⟨i3, by simp [PT.get_put, h3], by simp [PT.get_put, L3]⟩, ⟨i4, by simp [PT.get_put, h4], by simp [PT.get_put, L4]⟩, ⟨i5, by simp [PT.get_put, h5], by simp [PT.get_put, L5]⟩, lk, fr, hn, al⟩
end Go.Proofs.YtnpcgejfkonfdabGreatDoor.D

-- K11
set_option linter.unusedVariables false
set_option linter.unusedSimpArgs false
set_option maxHeartbeats 16000000
namespace Go.Proofs.YtnpcgejfkonfdabGreatDoor.D
open Go Go.PM Go.Lib
def rowI (z : Int) : List DV := [.imm (.int .i64 z)]
def DrAt (l : Lo) (rs : List Rst) (os : List Bool) (ls : List Int) (q : Nat) (z : Int) : Prop :=
  ∃ r x, r < l.rts.length ∧ (nth rs r).mode = 1 ∧ x ∈ nd (nth l.rts r) ∧ x.pt = (q : Int) ∧ z = pos x ∧ ¬ nth ls q = z ∧ nth os (nth l.pts q).sec.toNat = false ∧ (hol l rs (nth l.pts q).sec < 0 ∨ hol l rs (nth l.pts q).sec = (r : Int))
def DrOk (l : Lo) (rs : List Rst) (os : List Bool) (ls : List Int) (zs : List Int) : Prop := zs.length = l.pts.length ∧ ∀ q, q < l.pts.length → nth zs q = 0 ∨ DrAt l rs os ls q (nth zs q)
theorem DrOk.put {l : Lo} {rs : List Rst} {os : List Bool} {ls zs : List Int} (h : DrOk l rs os ls zs) {q : Nat} {z : Int} (hz : DrAt l rs os ls q z) : DrOk l rs os ls (zs.set q z) := by
  refine ⟨by simp [h.1], fun k hk => ?_⟩
  by_cases hq : q = k
  · subst hq
    right
    have : nth (zs.set q z) q = z := by simp [nth, h.1, hk]
    rw [this]; exact hz
  · have : nth (zs.set q z) k = nth zs k := by simp [nth, List.getD, List.getElem?_set, hq]
    rw [this]; exact h.2 k hk
/-- Rounds of a function. -/
def it {α : Type} (f : Nat → α → α) (z : α) : Nat → α
  | 0 => z
  | i + 1 => f i (it f z i)
theorem it_ind {α : Type} {f : Nat → α → α} {z : α} {P : α → Prop} (h0 : P z) : ∀ n, (∀ i x, i < n → P x → P (f i x)) → P (it f z n)
  | 0, _ => h0
  | n + 1, h => h n _ (by omega) (it_ind h0 n fun i x hi => h i x (by omega))
theorem it_congr {α : Type} {f g : Nat → α → α} {z : α} : ∀ n, (∀ i x, i < n → f i x = g i x) → it f z n = it g z n
  | 0, _ => rfl
  | n + 1, h => by
    show f n (it f z n) = g n (it g z n)
    rw [it_congr n fun i x hi => h i x (by omega), h n _ (by omega)]
/-- Is a need of a route driven? -/
def drC (l : Lo) (rs : List Rst) (os : List Bool) (ls : List Int) (r : Nat) (x : Need) : Prop := ¬ nth ls x.pt.toNat = pos x ∧ nth os (nth l.pts x.pt.toNat).sec.toNat = false ∧ (hol l rs (nth l.pts x.pt.toNat).sec < 0 ∨ hol l rs (nth l.pts x.pt.toNat).sec = (r : Int))
noncomputable def drN (l : Lo) (rs : List Rst) (os : List Bool) (ls : List Int) (r : Nat) (i : Nat) (zs : List Int) : List Int := bif dec (drC l rs os ls r (nth (nd (nth l.rts r)) i)) then zs.set (nth (nd (nth l.rts r)) i).pt.toNat (pos (nth (nd (nth l.rts r)) i)) else zs
noncomputable def drR (l : Lo) (rs : List Rst) (os : List Bool) (ls : List Int) (r : Nat) (zs : List Int) : List Int := bif dec ((nth rs r).mode = 1) then it (drN l rs os ls r) zs (nd (nth l.rts r)).length else zs
/-- What points are driven. -/
noncomputable def drF (l : Lo) (rs : List Rst) (os : List Bool) (ls : List Int) : List Int := it (drR l rs os ls) (List.replicate l.pts.length 0) l.rts.length
theorem drF_ok {l : Lo} (is : ISL l) {rs : List Rst} {os : List Bool} {ls : List Int} : DrOk l rs os ls (drF l rs os ls) := by
  refine it_ind (P := DrOk l rs os ls) ⟨by simp, fun q hq => .inl (by simp [nth, hq])⟩ _ fun r x hr hx => ?_
  unfold drR
  by_cases hm : (nth rs r).mode = 1
  · rw [dec_t hm]
    refine it_ind (P := DrOk l rs os ls) hx _ fun i y hi hy => ?_
    unfold drN
    have hmem := nth_mem hi
    generalize nth (nd (nth l.rts r)) i = w at *
    by_cases hc : drC l rs os ls r w
    · rw [dec_t hc]
      obtain ⟨e1, e2, e3⟩ := hc
      exact hy.put ⟨r, w, hr, hm, hmem, by have := (nd_in is hr hmem).1; omega, rfl, e1, e2, e3⟩
    · rw [dec_f hc]; exact hy
  · rw [dec_f hm]; exact hx
structure ID1 (p : Nat) (l : Lo) (rs : List Rst) (os : List Bool) (ls : List Int) (ov lv nv : IV) (sb xr : DV) (a : Nat) (H1 : PT HB) (n0 r : Nat) (z0 : List Int) (i : Nat) (zs : List Int) (st : St) : Prop where
  h0 : st.T.get 0 = some (.ptr p 0 0)
  b4 : BoxD st 4 [.imm ov, .imm lv]
  b5 : BoxD st 5 [.sl a 0 l.pts.length l.pts.length, sb]
  h6 : st.T.get 6 = some (.imm (.int .i64 r))
  h15 : st.T.get 15 = some xr
  h16 : st.T.get 16 = some (.imm (.int .i64 l.rts.length))
  h17 : st.T.get 17 = some (.imm (.int .i64 r))
  h30 : st.T.get 30 = some (.imm nv)
  h31 : st.T.get 31 = some (.imm (.int .i64 (nd (nth l.rts r)).length))
  h32 : st.T.get 32 = some (.imm (.int .i64 i))
  ha : st.H.get a = some ⟨1, zs.map rowI⟩
  fr : ∀ j, j ≠ a → st.H.get j = H1.get j
  hn : n0 ≤ st.n
  dr : zs.length = l.pts.length ∧ zs = it (drN l rs os ls r) z0 i
theorem loopD1 {d : Nat} (hd : 9 ≤ d) {p : Nat} {own : List Nat} {l : Lo} {rs : List Rst} (ok : LoOk l) (is : ISL l) {H1 : PT HB} (lk : LkAt H1 p own l rs) (go : GoneOk l rs) {ov lv : IV} {os : List Bool} {ls : List Int} (io : InOk ov lv os ls) (mi : MI l os ls) {a n0 : Nat} (hna : a ∉ p :: own) {sb : DV}
    {r : Nat} (hr : r < l.rts.length) (hm : (nth rs r).mode = 1) {nv : IV} (hv : Sl 2 nv ((nd (nth l.rts r)).map ivN)) {xr : DV} {z0 : List Int} {ks : List Kf} {st : St} {Q : Ex → St → Prop} (h : ID1 p l rs os ls ov lv nv sb xr a H1 n0 r z0 0 z0 st)
    (hk : ∀ st' zs', ID1 p l rs os ls ov lv nv sb xr a H1 n0 r z0 (nd (nth l.rts r)).length zs' st' → Bk DG (K DG d) 0 (.exit 2) ks st' Q) : Wp DG (K DG d) 0 D.l130_1 ks st Q := by
  have hrb := rb3
  obtain ⟨d, rfl⟩ : ∃ d', d = d' + 1 := ⟨d - 1, by omega⟩
  have hnl : (nd (nth l.rts r)).length ≤ reachBytes := by have := is.few r hr; simp [nd]; omega
  have p5 := is.p2
  refine dw_loop (N := (nd (nth l.rts r)).length) (small hnl) (fun i st => ∃ ws, ID1 p l rs os ls ov lv nv sb xr a H1 n0 r z0 i ws st) (fun e st' => e = .exit 2 ∧ ∃ ws, ID1 p l rs os ls ov lv nv sb xr a H1 n0 r z0 (nd (nth l.rts r)).length ws st') (fun i st hle hI => ?_) ⟨z0, h⟩ (fun e s' h => by obtain ⟨rfl, zs, h⟩ := h; exact hk s' zs h)
  obtain ⟨zs, g0, ⟨i4, g4, L4⟩, ⟨i5, g5, L5⟩, g6, g15, g16, g17, g30, g31, g32, ha, fr, hn, dr⟩ := hI
  have lk1 : LkAt st.H p own l rs := lk.mono fun j hj => fr j fun e => hna (e ▸ hj)
  have lk0 := lk1
  obtain ⟨x, h1, h2, h3, h4⟩ := lk1
  by_cases hi : i < (nd (nth l.rts r)).length
  · have hi1 : (i : Int) < (nd (nth l.rts r)).length := by omega
    have hi' := ilt_t hi1
    have hw8 : IntKind.i64.wrap ((i : Int) + 1) = (i : Int) + 1 := wr_succ hi hnl
    have ix := fun {h : Nat → Option HB} {n : Nat} => idx_sl (h := h) (n := n) hv (by omega) (k := .i64) (z := (i : Int)) (by omega) hi1
    have hmem := nth_mem hi
    simp only [Int.toNat_natCast] at ix
    generalize hgx : nth (nd (nth l.rts r)) i = y at *
    have hpt := nd_in is hr hmem
    have hsec := sec_in is hr hmem
    have ip := fun {h : Nat → Option HB} {n : Nat} => idx_in (h := h) (n := n) ok.p (by omega) (k := .i64) (z := y.pt) hpt
    have io' := fun {h : Nat → Option HB} {n : Nat} => idx_in (h := h) (n := n) io.o (by omega) (k := .i64) (z := secOf l y) (by rw [mi.1]; exact hsec)
    have hl := lies_bl (D := d + 1) (by omega) io (x := y) (by rw [mi.2.1]; exact hpt)
    have hpo := position_bl (D := d + 1) (by omega) y.pt y.rev
    have ho := fun n lo => Holder_run (d := d) (by omega) ok lk0 go is.p5 (secOf l y) (n := n) (lo := lo)
    have iy := fun {n : Nat} => idx_hp (h := st.H.get) (n := n) (id := a) (row := 0) (len := l.pts.length) (cap := l.pts.length) ha rfl (k := .i64) (z := y.pt) hpt.1 hpt.2
    have hlt : y.pt.toNat < (zs.map rowI).length := by have := hpt.1; have := hpt.2; simp [dr.1]; omega
    have hrow : (zs.map rowI)[y.pt.toNat]? = some (rowI (nth zs y.pt.toNat)) := by
      rw [List.getElem?_map, nth_get (by simpa using hlt)]; rfl
    have hset : (zs.map rowI).set y.pt.toNat (rowI (pos y)) = (zs.set y.pt.toNat (pos y)).map rowI := by simp [List.map_set]
    have dr' := dr
    have hput : drC l rs os ls r y → (zs.set y.pt.toNat (pos y)).length = l.pts.length ∧ zs.set y.pt.toNat (pos y) = it (drN l rs os ls r) z0 (i + 1) := fun e =>
      ⟨by simp [dr.1], by show _ = drN l rs os ls r i (it (drN l rs os ls r) z0 i); rw [← dr.2]; unfold drN; rw [hgx, dec_t e]; rfl⟩
    have hkeep : ¬ drC l rs os ls r y → zs.length = l.pts.length ∧ zs = it (drN l rs os ls r) z0 (i + 1) := fun e =>
      ⟨dr.1, by show _ = drN l rs os ls r i (it (drN l rs os ls r) z0 i); rw [← dr.2]; unfold drN; rw [hgx, dec_f e]; rfl⟩
    generalize hws : zs.set y.pt.toNat (pos y) = ws at hset hput
    obtain ⟨n2, e2, hn2⟩ := ho (st.n + 1) (st.n + 1)
    simp only [secOf] at io' e2
    generalize hrr : zs.map rowI = rows at ha hrow hlt hset
    simp only [Nat.zero_add] at iy
    generalize hQ : (fun (e : Ex) (s' : St) => _) = Q'
    simp only [D.l130_1b]
    by_cases hly : nth ls y.pt.toNat = pos y
    · rw [dec_t hly] at hl
      have dr := hkeep fun e => e.1 hly
      simp [g0, g4, L4, g5, L5, g6, g15, g16, g17, g30, g31, g32, hi', hw8, ix, ip, h1, hl, e2, ivN, ivP, io.o.scal, io.l.scal, B6, undT, fnEnd, argsT, PT.get_put, keep, opRun, ev, evs, evO, give, giveI, binOf, isNilK, PM.flip, putT, putL, putH, loadOf, storeOf, cut, over, ofCells, asNat, natOr, calm, clashes, Acc.clash, ressOf, resOf, frz, frz.frzs, DV.flat, DV.flat.flats, imms]
      subst hQ
      exact .inl ⟨rfl, hi, zs, by simp [PT.get_put], ⟨i4, by simp [PT.get_put], by simp [PT.get_put]⟩, ⟨i5, by simp [PT.get_put], by simp [PT.get_put]⟩, by simp [PT.get_put], by simp [PT.get_put], by simp [PT.get_put], by simp [PT.get_put], by simp [PT.get_put], by simp [PT.get_put], by simp [PT.get_put], by rw [hrr]; exact ha, fr, by simp; omega, dr⟩
    · rw [dec_f hly] at hl
      cases hoc : nth os (nth l.pts y.pt.toNat).sec.toNat with
      | true =>
        have dr := hkeep fun e => by rw [e.2.1] at hoc; cases hoc
        simp [g0, g4, L4, g5, L5, g6, g15, g16, g17, g30, g31, g32, hi', hw8, ix, ip, io', hoc, h1, hl, e2, ivN, ivP, ivB1, io.o.scal, io.l.scal, B6, undT, fnEnd, argsT, PT.get_put, keep, opRun, ev, evs, evO, give, giveI, binOf, isNilK, PM.flip, putT, putL, putH, loadOf, storeOf, cut, over, ofCells, asNat, natOr, calm, clashes, Acc.clash, ressOf, resOf, frz, frz.frzs, DV.flat, DV.flat.flats, imms]
        subst hQ
        exact .inl ⟨rfl, hi, zs, by simp [PT.get_put], ⟨i4, by simp [PT.get_put], by simp [PT.get_put]⟩, ⟨i5, by simp [PT.get_put], by simp [PT.get_put]⟩, by simp [PT.get_put], by simp [PT.get_put], by simp [PT.get_put], by simp [PT.get_put], by simp [PT.get_put], by simp [PT.get_put], by simp [PT.get_put], by rw [hrr]; exact ha, fr, by simp; omega, dr⟩
      | false =>
        by_cases hho : hol l rs (nth l.pts y.pt.toNat).sec < 0
        · have hj := ilt_t hho
          have hd := hput ⟨hly, hoc, .inl hho⟩
          simp [g0, g4, L4, g5, L5, g6, g15, g16, g17, g30, g31, g32, hi', hw8, ix, ip, io', iy, ha, hrow, hpo, hoc, h1, hl, e2, hj, ivN, ivP, ivB1, rowI, io.o.scal, io.l.scal, evParts, lay, B6, undT, fnEnd, argsT, PT.get_put, keep, opRun, ev, evs, evO, give, giveI, binOf, isNilK, PM.flip, putT, putL, putH, loadOf, storeOf, cut, over, ofCells, asNat, natOr, calm, clashes, Acc.clash, ressOf, resOf, frz, frz.frzs, DV.flat, DV.flat.flats, imms]
          subst hQ
          refine .inl ⟨rfl, hi, ws, by simp [PT.get_put], ⟨i4, by simp [PT.get_put], by simp [PT.get_put]⟩, ⟨i5, by simp [PT.get_put], by simp [PT.get_put]⟩, by simp [PT.get_put], by simp [PT.get_put], by simp [PT.get_put], by simp [PT.get_put], by simp [PT.get_put], by simp [PT.get_put], by simp [PT.get_put], ?_, ?_, by simp; omega, hd⟩
          · rw [← hset]; simp [PT.get_put, rowI]
          · intro j hj; simp [PT.get_put, hj]; exact fr j hj
        · have hj := ilt_f (show 0 ≤ hol l rs (nth l.pts y.pt.toNat).sec by omega)
          by_cases hhr : hol l rs (nth l.pts y.pt.toNat).sec = (r : Int)
          · have hd := hput ⟨hly, hoc, .inr hhr⟩
            simp [g0, g4, L4, g5, L5, g6, g15, g16, g17, g30, g31, g32, hi', hw8, ix, ip, io', iy, ha, hrow, hpo, hoc, h1, hl, e2, hj, hhr, ivN, ivP, ivB1, rowI, io.o.scal, io.l.scal, evParts, lay, B6, undT, fnEnd, argsT, PT.get_put, keep, opRun, ev, evs, evO, give, giveI, binOf, isNilK, PM.flip, putT, putL, putH, loadOf, storeOf, cut, over, ofCells, asNat, natOr, calm, clashes, Acc.clash, ressOf, resOf, frz, frz.frzs, DV.flat, DV.flat.flats, imms]
            subst hQ
            refine .inl ⟨rfl, hi, ws, by simp [PT.get_put], ⟨i4, by simp [PT.get_put], by simp [PT.get_put]⟩, ⟨i5, by simp [PT.get_put], by simp [PT.get_put]⟩, by simp [PT.get_put], by simp [PT.get_put], by simp [PT.get_put], by simp [PT.get_put], by simp [PT.get_put], by simp [PT.get_put], by simp [PT.get_put], ?_, ?_, by simp; omega, hd⟩
            · rw [← hset]; simp [PT.get_put, rowI]
            · intro j hj; simp [PT.get_put, hj]; exact fr j hj
          · have dr := hkeep fun e => e.2.2.elim hho hhr
            simp [g0, g4, L4, g5, L5, g6, g15, g16, g17, g30, g31, g32, hi', hw8, ix, ip, io', hoc, h1, hl, e2, hj, hhr, ivN, ivP, ivB1, io.o.scal, io.l.scal, B6, undT, fnEnd, argsT, PT.get_put, keep, opRun, ev, evs, evO, give, giveI, binOf, isNilK, PM.flip, putT, putL, putH, loadOf, storeOf, cut, over, ofCells, asNat, natOr, calm, clashes, Acc.clash, ressOf, resOf, frz, frz.frzs, DV.flat, DV.flat.flats, imms]
            subst hQ
            exact .inl ⟨rfl, hi, zs, by simp [PT.get_put], ⟨i4, by simp [PT.get_put], by simp [PT.get_put]⟩, ⟨i5, by simp [PT.get_put], by simp [PT.get_put]⟩, by simp [PT.get_put], by simp [PT.get_put], by simp [PT.get_put], by simp [PT.get_put], by simp [PT.get_put], by simp [PT.get_put], by simp [PT.get_put], by rw [hrr]; exact ha, fr, by simp; omega, dr⟩
  · obtain rfl : i = (nd (nth l.rts r)).length := by omega
    generalize hQ : (fun (e : Ex) (s' : St) => _) = Q'
    simp only [D.l130_1b]
    simp [g0, g4, L4, g5, L5, g6, g15, g16, g17, g30, g31, g32, B6, undT, fnEnd, argsT, PT.get_put, keep, opRun, ev, evs, evO, give, giveI, binOf, isNilK, PM.flip, putT, putL, putH, loadOf, storeOf, cut, over, ofCells, asNat, natOr, calm, clashes, Acc.clash, ressOf, resOf, frz, frz.frzs, DV.flat, DV.flat.flats, imms]
    subst hQ
    exact .inr ⟨nofun, rfl, zs, by simp [PT.get_put, g0], ⟨i4, by simp [PT.get_put, g4], by simp [PT.get_put, L4]⟩, ⟨i5, by simp [PT.get_put, g5], by simp [PT.get_put, L5]⟩, by simp [PT.get_put, g6], by simp [PT.get_put, g15], by simp [PT.get_put, g16], by simp [PT.get_put, g17], by simp [PT.get_put, g30], by simp [PT.get_put, g31], by simp [PT.get_put, g32], ha, fr, hn, dr⟩
end Go.Proofs.YtnpcgejfkonfdabGreatDoor.D

-- K12
set_option linter.unusedVariables false
set_option linter.unusedSimpArgs false
set_option maxHeartbeats 16000000
namespace Go.Proofs.YtnpcgejfkonfdabGreatDoor.D
open Go Go.PM Go.Lib
structure ID0 (p : Nat) (l : Lo) (rs : List Rst) (os : List Bool) (ls : List Int) (ov lv : IV) (sb xr : DV) (a : Nat) (H1 : PT HB) (n0 : Nat) (i : Nat) (zs : List Int) (st : St) : Prop where
  h0 : st.T.get 0 = some (.ptr p 0 0)
  b4 : BoxD st 4 [.imm ov, .imm lv]
  b5 : BoxD st 5 [.sl a 0 l.pts.length l.pts.length, sb]
  h15 : st.T.get 15 = some xr
  h16 : st.T.get 16 = some (.imm (.int .i64 l.rts.length))
  h17 : st.T.get 17 = some (.imm (.int .i64 i))
  ha : st.H.get a = some ⟨1, zs.map rowI⟩
  fr : ∀ j, j ≠ a → st.H.get j = H1.get j
  hn : n0 ≤ st.n
  dr : zs.length = l.pts.length ∧ zs = it (drR l rs os ls) (List.replicate l.pts.length 0) i
theorem loopD0 {d : Nat} (hd : 9 ≤ d) {p : Nat} {own : List Nat} {l : Lo} {rs : List Rst} (ok : LoOk l) (is : ISL l) {H1 : PT HB} {xr : DV} (hp : H1.get p = some ⟨5, [[.imm l.sv, .imm l.pv, .imm l.gv, .imm l.rv, xr]]⟩) (hr0 : RsAt H1 xr own rs) (hpo : p ∉ own) (hrl : rs.length = l.rts.length) (go : GoneOk l rs) {ov lv : IV} {os : List Bool} {ls : List Int} (io : InOk ov lv os ls) (mi : MI l os ls) {a n0 : Nat} (hna : a ∉ p :: own) {sb : DV}
    {zs : List Int} {ks : List Kf} {st : St} {Q : Ex → St → Prop} (h : ID0 p l rs os ls ov lv sb xr a H1 n0 0 zs st)
    (hk : ∀ st' zs', ID0 p l rs os ls ov lv sb xr a H1 n0 l.rts.length zs' st' → Bk DG (K DG d) 0 (.exit 0) ks st' Q) : Wp DG (K DG d) 0 D.l130_0 ks st Q := by
  have hrb := rb3
  have lk : LkAt H1 p own l rs := ⟨xr, hp, hr0, hpo, hrl⟩
  refine dw_loop (N := l.rts.length) (small ok.lr) (fun i st => ∃ zs, ID0 p l rs os ls ov lv sb xr a H1 n0 i zs st) (fun e st' => e = .exit 0 ∧ ∃ zs, ID0 p l rs os ls ov lv sb xr a H1 n0 l.rts.length zs st') (fun i st hle hI => ?_) ⟨zs, h⟩ (fun e s' h => by obtain ⟨rfl, zs, h⟩ := h; exact hk s' zs h)
  obtain ⟨zs, g0, ⟨i4, g4, L4⟩, ⟨i5, g5, L5⟩, g15, g16, g17, ha, fr, hn, dr⟩ := hI
  by_cases hi : i < l.rts.length
  · have hi1 : (i : Int) < l.rts.length := by omega
    have hi' := ilt_t hi1
    have hw8 : IntKind.i64.wrap ((i : Int) + 1) = (i : Int) + 1 := wr_succ hi ok.lr
    obtain ⟨id, rfl, rfl, hrs⟩ := hr0.sl (by omega)
    have hap : ¬ p = a := fun e => hna (by simp [e])
    have hia : ¬ id = a := fun e => hna (by simp [e])
    have hrs' : st.H.get id = some ⟨4, rs.map rowRS⟩ := by rw [fr id hia]; exact hrs
    have hp' := hp
    rw [← fr p hap] at hp'
    obtain ⟨nv, en, hv⟩ := Needs_bl (D := d) (by omega) ok hi (is.few i hi).1 (is.few i hi).2
    have vl := hv.len
    simp only [List.length_map] at vl
    have iy := fun {n : Nat} => idx_hp (h := st.H.get) (n := n) (id := id) (row := 0) (len := rs.length) (cap := rs.length) hrs' rfl (k := .i64) (z := (i : Int)) (by omega) (by omega)
    have hrow : (rs.map rowRS)[i]? = some (rowRS (nth rs i)) := by rw [List.getElem?_map, nth_get (by omega)]; rfl
    generalize hrr : rs.map rowRS = rows at hrs' hrow
    simp only [Int.toNat_natCast, Nat.zero_add] at iy
    generalize hQ : (fun (e : Ex) (s' : St) => _) = Q'
    simp only [D.l130_0b]
    by_cases hm : (nth rs i).mode = 1
    · simp [g0, g4, L4, g5, L5, g15, g16, g17, hi', hw8, iy, hp', hrs', hrow, hm, en, vl, rowRS, evParts, lay, B6, undT, fnEnd, argsT, PT.get_put, keep, opRun, ev, evs, evO, give, giveI, binOf, isNilK, PM.flip, putT, putL, putH, loadOf, storeOf, cut, over, ofCells, asNat, natOr, calm, clashes, Acc.clash, ressOf, resOf, frz, frz.frzs, DV.flat, DV.flat.flats, imms]
      refine loopD1 (n0 := n0) (H1 := H1) (nv := nv) (ov := ov) (lv := lv) (sb := sb) (a := a) (xr := .sl id 0 rs.length rs.length) (z0 := zs) hd ok is lk go io mi hna hi hm hv ⟨by simp [PT.get_put], ⟨i4, by simp [PT.get_put], by simp [PT.get_put]⟩, ⟨i5, by simp [PT.get_put], by simp [PT.get_put]⟩, by simp [PT.get_put], by simp [PT.get_put], by simp [PT.get_put], by simp [PT.get_put], by simp [PT.get_put], by simp [PT.get_put], by simp [PT.get_put], ha, fr, by simp; omega, dr.1, rfl⟩ ?_
      rintro s2 ws ⟨f0, ⟨j4, f4, M4⟩, ⟨j5, f5, M5⟩, f6, f15, f16, f17, f30, f31, f32, fa, ffr, fn, fdr⟩
      simp [f0, f4, M4, f5, M5, f6, f15, f16, f17, f30, f31, f32, hw8, B6, undT, fnEnd, argsT, PT.get_put, keep, opRun, ev, evs, evO, give, giveI, binOf, isNilK, PM.flip, putT, putL, putH, loadOf, storeOf, cut, over, ofCells, asNat, natOr, calm, clashes, Acc.clash, ressOf, resOf, frz, frz.frzs, DV.flat, DV.flat.flats, imms]
      subst hQ
      exact .inl ⟨rfl, hi, ws, by simp [PT.get_put, f0], ⟨j4, by simp [PT.get_put, f4], by simp [PT.get_put, M4]⟩, ⟨j5, by simp [PT.get_put, f5], by simp [PT.get_put, M5]⟩, by simp [PT.get_put, f15], by simp [PT.get_put, f16], by simp [PT.get_put], fa, ffr, fn, fdr.1, by show _ = drR l rs os ls i (it (drR l rs os ls) _ i); rw [← dr.2]; unfold drR; rw [dec_t hm]; exact fdr.2⟩
    · simp [g0, g4, L4, g5, L5, g15, g16, g17, hi', hw8, iy, hp', hrs', hrow, hm, rowRS, evParts, lay, B6, undT, fnEnd, argsT, PT.get_put, keep, opRun, ev, evs, evO, give, giveI, binOf, isNilK, PM.flip, putT, putL, putH, loadOf, storeOf, cut, over, ofCells, asNat, natOr, calm, clashes, Acc.clash, ressOf, resOf, frz, frz.frzs, DV.flat, DV.flat.flats, imms]
      subst hQ
      exact .inl ⟨rfl, hi, zs, by simp [PT.get_put], ⟨i4, by simp [PT.get_put], by simp [PT.get_put]⟩, ⟨i5, by simp [PT.get_put], by simp [PT.get_put]⟩, by simp [PT.get_put], by simp [PT.get_put], by simp [PT.get_put], ha, fr, by simp; omega, dr.1, by show _ = drR l rs os ls i (it (drR l rs os ls) _ i); rw [← dr.2]; unfold drR; rw [dec_f hm]; rfl⟩
  · obtain rfl : i = l.rts.length := by omega
    generalize hQ : (fun (e : Ex) (s' : St) => _) = Q'
    simp only [D.l130_0b]
    simp [g0, g4, L4, g5, L5, g15, g16, g17, B6, undT, fnEnd, argsT, PT.get_put, keep, opRun, ev, evs, evO, give, giveI, binOf, isNilK, PM.flip, putT, putL, putH, loadOf, storeOf, cut, over, ofCells, asNat, natOr, calm, clashes, Acc.clash, ressOf, resOf, frz, frz.frzs, DV.flat, DV.flat.flats, imms]
    subst hQ
    exact .inr ⟨nofun, rfl, zs, by simp [PT.get_put, g0], ⟨i4, by simp [PT.get_put, g4], by simp [PT.get_put, L4]⟩, ⟨i5, by simp [PT.get_put, g5], by simp [PT.get_put, L5]⟩, by simp [PT.get_put, g15], by simp [PT.get_put, g16], by simp [PT.get_put, g17], ha, fr, hn, dr⟩
theorem drives_run {d : Nat} (hd : 9 ≤ d) {H : PT HB} {p : Nat} {own : List Nat} {l : Lo} {rs : List Rst} (ok : LoOk l) (is : ISL l) (lk : LkAt H p own l rs) (go : GoneOk l rs) {ov lv : IV} {os : List Bool} {ls : List Int} (io : InOk ov lv os ls) (mi : MI l os ls) {a b c n : Nat} (hna : a ∉ p :: own) (ha : H.get a = some ⟨1, (List.replicate l.pts.length 0).map rowI⟩) :
    Fe (K DG (d + 1) 130 [.ptr p 0 0, inD ov lv, .agg [.sl a 0 l.pts.length l.pts.length, .sl b 0 c c]] H n 0) (fun v H' n' => n ≤ n' ∧ (∀ j, j ≠ a → H'.get j = H.get j) ∧ H'.get a = some ⟨1, (drF l rs os ls).map rowI⟩) := by
  obtain ⟨x, h1, h2, h3, h4⟩ := lk
  have xl := h2.len
  rw [h4] at xl
  rw [D.k130]
  refine fn_dw rfl ?_
  simp [io.o.scal, io.l.scal, h1, xl, B6, undT, fnEnd, argsT, PT.get_put, keep, opRun, ev, evs, evO, give, giveI, binOf, isNilK, PM.flip, putT, putL, putH, loadOf, storeOf, cut, over, ofCells, asNat, natOr, calm, clashes, Acc.clash, ressOf, resOf, frz, frz.frzs, DV.flat, DV.flat.flats, imms]
  refine loopD0 (n0 := n) (H1 := H) (ov := ov) (lv := lv) (sb := .sl b 0 c c) (a := a) (xr := x) (zs := List.replicate l.pts.length 0) hd ok is h1 h2 h3 h4 go io mi hna ⟨by simp [PT.get_put], ⟨n, by simp [PT.get_put], by simp [PT.get_put]⟩, ⟨n + 1, by simp [PT.get_put], by simp [PT.get_put]⟩, by simp [PT.get_put], by simp [PT.get_put], by simp [PT.get_put], ha, fun j hj => rfl, by simp; omega, by simp, rfl⟩ ?_
  rintro s2 ws ⟨f0, ⟨j4, f4, M4⟩, ⟨j5, f5, M5⟩, f15, f16, f17, fa, ffr, fn, fdr⟩
  simp [f0, f4, M4, f5, M5, f15, f16, f17, B6, undT, fnEnd, argsT, PT.get_put, keep, opRun, ev, evs, evO, give, giveI, binOf, isNilK, PM.flip, putT, putL, putH, loadOf, storeOf, cut, over, ofCells, asNat, natOr, calm, clashes, Acc.clash, ressOf, resOf, frz, frz.frzs, DV.flat, DV.flat.flats, imms]
  exact ⟨fn, fun j hj => ffr j hj, by rw [fdr.2] at fa; exact fa⟩
end Go.Proofs.YtnpcgejfkonfdabGreatDoor.D

-- K13
set_option linter.unusedVariables false
set_option linter.unusedSimpArgs false
set_option maxHeartbeats 16000000
namespace Go.Proofs.YtnpcgejfkonfdabGreatDoor.D
open Go Go.PM Go.Lib
def rowB (z : Bool) : List DV := [.imm (.bool z)]
def PrAt (l : Lo) (rs : List Rst) (os : List Bool) (ls : List Int) (s : Nat) : Prop := ∃ r, r < l.rts.length ∧ (nth rs r).mode = 2 ∧ (nth l.rts r).fr = (s : Int) ∧ (¬ ∃ z ∈ (nth l.rts r).path, nth os z.toNat = true) ∧ Lie l ls r
def PrOk (l : Lo) (rs : List Rst) (os : List Bool) (ls : List Int) (bs : List Bool) : Prop := bs.length = l.sigs.length ∧ ∀ s, s < l.sigs.length → nth bs s = true → PrAt l rs os ls s
theorem PrOk.put {l : Lo} {rs : List Rst} {os : List Bool} {ls : List Int} {bs : List Bool} (h : PrOk l rs os ls bs) {q : Nat} (hz : PrAt l rs os ls q) : PrOk l rs os ls (bs.set q true) := by
  refine ⟨by simp [h.1], fun k hk ht => ?_⟩
  by_cases hq : q = k
  · subst hq; exact hz
  · have : nth (bs.set q true) k = nth bs k := by simp [nth, List.getD, List.getElem?_set, hq]
    rw [this] at ht
    exact h.2 k hk ht
def prC (l : Lo) (rs : List Rst) (os : List Bool) (ls : List Int) (r : Nat) : Prop := (nth rs r).mode = 2 ∧ (¬ ∃ z ∈ (nth l.rts r).path, nth os z.toNat = true) ∧ Lie l ls r
noncomputable def prR (l : Lo) (rs : List Rst) (os : List Bool) (ls : List Int) (r : Nat) (bs : List Bool) : List Bool := bif dec (prC l rs os ls r) then bs.set (nth l.rts r).fr.toNat true else bs
/-- What signals proceed. -/
noncomputable def prF (l : Lo) (rs : List Rst) (os : List Bool) (ls : List Int) : List Bool := it (prR l rs os ls) (List.replicate l.sigs.length false) l.rts.length
theorem prF_ok {l : Lo} (is : ISL l) {rs : List Rst} {os : List Bool} {ls : List Int} : PrOk l rs os ls (prF l rs os ls) := by
  refine it_ind (P := PrOk l rs os ls) ⟨by simp, fun s hs h => by simp [nth, hs] at h⟩ _ fun r x hr hx => ?_
  unfold prR
  by_cases hm : prC l rs os ls r
  · rw [dec_t hm]
    have hfr := (is.rr r hr).fr
    exact hx.put ⟨r, hr, hm.1, by have := hfr.1; omega, hm.2.1, hm.2.2⟩
  · rw [dec_f hm]; exact hx
structure ICp (p : Nat) (l : Lo) (rs : List Rst) (os : List Bool) (ls : List Int) (ov lv : IV) (sa xr : DV) (b : Nat) (H1 : PT HB) (n0 : Nat) (i : Nat) (bs : List Bool) (st : St) : Prop where
  h0 : st.T.get 0 = some (.ptr p 0 0)
  b3 : BoxD st 3 [.imm ov, .imm lv]
  b4 : BoxD st 4 [.imm .nils, .imm .nils]
  b5 : BoxD st 5 [sa, .sl b 0 l.sigs.length l.sigs.length]
  h50 : st.T.get 50 = some xr
  h51 : st.T.get 51 = some (.imm (.int .i64 l.rts.length))
  h52 : st.T.get 52 = some (.imm (.int .i64 i))
  hb : st.H.get b = some ⟨1, bs.map rowB⟩
  fr : ∀ j, j ≠ b → st.H.get j = H1.get j
  hn : n0 ≤ st.n
  pr : bs.length = l.sigs.length ∧ bs = it (prR l rs os ls) (List.replicate l.sigs.length false) i
theorem loopCy1 {d : Nat} (hd : 9 ≤ d) {p : Nat} {own : List Nat} {l : Lo} {rs : List Rst} (ok : LoOk l) (is : ISL l) {H1 : PT HB} {xr : DV} (hp : H1.get p = some ⟨5, [[.imm l.sv, .imm l.pv, .imm l.gv, .imm l.rv, xr]]⟩) (hr0 : RsAt H1 xr own rs) (hpo : p ∉ own) (hrl : rs.length = l.rts.length) {ov lv : IV} {os : List Bool} {ls : List Int} (io : InOk ov lv os ls) (mi : MI l os ls) {b n0 : Nat} (hnb : b ∉ p :: own) (hpn : p < n0) {a c : Nat}
    {bs : List Bool} {ks : List Kf} {st : St} {Q : Ex → St → Prop} (h : ICp p l rs os ls ov lv (.sl a 0 c c) xr b H1 n0 0 bs st)
    (hk : ∀ st' bs', ICp p l rs os ls ov lv (.sl a 0 c c) xr b H1 n0 l.rts.length bs' st' → Bk DG (K DG d) 0 (.exit 2) ks st' Q) : Wp DG (K DG d) 0 D.l80_1 ks st Q := by
  have hrb := rb3
  obtain ⟨d, rfl⟩ : ∃ d', d = d' + 1 := ⟨d - 1, by omega⟩
  have g6 := is.g2
  refine dw_loop (N := l.rts.length) (small ok.lr) (fun i st => ∃ bs, ICp p l rs os ls ov lv (.sl a 0 c c) xr b H1 n0 i bs st) (fun e st' => e = .exit 2 ∧ ∃ bs, ICp p l rs os ls ov lv (.sl a 0 c c) xr b H1 n0 l.rts.length bs st') (fun i st hle hI => ?_) ⟨bs, h⟩ (fun e s' h => by obtain ⟨rfl, bs, h⟩ := h; exact hk s' bs h)
  obtain ⟨bs, g0, ⟨i3, g3, L3⟩, ⟨i4, g4, L4⟩, ⟨i5, g5, L5⟩, g50, g51, g52, hb, fr, hn, pr⟩ := hI
  by_cases hi : i < l.rts.length
  · have hi1 : (i : Int) < l.rts.length := by omega
    have hi' := ilt_t hi1
    have hw8 : IntKind.i64.wrap ((i : Int) + 1) = (i : Int) + 1 := wr_succ hi ok.lr
    have lk : LkAt H1 p own l rs := ⟨xr, hp, hr0, hpo, hrl⟩
    have lk1 : LkAt st.H p own l rs := lk.mono fun j hj => fr j fun e => hnb (e ▸ hj)
    obtain ⟨id, rfl, rfl, hrs⟩ := hr0.sl (by omega)
    have hbp : ¬ p = b := fun e => hnb (by simp [e])
    have hib : ¬ id = b := fun e => hnb (by simp [e])
    have hrs' : st.H.get id = some ⟨4, rs.map rowRS⟩ := by rw [fr id hib]; exact hrs
    have hp' := hp
    rw [← fr p hbp] at hp'
    have rk := ok.or _ (nth_mem hi)
    have hfr := (is.rr i hi).fr
    obtain ⟨n2, Ha, ea, hn2⟩ := allLie_run (d := d) (by omega) ok is lk1 io mi hi (n := st.n + 1 + 1) (lo := st.n + 1 + 1) (by omega)
    have oc := isOcc_bl (D := d + 1) (by omega) io rk.p rk.lp fun z hz => by rw [mi.1]; exact path_in is hi hz
    have ix := fun {h : Nat → Option HB} {n : Nat} => idx_sl (h := h) (n := n) ok.r (by omega) (k := .i64) (z := (i : Int)) (by omega) hi1
    have iy := fun {n : Nat} => idx_hp (h := st.H.get) (n := n) (id := id) (row := 0) (len := rs.length) (cap := rs.length) hrs' rfl (k := .i64) (z := (i : Int)) (by omega) (by omega)
    have hrow : (rs.map rowRS)[i]? = some (rowRS (nth rs i)) := by rw [List.getElem?_map, nth_get (by omega)]; rfl
    have iz := fun {n : Nat} => idx_hp (h := st.H.get) (n := n) (id := b) (row := 0) (len := l.sigs.length) (cap := l.sigs.length) hb rfl (k := .i64) (z := (nth l.rts i).fr) hfr.1 hfr.2
    have hlt : (nth l.rts i).fr.toNat < bs.length := by have := hfr.1; have := hfr.2; rw [pr.1]; omega
    have hrob : (bs.map rowB)[(nth l.rts i).fr.toNat]? = some (rowB (nth bs (nth l.rts i).fr.toNat)) := by
      rw [List.getElem?_map, nth_get hlt]; rfl
    have hset : (bs.map rowB).set (nth l.rts i).fr.toNat (rowB true) = (bs.set (nth l.rts i).fr.toNat true).map rowB := by simp [List.map_set]
    have hput : (nth rs i).mode = 2 → (¬ ∃ z ∈ (nth l.rts i).path, nth os z.toNat = true) → Lie l ls i → (bs.set (nth l.rts i).fr.toNat true).length = l.sigs.length ∧ bs.set (nth l.rts i).fr.toNat true = it (prR l rs os ls) (List.replicate l.sigs.length false) (i + 1) := fun e1 e2 e3 =>
      ⟨by simp [pr.1], by show _ = prR l rs os ls i (it (prR l rs os ls) _ i); rw [← pr.2]; unfold prR; rw [dec_t ⟨e1, e2, e3⟩]; rfl⟩
    have hkeep : ¬ ((nth rs i).mode = 2 ∧ (¬ ∃ z ∈ (nth l.rts i).path, nth os z.toNat = true) ∧ Lie l ls i) → bs = it (prR l rs os ls) (List.replicate l.sigs.length false) (i + 1) := fun e => by
      show _ = prR l rs os ls i (it (prR l rs os ls) _ i); rw [← pr.2]; unfold prR; rw [dec_f (p := prC l rs os ls i) e]; rfl
    generalize bs.set (nth l.rts i).fr.toNat true = ws at hset hput
    generalize (∃ z ∈ (nth l.rts i).path, nth os z.toNat = true) = P at oc hput hkeep
    generalize Lie l ls i = R at ea hput hkeep
    generalize hrr : rs.map rowRS = rows at hrs' hrow
    generalize hrb : bs.map rowB = rowb at hb hrob hset
    simp only [Int.toNat_natCast, Nat.zero_add] at iy iz ix
    generalize hQ : (fun (e : Ex) (s' : St) => _) = Q'
    simp only [D.l80_1b]
    have old : ∀ s2 : St, s2.T.get 0 = some (.ptr p 0 0) → BoxD s2 3 [.imm ov, .imm lv] → BoxD s2 4 [.imm .nils, .imm .nils] → BoxD s2 5 [.sl a 0 c c, .sl b 0 l.sigs.length l.sigs.length] → s2.T.get 50 = some (.sl id 0 rs.length rs.length) → s2.T.get 51 = some (.imm (.int .i64 l.rts.length)) → s2.T.get 52 = some (.imm (.int .i64 ((i + 1 : Nat) : Int))) → s2.H = st.H → n0 ≤ s2.n → ¬ ((nth rs i).mode = 2 ∧ (¬ P) ∧ R) → ∃ bs, ICp p l rs os ls ov lv (.sl a 0 c c) (.sl id 0 rs.length rs.length) b H1 n0 (i + 1) bs s2 := fun s2 a1 a2 a3 a4 a5 a6 a7 a8 a9 b1 =>
      ⟨bs, a1, a2, a3, a4, a5, a6, a7, by rw [a8, hrb]; exact hb, by rw [a8]; exact fr, a9, pr.1, hkeep b1⟩
    by_cases hm : (nth rs i).mode = 2
    · by_cases hP : P
      · rw [dec_t hP] at oc
        simp [g0, g3, L3, g4, L4, g5, L5, g50, g51, g52, hi', hw8, ix, iy, hp', hrs', hrow, hm, oc, rowRS, ivRt, io.o.scal, io.l.scal, rk.p.scal, rk.q.scal, rk.f.scal, evParts, lay, B6, undT, fnEnd, argsT, PT.get_put, keep, opRun, ev, evs, evO, give, giveI, binOf, isNilK, PM.flip, putT, putL, putH, loadOf, storeOf, cut, over, ofCells, asNat, natOr, calm, clashes, Acc.clash, ressOf, resOf, frz, frz.frzs, DV.flat, DV.flat.flats, imms]
        subst hQ
        exact .inl ⟨rfl, hi, old _ (by simp [PT.get_put]) ⟨i3, by simp [PT.get_put], by simp [PT.get_put]⟩ ⟨i4, by simp [PT.get_put], by simp [PT.get_put]⟩ ⟨i5, by simp [PT.get_put], by simp [PT.get_put]⟩ (by simp [PT.get_put]) (by simp [PT.get_put]) (by simp [PT.get_put]) rfl (by simp; omega) (fun e => e.2.1 hP)⟩
      · rw [dec_f hP] at oc
        by_cases hR : R
        · rw [dec_t hR] at ea
          have hd := hput hm hP hR
          simp [g0, g3, L3, g4, L4, g5, L5, g50, g51, g52, hi', hw8, ix, iy, iz, hp', hrs', hrow, hb, hrob, hm, oc, ea, rowRS, rowB, ivRt, io.o.scal, io.l.scal, rk.p.scal, rk.q.scal, rk.f.scal, evParts, lay, B6, undT, fnEnd, argsT, PT.get_put, keep, opRun, ev, evs, evO, give, giveI, binOf, isNilK, PM.flip, putT, putL, putH, loadOf, storeOf, cut, over, ofCells, asNat, natOr, calm, clashes, Acc.clash, ressOf, resOf, frz, frz.frzs, DV.flat, DV.flat.flats, imms]
          subst hQ
          refine .inl ⟨rfl, hi, ws, by simp [PT.get_put], ⟨i3, by simp [PT.get_put], by simp [PT.get_put]⟩, ⟨i4, by simp [PT.get_put], by simp [PT.get_put]⟩, ⟨i5, by simp [PT.get_put], by simp [PT.get_put]⟩, by simp [PT.get_put], by simp [PT.get_put], by simp [PT.get_put], ?_, ?_, by simp; omega, hd⟩
          · rw [← hset]; simp [PT.get_put, rowB]
          · intro j hj; simp [PT.get_put, hj]; exact fr j hj
        · rw [dec_f hR] at ea
          simp [g0, g3, L3, g4, L4, g5, L5, g50, g51, g52, hi', hw8, ix, iy, hp', hrs', hrow, hm, oc, ea, rowRS, ivRt, io.o.scal, io.l.scal, rk.p.scal, rk.q.scal, rk.f.scal, evParts, lay, B6, undT, fnEnd, argsT, PT.get_put, keep, opRun, ev, evs, evO, give, giveI, binOf, isNilK, PM.flip, putT, putL, putH, loadOf, storeOf, cut, over, ofCells, asNat, natOr, calm, clashes, Acc.clash, ressOf, resOf, frz, frz.frzs, DV.flat, DV.flat.flats, imms]
          subst hQ
          exact .inl ⟨rfl, hi, old _ (by simp [PT.get_put]) ⟨i3, by simp [PT.get_put], by simp [PT.get_put]⟩ ⟨i4, by simp [PT.get_put], by simp [PT.get_put]⟩ ⟨i5, by simp [PT.get_put], by simp [PT.get_put]⟩ (by simp [PT.get_put]) (by simp [PT.get_put]) (by simp [PT.get_put]) rfl (by simp; omega) (fun e => hR e.2.2)⟩
    · simp [g0, g3, L3, g4, L4, g5, L5, g50, g51, g52, hi', hw8, ix, iy, hp', hrs', hrow, hm, rowRS, ivRt, io.o.scal, io.l.scal, rk.p.scal, rk.q.scal, rk.f.scal, evParts, lay, B6, undT, fnEnd, argsT, PT.get_put, keep, opRun, ev, evs, evO, give, giveI, binOf, isNilK, PM.flip, putT, putL, putH, loadOf, storeOf, cut, over, ofCells, asNat, natOr, calm, clashes, Acc.clash, ressOf, resOf, frz, frz.frzs, DV.flat, DV.flat.flats, imms]
      subst hQ
      exact .inl ⟨rfl, hi, old _ (by simp [PT.get_put]) ⟨i3, by simp [PT.get_put], by simp [PT.get_put]⟩ ⟨i4, by simp [PT.get_put], by simp [PT.get_put]⟩ ⟨i5, by simp [PT.get_put], by simp [PT.get_put]⟩ (by simp [PT.get_put]) (by simp [PT.get_put]) (by simp [PT.get_put]) rfl (by simp; omega) (fun e => hm e.1)⟩
  · obtain rfl : i = l.rts.length := by omega
    generalize hQ : (fun (e : Ex) (s' : St) => _) = Q'
    simp only [D.l80_1b]
    simp [g0, g3, L3, g4, L4, g5, L5, g50, g51, g52, B6, undT, fnEnd, argsT, PT.get_put, keep, opRun, ev, evs, evO, give, giveI, binOf, isNilK, PM.flip, putT, putL, putH, loadOf, storeOf, cut, over, ofCells, asNat, natOr, calm, clashes, Acc.clash, ressOf, resOf, frz, frz.frzs, DV.flat, DV.flat.flats, imms]
    subst hQ
    exact .inr ⟨nofun, rfl, bs, by simp [PT.get_put, g0], ⟨i3, by simp [PT.get_put, g3], by simp [PT.get_put, L3]⟩, ⟨i4, by simp [PT.get_put, g4], by simp [PT.get_put, L4]⟩, ⟨i5, by simp [PT.get_put, g5], by simp [PT.get_put, L5]⟩, by simp [PT.get_put, g50], by simp [PT.get_put, g51], by simp [PT.get_put, g52], hb, fr, hn, pr⟩
end Go.Proofs.YtnpcgejfkonfdabGreatDoor.D

-- K14
set_option linter.unusedVariables false
set_option linter.unusedSimpArgs false
set_option maxHeartbeats 16000000
namespace Go.Proofs.YtnpcgejfkonfdabGreatDoor.D
open Go Go.PM Go.Lib
theorem RsOk.idle {l : Lo} {r : Nat} : RsOk l r rs0 := ⟨by simp [rs0], by simp [rs0], by simp [rs0], by simp [rs0], by simp [rs0], by simp [rs0], by simp [rs0]⟩
theorem RsOk.step {l : Lo} (is : ISL l) {os : List Bool} {ls : List Int} {r : Nat} (hr : r < l.rts.length) {x : Rst} (h : RsOk l r x) : RsOk l r (stepF l os ls r x) := by
  have p1 := (is.rr r hr).p1
  obtain ⟨md, t0, t8, t6, tz, g3, gz⟩ := h
  obtain ⟨m, t, g, s⟩ := x
  simp only at *
  have hc : m = 0 ∨ m = 1 ∨ m = 2 ∨ m = 3 ∨ m = 4 := by omega
  rcases hc with rfl | rfl | rfl | rfl | rfl
  · have e : stepF l os ls r ⟨0, t, g, s⟩ = ⟨0, t, g, s⟩ := by simp [stepF, dec_false]
    rw [e]; exact ⟨md, t0, t8, t6, tz, g3, gz⟩
  · by_cases hL : Lie l ls r
    · have e : stepF l os ls r ⟨1, t, g, s⟩ = ⟨2, 0, 0, false⟩ := by simp [stepF, dec_true, dec_t hL]
      rw [e]; exact ⟨by simp, by simp, by simp, by simp, by simp, by simp, by simp⟩
    · have e : stepF l os ls r ⟨1, t, g, s⟩ = laterF ⟨1, t, g, s⟩ 8 := by simp [stepF, dec_true, dec_f hL]
      rw [e]
      by_cases ht : 8 < t + 1
      · have : laterF ⟨1, t, g, s⟩ 8 = rs0 := by simp [laterF, dec_t ht]
        rw [this]; exact RsOk.idle
      · have : laterF ⟨1, t, g, s⟩ 8 = ⟨1, t + 1, g, s⟩ := by simp [laterF, dec_f ht]
        rw [this]
        exact ⟨by simp, by simp; omega, by simp; omega, by simp, by simp, by simp, by simpa using gz⟩
  · cases ho : nth os (nth (nth l.rts r).path 0).toNat with
    | true =>
      have e : stepF l os ls r ⟨2, t, g, s⟩ = ⟨3, 0, 0, true⟩ := by simp [stepF, dec_true, dec_false, ho]
      rw [e]; exact ⟨by simp, by simp, by simp, by simp, by simp, by simp; omega, by simp⟩
    | false =>
      have e : stepF l os ls r ⟨2, t, g, s⟩ = ⟨2, t, g, s⟩ := by simp [stepF, dec_true, dec_false, ho]
      rw [e]; exact ⟨md, t0, t8, t6, tz, g3, gz⟩
  · have e : stepF l os ls r ⟨3, t, g, s⟩ = usedF l os r ⟨3, t, g, s⟩ := by simp [stepF, dec_true, dec_false]
    rw [e]
    have hz := tz (by omega) (by omega)
    have hg := g3 rfl
    cases ho : nth os (nth (nth l.rts r).path g.toNat).toNat with
    | true =>
      have e : usedF l os r ⟨3, t, g, s⟩ = ⟨3, t, g, true⟩ := by simp [usedF, ho]
      rw [e]; exact ⟨by simp, by simp; omega, by simp, by simp, by simp [hz], by simpa using hg, by simp⟩
    | false =>
      cases s with
      | true =>
        by_cases hl : g + 1 < (nth l.rts r).path.length
        · have e : usedF l os r ⟨3, t, g, true⟩ = ⟨3, t, g + 1, false⟩ := by simp [usedF, ho, dec_t hl]
          rw [e]; exact ⟨by simp, by simp; omega, by simp, by simp, by simp [hz], by simp; omega, by simp⟩
        · have e : usedF l os r ⟨3, t, g, true⟩ = rs0 := by simp [usedF, ho, dec_f hl]
          rw [e]; exact RsOk.idle
      | false =>
        have e : usedF l os r ⟨3, t, g, false⟩ = ⟨3, t, g, false⟩ := by simp [usedF, ho]
        rw [e]; exact ⟨md, t0, t8, t6, tz, g3, gz⟩
  · cases ho : nth os (nth (nth l.rts r).path 0).toNat with
    | true =>
      have e : stepF l os ls r ⟨4, t, g, s⟩ = ⟨3, 0, 0, true⟩ := by simp [stepF, dec_true, dec_false, ho]
      rw [e]; exact ⟨by simp, by simp, by simp, by simp, by simp, by simp; omega, by simp⟩
    | false =>
      have e : stepF l os ls r ⟨4, t, g, s⟩ = laterF ⟨4, t, g, s⟩ 5 := by simp [stepF, dec_true, dec_false, ho]
      rw [e]
      by_cases ht : 5 < t + 1
      · have : laterF ⟨4, t, g, s⟩ 5 = rs0 := by simp [laterF, dec_t ht]
        rw [this]; exact RsOk.idle
      · have : laterF ⟨4, t, g, s⟩ 5 = ⟨4, t + 1, g, s⟩ := by simp [laterF, dec_f ht]
        rw [this]
        exact ⟨by simp, by simp; omega, by simp, by simp; omega, by simp, by simp, by simpa using gz⟩
theorem nth_rep' {α : Type} [Inhabited α] {k i : Nat} {x : α} (h : i < k) : nth (List.replicate k x) i = x := by simp [nth, h]
theorem go_of {l : Lo} {rs : List Rst} (h : ∀ r, r < l.rts.length → RsOk l r (nth rs r)) : GoneOk l rs := fun r hr hm => by
  have := (h r hr).g3 hm
  exact ⟨this.1, by omega⟩
theorem Cycle_fn {d : Nat} (hd : 11 ≤ d) {H : PT HB} {p : Nat} {own : List Nat} {l : Lo} {rs : List Rst} (ok : LoOk l) (is : ISL l) (lk : LkAt H p own l rs) (ro : ∀ r, r < l.rts.length → RsOk l r (nth rs r)) {ov lv : IV} {os : List Bool} {ls : List Int} (io : InOk ov lv os ls) (mi : MI l os ls) {n : Nat} (hpn : ∀ i ∈ p :: own, i < n) :
    Fe (K DG (d + 1) 80 [.ptr p 0 0, inD ov lv] H n 0) (fun v H' n' => v = .agg [.sl (n + 2 + 1) 0 l.pts.length l.pts.length, .sl (n + 2 + 2) 0 l.sigs.length l.sigs.length] ∧ n + 5 ≤ n' ∧ (∀ j, j ∉ own → j < n → H'.get j = H.get j) ∧
      ∃ qs, LkAt H' p own l qs ∧ (∀ j, j < l.rts.length → nth qs j = stepF l os ls j (nth rs j)) ∧ H'.get (n + 2 + 1) = some ⟨1, (drF l qs os ls).map rowI⟩ ∧ H'.get (n + 2 + 2) = some ⟨1, (prF l qs os ls).map rowB⟩) := by
  have hp := hpn p (by simp)
  obtain ⟨d, rfl⟩ : ∃ d', d = d' + 1 := ⟨d - 1, by omega⟩
  have p5 := is.p2
  have g6 := is.g2
  obtain ⟨v, H1, n1, e1, rfl, rfl, hH1⟩ := Safe_run (d := d) ok p5 g6 lk (n := n + 2) (lo := 0) (by omega)
  have e := MayIn_bl (D := d + 1) (by omega) ok io
  rw [dec_t mi] at e
  have lk1 : LkAt H1 p own l rs := lk.mono fun j hj => by
    have := hpn j hj
    have b1 : ¬ j = n + 2 + 1 := by omega
    have b2 : ¬ j = n + 2 + 2 := by omega
    rw [hH1]; simp [PT.get_put, b1, b2]
  have hz1 : H1.get (n + 2 + 1) = some ⟨1, (List.replicate l.pts.length (0 : Int)).map rowI⟩ := by
    have b1 : ¬ n + 2 + 1 = n + 2 + 2 := by omega
    rw [hH1]; simp [PT.get_put, b1, rowI, imms]
  have hz2 : H1.get (n + 2 + 2) = some ⟨1, (List.replicate l.sigs.length false).map rowB⟩ := by
    rw [hH1]; simp [PT.get_put, rowB, imms]
  have hfr1 : ∀ j, j < n → H1.get j = H.get j := fun j hj => by
    have b1 : ¬ j = n + 2 + 1 := by omega
    have b2 : ¬ j = n + 2 + 2 := by omega
    rw [hH1]; simp [PT.get_put, b1, b2]
  clear hH1
  have lk1' := lk1
  obtain ⟨x, h1, h2, h3, h4⟩ := lk1
  have xl := h2.len
  rw [h4] at xl
  rw [D.k80]
  refine fn_dw rfl ?_
  simp [io.o.scal, io.l.scal, e1, h1, e, xl, B6, undT, fnEnd, argsT, PT.get_put, keep, opRun, ev, evs, evO, give, giveI, binOf, isNilK, PM.flip, putT, putL, putH, loadOf, storeOf, cut, over, ofCells, asNat, natOr, calm, clashes, Acc.clash, ressOf, resOf, frz, frz.frzs, DV.flat, DV.flat.flats, imms]
  refine loopCy0 (own := own) (os := os) (ls := ls) (rs := rs) (ov := ov) (lv := lv) (us := [.sl (n + 2 + 1) 0 l.pts.length l.pts.length, .sl (n + 2 + 2) 0 l.sigs.length l.sigs.length]) (H1 := H1) (n1 := n + 2 + 3) (by omega) ok is io mi ro (by omega) ⟨by simp [PT.get_put], by simp [PT.get_put], by simp [PT.get_put], ⟨n, by simp [PT.get_put], by simp [PT.get_put]⟩, ⟨n + 1, by simp [PT.get_put], by simp [PT.get_put]⟩, ⟨n + 2 + 3, by simp [PT.get_put], by simp [PT.get_put]⟩, lk1', fun j hj => rfl, by simp, fun j hj => by simp⟩ ?_
  rintro s2 qs ⟨f0, f28, f29, ⟨i3, f3, M3⟩, ⟨i4, f4, M4⟩, ⟨i5, f5, M5⟩, lk2, fr2, fn2, al⟩
  have hq : ∀ j, j < l.rts.length → nth qs j = stepF l os ls j (nth rs j) := fun j hj => by rw [al j hj, if_pos hj]
  have roq : ∀ j, j < l.rts.length → RsOk l j (nth qs j) := fun j hj => by rw [hq j hj]; exact (ro j hj).step is hj
  have ha : n + 2 + 1 ∉ p :: own := fun h => by have := hpn _ h; omega
  have hb : n + 2 + 2 ∉ p :: own := fun h => by have := hpn _ h; omega
  obtain ⟨v3, H3, n3, e3, hn3, fr3, hz3⟩ := drives_run (d := d) (by omega) ok is lk2 (go_of roq) io mi (a := n + 2 + 1) (b := n + 2 + 2) (c := l.sigs.length) (n := s2.n) ha (by rw [fr2 _ (fun h => ha (by simp [h]))]; exact hz1)
  have lk3 : LkAt H3 p own l qs := lk2.mono fun j hj => fr3 j fun h => ha (h ▸ hj)
  have lk3' := lk3
  have hz4 : H3.get (n + 2 + 2) = some ⟨1, (List.replicate l.sigs.length false).map rowB⟩ := by
    rw [fr3 _ (by omega), fr2 _ (fun h => hb (by simp [h]))]; exact hz2
  obtain ⟨y, k1, k2, k3, k4⟩ := lk3
  have yl := k2.len
  rw [k4] at yl
  simp [f0, f28, f29, f3, M3, f4, M4, f5, M5, io.o.scal, io.l.scal, e3, k1, yl, B6, undT, fnEnd, argsT, PT.get_put, keep, opRun, ev, evs, evO, give, giveI, binOf, isNilK, PM.flip, putT, putL, putH, loadOf, storeOf, cut, over, ofCells, asNat, natOr, calm, clashes, Acc.clash, ressOf, resOf, frz, frz.frzs, DV.flat, DV.flat.flats, imms]
  refine loopCy1 (own := own) (os := os) (ls := ls) (rs := qs) (ov := ov) (lv := lv) (a := n + 2 + 1) (c := l.pts.length) (b := n + 2 + 2) (H1 := H3) (xr := y) (n0 := n + 2 + 3) (bs := List.replicate l.sigs.length false) (by omega) ok is k1 k2 k3 k4 io mi hb (by omega) ⟨by simp [PT.get_put, f0], ⟨i3, by simp [PT.get_put, f3], by simp [PT.get_put, M3]⟩, ⟨i4, by simp [PT.get_put, f4], by simp [PT.get_put, M4]⟩, ⟨i5, by simp [PT.get_put, f5], by simp [PT.get_put, M5]⟩, by simp [PT.get_put], by simp [PT.get_put], by simp [PT.get_put], hz4, fun j hj => rfl, by simp; omega, by simp, rfl⟩ ?_
  rintro s4 bs ⟨t0, ⟨j3, t3, N3⟩, ⟨j4, t4, N4⟩, ⟨j5, t5, N5⟩, t50, t51, t52, tb, tfr, tn, pr⟩
  simp [t0, t3, N3, t4, N4, t5, N5, B6, undT, fnEnd, argsT, PT.get_put, keep, opRun, ev, evs, evO, give, giveI, binOf, isNilK, PM.flip, putT, putL, putH, loadOf, storeOf, cut, over, ofCells, asNat, natOr, calm, clashes, Acc.clash, ressOf, resOf, frz, frz.frzs, DV.flat, DV.flat.flats, imms]
  refine ⟨by omega, fun j hj hjn => ?_, qs, lk3'.mono fun j hj => tfr j fun h => hb (h ▸ hj), hq, ?_, by rw [pr.2] at tb; exact tb⟩
  · rw [tfr j (by omega), fr3 j (by omega), fr2 j hj, hfr1 j hjn]
  · rw [tfr _ (by omega)]; exact hz3
end Go.Proofs.YtnpcgejfkonfdabGreatDoor.D

-- T8c
set_option linter.unusedVariables false
set_option linter.unusedSimpArgs false
set_option maxHeartbeats 16000000
namespace Go.Proofs.YtnpcgejfkonfdabGreatDoor.D
open Go Go.PM Go.Lib
/-! ### pointsmanref4.Needs -/
/-! ### Rows of numbers that are one -/
/-! ### Entry -/
end Go.Proofs.YtnpcgejfkonfdabGreatDoor.D

-- K21
-- K15
set_option linter.unusedVariables false
set_option linter.unusedSimpArgs false
set_option maxHeartbeats 16000000
namespace Go.Proofs.YtnpcgejfkonfdabGreatDoor.D
open Go Go.PM Go.Lib
def ivRS (x : Rst) : List IV := [.int .i64 x.mode, .int .i64 x.timer, .int .i64 x.gone, .bool x.seen]
/-- No two routes that stand are in each other's way. -/
def NC (l : Lo) (rs : List Rst) : Prop := ∀ i j, i < l.rts.length → j < l.rts.length → i ≠ j → (nth rs i).mode ≠ 0 → (nth rs j).mode ≠ 0 → ¬ CF l i j
end Go.Proofs.YtnpcgejfkonfdabGreatDoor.D

-- K16
set_option linter.unusedVariables false
set_option linter.unusedSimpArgs false
set_option maxHeartbeats 16000000
namespace Go.Proofs.YtnpcgejfkonfdabGreatDoor.D
open Go Go.PM Go.Lib
structure INV (l : Lo) (rs : List Rst) : Prop where
  ln : rs.length = l.rts.length
  ro : ∀ r, r < l.rts.length → RsOk l r (nth rs r)
  nc : NC l rs
theorem CF_sym {l : Lo} {r s : Nat} (h : CF l r s) : CF l s r := by
  rcases h with h | h | ⟨z, h1, h2⟩ | ⟨x, h1, h2⟩
  · exact .inl h.symm
  · exact .inr (.inl h.symm)
  · exact .inr (.inr (.inl ⟨z, h2, h1⟩))
  · exact .inr (.inr (.inr ⟨_, h2, by simpa using h1⟩))
theorem nth_setx {α : Type} [Inhabited α] {xs : List α} {i j : Nat} {y : α} (hi : i < xs.length) : nth (xs.set i y) j = if i = j then y else nth xs j := by
  simp only [nth, List.getD, List.getElem?_set]
  by_cases h : i = j
  · subst h; simp [hi]
  · simp [h]
theorem INV.new {l : Lo} : INV l (List.replicate l.rts.length rs0) :=
  ⟨by simp, fun r hr => by rw [nth_rep' hr]; exact RsOk.idle, fun i j hi hj _ hm => by rw [nth_rep' hi] at hm; exact absurd rfl hm⟩
theorem INV.set {l : Lo} {rs : List Rst} (h : INV l rs) {r : Nat} (hr : r < l.rts.length) {y : Rst} (hy : RsOk l r y) (hc : y.mode ≠ 0 → ∀ s, s < l.rts.length → s ≠ r → (nth rs s).mode ≠ 0 → ¬ CF l r s) : INV l (rs.set r y) := by
  have hl := h.ln
  refine ⟨by simp [hl], fun s hs => ?_, fun i j hi hj hij mi mj => ?_⟩
  · rw [nth_setx (by omega)]
    split
    · rename_i e; subst e; exact hy
    · exact h.ro s hs
  · rw [nth_setx (by omega)] at mi mj
    by_cases h1 : r = i
    · subst h1
      rw [if_pos rfl] at mi
      rw [if_neg hij] at mj
      exact hc mi j hj (fun e => hij e.symm) mj
    · rw [if_neg h1] at mi
      by_cases h2 : r = j
      · subst h2
        rw [if_pos rfl] at mj
        exact fun e => hc mj i hi hij mi (CF_sym e)
      · rw [if_neg h2] at mj
        exact h.nc i j hi hj hij mi mj
theorem INV.call {l : Lo} {rs : List Rst} (h : INV l rs) {os : List Bool} {ls : List Int} {r : Nat} (hr : r < l.rts.length) : INV l (callF l rs os ls r).2 := by
  by_cases m0 : (nth rs r).mode = 0
  · by_cases hf : FRE l rs os ls r
    · have e : callF l rs os ls r = (0, rs.set r ⟨1, 0, 0, false⟩) := by simp [callF, dec_t m0, dec_t hf]
      rw [e]
      exact h.set hr ⟨by simp, by simp, by simp, by simp, by simp, by simp, by simp⟩ fun _ s hs _ hm => hf.cf s hs hm
    · have e : callF l rs os ls r = (8, rs) := by simp [callF, dec_t m0, dec_f hf]
      rw [e]; exact h
  · have e : callF l rs os ls r = (7, rs) := by simp [callF, dec_f m0]
    rw [e]; exact h
theorem INV.cancel {l : Lo} {rs : List Rst} (h : INV l rs) {r : Nat} (hr : r < l.rts.length) : INV l (cancelF rs r).2 := by
  by_cases m1 : (nth rs r).mode = 1
  · have e : cancelF rs r = (0, rs.set r rs0) := by simp [cancelF, dec_t m1]
    rw [e]
    exact h.set hr RsOk.idle fun h0 => absurd rfl h0
  · by_cases m2 : (nth rs r).mode = 2
    · have e : cancelF rs r = (0, rs.set r ⟨4, 0, 0, false⟩) := by simp [cancelF, dec_f m1, dec_t m2]
      rw [e]
      exact h.set hr ⟨by simp, by simp, by simp, by simp, by simp, by simp, by simp⟩ fun _ s hs hsr hm => h.nc r s hr hs (fun e => hsr e.symm) (by omega) hm
    · have e : cancelF rs r = (7, rs) := by simp [cancelF, dec_f m1, dec_f m2]
      rw [e]; exact h
theorem INV.cmd {l : Lo} {rs : List Rst} (h : INV l rs) {os : List Bool} {ls : List Int} {c r : Int} : INV l (cmdF l rs os ls c r).2 := by
  by_cases h1 : ¬ MI l os ls ∨ (c ≠ 1 ∧ c ≠ 2)
  · have e : cmdF l rs os ls c r = (1, rs) := by simp only [cmdF, dec_t h1, cond_true]
    rw [e]; exact h
  · by_cases hr : InR r l.rts.length
    · have hn : r.toNat < l.rts.length := by have := hr.1; have := hr.2; omega
      by_cases hc : c = 1
      · have e : cmdF l rs os ls c r = callF l rs os ls r.toNat := by simp only [cmdF, dec_f h1, dec_t hr, dec_t hc, cond_true, cond_false]
        rw [e]; exact h.call hn
      · have e : cmdF l rs os ls c r = cancelF rs r.toNat := by simp only [cmdF, dec_f h1, dec_t hr, dec_f hc, cond_true, cond_false]
        rw [e]; exact h.cancel hn
    · have e : cmdF l rs os ls c r = (5, rs) := by simp only [cmdF, dec_f h1, dec_f hr, cond_true, cond_false]
      rw [e]; exact h
theorem step_idle {l : Lo} {os : List Bool} {ls : List Int} {r : Nat} {x : Rst} (h : x.mode = 0) : stepF l os ls r x = x := by
  obtain ⟨m, t, g, s⟩ := x
  simp only at h
  subst h
  simp [stepF, dec_false]
theorem INV.step {l : Lo} (is : ISL l) {rs qs : List Rst} (h : INV l rs) {os : List Bool} {ls : List Int} (hl : qs.length = l.rts.length) (hq : ∀ j, j < l.rts.length → nth qs j = stepF l os ls j (nth rs j)) : INV l qs :=
  ⟨hl, fun r hr => by rw [hq r hr]; exact (h.ro r hr).step is hr, fun i j hi hj hij mi mj => h.nc i j hi hj hij
    (fun e => mi (by rw [hq i hi, step_idle e]; exact e)) (fun e => mj (by rw [hq j hj, step_idle e]; exact e))⟩
/-- Two routes that stand hold no section both. -/
theorem INV.apart {l : Lo} {rs : List Rst} (h : INV l rs) {i j : Nat} (hi : i < l.rts.length) (hj : j < l.rts.length) {z : Int} (ai : z ∈ hld l rs i) (aj : z ∈ hld l rs j) : i = j := by
  refine Classical.byContradiction fun hij => ?_
  have stands : ∀ {k : Nat}, z ∈ hld l rs k → (nth rs k).mode ≠ 0 := fun {k} hk e => by simp [hld, e] at hk
  exact h.nc i j hi hj hij (stands ai) (stands aj) (.inr (.inr (.inl ⟨z, hld_sub ai, hld_sub aj⟩)))
end Go.Proofs.YtnpcgejfkonfdabGreatDoor.D

-- K19
set_option linter.unusedVariables false
set_option linter.unusedSimpArgs false
set_option maxHeartbeats 16000000
namespace Go.Proofs.YtnpcgejfkonfdabGreatDoor.D
open Go Go.PM Go.Lib
structure Acv where
  kind : Int
  ov : IV
  lv : IV
  c : Int
  r : Int
  rv : IV
  os : List Bool
  ls : List Int
  rs : List Rst
instance : Inhabited Acv := ⟨⟨0, .nils, .nils, 0, 0, .nils, [], [], []⟩⟩
structure AcOk (x : Acv) : Prop where
  io : InOk x.ov x.lv x.os x.ls
  rv : Sl 4 x.rv (x.rs.map ivRS)
  lr : x.rs.length ≤ reachBytes
abbrev kdRS : List Kd := [.i .i64, .i .i64, .i .i64, .b]
abbrev kdAc : List Kd := [.i .i64, .sl [.b], .sl [.i .i64], .i .i64, .i .i64, .sl kdRS]
end Go.Proofs.YtnpcgejfkonfdabGreatDoor.D

-- K20
set_option linter.unusedVariables false
set_option linter.unusedSimpArgs false
set_option maxHeartbeats 16000000
namespace Go.Proofs.YtnpcgejfkonfdabGreatDoor.D
open Go Go.PM Go.Lib
theorem app_hp {h : Nat → Option HB} {n lo id : Nat} {rows : List (List DV)} (hh : h id = some ⟨4, rows⟩) (he : rows ≠ []) (hl : rows.length ≤ 2 ^ 20) :
    appOf h n lo 4 32 (.imm (.lst true 4 [])) (.sl id 0 rows.length rows.length) = some { v := .sl n 0 rows.length rows.length, hw := [(n, some ⟨4, rows⟩)], n' := n + 1, acc := [.wX n, .rX id] } := by
  have a1 : rows.length ≤ appMax := by unfold appMax; omega
  have a2 : rows.length * 32 ≤ appMax := by unfold appMax; omega
  simp [appOf, srcOf, rowsOf, hh, he, a1, a2, raccOf]
theorem app_hp0 {h : Nat → Option HB} {n lo id : Nat} (hh : h id = some ⟨4, []⟩) :
    appOf h n lo 4 32 (.imm (.lst true 4 [])) (.sl id 0 0 0) = some { v := .imm (.lst true 4 []), n' := n, acc := [.rX id] } := by
  simp [appOf, srcOf, rowsOf, hh, raccOf]
theorem map_rowRS (rs : List Rst) : rs.map rowRS = (rs.map ivRS).map imms := by
  induction rs with
  | nil => rfl
  | cons x xs ih => simp [rowRS, ivRS, imms] at *
theorem frz_rowK {h : Nat → Option HB} {lo id sz : Nat} {xs : List (List IV)} (hb : h id = some ⟨sz, xs.map imms⟩) (hlo : lo ≤ id) : frz h lo (.sl id 0 xs.length xs.length) = some (.imm (.lst false sz xs)) := by
  have ht : (xs.map imms).take xs.length = xs.map imms := List.take_of_length_le (by simp)
  have h1 : ¬ id < lo := by omega
  simp only [frz, if_neg h1, frzDepth, frzI, if_pos hlo, hb]
  simp [ht, mapO_frz2]
theorem frz_sl {H : PT HB} {m lo sz k : Nat} {es : List (List IV)} (h : H.get m = some ⟨sz, es.map imms⟩) (hk : es.length = k) (hlo : lo ≤ m) : frz H.get lo (.sl m 0 k k) = some (.imm (.lst false sz es)) := by
  subst hk
  exact frz_rowK h hlo
theorem cloneRS_run {d : Nat} {H : PT HB} {x : DV} {own : List Nat} {rs : List Rst} (h : RsAt H x own rs) (hl : rs.length ≤ 1000) {n lo : Nat} (hlo : lo ≤ n) :
    Fe (K DG (d + 1) 81 [x] H n lo) (fun v H' n' => n ≤ n' ∧ v.out = true ∧ ∃ w, frz H'.get lo v = some (.imm w) ∧ Sl 4 w (rs.map ivRS)) := by
  rw [D.k81]
  refine fn_dw rfl ?_
  rcases h with ⟨rfl, rfl, v, rfl, hv⟩ | ⟨id, rfl, rfl, hh⟩
  · have hv0 := hv
    rcases hv with ⟨rfl, _⟩ | ⟨f, rfl⟩
    · simp [B6, undT, fnEnd, argsT, PT.get_put, keep, opRun, ev, evs, evO, give, giveI, binOf, isNilK, PM.flip, putT, putL, putH, loadOf, storeOf, cut, over, ofCells, asNat, natOr, calm, clashes, Acc.clash, ressOf, resOf, frz, frz.frzs, DV.flat, DV.flat.flats, imms]
      first | exact .inl ⟨rfl, rfl⟩ | exact ⟨rfl, .inl ⟨rfl, rfl⟩⟩
    · have p1 := fun {h : Nat → Option HB} {n : Nat} {x : DV} hx => app_none (bytes := 32) (h := h) (n := n) (x := x) hx hv0
      simp [p1, evParts2, lay, unImms, unImm, mapO, rowsN, appOf, srcOf, rowsOf, raccOf, B6, undT, fnEnd, argsT, PT.get_put, keep, opRun, ev, evs, evO, give, giveI, binOf, isNilK, PM.flip, putT, putL, putH, loadOf, storeOf, cut, over, ofCells, asNat, natOr, calm, clashes, Acc.clash, ressOf, resOf, frz, frz.frzs, DV.flat, DV.flat.flats, imms]
      first | exact .inr ⟨_, rfl⟩ | exact ⟨rfl, .inr ⟨_, rfl⟩⟩
  · cases rs with
    | nil =>
      have p0 := fun {n : Nat} => app_hp0 (h := H.get) (n := n) (lo := lo) (id := id) (by simpa using hh)
      simp [hh, p0, evParts2, lay, unImms, unImm, mapO, rowsN, B6, undT, fnEnd, argsT, PT.get_put, keep, opRun, ev, evs, evO, give, giveI, binOf, isNilK, PM.flip, putT, putL, putH, loadOf, storeOf, cut, over, ofCells, asNat, natOr, calm, clashes, Acc.clash, ressOf, resOf, frz, frz.frzs, DV.flat, DV.flat.flats, imms]
      first | exact .inr ⟨_, rfl⟩ | exact ⟨rfl, .inr ⟨_, rfl⟩⟩
    | cons y ys =>
      have hlen : ((y :: ys).map rowRS).length = (y :: ys).length := by simp
      have p1 := fun {n : Nat} => app_hp (h := H.get) (n := n) (lo := lo) hh (by simp) (by rw [hlen]; omega)
      have hes := map_rowRS (y :: ys)
      have hel : ((y :: ys).map ivRS).length = (y :: ys).length := by simp
      rw [hlen] at p1
      generalize (y :: ys).map ivRS = es at hes hel ⊢
      generalize (y :: ys).map rowRS = rows at hh p1 hes
      generalize (y :: ys).length = k at hh p1 hel ⊢
      simp [hh, p1, evParts2, lay, unImms, unImm, mapO, rowsN, B6, undT, fnEnd, argsT, PT.get_put, keep, opRun, ev, evs, evO, give, giveI, binOf, isNilK, PM.flip, putT, putL, putH, loadOf, storeOf, cut, over, ofCells, asNat, natOr, calm, clashes, Acc.clash, ressOf, resOf, frz, frz.frzs, DV.flat, DV.flat.flats, imms]
      first | exact ⟨_, frz_sl (by simp [PT.get_put, hes]) hel hlo, .inr ⟨_, rfl⟩⟩ | exact ⟨rfl, _, frz_sl (by simp [PT.get_put, hes]) hel hlo, .inr ⟨_, rfl⟩⟩
theorem Routes_ro {d : Nat} (hd : 1 ≤ d) {H : PT HB} {p : Nat} {own : List Nat} {l : Lo} {rs : List Rst} (hl : rs.length ≤ 1000) (lk : LkAt H p own l rs) {n lo : Nat} :
    ∃ w m, callM (K DG (d + 1)) .ro 46 [.ptr p 0 0] H n lo = some ⟨.imm w, H, m, [.rA]⟩ ∧ n ≤ m ∧ Sl 4 w (rs.map ivRS) := by
  obtain ⟨d, rfl⟩ : ∃ d', d = d' + 1 := ⟨d - 1, by omega⟩
  obtain ⟨x, h1, h2, h3, h4⟩ := lk
  obtain ⟨v, H1, n1, e1, hn1, vo, w, hf, hw⟩ := cloneRS_run (d := d) h2 hl (n := n) (lo := n) (Nat.le_refl _)
  have xo : x.out = true := by
    rcases h2 with ⟨_, _, u, rfl, hu⟩ | ⟨id, _, rfl, _⟩
    · rfl
    · rfl
  have key : Fe (K DG (d + 1 + 1) 46 [.ptr p 0 0] H n n) (fun v' H' n' => v' = v ∧ H' = H1 ∧ n' = n1) := by
    rw [D.k46]
    refine fn_dw rfl ?_
    simp [h1, e1, xo, vo, B6, undT, fnEnd, argsT, PT.get_put, keep, opRun, ev, evs, evO, give, giveI, binOf, isNilK, PM.flip, putT, putL, putH, loadOf, storeOf, cut, over, ofCells, asNat, natOr, calm, clashes, Acc.clash, ressOf, resOf, frz, frz.frzs, DV.flat, DV.flat.flats, imms]
  obtain ⟨v', H', n', e, rfl, rfl, rfl⟩ := key
  have ho : DV.out.outs [DV.ptr p 0 0] = true := rfl
  refine ⟨w, n', ?_, hn1, hw⟩
  rw [callM_ro, if_pos ho, e]
  simp only [hf]
  rfl
end Go.Proofs.YtnpcgejfkonfdabGreatDoor.D

-- K21
set_option linter.unusedVariables false
set_option linter.unusedSimpArgs false
set_option maxHeartbeats 16000000
namespace Go.Proofs.YtnpcgejfkonfdabGreatDoor.D
open Go Go.PM Go.Lib
theorem LoEq.hld {l l' : Lo} (e : LoEq l l') {rs : List Rst} {r : Nat} (hr : r < l.rts.length) : hld l' rs r = hld l rs r := by
  simp only [D.hld, (e.rts r hr).path]
theorem find_congr {p q : Nat → Bool} : ∀ xs : List Nat, (∀ x ∈ xs, p x = q x) → xs.find? p = xs.find? q
  | [], _ => rfl
  | x :: xs, h => by
    simp only [List.find?_cons, h x (by simp), find_congr xs fun y hy => h y (by simp [hy])]
theorem LoEq.hol {l l' : Lo} (e : LoEq l l') {rs : List Rst} {z : Int} : hol l' rs z = hol l rs z := by
  have : (List.range l'.rts.length).find? (fun r => decide (z ∈ D.hld l' rs r)) = (List.range l.rts.length).find? (fun r => decide (z ∈ D.hld l rs r)) := by
    rw [e.len]
    refine find_congr _ fun x hx => ?_
    rw [e.hld (List.mem_range.1 hx)]
  simp only [D.hol, this]
theorem LoEq.nd {l l' : Lo} (e : LoEq l l') {r : Nat} (hr : r < l.rts.length) : nd (nth l'.rts r) = nd (nth l.rts r) := by
  simp only [D.nd, (e.rts r hr).pts, (e.rts r hr).flk]
theorem LoEq.lie {l l' : Lo} (e : LoEq l l') {ls : List Int} {r : Nat} (hr : r < l.rts.length) : Lie l' ls r ↔ Lie l ls r := by
  simp only [Lie, e.nd hr]
theorem LoEq.mi' {l l' : Lo} (e : LoEq l l') {os : List Bool} {ls : List Int} : MI l' os ls ↔ MI l os ls := by simp only [MI, e.secs, e.pts]
theorem LoEq.ro {l l' : Lo} (e : LoEq l l') {r : Nat} (hr : r < l.rts.length) {x : Rst} (h : RsOk l' r x) : RsOk l r x :=
  ⟨h.md, h.t0, h.t8, h.t6, h.tz, fun m => by have := h.g3 m; rw [(e.rts r hr).path] at this; exact this, h.gz⟩
theorem LoEq.inv {l l' : Lo} (e : LoEq l l') {rs : List Rst} (h : INV l' rs) : INV l rs :=
  ⟨by rw [h.ln, e.len], fun r hr => e.ro hr (h.ro r (by rw [e.len]; exact hr)), fun i j hi hj hij mi mj => by
    have := h.nc i j (by rw [e.len]; exact hi) (by rw [e.len]; exact hj) hij mi mj
    rw [e.cf hi hj] at this
    exact this⟩
theorem LoEq.dr {l l' : Lo} (e : LoEq l l') {rs : List Rst} {os : List Bool} {ls zs : List Int} (h : DrOk l' rs os ls zs) : DrOk l rs os ls zs := by
  refine ⟨by rw [h.1, e.pts], fun q hq => ?_⟩
  rcases h.2 q (by rw [e.pts]; exact hq) with h | ⟨r, x, h1, h2, h3, h4, h5, h6, h7, h8⟩
  · exact .inl h
  · have hr : r < l.rts.length := by rw [← e.len]; exact h1
    rw [e.nd hr] at h3
    rw [e.pts] at h7
    rw [e.pts, e.hol] at h8
    exact .inr ⟨r, x, hr, h2, h3, h4, h5, h6, h7, h8⟩
theorem LoEq.pr {l l' : Lo} (e : LoEq l l') {rs : List Rst} {os : List Bool} {ls : List Int} {bs : List Bool} (h : PrOk l' rs os ls bs) : PrOk l rs os ls bs := by
  refine ⟨by rw [h.1, e.sigs], fun s hs ht => ?_⟩
  obtain ⟨r, h1, h2, h3, h4, h5⟩ := h.2 s (by rw [e.sigs]; exact hs) ht
  have hr : r < l.rts.length := by rw [← e.len]; exact h1
  have hf := e.rts r hr
  rw [hf.fr] at h3
  rw [hf.path] at h4
  exact ⟨r, hr, h2, h3, h4, (e.lie hr).1 h5⟩
theorem eqSt_rs {a b c a' b' c' : Int} {e e' : Bool} : eqSt [.i, .i, .i, .b] [.imm (.int .i64 a), .imm (.int .i64 b), .imm (.int .i64 c), .imm (.bool e)] [.imm (.int .i64 a'), .imm (.int .i64 b'), .imm (.int .i64 c'), .imm (.bool e')] = some (dec ((⟨a, b, c, e⟩ : Rst) = ⟨a', b', c', e'⟩)) := by
  have : ((⟨a, b, c, e⟩ : Rst) = ⟨a', b', c', e'⟩) ↔ ((a == a') && ((b == b') && ((c == c') && ((e == e') && true)))) = true := by simp [Rst.mk.injEq]
  rw [dec_congr this]
  simp only [eqSt, eqSc, if_true]
  cases h : ((a == a') && ((b == b') && ((c == c') && ((e == e') && true)))) with
  | true => rw [dec_t rfl]
  | false => rw [dec_f nofun]
end Go.Proofs.YtnpcgejfkonfdabGreatDoor.D

-- FL
set_option linter.unusedVariables false
set_option linter.unusedSimpArgs false
set_option maxHeartbeats 16000000
namespace Go.Proofs.YtnpcgejfkonfdabGreatDoor.D
open Go Go.PM Go.Lib

/-- rows that a function makes: a block from w on -/
def Rw (sz : Nat) (H : PT HB) (w n : Nat) (x : DV) (rows : List (List IV)) : Prop := (x = .imm .nils ∧ rows = []) ∨ ∃ id, (w ≤ id ∧ id < n) ∧ x = .sl id 0 rows.length rows.length ∧ H.get id = some ⟨sz, rows.map imms⟩
theorem Rw.scal {sz : Nat} {H : PT HB} {w n : Nat} {x : DV} {rows : List (List IV)} (h : Rw sz H w n x rows) : x.scal = true := by
  rcases h with ⟨rfl, _⟩ | ⟨id, _, rfl, _⟩ <;> rfl
theorem Rw.out {sz : Nat} {H : PT HB} {w n : Nat} {x : DV} {rows : List (List IV)} (h : Rw sz H w n x rows) : x.out = true := by
  rcases h with ⟨rfl, _⟩ | ⟨id, _, rfl, _⟩ <;> rfl
theorem Rw.len {sz : Nat} {H : PT HB} {w n : Nat} {x : DV} {rows : List (List IV)} (h : Rw sz H w n x rows) : lenOf x = some rows.length := by
  rcases h with ⟨rfl, rfl⟩ | ⟨id, _, rfl, _⟩ <;> simp [lenOf]
theorem app_rw {sz bytes : Nat} {x : DV} {H : PT HB} {w n lo : Nat} {rows : List (List IV)} (hlo : lo ≤ w) (hwn : w ≤ n) (h : Rw sz H w n x rows) (hs : 0 < sz) (hl : rows.length ≤ 100000) (hb : bytes ≤ 100) {es : List (List IV)} (he : es ≠ []) (hel : es.length ≤ 100000) :
    ∃ x' hw acc, appOf H.get n lo sz bytes x (.imm (.lst true sz es)) = some { v := x', hw := hw, n' := n + 1, acc := acc } ∧ Rw sz (putH H hw) w (n + 1) x' (rows ++ es) ∧ ∀ j, j < w → (putH H hw).get j = H.get j := by
  have hm : 20000000 ≤ appMax := by unfold appMax; omega
  have hel0 : 0 < es.length := List.length_pos_iff.2 he
  rcases h with ⟨rfl, rfl⟩ | ⟨id, ⟨h1, h2⟩, rfl, h3⟩
  · have a2 : es.length ≤ appMax := by omega
    have a3 : es.length * bytes ≤ appMax := by
      have := Nat.mul_le_mul hel hb
      omega
    have hn0 : ¬ es = [] := he
    refine ⟨.sl n 0 es.length es.length, [(n, some ⟨sz, es.map imms⟩)], [.wX n], by simp [appOf, srcOf, rowsOf, raccOf, a2, a3, hs, hn0], .inr ⟨n, by omega, by simp, ?_⟩, fun j hj => ?_⟩
    · simp [putH, PT.get_put]
    · have : ¬ j = n := by omega
      simp [putH, PT.get_put, this]
  · have a1 : ¬ rows.length + es.length ≤ rows.length := by omega
    have a2 : rows.length + es.length ≤ appMax := by omega
    have a3 : (rows.length + es.length) * bytes ≤ appMax := by
      have := Nat.mul_le_mul (show rows.length + es.length ≤ 200000 by omega) hb
      omega
    have hn0 : ¬ es = [] := he
    have hl0 : lo ≤ id := by omega
    refine ⟨.sl n 0 (rows.length + es.length) (rows.length + es.length), [(id, none), (n, some ⟨sz, rows.map imms ++ es.map imms⟩)], _, by simp [appOf, srcOf, rowsOf, raccOf, h3, a1, a2, a3, hs, hn0, hl0]; rfl, .inr ⟨n, by omega, by simp, ?_⟩, fun j hj => ?_⟩
    · simp [putH, PT.get_put]
    · have b1 : ¬ j = n := by omega
      have b2 : ¬ j = id := by omega
      simp [putH, PT.get_put, b1, b2]
theorem frz_rw {sz : Nat} {x : DV} {H : PT HB} {w n : Nat} {rows : List (List IV)} (h : Rw sz H w n x rows) : ∃ v, frz H.get w x = some (.imm v) ∧ Sl sz v rows := by
  rcases h with ⟨rfl, rfl⟩ | ⟨id, ⟨h1, h2⟩, rfl, h3⟩
  · exact ⟨_, rfl, .inl ⟨rfl, rfl⟩⟩
  · refine ⟨.lst false sz rows, ?_, .inr ⟨_, rfl⟩⟩
    have hf : frzI H.get w frzDepth (.sl id 0 rows.length rows.length) = some (.lst false sz rows) := by
      show (if w ≤ id then _ else _) = _
      rw [if_pos h1]
      simp only [h3]
      rw [if_pos (by simp)]
      simp only [List.drop_zero]
      rw [List.take_of_length_le (by simp), mapO_frz2]
      rfl
    have hz : frz H.get w (.sl id 0 rows.length rows.length) = if id < w then some (.sl id 0 rows.length rows.length) else (frzI H.get w frzDepth (.sl id 0 rows.length rows.length)).map .imm := rfl
    rw [hz, if_neg (by omega), hf]
    rfl
def bi (b : Bool) : Int := if b then 1 else 0
def of1 (x : Rst) : List Int := [x.mode, x.timer, x.gone, bi x.seen]
def ofF (rs : List Rst) : List Int := rs.flatMap of1
theorem ofF_len (rs : List Rst) : (ofF rs).length = 4 * rs.length := by
  induction rs with
  | nil => rfl
  | cons x rs ih => simp only [ofF, List.flatMap_cons, List.length_append, of1, List.length_cons, List.length_nil] at *; omega
theorem ofF_succ {rs : List Rst} {i : Nat} (hi : i < rs.length) : ofF (rs.take (i + 1)) = ofF (rs.take i) ++ of1 (nth rs i) := by
  rw [List.take_add_one, List.getElem?_eq_getElem hi]
  simp only [Option.toList_some, ofF, List.flatMap_append, List.flatMap_cons, List.flatMap_nil, List.append_nil]
  congr 2
  simp [nth, List.getD_eq_getElem?_getD, List.getElem?_eq_getElem hi]
theorem fnum_bl {d : Nat} (b : Bool) : bl (K DG (d + 1)) 138 [.imm (.bool b)] = some (.imm (.int .i64 (bi b))) := by
  refine bl_fe ?_
  rw [D.k138]
  refine fn_dw rfl ?_
  cases b <;> simp [bi, B6, undT, fnEnd, argsT, PT.get_put, keep, opRun, ev, evs, evO, give, giveI, binOf, isNilK, PM.flip, putT, putL, putH, loadOf, storeOf, cut, over, ofCells, asNat, natOr, calm, clashes, Acc.clash, ressOf, resOf, frz, frz.frzs, DV.flat, DV.flat.flats, imms]
structure IOf (v : IV) (rs : List Rst) (i : Nat) (st : St) : Prop where
  c6 : st.T.get 6 = some (.imm v)
  c7 : st.T.get 7 = some (.imm (.int .i64 (rs.length : Int)))
  c8 : st.T.get 8 = some (.imm (.int .i64 (i : Int)))
  c3 : ∃ x, st.T.get 3 = some x ∧ Rw 1 st.H 0 st.n x ((ofF (rs.take i)).map ivI)
theorem loopOf {d : Nat} {v : IV} {rs : List Rst} (hv : Sl 4 v (rs.map ivRS)) (hl : rs.length ≤ 1000) {st : St} (h : IOf v rs 0 st) {ks : List Kf} {Q : Ex → St → Prop}
    (hk : ∀ s', IOf v rs rs.length s' → Bk DG (K DG (d + 1)) 0 (.exit 0) ks s' Q) : Wp DG (K DG (d + 1)) 0 D.l88_0 ks st Q := by
  refine dw_loop (N := rs.length) (small (by have := rb3; omega)) (fun i st => IOf v rs i st) (fun e s' => e = .exit 0 ∧ IOf v rs rs.length s') (fun i st hle hI => ?_) h (fun e s' h => by
    obtain ⟨rfl, h⟩ := h
    exact hk s' h)
  obtain ⟨c6, c7, c8, x, c3, hx⟩ := hI
  have vs := hv.scal
  have xs := hx.scal
  by_cases hi : i < rs.length
  · have hi1 : (i : Int) < rs.length := by omega
    have hi' := ilt_t hi1
    have hw8 : IntKind.i64.wrap ((i : Int) + 1) = (i : Int) + 1 := wr_succ hi (by have := rb3; omega)
    have ix := fun {h : Nat → Option HB} {n : Nat} => idx_sl (h := h) (n := n) hv (by omega) (k := .i64) (z := (i : Int)) (by omega) hi1
    simp only [Int.toNat_natCast] at ix
    have sc := ofF_succ hi
    have fb := fnum_bl (d := d) (nth rs i).seen
    have ol := ofF_len (rs.take i)
    obtain ⟨x', hw, acc, a1, a2, a3⟩ := app_rw (bytes := 8) (lo := 0) (w := 0) (n := st.n + 1) (H := st.H) (Nat.le_refl _) (by omega) (show Rw 1 st.H 0 (st.n + 1) x _ from by
      rcases hx with hx | ⟨id, ⟨p1, p2⟩, p3⟩
      · exact .inl hx
      · exact .inr ⟨id, ⟨p1, by omega⟩, p3⟩) (by omega) (by simp at ol ⊢; omega) (by omega) (es := [[.int .i64 (nth rs i).mode], [.int .i64 (nth rs i).timer], [.int .i64 (nth rs i).gone], [.int .i64 (bi (nth rs i).seen)]]) (by simp) (by simp)
    have a2s := a2.scal
    have fin : Rw 1 (putH st.H hw) 0 (st.n + 1 + 1) x' ((ofF (rs.take (i + 1))).map ivI) := by
      rw [sc, List.map_append]
      exact a2
    generalize nth rs i = y at *
    obtain ⟨ym, yt, yg, ys⟩ := y
    generalize hQ : (fun (e : Ex) (s' : St) => _) = Q'
    simp only [D.l88_0b]
    simp [c6, c7, c8, c3, vs, xs, hi', hw8, ix, fb, a1, a2s, ivRS, evParts2, lay, unImms, unImm, mapO, rowsN, imms, B6, undT, fnEnd, argsT, PT.get_put, keep, opRun, ev, evs, evO, give, giveI, binOf, isNilK, PM.flip, putT, putL, putH, loadOf, storeOf, cut, over, ofCells, asNat, natOr, calm, clashes, Acc.clash, ressOf, resOf, frz, frz.frzs, DV.flat, DV.flat.flats, imms]
    subst hQ
    exact .inl ⟨rfl, hi, by simp [PT.get_put], by simp [PT.get_put], by simp [PT.get_put], x', by simp [PT.get_put], fin⟩
  · obtain rfl : i = rs.length := by omega
    generalize hQ : (fun (e : Ex) (s' : St) => _) = Q'
    simp only [D.l88_0b]
    simp [c6, c7, c8, c3, vs, xs, B6, undT, fnEnd, argsT, PT.get_put, keep, opRun, ev, evs, evO, give, giveI, binOf, isNilK, PM.flip, putT, putL, putH, loadOf, storeOf, cut, over, ofCells, asNat, natOr, calm, clashes, Acc.clash, ressOf, resOf, frz, frz.frzs, DV.flat, DV.flat.flats, imms]
    subst hQ
    exact .inr ⟨nofun, rfl, by simp [PT.get_put, c6], by simp [PT.get_put, c7], by simp [PT.get_put, c8], x, by simp [PT.get_put, c3], hx⟩
theorem Of_bl {d : Nat} {v : IV} {rs : List Rst} (hv : Sl 4 v (rs.map ivRS)) (hl : rs.length ≤ 1000) : ∃ w, bl (K DG (d + 2)) 88 [.imm v] = some (.imm w) ∧ Sl 1 w ((ofF rs).map ivI) := by
  have key : Fe (K DG (d + 1 + 1) 88 [.imm v] .lf 0 0) (fun x H n => Rw 1 H 0 n x ((ofF rs).map ivI)) := by
    rw [D.k88]
    refine fn_dw rfl ?_
    have vl := hv.len
    simp only [List.length_map] at vl
    have vs := hv.scal
    simp [vl, vs, B6, undT, fnEnd, argsT, PT.get_put, keep, opRun, ev, evs, evO, give, giveI, binOf, isNilK, PM.flip, putT, putL, putH, loadOf, storeOf, cut, over, ofCells, asNat, natOr, calm, clashes, Acc.clash, ressOf, resOf, frz, frz.frzs, DV.flat, DV.flat.flats, imms]
    refine loopOf hv hl ⟨by simp [PT.get_put], by simp [PT.get_put], by simp [PT.get_put], .imm .nils, by simp [PT.get_put], .inl ⟨rfl, by simp [ofF]⟩⟩ (fun s' hI => ?_)
    obtain ⟨c6, c7, c8, x, c3, hx⟩ := hI
    rw [List.take_length] at hx
    have xs := hx.scal
    have xo := hx.out
    simp [c6, c7, c8, c3, xs, xo, B6, undT, fnEnd, argsT, PT.get_put, keep, opRun, ev, evs, evO, give, giveI, binOf, isNilK, PM.flip, putT, putL, putH, loadOf, storeOf, cut, over, ofCells, asNat, natOr, calm, clashes, Acc.clash, ressOf, resOf, frz, frz.frzs, DV.flat, DV.flat.flats, imms]
    exact hx
  obtain ⟨x, H, n, e, hx⟩ := key
  obtain ⟨w, h1, h2⟩ := frz_rw hx
  exact ⟨w, bl_of e h1, h2⟩
/-- what a telegram says -/
def layT (e c : Int) (rs : List Rst) : List Th := .text [115, 116, 97, 116, 101] :: ((e :: c :: (rs.length : Int) :: ofF rs).map .int)
structure ILy (H0 : PT HB) (w a : Nat) (x : DV) (zs : List Int) (i : Nat) (st : St) : Prop where
  c7 : st.T.get 7 = some (.ptr a 0 0)
  c8 : st.T.get 8 = some (.imm (.bool true))
  c21 : st.T.get 21 = some x
  c22 : st.T.get 22 = some (.imm (.int .i64 (zs.length : Int)))
  c23 : st.T.get 23 = some (.imm (.int .i64 (i : Int)))
  cr : CrAt st.H w st.n a (.text [115, 116, 97, 116, 101] :: (zs.take i).map .int)
  fr : ∀ j, j < w → st.H.get j = H0.get j
  xa : ∃ id, (w ≤ id ∧ id < st.n ∧ id ≠ a) ∧ x = .sl id 0 zs.length zs.length ∧ st.H.get id = some ⟨1, zs.map rowI⟩
end Go.Proofs.YtnpcgejfkonfdabGreatDoor.D

-- FM
set_option linter.unusedVariables false
set_option linter.unusedSimpArgs false
set_option maxHeartbeats 16000000
namespace Go.Proofs.YtnpcgejfkonfdabGreatDoor.D
open Go Go.PM Go.Lib

/-- a crate at a, its rows in the block ob -/
def CrX (H : PT HB) (a : Nat) (ob : Option Nat) (ts : List Th) : Prop := (H.get a = some ⟨1, [[.imm .nils]]⟩ ∧ ts = [] ∧ ob = none) ∨
  ∃ b, ob = some b ∧ b ≠ a ∧ H.get a = some ⟨1, [[.sl b 0 ts.length ts.length]]⟩ ∧ H.get b = some ⟨1, ts.map rowT⟩
theorem CrAddX {d : Nat} {H : PT HB} {n a lo : Nat} {ob : Option Nat} {ts : List Th} (hla : lo ≤ a) (ha : a < n) (hob : ∀ b, ob = some b → b < n ∧ lo ≤ b) (h : CrX H a ob ts) (hlt : ts.length < 100) (t : Th) :
    Fe (K DG (d + 1) 137 [.ptr a 0 0, .imm (thI t)] H n lo) (fun v H' n' => v = .imm (.bool true) ∧ n ≤ n' ∧ (∃ b, n ≤ b ∧ b < n' ∧ CrX H' a (some b) (ts ++ [t])) ∧ ∀ j, j < n → j ≠ a → ob ≠ some j → H'.get j = H.get j) := by
  have hs := thI_sc t
  rw [D.k137]
  refine fn_dw rfl ?_
  rcases h with ⟨h1, rfl, rfl⟩ | ⟨b, rfl, hba, h1, h2⟩
  · have a2 : 16 ≤ appMax := by unfold appMax; omega
    have a0 : 1 ≤ appMax := by unfold appMax; omega
    have i0 : ILt 0 100 = True := ilt_t (by omega)
    have e1 : ¬ a = n := by omega
    have l3 : lo ≤ n := by omega
    have e2 : ¬ n = a := by omega
    simp (config := {contextual := true}) [CrX, h1, hs, hla, l3, e1, e2, ha, i0, evParts2, lay, unImms, unImm, mapO, rowsN, appOf, srcOf, rowsOf, raccOf, a0, a2, rowT, B6, undT, fnEnd, argsT, PT.get_put, keep, opRun, ev, evs, evO, give, giveI, binOf, isNilK, PM.flip, putT, putL, putH, loadOf, storeOf, cut, over, ofCells, asNat, natOr, calm, clashes, Acc.clash, ressOf, resOf, frz, frz.frzs, DV.flat, DV.flat.flats, imms]
    refine ⟨⟨n, by omega, by omega, by simp [e2]⟩, fun j hj h4 => ?_⟩
    have h3 : ¬ j = n := by omega
    simp [h3, h4]
  · obtain ⟨hb, l2⟩ := hob b rfl
    have hab : ¬ a = b := fun e => hba e.symm
    have a1 : ¬ ts.length + 1 ≤ ts.length := by omega
    have a2 : ts.length + 1 ≤ appMax := by unfold appMax; omega
    have a3 : (ts.length + 1) * 16 ≤ appMax := by unfold appMax; omega
    have e1 : ¬ a = n := by omega
    have l3 : lo ≤ n := by omega
    have e2 : ¬ n = a := by omega
    have e3 : ¬ b = n := by omega
    have e4 : ¬ n = b := by omega
    have i0 : ILt (ts.length : Int) 100 = True := ilt_t (by omega)
    simp (config := {contextual := true}) [CrX, h1, h2, hs, hla, l2, l3, hba, hab, e1, e2, e3, e4, ha, hlt, i0, evParts2, lay, unImms, unImm, mapO, rowsN, appOf, srcOf, rowsOf, raccOf, a1, a2, a3, rowT, B6, undT, fnEnd, argsT, PT.get_put, keep, opRun, ev, evs, evO, give, giveI, binOf, isNilK, PM.flip, putT, putL, putH, loadOf, storeOf, cut, over, ofCells, asNat, natOr, calm, clashes, Acc.clash, ressOf, resOf, frz, frz.frzs, DV.flat, DV.flat.flats, imms]
    refine ⟨⟨n, by omega, by omega, by simp [e2]⟩, fun j hj h4 h5 => ?_⟩
    have h3 : ¬ j = n := by omega
    have h6 : ¬ j = b := fun e => h5 e.symm
    simp [h3, h4, h6]
theorem CrIntX {d : Nat} {H : PT HB} {n a lo : Nat} {ob : Option Nat} {ts : List Th} (hla : lo ≤ a) (ha : a < n) (hob : ∀ b, ob = some b → b < n ∧ lo ≤ b) (h : CrX H a ob ts) (hlt : ts.length < 100) (z : Int) :
    Fe (K DG (d + 2) 89 [.ptr a 0 0, .imm (.int .i64 z)] H n lo) (fun v H' n' => v = .imm (.bool true) ∧ n ≤ n' ∧ (∃ b, n ≤ b ∧ b < n' ∧ CrX H' a (some b) (ts ++ [.int z])) ∧ ∀ j, j < n → j ≠ a → ob ≠ some j → H'.get j = H.get j) := by
  obtain ⟨v, H', n', e, rfl, r⟩ := CrAddX (d := d) hla ha hob h hlt (.int z)
  simp only [thI] at e
  rw [D.k89]
  refine fn_dw rfl ?_
  simp [e, B6, undT, fnEnd, argsT, PT.get_put, keep, opRun, ev, evs, evO, give, giveI, binOf, isNilK, PM.flip, putT, putL, putH, loadOf, storeOf, cut, over, ofCells, asNat, natOr, calm, clashes, Acc.clash, ressOf, resOf, frz, frz.frzs, DV.flat, DV.flat.flats, imms]
  exact ⟨r.1, r.2.1, fun j h1 h2 h3 => r.2.2 j h1 h2 h3⟩
theorem CrTextX {d : Nat} {H : PT HB} {n a lo : Nat} {ob : Option Nat} {ts : List Th} (hla : lo ≤ a) (ha : a < n) (hob : ∀ b, ob = some b → b < n ∧ lo ≤ b) (h : CrX H a ob ts) (hlt : ts.length < 100) (z : List UInt8) :
    Fe (K DG (d + 2) 87 [.ptr a 0 0, .imm (.str z)] H n lo) (fun v H' n' => v = .imm (.bool true) ∧ n ≤ n' ∧ (∃ b, n ≤ b ∧ b < n' ∧ CrX H' a (some b) (ts ++ [.text z])) ∧ ∀ j, j < n → j ≠ a → ob ≠ some j → H'.get j = H.get j) := by
  obtain ⟨v, H', n', e, rfl, r⟩ := CrAddX (d := d) hla ha hob h hlt (.text z)
  simp only [thI] at e
  rw [D.k87]
  refine fn_dw rfl ?_
  simp [e, B6, undT, fnEnd, argsT, PT.get_put, keep, opRun, ev, evs, evO, give, giveI, binOf, isNilK, PM.flip, putT, putL, putH, loadOf, storeOf, cut, over, ofCells, asNat, natOr, calm, clashes, Acc.clash, ressOf, resOf, frz, frz.frzs, DV.flat, DV.flat.flats, imms]
  exact ⟨r.1, r.2.1, fun j h1 h2 h3 => r.2.2 j h1 h2 h3⟩
/-! ### Lay -/
structure ILz (H0 : PT HB) (n0 a : Nat) (x : DV) (zs : List Int) (i : Nat) (st : St) : Prop where
  c7 : st.T.get 7 = some (.ptr a 0 0)
  c8 : st.T.get 8 = some (.imm (.bool true))
  c21 : st.T.get 21 = some x
  c22 : st.T.get 22 = some (.imm (.int .i64 (zs.length : Int)))
  c23 : st.T.get 23 = some (.imm (.int .i64 (i : Int)))
  cr : ∃ b, (n0 ≤ b ∧ b < st.n) ∧ CrX st.H a (some b) (.text [115, 116, 97, 116, 101] :: (zs.take i).map .int) ∧ x ≠ .sl b 0 zs.length zs.length
  fr : ∀ j, j < n0 → st.H.get j = H0.get j
  xa : x = .imm (.lst true 1 (zs.map ivI)) ∨ ∃ id, (n0 ≤ id ∧ id < st.n ∧ id ≠ a) ∧ x = .sl id 0 zs.length zs.length ∧ st.H.get id = some ⟨1, zs.map rowI⟩
  an : n0 ≤ a ∧ a < st.n
theorem loopLy {d : Nat} {H0 : PT HB} {n0 a lo : Nat} {x : DV} {zs : List Int} (hlo : lo ≤ n0) (hl : zs.length ≤ 99) {st : St} (h : ILz H0 n0 a x zs 0 st) {ks : List Kf} {Q : Ex → St → Prop}
    (hk : ∀ s', ILz H0 n0 a x zs zs.length s' → Bk DG (K DG (d + 2)) lo (.exit 0) ks s' Q) : Wp DG (K DG (d + 2)) lo D.l52_0 ks st Q := by
  refine dw_loop (N := zs.length) (small (by have := rb3; omega)) (fun i st => ILz H0 n0 a x zs i st) (fun e s' => e = .exit 0 ∧ ILz H0 n0 a x zs zs.length s') (fun i st hle hI => ?_) h (fun e s' h => by
    obtain ⟨rfl, h⟩ := h
    exact hk s' h)
  obtain ⟨c7, c8, c21, c22, c23, ⟨b, ⟨b1, b2⟩, cr, xb⟩, fr, xa, an1, an2⟩ := hI
  by_cases hi : i < zs.length
  · have hi1 : (i : Int) < zs.length := by omega
    have hi' := ilt_t hi1
    have hw8 : IntKind.i64.wrap ((i : Int) + 1) = (i : Int) + 1 := wr_succ hi (by have := rb3; omega)
    have hL : (Th.text [115, 116, 97, 116, 101] :: (zs.take i).map Th.int).length < 100 := by simp; omega
    have hmt : (zs.take (i + 1)).map Th.int = (zs.take i).map Th.int ++ [.int zs[i]] := by
      rw [List.take_add_one, List.getElem?_eq_getElem hi, List.map_append]
      rfl
    obtain ⟨v, H', n', e, rfl, hn, ⟨b', p1, p2, p3⟩, p4⟩ := CrIntX (d := d) (lo := lo) (by omega) an2 (fun c hc => by cases hc; omega) cr hL zs[i]
    have cr2 : CrX H' a (some b') (.text [115, 116, 97, 116, 101] :: (zs.take (i + 1)).map .int) := by
      rw [hmt]
      exact p3
    have fr2 : ∀ j, j < n0 → H'.get j = H0.get j := fun j hj => by rw [p4 j (by omega) (by omega) (fun e => by cases e; omega)]; exact fr j hj
    rcases xa with rfl | ⟨id, ⟨i1, i2, i3⟩, rfl, hx⟩
    · have ix := fun {h : Nat → Option HB} {n : Nat} => idx_sl (h := h) (n := n) (v := .lst true 1 (zs.map ivI)) (xs := zs) (f := ivI) (.inr ⟨true, rfl⟩) (by omega) (k := .i64) (z := (i : Int)) (by omega) hi1
      simp only [Int.toNat_natCast, nth, List.getD_eq_getElem?_getD, List.getElem?_eq_getElem hi, Option.getD_some] at ix
      generalize hes : zs.map ivI = es at *
      generalize zs[i] = z at *
      generalize hQ : (fun (e : Ex) (s' : St) => _) = Q'
      simp only [D.l52_0b]
      simp [c7, c8, c21, c22, c23, hi', hw8, ix, e, ivI, imms, B6, undT, fnEnd, argsT, PT.get_put, keep, opRun, ev, evs, evO, give, giveI, binOf, isNilK, PM.flip, putT, putL, putH, loadOf, storeOf, cut, over, ofCells, asNat, natOr, calm, clashes, Acc.clash, ressOf, resOf, frz, frz.frzs, DV.flat, DV.flat.flats, imms]
      subst hQ
      exact .inl ⟨rfl, hi, by simp [PT.get_put], by simp [PT.get_put], by simp [PT.get_put], by simp [PT.get_put], by simp [PT.get_put], ⟨b', by simp; omega, cr2, fun e => by cases e⟩, fr2, .inl (by rw [hes]), by simp; omega⟩
    · have hidb : id ≠ b := fun e => xb (by rw [e])
      have ix := fun {n : Nat} => idx_hp (h := st.H.get) (n := n) (id := id) (row := 0) (len := zs.length) (cap := zs.length) hx rfl (k := .i64) (z := (i : Int)) (by omega) hi1
      simp only [Int.toNat_natCast, Nat.zero_add] at ix
      have hrow : (zs.map rowI)[i]? = some (rowI (zs[i])) := by rw [List.getElem?_map, List.getElem?_eq_getElem hi]; rfl
      have hx2 : H'.get id = some ⟨1, zs.map rowI⟩ := by rw [p4 id i2 i3 (fun e => by cases e; exact hidb rfl)]; exact hx
      generalize hrows : zs.map rowI = rows at *
      generalize zs[i] = z at *
      generalize hQ : (fun (e : Ex) (s' : St) => _) = Q'
      simp only [D.l52_0b]
      simp [c7, c8, c21, c22, c23, hi', hw8, ix, hx, hrow, e, rowI, B6, undT, fnEnd, argsT, PT.get_put, keep, opRun, ev, evs, evO, give, giveI, binOf, isNilK, PM.flip, putT, putL, putH, loadOf, storeOf, cut, over, ofCells, asNat, natOr, calm, clashes, Acc.clash, ressOf, resOf, frz, frz.frzs, DV.flat, DV.flat.flats, imms]
      subst hQ
      exact .inl ⟨rfl, hi, by simp [PT.get_put], by simp [PT.get_put], by simp [PT.get_put], by simp [PT.get_put], by simp [PT.get_put], ⟨b', by simp; omega, cr2, fun e => by cases e; omega⟩, fr2, .inr ⟨id, by simp; omega, rfl, by simpa [hrows] using hx2⟩, by simp; omega⟩
  · obtain rfl : i = zs.length := by omega
    have xs : x.scal = true := by rcases xa with rfl | ⟨id, _, rfl, _⟩ <;> rfl
    generalize hQ : (fun (e : Ex) (s' : St) => _) = Q'
    simp only [D.l52_0b]
    simp [c7, c8, c21, c22, c23, B6, undT, fnEnd, argsT, PT.get_put, keep, opRun, ev, evs, evO, give, giveI, binOf, isNilK, PM.flip, putT, putL, putH, loadOf, storeOf, cut, over, ofCells, asNat, natOr, calm, clashes, Acc.clash, ressOf, resOf, frz, frz.frzs, DV.flat, DV.flat.flats, imms]
    subst hQ
    exact .inr ⟨nofun, rfl, by simp [PT.get_put, c7], by simp [PT.get_put, c8], by simp [PT.get_put, c21], by simp [PT.get_put, c22], by simp [PT.get_put, c23], ⟨b, ⟨b1, b2⟩, cr, xb⟩, fr, xa, an1, an2⟩
theorem CrNewX {d : Nat} {H : PT HB} {n lo : Nat} (hlo : lo ≤ n) : ∃ H' n', K DG (d + 1) 86 [] H n lo = some (.ptr n 0 0, H', n') ∧ n' = n + 1 ∧ CrX H' n none [] ∧ ∀ j, j < n → H'.get j = H.get j := by
  have key : Fe (K DG (d + 1) 86 [] H n lo) (fun v H' n' => v = .ptr n 0 0 ∧ n' = n + 1 ∧ CrX H' n none [] ∧ ∀ j, j < n → H'.get j = H.get j) := by
    rw [D.k86]
    refine fn_dw rfl ?_
    simp (config := {contextual := true}) [CrX, hlo, evParts, lay, unImms, unImm, mapO, B6, undT, fnEnd, argsT, PT.get_put, keep, opRun, ev, evs, evO, give, giveI, binOf, isNilK, PM.flip, putT, putL, putH, loadOf, storeOf, cut, over, ofCells, asNat, natOr, calm, clashes, Acc.clash, ressOf, resOf, frz, frz.frzs, DV.flat, DV.flat.flats, imms]
    intro j h e
    omega
  obtain ⟨v, H', n', e, rfl, r⟩ := key
  exact ⟨H', n', e, r⟩
theorem CrX.at {H : PT HB} {w n a b : Nat} {ts : List Th} (h : CrX H a (some b) ts) (ha : w ≤ a ∧ a < n) (hb : w ≤ b ∧ b < n) : CrAt H w n a ts := by
  rcases h with ⟨_, _, h⟩ | ⟨c, hc, h1, h2, h3⟩
  · cases h
  · cases hc
    exact ⟨ha, .inr ⟨b, hb, h1, h2, h3⟩⟩
theorem Lay_fn {d : Nat} {H : PT HB} {n lo : Nat} {v : IV} {rs : List Rst} (hlo : lo ≤ n) (hv : Sl 4 v (rs.map ivRS)) (hl : rs.length ≤ 20) (e c : Int) :
    ∃ H' n', K DG (d + 3) 52 [.imm (.int .i64 e), .imm (.int .i64 c), .imm v] H n lo = some (.ptr n 0 0, H', n') ∧ n ≤ n' ∧ CrAt H' n n' n (layT e c rs) ∧ ∀ j, j < n → H'.get j = H.get j := by
  have vl := hv.len
  simp only [List.length_map] at vl
  have vs := hv.scal
  obtain ⟨H1, n1, e1, rfl, cx, f1⟩ := CrNewX (d := d + 1) (H := H) (n := n) (lo := lo) hlo
  obtain ⟨v2, H2, n2, e2, rfl, hn2, ⟨b, b1, b2, cx2⟩, f2⟩ := CrTextX (d := d) (H := H1) (n := n + 1) (lo := lo) hlo (by omega) (fun b hb => by cases hb) cx (by simp) [115, 116, 97, 116, 101]
  obtain ⟨w, ew, hw⟩ := Of_bl (d := d) hv (by omega)
  obtain ⟨zs, hzs⟩ : ∃ zs : List Int, zs = e :: c :: (rs.length : Int) :: ofF rs := ⟨_, rfl⟩
  have hzl : zs.length = 3 + 4 * rs.length := by rw [hzs]; simp [ofF_len]; omega
  have key : Fe (K DG (d + 2 + 1) 52 [.imm (.int .i64 e), .imm (.int .i64 c), .imm v] H n lo) (fun v' H' n' => v' = .ptr n 0 0 ∧ n ≤ n' ∧ CrAt H' n n' n (layT e c rs) ∧ ∀ j, j < n → H'.get j = H.get j) := by
    rw [D.k52]
    refine fn_dw rfl ?_
    have hz3 : zs.map ivI = [[.int .i64 e], [.int .i64 c], [.int .i64 (rs.length : Int)]] ++ (ofF rs).map ivI := by rw [hzs]; simp [ivI]
    have fin : ∀ (x : DV) (s' : St), ILz H n n x zs zs.length s' → CrAt s'.H n s'.n n (layT e c rs) ∧ n ≤ s'.n ∧ ∀ j, j < n → s'.H.get j = H.get j := fun x s' hI => by
      obtain ⟨c7, c8, c21, c22, c23, ⟨b, ⟨b1, b2⟩, cr, xb⟩, fr, xa, an1, an2⟩ := hI
      rw [List.take_length] at cr
      have : layT e c rs = .text [115, 116, 97, 116, 101] :: zs.map .int := by rw [hzs]; rfl
      rw [this]
      exact ⟨cr.at ⟨an1, an2⟩ ⟨b1, b2⟩, by omega, fr⟩
    have cx2' : CrX H2 n (some b) (.text [115, 116, 97, 116, 101] :: (zs.take 0).map .int) := by simpa using cx2
    have f3 : ∀ j, j < n → H2.get j = H.get j := fun j hj => by rw [f2 j (by omega) (by omega) (fun h => by cases h), f1 j hj]
    have ws := hw.scal
    by_cases hr : rs = []
    · have hw0 : Sl 1 w [] := by rw [hr] at hw; exact hw
      obtain ⟨sb, hsrc, _⟩ := src_sl hw0 H2.get
      have ha : appOf H2.get n2 lo 1 8 (.imm (.lst true 1 [[.int .i64 e], [.int .i64 c], [.int .i64 (rs.length : Int)]])) (.imm w) = some { v := .imm (.lst true 1 (zs.map ivI)), n' := n2, acc := [] } := by
        rw [hz3, hr]
        simp [appOf, hsrc, raccOf, ofF]
      have hle : (zs.map ivI).length = zs.length := by simp
      generalize hes : zs.map ivI = es at *
      simp [vl, vs, ws, e1, e2, ew, ha, hle, evParts2, lay, unImms, unImm, mapO, rowsN, imms, B6, undT, fnEnd, argsT, PT.get_put, keep, opRun, ev, evs, evO, give, giveI, binOf, isNilK, PM.flip, putT, putL, putH, loadOf, storeOf, cut, over, ofCells, asNat, natOr, calm, clashes, Acc.clash, ressOf, resOf, frz, frz.frzs, DV.flat, DV.flat.flats, imms]
      refine loopLy (n0 := n) (a := n) (zs := zs) (x := .imm (.lst true 1 es)) (H0 := H) hlo (by omega) ⟨by simp [PT.get_put], by simp [PT.get_put], by simp [PT.get_put], by simp [PT.get_put], by simp [PT.get_put], ⟨b, by simp; omega, cx2', fun e => by cases e⟩, f3, .inl (by rw [hes]), by simp; omega⟩ (fun s' hI => ?_)
      obtain ⟨g1, g2, g3⟩ := fin _ s' hI
      obtain ⟨c7, c8, c21, c22, c23, _, fr, xa, an1, an2⟩ := hI
      simp [c7, c8, c21, c22, c23, B6, undT, fnEnd, argsT, PT.get_put, keep, opRun, ev, evs, evO, give, giveI, binOf, isNilK, PM.flip, putT, putL, putH, loadOf, storeOf, cut, over, ofCells, asNat, natOr, calm, clashes, Acc.clash, ressOf, resOf, frz, frz.frzs, DV.flat, DV.flat.flats, imms]
      exact ⟨g2, g1, g3⟩
    · have hne : (ofF rs).map ivI ≠ [] := by
        intro h
        have := congrArg List.length h
        simp [ofF_len] at this
        exact hr (List.length_eq_zero_iff.1 (by omega))
      obtain ⟨sb, hsrc, hsb⟩ := src_sl hw H2.get
      obtain rfl := hsb hne
      have am : 20000000 ≤ appMax := by unfold appMax; omega
      have hol : ((ofF rs).map ivI).length ≤ 100 := by simp [ofF_len]; omega
      have hne2 : ¬ rs = [] := hr
      have hne3 : ¬ ofF rs = [] := fun h => hne (by rw [h]; rfl)
      have hll : 3 + (ofF rs).length = zs.length := by rw [hzl, ofF_len]
      have hpz : 0 < zs.length := by omega
      have a1 : zs.length ≤ appMax := by omega
      have a2 : zs.length * 8 ≤ appMax := by omega
      have ha : appOf H2.get n2 lo 1 8 (.imm (.lst true 1 [[.int .i64 e], [.int .i64 c], [.int .i64 (rs.length : Int)]])) (.imm w) = some { v := .sl n2 0 zs.length zs.length, hw := [(n2, some ⟨1, zs.map rowI⟩)], n' := n2 + 1, acc := [.wX n2] } := by
        have hrow : zs.map rowI = (zs.map ivI).map imms := by rw [List.map_map]; rfl
        rw [hrow, hz3]
        have ho : 3 + (ofF rs).length = zs.length := hll
        simp [appOf, hsrc, raccOf, hne3, imms] 
        constructor
        · constructor
          · omega
          · omega
        · omega
      generalize hes : zs.map rowI = es at *
      simp [vl, vs, ws, e1, e2, ew, ha, evParts2, lay, unImms, unImm, mapO, rowsN, imms, B6, undT, fnEnd, argsT, PT.get_put, keep, opRun, ev, evs, evO, give, giveI, binOf, isNilK, PM.flip, putT, putL, putH, loadOf, storeOf, cut, over, ofCells, asNat, natOr, calm, clashes, Acc.clash, ressOf, resOf, frz, frz.frzs, DV.flat, DV.flat.flats, imms]
      have hnb : ¬ n = n2 := by omega
      have hbb : ¬ b = n2 := by omega
      refine loopLy (n0 := n) (a := n) (zs := zs) (x := .sl n2 0 zs.length zs.length) (H0 := H) hlo (by omega) ⟨by simp [PT.get_put], by simp [PT.get_put], by simp [PT.get_put], by simp [PT.get_put], by simp [PT.get_put], ⟨b, by simp; omega, ?_, fun e => by cases e; omega⟩, fun j hj => ?_, .inr ⟨n2, by simp; omega, rfl, by simp [PT.get_put, hes]⟩, by simp; omega⟩ (fun s' hI => ?_)
      · rcases cx2' with ⟨_, _, h⟩ | ⟨b', h1, h2, h3, h4⟩
        · cases h
        · cases h1
          exact .inr ⟨b, rfl, h2, by simp [PT.get_put, hnb]; simpa using h3, by simp [PT.get_put, hbb]; simpa using h4⟩
      · have : ¬ j = n2 := by omega
        simp [PT.get_put, this]
        exact f3 j hj
      · obtain ⟨g1, g2, g3⟩ := fin _ s' hI
        obtain ⟨c7, c8, c21, c22, c23, _, fr, xa, an1, an2⟩ := hI
        simp [c7, c8, c21, c22, c23, B6, undT, fnEnd, argsT, PT.get_put, keep, opRun, ev, evs, evO, give, giveI, binOf, isNilK, PM.flip, putT, putL, putH, loadOf, storeOf, cut, over, ofCells, asNat, natOr, calm, clashes, Acc.clash, ressOf, resOf, frz, frz.frzs, DV.flat, DV.flat.flats, imms]
        exact ⟨g2, g1, g3⟩
  obtain ⟨v', H', n', e, rfl, r⟩ := key
  exact ⟨H', n', e, r⟩
end Go.Proofs.YtnpcgejfkonfdabGreatDoor.D

-- FN
set_option linter.unusedVariables false
set_option linter.unusedSimpArgs false
set_option maxHeartbeats 16000000
namespace Go.Proofs.YtnpcgejfkonfdabGreatDoor.D
open Go Go.PM Go.Lib

def intsF : List Th → Option (List Int)
  | [] => some []
  | .int z :: r => (intsF r).map (z :: ·)
  | _ :: _ => none
theorem intsF_app {ts : List Th} {zs : List Int} (h : intsF ts = some zs) (z : Int) : intsF (ts ++ [.int z]) = some (zs ++ [z]) := by
  induction ts generalizing zs with
  | nil => simp only [intsF] at h; cases h; rfl
  | cons t ts ih =>
    cases t with
    | int y =>
      simp only [intsF, Option.map_eq_some_iff] at h
      obtain ⟨ys, h1, rfl⟩ := h
      simp only [List.cons_append, intsF, ih h1]
      rfl
    | text s => simp [intsF] at h
    | bool s => simp [intsF] at h
theorem intsF_none {ts : List Th} {i : Nat} (hi : i < ts.length) (h : ∀ z, ts[i] ≠ .int z) : intsF ts = none := by
  induction ts generalizing i with
  | nil => simp at hi
  | cons t ts ih =>
    cases t with
    | int y =>
      cases i with
      | zero => exact absurd rfl (h y)
      | succ i =>
        simp only [intsF]
        rw [ih (i := i) (by simpa using hi) (fun z => by simpa using h z)]
        rfl
    | text s => rfl
    | bool s => rfl
theorem intsF_len {ts : List Th} {zs : List Int} (h : intsF ts = some zs) : zs.length = ts.length := by
  induction ts generalizing zs with
  | nil => simp only [intsF] at h; cases h; rfl
  | cons t ts ih =>
    cases t with
    | int y =>
      simp only [intsF, Option.map_eq_some_iff] at h
      obtain ⟨ys, h1, rfl⟩ := h
      simp [ih h1]
    | text s => simp [intsF] at h
    | bool s => simp [intsF] at h
theorem intsF_map (zs : List Int) : intsF (zs.map .int) = some zs := by
  induction zs with
  | nil => rfl
  | cons z zs ih => simp only [List.map_cons, intsF, ih]; rfl
def tkF : List Int → Option (List Rst)
  | m :: t :: g :: s :: r => if s = 0 ∨ s = 1 then (tkF r).map (⟨m, t, g, s == 1⟩ :: ·) else none
  | _ => some []
theorem takeI_tk : ∀ zs : List Int, takeI zs = (tkF zs).map (·.map ivRS)
  | m :: t :: g :: s :: r => by
    have ih := takeI_tk r
    simp only [takeI, tkF]
    by_cases h : s = 0 ∨ s = 1
    · rw [if_pos h, if_pos h, ih, Option.map_map, Option.map_map]
      rfl
    · rw [if_neg h, if_neg h]
      rfl
  | [] => rfl
  | [_] => rfl
  | [_, _] => rfl
  | [_, _, _] => rfl
theorem tkF_len : ∀ {zs : List Int} {qs : List Rst}, tkF zs = some qs → 4 * qs.length ≤ zs.length
  | m :: t :: g :: s :: r, qs, h => by
    simp only [tkF] at h
    split at h
    · simp only [Option.map_eq_some_iff] at h
      obtain ⟨us, h1, rfl⟩ := h
      have := tkF_len h1
      simp
      omega
    · cases h
  | [], qs, h => by simp only [tkF] at h; cases h; simp
  | [_], qs, h => by simp only [tkF] at h; cases h; simp
  | [_, _], qs, h => by simp only [tkF] at h; cases h; simp
  | [_, _, _], qs, h => by simp only [tkF] at h; cases h; simp
theorem tkF_of : ∀ rs : List Rst, tkF (ofF rs) = some rs
  | [] => rfl
  | x :: rs => by
    have e : ofF (x :: rs) = x.mode :: x.timer :: x.gone :: bi x.seen :: ofF rs := by simp [ofF, of1]
    obtain ⟨m, t, g, s⟩ := x
    rw [e, tkF, tkF_of rs]
    cases s <;> simp [bi]
def readF (ts : List Th) : Option (Int × Int × List Rst) := match intsF (ts.drop 1) with
  | none => none
  | some zs => match ts with
    | .text s :: _ => if s = [115, 116, 97, 116, 101] ∧ 3 ≤ zs.length ∧ (zs.length - 3) % 4 = 0 then match tkF (zs.drop 3) with
        | some qs => if nth zs 2 = (qs.length : Int) then some (nth zs 0, nth zs 1, qs) else none
        | none => none
      else none
    | _ => none
theorem readF_lay (e c : Int) (rs : List Rst) : readF (layT e c rs) = some (e, c, rs) := by
  have h1 : intsF ((layT e c rs).drop 1) = some (e :: c :: (rs.length : Int) :: ofF rs) := intsF_map _
  unfold readF
  rw [h1]
  simp only [layT]
  rw [if_pos ⟨trivial, by simp, by simp [ofF_len]⟩]
  have h2 : (e :: c :: (rs.length : Int) :: ofF rs).drop 3 = ofF rs := rfl
  rw [h2, tkF_of]
  exact if_pos rfl
structure IRd (H0 : PT HB) (w a : Nat) (ts : List Th) (j : Nat) (st : St) : Prop where
  c0 : st.T.get 0 = some (.ptr a 0 0)
  c7 : st.T.get 7 = some (.imm (.int .i64 ((j + 1 : Nat) : Int)))
  s : ∃ x zs, intsF ((ts.drop 1).take j) = some zs ∧ st.T.get 6 = some x ∧ Rw 1 st.H w st.n x (zs.map ivI)
  fr : ∀ i, i < w → st.H.get i = H0.get i
  hn : w ≤ st.n
theorem loopRd {d : Nat} {H0 : PT HB} {w a lo : Nat} {ts : List Th} (hlo : lo ≤ w) (hc : CrAt H0 0 w a ts) (hl : ts.length ≤ 100)
    {st : St} (h : IRd H0 w a ts 0 st) {ks : List Kf} {Q : Ex → St → Prop}
    (hk : ∀ s', IRd H0 w a ts (ts.length - 1) s' → Bk DG (K DG (d + 3)) lo (.exit 0) ks s' Q)
    (hr : ∀ s', intsF (ts.drop 1) = none → s'.T.get 2 = some (.imm (.int .i64 0)) → s'.T.get 3 = some (.imm (.int .i64 0)) → s'.T.get 4 = some (.imm .nils) → s'.T.get 5 = some (.imm (.bool false)) → w ≤ s'.n → Bk DG (K DG (d + 3)) lo .ret ks s' Q) :
    Wp DG (K DG (d + 3)) lo D.l56_0 ks st Q := by
  refine dw_loop (N := ts.length - 1) (small (by have := rb3; omega)) (fun i st => IRd H0 w a ts i st) (fun e s' => (e = .exit 0 ∧ IRd H0 w a ts (ts.length - 1) s') ∨ (e = .ret ∧ intsF (ts.drop 1) = none ∧ s'.T.get 2 = some (.imm (.int .i64 0)) ∧ s'.T.get 3 = some (.imm (.int .i64 0)) ∧ s'.T.get 4 = some (.imm .nils) ∧ s'.T.get 5 = some (.imm (.bool false)) ∧ w ≤ s'.n)) (fun i st hle hI => ?_) h (fun e s' h => by
    rcases h with ⟨rfl, h⟩ | ⟨rfl, h1, h2, h3, h4, h5, h6⟩
    · exact hk s' h
    · exact hr s' h1 h2 h3 h4 h5 h6)
  obtain ⟨c0, c7, ⟨x, zs, hz, c6, hx⟩, fr, hn⟩ := hI
  have xs := hx.scal
  have hc1 : CrAt st.H 0 st.n a ts := hc.mono hn fr
  obtain ⟨m1, e1, hm1⟩ := CrLen_ro (d := d + 1) hc1 lo
  have hc2 : CrAt st.H 0 m1 a ts := hc1.mono hm1 fun _ _ => rfl
  obtain ⟨m2, e2, hm2⟩ := CrInt_ro (d := d) hc2 (((i + 1 : Nat)) : Int) lo
  by_cases hi : i < ts.length - 1
  · have hi1 : i + 1 < ts.length := by omega
    have hi' : ILt (((i + 1 : Nat)) : Int) (ts.length : Int) = True := ilt_t (by omega)
    have hw8 : IntKind.i64.wrap (((i + 1 : Nat) : Int) + 1) = ((i + 1 + 1 : Nat) : Int) := wr_succ (n := ts.length) hi1 (by have := rb3; omega)
    rw [atI_get hi1] at e2
    have htk : (ts.drop 1).take (i + 1) = (ts.drop 1).take i ++ [ts[i + 1]] := by
      rw [List.take_add_one, List.getElem?_drop, Nat.add_comm 1 i, List.getElem?_eq_getElem hi1]
      rfl
    have hnone : (∀ z, ts[i + 1] ≠ .int z) → intsF (ts.drop 1) = none := fun h => intsF_none (i := i) (by simp; omega) (fun z => by
      rw [List.getElem_drop]
      simpa [Nat.add_comm 1 i] using h z)
    have hzl := intsF_len hz
    cases ht : ts[i + 1] with
    | int z =>
      rw [ht] at e2 htk
      simp only [thI, intOf, Option.getD_some, Option.isSome_some] at e2
      obtain ⟨x', hw, acc, a1, a2, a3⟩ := app_rw (bytes := 8) (lo := lo) (w := w) (n := m2) (H := st.H) hlo (by omega) (show Rw 1 st.H w m2 x _ from by
        rcases hx with hx | ⟨id, ⟨p1, p2⟩, p3⟩
        · exact .inl hx
        · exact .inr ⟨id, ⟨p1, by omega⟩, p3⟩) (by omega) (by simp at hzl ⊢; omega) (by omega) (es := [[.int .i64 z]]) (by simp) (by simp)
      have a2s := a2.scal
      have a2' : Rw 1 (putH st.H hw) w (m2 + 1) x' ((zs ++ [z]).map ivI) := by
        rw [List.map_append]
        exact a2
      generalize (((i + 1 : Nat)) : Int) = iz at *
      generalize hQ : (fun (e : Ex) (s' : St) => _) = Q'
      simp only [D.l56_0b]
      simp [c0, c6, c7, xs, hi', hw8, e1, e2, a1, a2s, evParts2, lay, unImms, unImm, mapO, rowsN, imms, B6, undT, fnEnd, argsT, PT.get_put, keep, opRun, ev, evs, evO, give, giveI, binOf, isNilK, PM.flip, putT, putL, putH, loadOf, storeOf, cut, over, ofCells, asNat, natOr, calm, clashes, Acc.clash, ressOf, resOf, frz, frz.frzs, DV.flat, DV.flat.flats, imms]
      subst hQ
      exact .inl ⟨rfl, hi, by simp [PT.get_put], by simp [PT.get_put], ⟨x', zs ++ [z], by rw [htk]; exact intsF_app hz z, by simp [PT.get_put], a2'⟩, fun j hj => (a3 j hj).trans (fr j hj), by simp; omega⟩
    | text s =>
      rw [ht] at e2
      simp only [thI, intOf, Option.getD_none, Option.isSome_none] at e2
      have hno := hnone (fun z => by rw [ht]; exact nofun)
      generalize (((i + 1 : Nat)) : Int) = iz at *
      generalize hQ : (fun (e : Ex) (s' : St) => _) = Q'
      simp only [D.l56_0b]
      simp [c0, c6, c7, xs, hi', hw8, e1, e2, B6, undT, fnEnd, argsT, PT.get_put, keep, opRun, ev, evs, evO, give, giveI, binOf, isNilK, PM.flip, putT, putL, putH, loadOf, storeOf, cut, over, ofCells, asNat, natOr, calm, clashes, Acc.clash, ressOf, resOf, frz, frz.frzs, DV.flat, DV.flat.flats, imms]
      subst hQ
      exact .inr ⟨nofun, .inr ⟨rfl, hno, by simp [PT.get_put], by simp [PT.get_put], by simp [PT.get_put], by simp [PT.get_put], by simp; omega⟩⟩
    | bool s =>
      rw [ht] at e2
      simp only [thI, intOf, Option.getD_none, Option.isSome_none] at e2
      have hno := hnone (fun z => by rw [ht]; exact nofun)
      generalize (((i + 1 : Nat)) : Int) = iz at *
      generalize hQ : (fun (e : Ex) (s' : St) => _) = Q'
      simp only [D.l56_0b]
      simp [c0, c6, c7, xs, hi', hw8, e1, e2, B6, undT, fnEnd, argsT, PT.get_put, keep, opRun, ev, evs, evO, give, giveI, binOf, isNilK, PM.flip, putT, putL, putH, loadOf, storeOf, cut, over, ofCells, asNat, natOr, calm, clashes, Acc.clash, ressOf, resOf, frz, frz.frzs, DV.flat, DV.flat.flats, imms]
      subst hQ
      exact .inr ⟨nofun, .inr ⟨rfl, hno, by simp [PT.get_put], by simp [PT.get_put], by simp [PT.get_put], by simp [PT.get_put], by simp; omega⟩⟩
  · obtain rfl : i = ts.length - 1 := by omega
    have hi' : ILt (((ts.length - 1 + 1 : Nat)) : Int) (ts.length : Int) = False := ilt_f (by omega)
    generalize hiz : (((ts.length - 1 + 1 : Nat)) : Int) = iz at c7 hi'
    generalize hQ : (fun (e : Ex) (s' : St) => _) = Q'
    simp only [D.l56_0b]
    simp [c0, c6, c7, xs, hi', e1, B6, undT, fnEnd, argsT, PT.get_put, keep, opRun, ev, evs, evO, give, giveI, binOf, isNilK, PM.flip, putT, putL, putH, loadOf, storeOf, cut, over, ofCells, asNat, natOr, calm, clashes, Acc.clash, ressOf, resOf, frz, frz.frzs, DV.flat, DV.flat.flats, imms]
    subst hQ
    exact .inr ⟨nofun, .inl ⟨rfl, by simp [PT.get_put, c0], by rw [hiz]; simp [PT.get_put, c7], ⟨x, zs, hz, by simp [PT.get_put, c6], by
      rcases hx with hx | ⟨id, ⟨p1, p2⟩, p3⟩
      · exact .inl hx
      · exact .inr ⟨id, ⟨p1, by simp; omega⟩, p3⟩⟩, fr, by simp; omega⟩⟩
theorem mapO_rowInt : ∀ zs : List Int, mapO rowInt (zs.map rowI) = some zs
  | [] => rfl
  | z :: zs => by
    have h := mapO_rowInt zs
    simp only [List.map_cons, mapO, h]
    rfl
theorem rowI_imms (zs : List Int) : (zs.map ivI).map imms = zs.map rowI := by
  rw [List.map_map]
  rfl
/-- what Take answers -/
theorem takeP_of {zs : List Int} : (zs.length % 4 ≠ 0 ∧ takeP zs = (.nils, false)) ∨ (zs.length % 4 = 0 ∧ ((tkF zs = none ∧ takeP zs = (.nils, false)) ∨ ∃ qs v, tkF zs = some qs ∧ takeP zs = (v, true) ∧ Sl 4 v (qs.map ivRS))) := by
  unfold takeP
  by_cases h : zs.length % 4 ≠ 0
  · exact .inl ⟨h, if_pos h⟩
  · refine .inr ⟨by omega, ?_⟩
    rw [if_neg h, takeI_tk]
    cases htk : tkF zs with
    | none => exact .inl ⟨rfl, rfl⟩
    | some qs =>
      refine .inr ⟨qs, ?_⟩
      cases qs with
      | nil => exact ⟨.nils, rfl, rfl, .inl ⟨rfl, rfl⟩⟩
      | cons q qs => exact ⟨_, rfl, rfl, .inr ⟨false, rfl⟩⟩
theorem Take_ro {d : Nat} {H : PT HB} {n lo : Nat} {w : Option Nat} {x : DV} {zs : List Int} (hx : rowsOf H.get x = some (w, 1, zs.map rowI) ∨ (zs = [] ∧ ∃ s sz, rowsOf H.get x = some (s, sz, []))) (ho : x.out = true) (hl : zs.length ≤ 1000) :
    callM (K DG (d + 1)) .ro 95 [x] H n lo = some ⟨.tup [.imm (takeP zs).1, .imm (.bool (takeP zs).2)], H, n, [.rA]⟩ := by
  have e : K DG (d + 1) 95 [x] H n n = some (.tup [.imm (takeP zs).1, .imm (.bool (takeP zs).2)], H, n) := by
    rw [D.k95]
    show primTake [x] H n n = _
    unfold primTake
    rcases hx with hx | ⟨rfl, s, sz, hx⟩
    · simp only [hx, mapO_rowInt]
      rw [if_pos ⟨.inl trivial, by omega⟩]
    · simp only [hx, mapO]
      rw [if_pos ⟨.inr trivial, by simp⟩]
  rw [callM_ro, if_pos (by simp [DV.out.outs, ho]), e]
  rfl
def RdP (ts : List Th) (v : DV) : Prop := (readF ts = none ∧ v = .tup [.imm (.int .i64 0), .imm (.int .i64 0), .imm .nils, .imm (.bool false)]) ∨
  ∃ e c qs u, readF ts = some (e, c, qs) ∧ v = .tup [.imm (.int .i64 e), .imm (.int .i64 c), .imm u, .imm (.bool true)] ∧ Sl 4 u (qs.map ivRS)
theorem Read_fe {d : Nat} {H : PT HB} {n a : Nat} {ts : List Th} (hc : CrAt H 0 n a ts) (hl : ts.length ≤ 100) :
    Fe (K DG (d + 4) 56 [.ptr a 0 0] H n n) (fun v _ n' => n ≤ n' ∧ RdP ts v) := by
  rw [D.k56]
  refine fn_dw rfl ?_
  simp [B6, undT, fnEnd, argsT, PT.get_put, keep, opRun, ev, evs, evO, give, giveI, binOf, isNilK, PM.flip, putT, putL, putH, loadOf, storeOf, cut, over, ofCells, asNat, natOr, calm, clashes, Acc.clash, ressOf, resOf, frz, frz.frzs, DV.flat, DV.flat.flats, imms]
  refine loopRd (w := n) (H0 := H) (ts := ts) (Nat.le_refl _) hc hl ⟨by simp [PT.get_put], by simp [PT.get_put], ⟨.imm .nils, [], by simp [intsF], by simp [PT.get_put], .inl ⟨rfl, rfl⟩⟩, fun _ _ => rfl, by simp⟩ (fun s' hI => ?_) (fun s' h1 h2 h3 h4 h5 h6 => ?_)
  · obtain ⟨c0, c7, ⟨x, zs, hz, c6, hx⟩, fr, hn⟩ := hI
    have hz' : intsF (ts.drop 1) = some zs := by
      rw [List.take_of_length_le (by simp)] at hz
      exact hz
    have hzl := intsF_len hz'
    simp only [List.length_drop] at hzl
    have hc1 : CrAt s'.H 0 s'.n a ts := hc.mono hn fr
    obtain ⟨m1, e1, hm1⟩ := CrText_ro (d := d) hc1 0 n
    have xs := hx.scal
    have xl := hx.len
    simp only [List.length_map] at xl
    have er : ∀ r, readF ts = r → readF ts = r := fun _ h => h
    cases ts with
    | nil =>
      have eF : readF [] = none := rfl
      have e0 : atI [] 0 = .nili := rfl
      rw [e0] at e1
      simp only [textOf, Option.getD_none, Option.isSome_none] at e1
      simp [c0, c6, xs, xl, e1, B6, undT, fnEnd, argsT, PT.get_put, keep, opRun, ev, evs, evO, give, giveI, binOf, isNilK, PM.flip, putT, putL, putH, loadOf, storeOf, cut, over, ofCells, asNat, natOr, calm, clashes, Acc.clash, ressOf, resOf, frz, frz.frzs, DV.flat, DV.flat.flats, imms]
      exact ⟨by omega, .inl ⟨eF, rfl⟩⟩
    | cons t r =>
      have e0 : atI (t :: r) 0 = thI t := atI_get (ts := t :: r) (i := 0) (by simp)
      rw [e0] at e1
      simp only [List.drop_succ_cons, List.drop_zero] at hz'
      cases t with
      | int z =>
        have eF : readF (.int z :: r) = none := by unfold readF; simp only [List.drop_succ_cons, List.drop_zero, hz']
        simp only [thI, textOf, Option.getD_none, Option.isSome_none] at e1
        simp [c0, c6, xs, xl, e1, B6, undT, fnEnd, argsT, PT.get_put, keep, opRun, ev, evs, evO, give, giveI, binOf, isNilK, PM.flip, putT, putL, putH, loadOf, storeOf, cut, over, ofCells, asNat, natOr, calm, clashes, Acc.clash, ressOf, resOf, frz, frz.frzs, DV.flat, DV.flat.flats, imms]
        exact ⟨by omega, .inl ⟨eF, rfl⟩⟩
      | bool z =>
        have eF : readF (.bool z :: r) = none := by unfold readF; simp only [List.drop_succ_cons, List.drop_zero, hz']
        simp only [thI, textOf, Option.getD_none, Option.isSome_none] at e1
        simp [c0, c6, xs, xl, e1, B6, undT, fnEnd, argsT, PT.get_put, keep, opRun, ev, evs, evO, give, giveI, binOf, isNilK, PM.flip, putT, putL, putH, loadOf, storeOf, cut, over, ofCells, asNat, natOr, calm, clashes, Acc.clash, ressOf, resOf, frz, frz.frzs, DV.flat, DV.flat.flats, imms]
        exact ⟨by omega, .inl ⟨eF, rfl⟩⟩
      | text s =>
        simp only [thI, textOf, Option.getD_some, Option.isSome_some] at e1
        have eF : readF (.text s :: r) = if s = [115, 116, 97, 116, 101] ∧ 3 ≤ zs.length ∧ (zs.length - 3) % 4 = 0 then match tkF (zs.drop 3) with
            | some qs => if nth zs 2 = (qs.length : Int) then some (nth zs 0, nth zs 1, qs) else none
            | none => none
          else none := by unfold readF; simp only [List.drop_succ_cons, List.drop_zero, hz']
        by_cases hs : s = [115, 116, 97, 116, 101]
        · by_cases h3 : 3 ≤ zs.length
          · have i0 : ILt (zs.length : Int) 3 = False := ilt_f (by omega)
            rcases hx with ⟨_, h0⟩ | ⟨id, ⟨p1, p2⟩, rfl, p3⟩
            · have := congrArg List.length h0
              simp at this
              subst this
              simp at h3
            · simp only [List.length_map, rowI_imms] at p3 c6 xs xl
              have hdl : (zs.drop 3).length ≤ 1000 := by rw [List.length_drop]; omega
              have tp := takeP_of (zs := zs.drop 3)
              simp only [List.length_drop] at tp
              have g0 : (zs.map rowI)[0]? = some (rowI (nth zs 0)) := by rw [List.getElem?_map, nth_get (by omega)]; rfl
              have g1 : (zs.map rowI)[1]? = some (rowI (nth zs 1)) := by rw [List.getElem?_map, nth_get (by omega)]; rfl
              have g2 : (zs.map rowI)[2]? = some (rowI (nth zs 2)) := by rw [List.getElem?_map, nth_get (by omega)]; rfl
              have ix := fun {n : Nat} {k : Nat} (hk : k < zs.length) => idx_hp (h := s'.H.get) (n := n) (id := id) (row := 0) (len := zs.length) (cap := zs.length) p3 rfl (k := .i64) (z := (k : Int)) (by omega) (by omega)
              have i1 := fun {n : Nat} => ix (n := n) (k := 0) (by omega)
              have i2 := fun {n : Nat} => ix (n := n) (k := 1) (by omega)
              have i3 := fun {n : Nat} => ix (n := n) (k := 2) (by omega)
              simp at i1 i2 i3
              obtain ⟨y, acc, hsl, ys, tk⟩ : ∃ y acc, (∀ n, sliceOf s'.H.get n 1 (.sl id 0 zs.length zs.length) (some (.imm (.int .i64 3))) none none = some { v := y, n' := n, acc := acc }) ∧ y.scal = true ∧ ∀ {n lo : Nat}, callM (K DG (d + 3)) .ro 95 [y] s'.H n lo = some ⟨.tup [.imm (takeP (zs.drop 3)).1, .imm (.bool (takeP (zs.drop 3)).2)], s'.H, n, [.rA]⟩ := by
                have e6 : asNat (.imm (.int .i64 3)) = some 3 := by simp [asNat]
                by_cases h4 : 3 < zs.length
                · refine ⟨.sl id 3 (zs.length - 3) (zs.length - 3), [.rX id], fun n => ?_, rfl, fun {n lo} => Take_ro (d := d + 2) (w := some id) (.inl ?_) rfl hdl⟩
                  · simp only [sliceOf, natOr, e6, p3, if_true]
                    rw [if_pos ⟨h3, Nat.le_refl _, Nat.le_refl _⟩, if_neg (by omega), if_pos h4]
                  · simp only [rowsOf, p3]
                    have : 3 + (zs.length - 3) ≤ (zs.map rowI).length := by simp; omega
                    rw [if_pos this]
                    congr 3
                    rw [List.take_of_length_le (by simp), List.map_drop]
                · have hz0 : zs.drop 3 = [] := List.drop_eq_nil_of_le (by omega)
                  refine ⟨.imm (.lst false 1 []), [], fun n => ?_, rfl, fun {n lo} => Take_ro (d := d + 2) (w := none) (.inr ⟨hz0, none, 1, rfl⟩) rfl hdl⟩
                  simp only [sliceOf, natOr, e6, p3, if_true]
                  rw [if_pos ⟨h3, Nat.le_refl _, Nat.le_refl _⟩, if_neg (by omega), if_neg h4]
              rcases tp with ⟨t1, t2⟩ | ⟨t1, ⟨t2, t3⟩ | ⟨qs, v, t2, t3, t4⟩⟩
              · rw [if_neg (fun h => t1 h.2.2)] at eF
                rw [t2] at tk
                simp only at tk
                generalize zs.map rowI = rows at *
                simp [c0, c6, xs, xl, e1, hs, i0, hsl, ys, tk, B6, undT, fnEnd, argsT, PT.get_put, keep, opRun, ev, evs, evO, give, giveI, binOf, isNilK, PM.flip, putT, putL, putH, loadOf, storeOf, cut, over, ofCells, asNat, natOr, calm, clashes, Acc.clash, ressOf, resOf, frz, frz.frzs, DV.flat, DV.flat.flats, imms]
                exact ⟨by omega, .inl ⟨hs ▸ eF, rfl⟩⟩
              · rw [if_pos ⟨hs, h3, t1⟩, t2] at eF
                rw [t3] at tk
                simp only at tk
                generalize zs.map rowI = rows at *
                simp [c0, c6, xs, xl, e1, hs, i0, hsl, ys, tk, B6, undT, fnEnd, argsT, PT.get_put, keep, opRun, ev, evs, evO, give, giveI, binOf, isNilK, PM.flip, putT, putL, putH, loadOf, storeOf, cut, over, ofCells, asNat, natOr, calm, clashes, Acc.clash, ressOf, resOf, frz, frz.frzs, DV.flat, DV.flat.flats, imms]
                exact ⟨by omega, .inl ⟨hs ▸ eF, rfl⟩⟩
              · rw [if_pos ⟨hs, h3, t1⟩, t2] at eF
                rw [t3] at tk
                simp only at tk eF
                have vs := t4.scal
                have vl := t4.len
                simp only [List.length_map] at vl
                generalize zs.map rowI = rows at *
                by_cases hq : nth zs 2 = (qs.length : Int)
                · rw [if_pos hq] at eF
                  simp [c0, c6, xs, xl, e1, hs, i0, hsl, ys, tk, vs, vl, i1, i2, i3, p3, g0, g1, g2, rowI, hq, B6, undT, fnEnd, argsT, PT.get_put, keep, opRun, ev, evs, evO, give, giveI, binOf, isNilK, PM.flip, putT, putL, putH, loadOf, storeOf, cut, over, ofCells, asNat, natOr, calm, clashes, Acc.clash, ressOf, resOf, frz, frz.frzs, DV.flat, DV.flat.flats, imms]
                  exact ⟨by omega, .inr ⟨_, _, qs, v, hs ▸ eF, rfl, t4⟩⟩
                · rw [if_neg hq] at eF
                  simp [c0, c6, xs, xl, e1, hs, i0, hsl, ys, tk, vs, vl, i1, i2, i3, p3, g0, g1, g2, rowI, hq, B6, undT, fnEnd, argsT, PT.get_put, keep, opRun, ev, evs, evO, give, giveI, binOf, isNilK, PM.flip, putT, putL, putH, loadOf, storeOf, cut, over, ofCells, asNat, natOr, calm, clashes, Acc.clash, ressOf, resOf, frz, frz.frzs, DV.flat, DV.flat.flats, imms]
                  exact ⟨by omega, .inl ⟨hs ▸ eF, rfl⟩⟩
          · have i0 : ILt (zs.length : Int) 3 = True := ilt_t (by omega)
            rw [if_neg (fun h => h3 h.2.1)] at eF
            simp [c0, c6, xs, xl, e1, hs, i0, B6, undT, fnEnd, argsT, PT.get_put, keep, opRun, ev, evs, evO, give, giveI, binOf, isNilK, PM.flip, putT, putL, putH, loadOf, storeOf, cut, over, ofCells, asNat, natOr, calm, clashes, Acc.clash, ressOf, resOf, frz, frz.frzs, DV.flat, DV.flat.flats, imms]
            exact ⟨by omega, .inl ⟨hs ▸ eF, rfl⟩⟩
        · rw [if_neg (fun h => hs h.1)] at eF
          simp [c0, c6, xs, xl, e1, hs, B6, undT, fnEnd, argsT, PT.get_put, keep, opRun, ev, evs, evO, give, giveI, binOf, isNilK, PM.flip, putT, putL, putH, loadOf, storeOf, cut, over, ofCells, asNat, natOr, calm, clashes, Acc.clash, ressOf, resOf, frz, frz.frzs, DV.flat, DV.flat.flats, imms]
          exact ⟨by omega, .inl ⟨eF, rfl⟩⟩
  · have eF : readF ts = none := by unfold readF; rw [h1]
    simp [h2, h3, h4, h5, B6, undT, fnEnd, argsT, PT.get_put, keep, opRun, ev, evs, evO, give, giveI, binOf, isNilK, PM.flip, putT, putL, putH, loadOf, storeOf, cut, over, ofCells, asNat, natOr, calm, clashes, Acc.clash, ressOf, resOf, frz, frz.frzs, DV.flat, DV.flat.flats, imms]
    exact ⟨h6, .inl ⟨eF, rfl⟩⟩
theorem Read_ro {d : Nat} {H : PT HB} {n a lo : Nat} {ts : List Th} (hc : CrAt H 0 n a ts) (hl : ts.length ≤ 100) :
    ∃ v m, callM (K DG (d + 4)) .ro 56 [.ptr a 0 0] H n lo = some ⟨v, H, m, [.rA]⟩ ∧ n ≤ m ∧ RdP ts v := by
  obtain ⟨v, H', n', e, hn, hv⟩ := Read_fe (d := d) hc hl
  refine ⟨v, n', ?_, hn, hv⟩
  rw [callM_ro, if_pos (by rfl), e]
  rcases hv with ⟨_, rfl⟩ | ⟨_, _, _, _, _, rfl, _⟩ <;> rfl
end Go.Proofs.YtnpcgejfkonfdabGreatDoor.D

-- RA
set_option linter.unusedVariables false
set_option linter.unusedSimpArgs false
set_option maxHeartbeats 16000000
namespace Go.Proofs.YtnpcgejfkonfdabGreatDoor.D
open Go Go.PM Go.Lib

theorem bool9_bl {d : Nat} (b : Bool) : bl (K DG (d + 1)) 154 [.imm (.bool b)] = some (.imm (.int .i64 (bi b))) := by
  refine bl_fe ?_
  rw [D.k154]
  refine fn_dw rfl ?_
  cases b <;> simp [bi, B6, undT, fnEnd, argsT, PT.get_put, keep, opRun, ev, evs, evO, give, giveI, binOf, isNilK, PM.flip, putT, putL, putH, loadOf, storeOf, cut, over, ofCells, asNat, natOr, calm, clashes, Acc.clash, ressOf, resOf, frz, frz.frzs, DV.flat, DV.flat.flats, imms]
structure IO9 (v : IV) (rs : List Rst) (i : Nat) (st : St) : Prop where
  c0 : st.T.get 0 = some (.imm v)
  c4 : st.T.get 4 = some (.imm (.int .i64 (i : Int)))
  c3 : ∃ x, st.T.get 3 = some x ∧ Rw 1 st.H 0 st.n x ((ofF (rs.take i)).map ivI)
theorem loopO9 {d : Nat} {v : IV} {rs : List Rst} (hv : Sl 4 v (rs.map ivRS)) (hl : rs.length ≤ 1000) {st : St} (h : IO9 v rs 0 st) {ks : List Kf} {Q : Ex → St → Prop}
    (hk : ∀ s', IO9 v rs rs.length s' → Bk DG (K DG (d + 1)) 0 (.exit 0) ks s' Q) : Wp DG (K DG (d + 1)) 0 D.l115_0 ks st Q := by
  refine dw_loop (N := rs.length) (small (by have := rb3; omega)) (fun i st => IO9 v rs i st) (fun e s' => e = .exit 0 ∧ IO9 v rs rs.length s') (fun i st hle hI => ?_) h (fun e s' h => by
    obtain ⟨rfl, h⟩ := h
    exact hk s' h)
  obtain ⟨c0, c4, x, c3, hx⟩ := hI
  have vs := hv.scal
  have xs := hx.scal
  have vl := hv.len
  simp only [List.length_map] at vl
  by_cases hi : i < rs.length
  · have hi1 : (i : Int) < rs.length := by omega
    have hi' := ilt_t hi1
    have hw8 : IntKind.i64.wrap ((i : Int) + 1) = (i : Int) + 1 := wr_succ hi (by have := rb3; omega)
    have ix := fun {h : Nat → Option HB} {n : Nat} => idx_sl (h := h) (n := n) hv (by omega) (k := .i64) (z := (i : Int)) (by omega) hi1
    simp only [Int.toNat_natCast] at ix
    have sc := ofF_succ hi
    have fb := bool9_bl (d := d) (nth rs i).seen
    have ol := ofF_len (rs.take i)
    obtain ⟨x', hw, acc, a1, a2, a3⟩ := app_rw (bytes := 8) (lo := 0) (w := 0) (n := st.n) (H := st.H) (Nat.le_refl _) (by omega) hx (by omega) (by simp at ol ⊢; omega) (by omega) (es := [[.int .i64 (nth rs i).mode], [.int .i64 (nth rs i).timer], [.int .i64 (nth rs i).gone], [.int .i64 (bi (nth rs i).seen)]]) (by simp) (by simp)
    have a2s := a2.scal
    have fin : Rw 1 (putH st.H hw) 0 (st.n + 1) x' ((ofF (rs.take (i + 1))).map ivI) := by
      rw [sc, List.map_append]
      exact a2
    generalize nth rs i = y at *
    obtain ⟨ym, yt, yg, ys⟩ := y
    generalize hQ : (fun (e : Ex) (s' : St) => _) = Q'
    simp only [D.l115_0b]
    simp [c0, c4, c3, vs, vl, xs, hi', hw8, ix, fb, a1, a2s, ivRS, evParts2, lay, unImms, unImm, mapO, rowsN, imms, B6, undT, fnEnd, argsT, PT.get_put, keep, opRun, ev, evs, evO, give, giveI, binOf, isNilK, PM.flip, putT, putL, putH, loadOf, storeOf, cut, over, ofCells, asNat, natOr, calm, clashes, Acc.clash, ressOf, resOf, frz, frz.frzs, DV.flat, DV.flat.flats, imms]
    subst hQ
    exact .inl ⟨rfl, hi, by simp [PT.get_put], by simp [PT.get_put], x', by simp [PT.get_put], fin⟩
  · obtain rfl : i = rs.length := by omega
    generalize hQ : (fun (e : Ex) (s' : St) => _) = Q'
    simp only [D.l115_0b]
    simp [c0, c4, c3, vs, vl, xs, B6, undT, fnEnd, argsT, PT.get_put, keep, opRun, ev, evs, evO, give, giveI, binOf, isNilK, PM.flip, putT, putL, putH, loadOf, storeOf, cut, over, ofCells, asNat, natOr, calm, clashes, Acc.clash, ressOf, resOf, frz, frz.frzs, DV.flat, DV.flat.flats, imms]
    subst hQ
    exact .inr ⟨nofun, rfl, by simp [PT.get_put, c0], by simp [PT.get_put, c4], x, by simp [PT.get_put, c3], hx⟩
theorem Of9_bl {d : Nat} {v : IV} {rs : List Rst} (hv : Sl 4 v (rs.map ivRS)) (hl : rs.length ≤ 1000) : ∃ w, bl (K DG (d + 2)) 115 [.imm v] = some (.imm w) ∧ Sl 1 w ((ofF rs).map ivI) := by
  have key : Fe (K DG (d + 1 + 1) 115 [.imm v] .lf 0 0) (fun x H n => Rw 1 H 0 n x ((ofF rs).map ivI)) := by
    rw [D.k115]
    refine fn_dw rfl ?_
    have vs := hv.scal
    simp [vs, B6, undT, fnEnd, argsT, PT.get_put, keep, opRun, ev, evs, evO, give, giveI, binOf, isNilK, PM.flip, putT, putL, putH, loadOf, storeOf, cut, over, ofCells, asNat, natOr, calm, clashes, Acc.clash, ressOf, resOf, frz, frz.frzs, DV.flat, DV.flat.flats, imms]
    refine loopO9 hv hl ⟨by simp [PT.get_put], by simp [PT.get_put], .imm .nils, by simp [PT.get_put], .inl ⟨rfl, by simp [ofF]⟩⟩ (fun s' hI => ?_)
    obtain ⟨c0, c4, x, c3, hx⟩ := hI
    rw [List.take_length] at hx
    have xs := hx.scal
    have xo := hx.out
    simp [c0, c4, c3, xs, xo, B6, undT, fnEnd, argsT, PT.get_put, keep, opRun, ev, evs, evO, give, giveI, binOf, isNilK, PM.flip, putT, putL, putH, loadOf, storeOf, cut, over, ofCells, asNat, natOr, calm, clashes, Acc.clash, ressOf, resOf, frz, frz.frzs, DV.flat, DV.flat.flats, imms]
    exact hx
  obtain ⟨x, H, n, e, hx⟩ := key
  obtain ⟨w, h1, h2⟩ := frz_rw hx
  exact ⟨w, bl_of e h1, h2⟩
/-! ### the crate of pointsmanref2 -/
def rowTh : Th → List IV
  | .int z => [.int .i64 1, .int .i64 z, .str [], .bool false]
  | .text s => [.int .i64 2, .int .i64 0, .str s, .bool false]
  | .bool b => [.int .i64 3, .int .i64 0, .str [], .bool b]
def CrR (H : PT HB) (a : Nat) (ob : Option Nat) (ts : List Th) : Prop := (H.get a = some ⟨1, [[.imm .nils]]⟩ ∧ ts = [] ∧ ob = none) ∨ (H.get a = some ⟨1, [[.imm (.lst true 4 (ts.map rowTh))]]⟩ ∧ ob = none) ∨
  ∃ b, ob = some b ∧ b ≠ a ∧ H.get a = some ⟨1, [[.sl b 0 ts.length ts.length]]⟩ ∧ H.get b = some ⟨4, (ts.map rowTh).map imms⟩
theorem rowTh_sc (t : Th) : ∃ a b c e, rowTh t = [a, b, c, e] ∧ (DV.imm a).scal = true ∧ (DV.imm b).scal = true ∧ (DV.imm c).scal = true ∧ (DV.imm e).scal = true := by
  cases t <;> exact ⟨_, _, _, _, rfl, rfl, rfl, rfl, rfl⟩
theorem AddR {d : Nat} {H : PT HB} {n a lo : Nat} {ob : Option Nat} {ts : List Th} (hla : lo ≤ a) (ha : a < n) (hob : ∀ b, ob = some b → b < n ∧ lo ≤ b) (h : CrR H a ob ts) (hlt : ts.length ≤ 100) (t : Th) :
    Fe (K DG (d + 1) 50 [.ptr a 0 0, .agg (imms (rowTh t))] H n lo) (fun v H' n' => v = .imm (.bool (decide (ts.length < 100))) ∧ n ≤ n' ∧ (ts.length < 100 → ∃ b, n ≤ b ∧ b < n' ∧ CrR H' a (some b) (ts ++ [t])) ∧ ∀ j, j < n → j ≠ a → ob ≠ some j → H'.get j = H.get j) := by
  obtain ⟨r1, r2, r3, r4, hr, s1, s2, s3, s4⟩ := rowTh_sc t
  rw [D.k50]
  refine fn_dw rfl ?_
  rw [hr]
  by_cases h100 : ts.length < 100
  · have i0 : ILt (ts.length : Int) 100 = True := ilt_t (by omega)
    have i1 : ILt 0 100 = True := ilt_t (by omega)
    have a2 : 40 ≤ appMax := by unfold appMax; omega
    have a0 : 1 ≤ appMax := by unfold appMax; omega
    have b2 : ts.length + 1 ≤ appMax := by unfold appMax; omega
    have b3 : (ts.length + 1) * 40 ≤ appMax := by unfold appMax; omega
    have e1 : ¬ a = n + 1 := by omega
    have e2 : ¬ n + 1 = a := by omega
    have l3 : lo ≤ n + 1 := by omega
    have hmap : ((ts ++ [t]).map rowTh).map imms = (ts.map rowTh).map imms ++ [[.imm r1, .imm r2, .imm r3, .imm r4]] := by
      simp [hr, imms]
    rcases h with ⟨h1, rfl, rfl⟩ | ⟨h1, rfl⟩ | ⟨b, rfl, hba, h1, h2⟩
    · simp (config := {contextual := true}) [CrR, h1, e1, e2, ha, hla, l3, i1, s1, s2, s3, s4, imms, evParts2, lay, unImms, unImm, mapO, rowsN, appOf, srcOf, rowsOf, raccOf, a0, a2, hr, B6, undT, fnEnd, argsT, PT.get_put, keep, opRun, ev, evs, evO, give, giveI, binOf, isNilK, PM.flip, putT, putL, putH, loadOf, storeOf, cut, over, ofCells, asNat, natOr, calm, clashes, Acc.clash, ressOf, resOf, frz, frz.frzs, DV.flat, DV.flat.flats, imms]
      refine ⟨by omega, ⟨n + 1, by omega, by omega, by simp [e2]⟩, fun j hj h4 => ?_⟩
      have h3 : ¬ j = n + 1 := by omega
      simp [h3, h4]
    · have hml : (ts.map rowTh).length = ts.length := by simp
      generalize hes : ts.map rowTh = es at *
      simp (config := {contextual := true}) [CrR, h1, hml, e1, e2, ha, hla, l3, h100, i0, s1, s2, s3, s4, imms, evParts2, lay, unImms, unImm, mapO, rowsN, appOf, srcOf, rowsOf, raccOf, b2, b3, hr, B6, undT, fnEnd, argsT, PT.get_put, keep, opRun, ev, evs, evO, give, giveI, binOf, isNilK, PM.flip, putT, putL, putH, loadOf, storeOf, cut, over, ofCells, asNat, natOr, calm, clashes, Acc.clash, ressOf, resOf, frz, frz.frzs, DV.flat, DV.flat.flats, imms]
      refine ⟨by omega, ⟨n + 1, by omega, by omega, by simp [e2]; rw [← hes]; simp [imms]⟩, fun j hj h4 => ?_⟩
      have h3 : ¬ j = n + 1 := by omega
      simp [h3, h4]
    · obtain ⟨hb, l2⟩ := hob b rfl
      have hab : ¬ a = b := fun e => hba e.symm
      have a1 : ¬ ts.length + 1 ≤ ts.length := by omega
      have e3 : ¬ b = n + 1 := by omega
      have e4 : ¬ n + 1 = b := by omega
      have hml : ((ts.map rowTh).map imms).length = ts.length := by simp
      generalize hes : (ts.map rowTh).map imms = es at *
      simp (config := {contextual := true}) [CrR, h1, h2, hml, hba, hab, e1, e2, e3, e4, ha, hla, l2, l3, h100, i0, s1, s2, s3, s4, imms, evParts2, lay, unImms, unImm, mapO, rowsN, appOf, srcOf, rowsOf, raccOf, a1, b2, b3, hr, B6, undT, fnEnd, argsT, PT.get_put, keep, opRun, ev, evs, evO, give, giveI, binOf, isNilK, PM.flip, putT, putL, putH, loadOf, storeOf, cut, over, ofCells, asNat, natOr, calm, clashes, Acc.clash, ressOf, resOf, frz, frz.frzs, DV.flat, DV.flat.flats, imms]
      refine ⟨by omega, ⟨n + 1, by omega, by omega, by simp [e2]; rw [← hes]; simp [imms]⟩, fun j hj h4 h5 => ?_⟩
      have h3 : ¬ j = n + 1 := by omega
      have h6 : ¬ j = b := fun e => h5 e.symm
      simp [h3, h4, h6]
  · have i0 : ILt (ts.length : Int) 100 = False := ilt_f (by omega)
    rcases h with ⟨h1, rfl, rfl⟩ | ⟨h1, rfl⟩ | ⟨b, rfl, hba, h1, h2⟩
    · simp at h100
    · have hml : (ts.map rowTh).length = ts.length := by simp
      generalize hes : ts.map rowTh = es at *
      simp (config := {contextual := true}) [h1, hml, ha, h100, i0, s1, s2, s3, s4, imms, B6, undT, fnEnd, argsT, PT.get_put, keep, opRun, ev, evs, evO, give, giveI, binOf, isNilK, PM.flip, putT, putL, putH, loadOf, storeOf, cut, over, ofCells, asNat, natOr, calm, clashes, Acc.clash, ressOf, resOf, frz, frz.frzs, DV.flat, DV.flat.flats, imms]
    · simp (config := {contextual := true}) [h1, ha, h100, i0, s1, s2, s3, s4, imms, B6, undT, fnEnd, argsT, PT.get_put, keep, opRun, ev, evs, evO, give, giveI, binOf, isNilK, PM.flip, putT, putL, putH, loadOf, storeOf, cut, over, ofCells, asNat, natOr, calm, clashes, Acc.clash, ressOf, resOf, frz, frz.frzs, DV.flat, DV.flat.flats, imms]
end Go.Proofs.YtnpcgejfkonfdabGreatDoor.D

-- RB
set_option linter.unusedVariables false
set_option linter.unusedSimpArgs false
set_option maxHeartbeats 16000000
namespace Go.Proofs.YtnpcgejfkonfdabGreatDoor.D
open Go Go.PM Go.Lib

structure ILr (lo a : Nat) (x : DV) (zs : List Int) (i : Nat) (st : St) : Prop where
  c7 : st.T.get 7 = some x
  c8 : st.T.get 8 = some (.ptr a 0 0)
  c9 : st.T.get 9 = some (.imm (.int .i64 (i : Int)))
  cr : ∃ ob, (∀ b, ob = some b → b < st.n ∧ lo ≤ b) ∧ CrR st.H a ob (.text [115, 116, 97, 116, 101] :: (zs.take i).map .int) ∧ ∀ b, ob = some b → x ≠ .sl b 0 zs.length zs.length
  xa : x = .imm (.lst true 1 (zs.map ivI)) ∨ ∃ id, (id < st.n ∧ id ≠ a) ∧ x = .sl id 0 zs.length zs.length ∧ st.H.get id = some ⟨1, zs.map rowI⟩
  an : lo ≤ a ∧ a < st.n
theorem loopLr {d : Nat} {lo a : Nat} {x : DV} {zs : List Int} (hl : zs.length ≤ 99) {st : St} (h : ILr lo a x zs 0 st) {ks : List Kf} {Q : Ex → St → Prop}
    (hk : ∀ s', ILr lo a x zs zs.length s' → Bk DG (K DG (d + 1)) lo (.exit 0) ks s' Q) : Wp DG (K DG (d + 1)) lo D.l75_0 ks st Q := by
  refine dw_loop (N := zs.length) (small (by have := rb3; omega)) (fun i st => ILr lo a x zs i st) (fun e s' => e = .exit 0 ∧ ILr lo a x zs zs.length s') (fun i st hle hI => ?_) h (fun e s' h => by
    obtain ⟨rfl, h⟩ := h
    exact hk s' h)
  obtain ⟨c7, c8, c9, ⟨ob, hob, cr, hxb⟩, xa, ⟨anl, an⟩⟩ := hI
  have xs : x.scal = true := by rcases xa with rfl | ⟨id, _, rfl, _⟩ <;> rfl
  have xl : lenOf x = some zs.length := by rcases xa with rfl | ⟨id, _, rfl, _⟩ <;> simp [lenOf]
  by_cases hi : i < zs.length
  · have hi1 : (i : Int) < zs.length := by omega
    have hi' := ilt_t hi1
    have hw8 : IntKind.i64.wrap ((i : Int) + 1) = (i : Int) + 1 := wr_succ hi (by have := rb3; omega)
    have hL : (Th.text [115, 116, 97, 116, 101] :: (zs.take i).map Th.int).length < 100 := by simp; omega
    have hmt : (zs.take (i + 1)).map Th.int = (zs.take i).map Th.int ++ [.int zs[i]] := by
      rw [List.take_add_one, List.getElem?_eq_getElem hi, List.map_append]
      rfl
    obtain ⟨v, H', n', e, rfl, hn, hcr, p4⟩ := AddR (d := d) (lo := lo) anl an hob cr (by omega) (.int zs[i])
    obtain ⟨b', p1, p2, p3⟩ := hcr hL
    rw [decide_eq_true hL] at e
    have cr2 : CrR H' a (some b') (.text [115, 116, 97, 116, 101] :: (zs.take (i + 1)).map .int) := by
      rw [hmt]
      exact p3
    simp only [rowTh, imms, List.map_cons, List.map_nil] at e
    rcases xa with rfl | ⟨id, ⟨i2, i3⟩, rfl, hx⟩
    · have ix := fun {h : Nat → Option HB} {n : Nat} => idx_sl (h := h) (n := n) (v := .lst true 1 (zs.map ivI)) (xs := zs) (f := ivI) (.inr ⟨true, rfl⟩) (by omega) (k := .i64) (z := (i : Int)) (by omega) hi1
      simp only [Int.toNat_natCast, nth, List.getD_eq_getElem?_getD, List.getElem?_eq_getElem hi, Option.getD_some] at ix
      generalize hes : zs.map ivI = es at *
      have hel : es.length = zs.length := by rw [← hes]; simp
      generalize zs[i] = z at *
      generalize hQ : (fun (e : Ex) (s' : St) => _) = Q'
      simp only [D.l75_0b]
      simp [c7, c8, c9, hel, hi', hw8, ix, e, ivI, imms, evParts, lay, unImms, unImm, mapO, B6, undT, fnEnd, argsT, PT.get_put, keep, opRun, ev, evs, evO, give, giveI, binOf, isNilK, PM.flip, putT, putL, putH, loadOf, storeOf, cut, over, ofCells, asNat, natOr, calm, clashes, Acc.clash, ressOf, resOf, frz, frz.frzs, DV.flat, DV.flat.flats, imms]
      subst hQ
      exact .inl ⟨rfl, hi, by simp [PT.get_put], by simp [PT.get_put], by simp [PT.get_put], ⟨some b', fun b hb => by cases hb; exact ⟨p2, by omega⟩, cr2, fun b _ e => by cases e⟩, .inl (by rw [hes]), by simp; omega⟩
    · have hidb : ob ≠ some id := fun e => hxb id e rfl
      have ix := fun {n : Nat} => idx_hp (h := st.H.get) (n := n) (id := id) (row := 0) (len := zs.length) (cap := zs.length) hx rfl (k := .i64) (z := (i : Int)) (by omega) hi1
      simp only [Int.toNat_natCast, Nat.zero_add] at ix
      have hrow : (zs.map rowI)[i]? = some (rowI (zs[i])) := by rw [List.getElem?_map, List.getElem?_eq_getElem hi]; rfl
      have hx2 : H'.get id = some ⟨1, zs.map rowI⟩ := by rw [p4 id i2 i3 hidb]; exact hx
      generalize hrows : zs.map rowI = rows at *
      generalize zs[i] = z at *
      generalize hQ : (fun (e : Ex) (s' : St) => _) = Q'
      simp only [D.l75_0b]
      simp [c7, c8, c9, hi', hw8, ix, hx, hrow, e, rowI, evParts, lay, unImms, unImm, mapO, B6, undT, fnEnd, argsT, PT.get_put, keep, opRun, ev, evs, evO, give, giveI, binOf, isNilK, PM.flip, putT, putL, putH, loadOf, storeOf, cut, over, ofCells, asNat, natOr, calm, clashes, Acc.clash, ressOf, resOf, frz, frz.frzs, DV.flat, DV.flat.flats, imms]
      subst hQ
      exact .inl ⟨rfl, hi, by simp [PT.get_put], by simp [PT.get_put], by simp [PT.get_put], ⟨some b', fun b hb => by cases hb; exact ⟨p2, by omega⟩, cr2, fun b hb e => by cases hb; cases e; omega⟩, .inr ⟨id, by simp; omega, rfl, by simpa [hrows] using hx2⟩, by simp; omega⟩
  · obtain rfl : i = zs.length := by omega
    generalize hQ : (fun (e : Ex) (s' : St) => _) = Q'
    simp only [D.l75_0b]
    simp [c7, c8, c9, xs, xl, B6, undT, fnEnd, argsT, PT.get_put, keep, opRun, ev, evs, evO, give, giveI, binOf, isNilK, PM.flip, putT, putL, putH, loadOf, storeOf, cut, over, ofCells, asNat, natOr, calm, clashes, Acc.clash, ressOf, resOf, frz, frz.frzs, DV.flat, DV.flat.flats, imms]
    subst hQ
    exact .inr ⟨nofun, rfl, by simp [PT.get_put, c7], by simp [PT.get_put, c8], by simp [PT.get_put, c9], ⟨ob, hob, cr, hxb⟩, xa, anl, an⟩
/-! ### pointsmanref8 -/
theorem numY_get (m : Nat) : ∀ (k j : Nat), j < k → (numY m k)[j]? = some (UInt8.ofNat (m / 256 ^ (k - 1 - j)))
  | 0, j, h => by omega
  | k + 1, 0, h => by simp [numY]
  | k + 1, j + 1, h => by
    have := numY_get m k j (by omega)
    rw [numY, List.getElem?_cons_succ, this, show k + 1 - 1 - (j + 1) = k - 1 - j by omega]
theorem num_byteB (m c : Nat) : IntKind.u8.wrap ((m : Int).fdiv (2 ^ (8 * c))) = ((UInt8.ofNat (m / 256 ^ c)).toNat : Int) := by
  have e : ((2 : Int) ^ (8 * c)) = ((256 ^ c : Nat) : Int) := by
    rw [Int.natCast_pow, Int.pow_mul]; rfl
  rw [e, Int.fdiv_eq_ediv_of_nonneg _ (Int.natCast_nonneg _), ← Int.natCast_ediv, UInt8.toNat_ofNat']
  generalize m / 256 ^ c = y
  simp only [IntKind.wrap, IntKind.bits, IntKind.signed]
  simp
structure IBg (H0 : PT HB) (w : Nat) (m k j : Nat) (st : St) : Prop where
  c0 : st.T.get 0 = some (.imm (.int .u64 (m : Int)))
  c6 : st.T.get 6 = some (.imm (.int .i64 ((k : Int) - 1 - (j : Int))))
  y : ∃ x, st.T.get 5 = some x ∧ Rw 1 st.H w st.n x (((numY m k).take j).map ivY)
  fr : ∀ i, i < w → st.H.get i = H0.get i
  hn : w ≤ st.n
theorem loopBg {d : Nat} {H0 : PT HB} {w lo m k : Nat} (hlo : lo ≤ w) (hk8 : k ≤ 8) (hm : m < 2 ^ 64) {st : St} (h : IBg H0 w m k 0 st) {ks : List Kf} {Q : Ex → St → Prop}
    (hk : ∀ s', IBg H0 w m k k s' → Bk DG (K DG d) lo (.exit 0) ks s' Q) : Wp DG (K DG d) lo D.l117_0 ks st Q := by
  refine dw_loop (N := k) (small (by have := rb3; omega)) (fun i st => IBg H0 w m k i st) (fun e s' => e = .exit 0 ∧ IBg H0 w m k k s') (fun i st hle hI => ?_) h (fun e s' h => by
    obtain ⟨rfl, h⟩ := h
    exact hk s' h)
  obtain ⟨c0, c6, ⟨x, c5, hx⟩, fr, hn⟩ := hI
  have xs := hx.scal
  by_cases hi : i < k
  · obtain ⟨c, hc⟩ : ∃ c : Nat, c = k - 1 - i := ⟨_, rfl⟩
    have hci : (k : Int) - 1 - (i : Int) = (c : Int) := by omega
    have hci2 : (k : Int) - 1 - ((i + 1 : Nat) : Int) = (c : Int) - 1 := by omega
    rw [hci] at c6
    have hi' : ILt (c : Int) 0 = False := ilt_f (by omega)
    have w1 : IntKind.i64.wrap ((c : Int) - 1) = (c : Int) - 1 := wr_id (by omega) (by omega)
    have w2 : IntKind.i64.wrap (8 * (c : Int)) = ((8 * c : Nat) : Int) := by rw [wr_id (by omega) (by omega)]; omega
    have w3 : IntKind.u64.wrap ((8 * c : Nat) : Int) = ((8 * c : Nat) : Int) := wu64' (by omega)
    have b64 : IntKind.u64.bits = 64 := rfl
    have nb := num_byteB m c
    have gt := numY_get m k i hi
    rw [← hc] at gt
    obtain ⟨x', hw, acc, a1, a2, a3⟩ := app_rw (bytes := 1) (lo := lo) (w := w) (n := st.n) (H := st.H) hlo hn hx (by omega) (by simp; omega) (by omega) (es := [ivY (UInt8.ofNat (m / 256 ^ c))]) (by simp) (by simp)
    have a2s := a2.scal
    have fin : Rw 1 (putH st.H hw) w (st.n + 1) x' (((numY m k).take (i + 1)).map ivY) := by
      rw [List.take_add_one, gt, List.map_append]
      exact a2
    simp only [ivY] at a1
    generalize hub : UInt8.ofNat (m / 256 ^ c) = ub at *
    have g0 : ¬ ((8 * c : Nat) : Int) < 0 := by omega
    have g1 : min ((8 * c : Nat) : Int).toNat 64 = 8 * c := by omega
    generalize ((8 * c : Nat) : Int) = c8 at *
    generalize hQ : (fun (e : Ex) (s' : St) => _) = Q'
    simp only [D.l117_0b]
    simp [c0, c5, c6, xs, hi', w1, w2, w3, b64, g0, g1, nb, a1, a2s, evParts2, lay, unImms, unImm, mapO, rowsN, B6, undT, fnEnd, argsT, PT.get_put, keep, opRun, ev, evs, evO, give, giveI, binOf, isNilK, PM.flip, putT, putL, putH, loadOf, storeOf, cut, over, ofCells, asNat, natOr, calm, clashes, Acc.clash, ressOf, resOf, frz, frz.frzs, DV.flat, DV.flat.flats, imms]
    subst hQ
    exact .inl ⟨rfl, hi, by simp [PT.get_put], by simp [PT.get_put]; omega, ⟨x', by simp [PT.get_put], fin⟩, fun j hj => (a3 j hj).trans (fr j hj), by simp; omega⟩
  · obtain rfl : i = k := by omega
    have hi' : ILt ((i : Int) - 1 - (i : Int)) 0 = True := ilt_t (by omega)
    generalize hz : (i : Int) - 1 - (i : Int) = z at c6 hi'
    generalize hQ : (fun (e : Ex) (s' : St) => _) = Q'
    simp only [D.l117_0b]
    simp [c0, c5, c6, xs, hi', B6, undT, fnEnd, argsT, PT.get_put, keep, opRun, ev, evs, evO, give, giveI, binOf, isNilK, PM.flip, putT, putL, putH, loadOf, storeOf, cut, over, ofCells, asNat, natOr, calm, clashes, Acc.clash, ressOf, resOf, frz, frz.frzs, DV.flat, DV.flat.flats, imms]
    subst hQ
    exact .inr ⟨nofun, rfl, by simp [PT.get_put, c0], by rw [hz]; simp [PT.get_put, c6], ⟨x, by simp [PT.get_put, c5], hx⟩, fr, hn⟩
end Go.Proofs.YtnpcgejfkonfdabGreatDoor.D

-- RC
set_option linter.unusedVariables false
set_option linter.unusedSimpArgs false
set_option maxHeartbeats 16000000
namespace Go.Proofs.YtnpcgejfkonfdabGreatDoor.D
open Go Go.PM Go.Lib

theorem Rw.yw {H : PT HB} {w n : Nat} {x : DV} {bs : List UInt8} (h : Rw 1 H w n x (bs.map ivY)) : Yw H w n x bs := by
  rcases h with ⟨rfl, h⟩ | ⟨id, h1, rfl, h2⟩
  · exact .inl ⟨rfl, by simpa using h⟩
  · exact .inr (.inr ⟨id, h1, by simp, by rw [h2, map_imms_ivY]⟩)
theorem big_fn {d : Nat} {H : PT HB} {n lo w m k : Nat} (hlo : lo ≤ w) (hwn : w ≤ n) (hk1 : 1 ≤ k) (hk8 : k ≤ 8) (hm : m < 2 ^ 64) :
    ∃ x H' n', K DG (d + 1) 117 [.imm (.int .u64 (m : Int)), .imm (.int .i64 (k : Int))] H n lo = some (x, H', n') ∧ n ≤ n' ∧ Yw H' w n' x (numY m k) ∧ (∃ id, n ≤ id ∧ x = .sl id 0 k k) ∧ (∀ j, j < n → H'.get j = H.get j) := by
  have w1 : IntKind.i64.wrap ((k : Int) - 1) = (k : Int) - 1 := wr_id (by omega) (by omega)
  have key : Fe (K DG (d + 1) 117 [.imm (.int .u64 (m : Int)), .imm (.int .i64 (k : Int))] H n lo) (fun x H' n' => n ≤ n' ∧ Rw 1 H' n n' x ((numY m k).map ivY) ∧ ∀ j, j < n → H'.get j = H.get j) := by
    rw [D.k117]
    refine fn_dw rfl ?_
    simp [w1, B6, undT, fnEnd, argsT, PT.get_put, keep, opRun, ev, evs, evO, give, giveI, binOf, isNilK, PM.flip, putT, putL, putH, loadOf, storeOf, cut, over, ofCells, asNat, natOr, calm, clashes, Acc.clash, ressOf, resOf, frz, frz.frzs, DV.flat, DV.flat.flats, imms]
    refine loopBg (w := n) (H0 := H) (m := m) (k := k) (by omega) hk8 hm ⟨by simp [PT.get_put], by simp [PT.get_put], ⟨.imm .nils, by simp [PT.get_put], .inl ⟨rfl, by simp⟩⟩, fun _ _ => rfl, by simp⟩ (fun s' hI => ?_)
    obtain ⟨c0, c6, ⟨x, c5, hx⟩, fr, hn⟩ := hI
    rw [List.take_of_length_le (by rw [numY_len]; exact Nat.le_refl _)] at hx
    have xs := hx.scal
    have xo := hx.out
    simp [c0, c5, c6, xs, xo, B6, undT, fnEnd, argsT, PT.get_put, keep, opRun, ev, evs, evO, give, giveI, binOf, isNilK, PM.flip, putT, putL, putH, loadOf, storeOf, cut, over, ofCells, asNat, natOr, calm, clashes, Acc.clash, ressOf, resOf, frz, frz.frzs, DV.flat, DV.flat.flats, imms]
    exact ⟨hn, hx, fr⟩
  obtain ⟨x, H', n', e, hn, hx, fr⟩ := key
  refine ⟨x, H', n', e, hn, ?_, ?_, fr⟩
  · rcases hx.yw with h | h | ⟨id, ⟨h1, h2⟩, h3⟩
    · exact .inl h
    · exact .inr (.inl h)
    · exact .inr (.inr ⟨id, ⟨by omega, h2⟩, h3⟩)
  · rcases hx with ⟨_, h⟩ | ⟨id, h1, rfl, h2⟩
    · have := congrArg List.length h
      simp [numY_len] at this
      omega
    · exact ⟨id, h1.1, by simp [numY_len]⟩
theorem thing8_bl {d : Nat} (t : Th) (hts : ∀ s, t = .text s → s.length ≤ 9000) : ∃ w, bl (K DG (d + 2)) 116 [.agg (imms (rowTh t))] = some (.imm w) ∧ Sl 1 w ((thB t).map ivY) := by
  have key : Fe (K DG (d + 1 + 1) 116 [.agg (imms (rowTh t))] .lf 0 0) (fun x H n => Yw H 0 n x (thB t)) := by
    rw [D.k116]
    refine fn_dw rfl ?_
    cases t with
    | int z =>
      obtain ⟨m, hm, wz, mz⟩ := wz64 z
      obtain ⟨y, H2, n2, e2, hn2, hy, ⟨id, hid, rfl⟩, f2⟩ := big_fn (d := d) (H := .lf) (n := 1) (lo := 0) (w := 0) (m := m) (k := 8) (Nat.le_refl _) (by omega) (by omega) (by omega) hm
      have e2' : K DG (d + 1) 117 [.imm (.int .u64 (m : Int)), .imm (.int .i64 8)] .lf 1 0 = some (.sl id 0 8 8, H2, n2) := e2
      have hrow : H2.get id = some ⟨1, (numY m 8).map rowY⟩ := by
        rcases hy with ⟨h, _⟩ | h | ⟨id', _, h, h2⟩
        · cases h
        · cases h
        · rw [numY_len] at h
          cases h
          exact h2
      have src := rows_y (id := id) hrow
      rw [numY_len] at src
      obtain ⟨x1, hw, n1, acc, p1, p2, p3, p4, p5, p6, p7⟩ := app_y (H := H2) (n := n2) (lo := 0) (w := 0) (x := .imm (.lst true 1 [[.int .u8 1]])) (bs := [1]) (y := .sl id 0 8 8) (cs := numY m 8) (Nat.le_refl _) (by omega) (.inr (.inl rfl)) src (fun _ _ _ e => by cases e) (by simp [numY_len])
      have xo := p3.out
      have xs := p3.sc
      simp [rowTh, imms, wz, e2', p1, xs, xo, evParts2, lay, unImms, unImm, mapO, rowsN, B6, undT, fnEnd, argsT, PT.get_put, keep, opRun, ev, evs, evO, give, giveI, binOf, isNilK, PM.flip, putT, putL, putH, loadOf, storeOf, cut, over, ofCells, asNat, natOr, calm, clashes, Acc.clash, ressOf, resOf, frz, frz.frzs, DV.flat, DV.flat.flats, imms]
      have e9 : thB (.int z) = 1 :: numY m 8 := by
        show 1 :: numY (z % 2 ^ 64).toNat 8 = _
        rw [mz]
      rw [e9]
      simpa using p3
    | text s =>
      have hsl := hts s rfl
      have w8 : IntKind.u8.wrap (s.length : Int) = ((UInt8.ofNat s.length).toNat : Int) := by
        rw [UInt8.toNat_ofNat']
        simp only [IntKind.wrap, IntKind.bits, IntKind.signed]
        simp
      generalize hk : UInt8.ofNat s.length = k at w8
      have e9 : thB (.text s) = 2 :: k :: s := by
        rw [← hk]
        rfl
      have hrb : s.map rowOfByte = s.map ivY := rfl
      obtain ⟨x1, hw, n1, acc, p1, p2, p3, p4, p5, p6, p7⟩ := app_y (H := .lf) (n := 1) (lo := 0) (w := 0) (x := .imm (.lst true 1 [[.int .u8 2], [.int .u8 (k.toNat : Int)]])) (bs := [2, k]) (y := .imm (.lst false 1 (s.map ivY))) (cs := s) (Nat.le_refl _) (by omega) (.inr (.inl rfl)) (src := none) (by simp [srcOf, rowsOf, Function.comp_def, imms_ivY]) (fun _ _ _ e => by cases e) (by simp; omega)
      have xo := p3.out
      have xs := p3.sc
      rw [e9]
      simp [rowTh, imms, w8, hrb, p1, xs, xo, evParts2, lay, unImms, unImm, mapO, rowsN, B6, undT, fnEnd, argsT, PT.get_put, keep, opRun, ev, evs, evO, give, giveI, binOf, isNilK, PM.flip, putT, putL, putH, loadOf, storeOf, cut, over, ofCells, asNat, natOr, calm, clashes, Acc.clash, ressOf, resOf, frz, frz.frzs, DV.flat, DV.flat.flats, imms]
      simpa using p3
    | bool b =>
      cases b with
      | true =>
        simp [rowTh, imms, evParts2, lay, unImms, unImm, mapO, rowsN, B6, undT, fnEnd, argsT, PT.get_put, keep, opRun, ev, evs, evO, give, giveI, binOf, isNilK, PM.flip, putT, putL, putH, loadOf, storeOf, cut, over, ofCells, asNat, natOr, calm, clashes, Acc.clash, ressOf, resOf, frz, frz.frzs, DV.flat, DV.flat.flats, imms]
        exact .inr (.inl rfl)
      | false =>
        simp [rowTh, imms, evParts2, lay, unImms, unImm, mapO, rowsN, B6, undT, fnEnd, argsT, PT.get_put, keep, opRun, ev, evs, evO, give, giveI, binOf, isNilK, PM.flip, putT, putL, putH, loadOf, storeOf, cut, over, ofCells, asNat, natOr, calm, clashes, Acc.clash, ressOf, resOf, frz, frz.frzs, DV.flat, DV.flat.flats, imms]
        exact .inr (.inl rfl)
  obtain ⟨x, H, n, e, hx⟩ := key
  have hne : thB t ≠ [] := by cases t <;> simp [thB]
  obtain ⟨g, hg⟩ := frz_y hx hne
  exact ⟨_, bl_of e hg, .inr ⟨g, rfl⟩⟩
theorem ref_bl {d : Nat} {f : Bool} {bs : List UInt8} (hb : bs.length ≤ 1000000) :
    bl (K DG (d + 1)) 48 [.imm (.lst f 1 (bs.map ivY))] = some (.imm (.int .u32 (crcF bs : Int))) := by
  refine bl_fe ⟨_, .lf, 0, ?_, rfl⟩
  rw [D.k48]
  show primRef [.imm (.lst f 1 (bs.map ivY))] .lf 0 0 = _
  unfold primRef
  simp only [List.length_map]
  rw [Nat.ble_eq_true_of_le hb, cond_true, crcRows_y]
  rfl
theorem call_ref {d : Nat} {H : PT HB} {n lo id : Nat} {bs : List UInt8} (hb : bs.length ≤ 1000000) (h2 : H.get id = some ⟨1, bs.map rowY⟩) :
    callM (K DG (d + 1)) .blind 48 [.sl id 0 bs.length bs.length] H n lo = some ⟨.imm (.int .u32 (crcF bs : Int)), H, n, [.rA]⟩ := by
  have e1 : frzI H.get 0 4 (.sl id 0 bs.length bs.length) = some (.lst false 1 (bs.map ivY)) := by
    show (if 0 ≤ id then _ else none) = _
    rw [if_pos (Nat.zero_le _), h2]
    show (if 0 + bs.length ≤ (bs.map rowY).length then _ else none) = _
    rw [if_pos (by simp)]
    show (mapO (mapO (frzI H.get 0 3)) (((bs.map rowY).drop 0).take bs.length)).map _ = _
    rw [List.drop_zero, List.take_of_length_le (by simp), mapO_y]
    rfl
  have e2 : snap.snaps H.get [.sl id 0 bs.length bs.length] = some [.imm (.lst false 1 (bs.map ivY))] := by
    show (match (frzI H.get 0 4 (.sl id 0 bs.length bs.length)).map DV.imm, some [] with
      | some v', some vs' => some (v' :: vs')
      | _, _ => none) = _
    rw [e1]
    rfl
  have e3 : K DG (d + 1) 48 [.imm (.lst false 1 (bs.map ivY))] .lf 0 0 = some (.imm (.int .u32 (crcF bs : Int)), .lf, 0) := by
    rw [D.k48]
    show primRef [.imm (.lst false 1 (bs.map ivY))] .lf 0 0 = _
    unfold primRef
    simp only [List.length_map]
    rw [Nat.ble_eq_true_of_le hb, cond_true, crcRows_y]
    rfl
  have e4 : DV.pure.pures [.sl id 0 bs.length bs.length] = false := rfl
  unfold callM
  simp only [e4, e2, e3]
  rfl
structure IPr (H0 : PT HB) (w a : Nat) (ts : List Th) (i : Nat) (st : St) : Prop where
  c0 : st.T.get 0 = some (.ptr a 0 0)
  c5 : st.T.get 5 = some (.imm (.int .i64 (i : Int)))
  y : ∃ x, st.T.get 4 = some x ∧ Yw st.H w st.n x (UInt8.ofNat ts.length :: thsB (ts.take i))
  fr : ∀ j, j < w → st.H.get j = H0.get j
  hn : w ≤ st.n
theorem loopPr {d : Nat} {H0 : PT HB} {w a lo : Nat} {ob : Option Nat} {ts : List Th} (hlo : lo ≤ w) (hc : CrR H0 a ob ts) (ha : a < w) (hob : ∀ b, ob = some b → b < w) (hl : ts.length ≤ 100) (hts : ∀ t ∈ ts, (thB t).length ≤ 300) (hok : ∀ t ∈ ts, thOk t = true)
    {st : St} (h : IPr H0 w a ts 0 st) {ks : List Kf} {Q : Ex → St → Prop}
    (hk : ∀ s', IPr H0 w a ts ts.length s' → Bk DG (K DG (d + 2)) lo (.exit 0) ks s' Q) :
    Wp DG (K DG (d + 2)) lo D.l76_0 ks st Q := by
  refine dw_loop (N := ts.length) (small (by have := rbW; omega)) (fun i st => IPr H0 w a ts i st) (fun e s' => e = .exit 0 ∧ IPr H0 w a ts ts.length s') (fun i st hle hI => ?_) h (fun e s' h => by
    obtain ⟨rfl, h⟩ := h
    exact hk s' h)
  obtain ⟨c0, c5, ⟨x, c4, hy⟩, fr, hn⟩ := hI
  have hga := fr a ha
  have xs := hy.sc
  -- the crate's rows
  obtain ⟨cx, hcx, hcl, hcs, hci⟩ : ∃ cx, st.H.get a = some ⟨1, [[cx]]⟩ ∧ lenOf cx = some ts.length ∧ cx.scal = true ∧ (ts = [] ∨ cx = .imm (.lst true 4 (ts.map rowTh)) ∨ ∃ b, cx = .sl b 0 ts.length ts.length ∧ st.H.get b = some ⟨4, (ts.map rowTh).map imms⟩) := by
    rcases hc with ⟨h1, rfl, _⟩ | ⟨h1, _⟩ | ⟨b, hb, _, h1, h2⟩
    · exact ⟨_, by rw [hga]; exact h1, rfl, rfl, .inl rfl⟩
    · exact ⟨_, by rw [hga]; exact h1, by simp [lenOf], rfl, .inr (.inl rfl)⟩
    · exact ⟨_, by rw [hga]; exact h1, by simp [lenOf], rfl, .inr (.inr ⟨b, rfl, by rw [fr b (hob b hb)]; exact h2⟩)⟩
  by_cases hi : i < ts.length
  · have hi1 : (i : Int) < ts.length := by omega
    have hi' : ILt (i : Int) ts.length = True := ilt_t hi1
    have hw8 : IntKind.i64.wrap ((i : Int) + 1) = (i : Int) + 1 := wr_succ hi (by have := rbW; omega)
    have hlen : (UInt8.ofNat ts.length :: thsB (ts.take i)).length ≤ 90000 := by
      have := thsB_len (ts := ts.take i) fun t ht => hts t (List.mem_of_mem_take ht)
      simp only [List.length_cons, List.length_take] at *
      omega
    have h300 := hts _ (List.getElem_mem hi)
    have hoki := hok _ (List.getElem_mem hi)
    obtain ⟨wt, et, hwt⟩ := thing8_bl (d := d) ts[i] (fun s hs => by
      rw [hs] at h300
      simp [thB] at h300
      omega)
    obtain ⟨sb, hsrc, hsb⟩ := src_sl hwt st.H.get
    have hsb1 : sb = 1 := hsb (by
      intro h
      have := congrArg List.length h
      cases ht : ts[i] <;> simp [ht, thB] at this)
    subst hsb1
    rw [map_imms_ivY] at hsrc
    obtain ⟨x1, hw, n1, acc, p1, p2, p3, p4, p5, p6, p7⟩ := app_y (y := .imm wt) (cs := thB ts[i]) hlo hn hy (src := none) hsrc (fun _ _ _ _ => by simp) (by simp only [List.length_cons] at hlen ⊢; omega)
    have x1s := p3.sc
    have fin : Yw (putH st.H hw) w n1 x1 (UInt8.ofNat ts.length :: thsB (ts.take (i + 1))) := by
      rw [thsB_succ hi]
      exact p3
    have wts := hwt.scal
    have txt : ∃ a b s e, rowTh ts[i] = [a, b, .str s, e] ∧ s.length ≤ 200 := by
      cases ht : ts[i] with
      | int z => exact ⟨_, _, _, _, rfl, by simp⟩
      | text s => rw [ht] at hoki; exact ⟨_, _, _, _, rfl, of_decide_eq_true (p := s.length ≤ 200) hoki⟩
      | bool z => exact ⟨_, _, _, _, rfl, by simp⟩
    obtain ⟨ra, rb, rs, re, hrt, hrl⟩ := txt
    have il : ILt 200 (rs.length : Int) = False := ilt_f (by omega)
    have rsc := rowTh_sc ts[i]
    rw [hrt] at et
    simp only [imms, List.map_cons, List.map_nil] at et
    rcases hci with h0 | hcx' | ⟨b, hcx', hb⟩
    · rw [h0] at hi; simp at hi
    · have ix := fun {h : Nat → Option HB} {n : Nat} => (show idxE h n 4 (some (.imm (.lst true 4 (ts.map rowTh)))) (some (.imm (.int .i64 (i : Int)))) = some { v := .imm (.cref (rowTh ts[i])), n' := n } by
        have e1 : asNat (.imm (.int .i64 (i : Int))) = some i := by simp [asNat]
        simp only [idxE, e1, List.getElem?_map, List.getElem?_eq_getElem hi, Option.map_some, give]
        simp)
      rw [hrt] at ix
      rw [hcx'] at hcx hcl hcs
      generalize ts.map rowTh = es at *
      generalize thB ts[i] = tb at *
      generalize ts[i] = t at *
      generalize hQ : (fun (e : Ex) (s' : St) => _) = Q'
      simp only [D.l76_0b]
      simp [c0, c4, c5, hcx, hcl, hcs, xs, x1s, wts, hi', hw8, ix, il, et, p1, imms, B6, undT, fnEnd, argsT, PT.get_put, keep, opRun, ev, evs, evO, give, giveI, binOf, isNilK, PM.flip, putT, putL, putH, loadOf, storeOf, cut, over, ofCells, asNat, natOr, calm, clashes, Acc.clash, ressOf, resOf, frz, frz.frzs, DV.flat, DV.flat.flats, imms]
      subst hQ
      exact .inl ⟨rfl, hi, by simp [PT.get_put], by simp [PT.get_put], ⟨x1, by simp [PT.get_put], fin⟩, fun j hj => (p4 j hj).trans (fr j hj), by simp; omega⟩
    · have ix := fun {n : Nat} => idx_hp (h := st.H.get) (n := n) (id := b) (row := 0) (len := ts.length) (cap := ts.length) hb rfl (k := .i64) (z := (i : Int)) (by omega) hi1
      simp only [Int.toNat_natCast, Nat.zero_add] at ix
      have hrow : ((ts.map rowTh).map imms)[i]? = some (imms (rowTh ts[i])) := by simp [hi]
      rw [hrt] at hrow
      rw [hcx'] at hcx hcl hcs
      generalize (ts.map rowTh).map imms = es at *
      generalize thB ts[i] = tb at *
      generalize ts[i] = t at *
      generalize hQ : (fun (e : Ex) (s' : St) => _) = Q'
      simp only [D.l76_0b]
      simp only [imms, List.map_cons, List.map_nil] at hrow
      simp [c0, c4, c5, hcx, hcl, hcs, xs, x1s, wts, hi', hw8, ix, hb, hrow, il, et, p1, imms, B6, undT, fnEnd, argsT, PT.get_put, keep, opRun, ev, evs, evO, give, giveI, binOf, isNilK, PM.flip, putT, putL, putH, loadOf, storeOf, cut, over, ofCells, asNat, natOr, calm, clashes, Acc.clash, ressOf, resOf, frz, frz.frzs, DV.flat, DV.flat.flats, imms]
      subst hQ
      exact .inl ⟨rfl, hi, by simp [PT.get_put], by simp [PT.get_put], ⟨x1, by simp [PT.get_put], fin⟩, fun j hj => (p4 j hj).trans (fr j hj), by simp; omega⟩
  · obtain rfl : i = ts.length := by omega
    generalize hQ : (fun (e : Ex) (s' : St) => _) = Q'
    simp only [D.l76_0b]
    simp [c0, c4, c5, hcx, hcl, hcs, xs, B6, undT, fnEnd, argsT, PT.get_put, keep, opRun, ev, evs, evO, give, giveI, binOf, isNilK, PM.flip, putT, putL, putH, loadOf, storeOf, cut, over, ofCells, asNat, natOr, calm, clashes, Acc.clash, ressOf, resOf, frz, frz.frzs, DV.flat, DV.flat.flats, imms]
    subst hQ
    exact .inr ⟨nofun, rfl, by simp [PT.get_put, c0], by simp [PT.get_put, c5], ⟨x, by simp [PT.get_put, c4], hy⟩, fr, hn⟩
end Go.Proofs.YtnpcgejfkonfdabGreatDoor.D

-- K22
set_option linter.unusedVariables false
set_option linter.unusedSimpArgs false
set_option maxHeartbeats 16000000
namespace Go.Proofs.YtnpcgejfkonfdabGreatDoor.D
open Go Go.PM Go.Lib
theorem isState_run {d : Nat} {H : PT HB} {p : Nat} {own : List Nat} {l : Lo} {rs : List Rst} (ok : LoOk l) (is : ISL l) (lk : LkAt H p own l rs) {r : Nat} (hr : r < l.rts.length) (x : Rst) {n lo : Nat} :
    ∃ n', K DG (d + 1) 96 [.ptr p 0 0, .imm (.int .i64 r), .agg (rowRS x)] H n lo = some (.imm (.bool (dec (RsOk l r x))), H, n') ∧ n ≤ n' := by
  obtain ⟨y, h1, h2, h3, h4⟩ := lk
  have rk := ok.or _ (nth_mem hr)
  have pl := rk.p.len
  simp only [List.length_map] at pl
  have p5 := is.p5 r hr
  have p1 := (is.rr r hr).p1
  have hr1 : (r : Int) < l.rts.length := by omega
  have ix := fun {h : Nat → Option HB} {n : Nat} => idx_sl (h := h) (n := n) ok.r (by omega) (k := .i64) (z := (r : Int)) (by omega) hr1
  have hw : IntKind.i64.wrap (((nth l.rts r).path.length : Int) - 1) = ((nth l.rts r).path.length : Int) - 1 := wr_id (by omega) (by omega)
  simp only [Int.toNat_natCast] at ix
  obtain ⟨m, t, g, s⟩ := x
  have key : Fe (K DG (d + 1) 96 [.ptr p 0 0, .imm (.int .i64 r), .agg (rowRS ⟨m, t, g, s⟩)] H n lo) (fun v H' n' => v = .imm (.bool (dec (RsOk l r ⟨m, t, g, s⟩))) ∧ H' = H ∧ n ≤ n') := by
    rw [D.k96]
    refine fn_dw rfl ?_
    by_cases m0 : m = 0
    · subst m0
      have e : RsOk l r ⟨0, t, g, s⟩ ↔ (⟨0, t, g, s⟩ : Rst) = ⟨0, 0, 0, false⟩ := by
        rw [Rst.mk.injEq]
        exact ⟨fun h => ⟨rfl, h.tz (by simp) (by simp), h.gz (by simp)⟩, fun ⟨_, h1, h2, h3⟩ => by subst h1; subst h2; subst h3; exact RsOk.idle⟩
      rw [dec_congr e]
      simp [h1, eqSt_rs, evParts, lay, B6, undT, fnEnd, argsT, PT.get_put, keep, opRun, ev, evs, evO, give, giveI, binOf, isNilK, PM.flip, putT, putL, putH, loadOf, storeOf, cut, over, ofCells, asNat, natOr, calm, clashes, Acc.clash, ressOf, resOf, frz, frz.frzs, DV.flat, DV.flat.flats, imms]
      omega
    by_cases m2 : m = 2
    · subst m2
      have e : RsOk l r ⟨2, t, g, s⟩ ↔ (⟨2, t, g, s⟩ : Rst) = ⟨2, 0, 0, false⟩ := by
        rw [Rst.mk.injEq]
        exact ⟨fun h => ⟨rfl, h.tz (by simp) (by simp), h.gz (by simp)⟩, fun ⟨_, h1, h2, h3⟩ => by subst h1; subst h2; subst h3; exact ⟨by simp, by simp, by simp, by simp, by simp, by simp, by simp⟩⟩
      rw [dec_congr e]
      simp [h1, eqSt_rs, evParts, lay, B6, undT, fnEnd, argsT, PT.get_put, keep, opRun, ev, evs, evO, give, giveI, binOf, isNilK, PM.flip, putT, putL, putH, loadOf, storeOf, cut, over, ofCells, asNat, natOr, calm, clashes, Acc.clash, ressOf, resOf, frz, frz.frzs, DV.flat, DV.flat.flats, imms]
      omega
    by_cases m1 : m = 1
    · subst m1
      generalize hz : (if 8 < (if t < 0 then 0 else t) then 8 else (if t < 0 then 0 else t)) = z
      have e : RsOk l r ⟨1, t, g, s⟩ ↔ (⟨1, t, g, s⟩ : Rst) = ⟨1, z, 0, false⟩ := by
        rw [Rst.mk.injEq]
        refine ⟨fun h => ⟨rfl, ?_, h.gz (by simp)⟩, fun ⟨_, h1, h2, h3⟩ => ?_⟩
        · have a1 := h.t0
          have a2 := h.t8 rfl
          simp only at a1 a2
          subst hz
          repeat' split
          all_goals omega
        · subst h2; subst h3
          have hb : 0 ≤ t ∧ t ≤ 8 := by
            subst hz
            revert h1
            repeat' split
            all_goals omega
          exact ⟨by simp, by simp <;> omega, by simp <;> omega, by simp <;> omega, by simp, by simp, by simp⟩
      rw [dec_congr e]
      simp [h1, eqSt_rs, evParts, lay, B6, undT, fnEnd, argsT, PT.get_put, keep, opRun, ev, evs, evO, give, giveI, binOf, isNilK, PM.flip, putT, putL, putH, loadOf, storeOf, cut, over, ofCells, asNat, natOr, calm, clashes, Acc.clash, ressOf, resOf, frz, frz.frzs, DV.flat, DV.flat.flats, imms]
      subst hz
      exact ⟨rfl, by omega⟩
    by_cases m4 : m = 4
    · subst m4
      generalize hz : (if 5 < (if t < 0 then 0 else t) then 5 else (if t < 0 then 0 else t)) = z
      have e : RsOk l r ⟨4, t, g, s⟩ ↔ (⟨4, t, g, s⟩ : Rst) = ⟨4, z, 0, false⟩ := by
        rw [Rst.mk.injEq]
        refine ⟨fun h => ⟨rfl, ?_, h.gz (by simp)⟩, fun ⟨_, h1, h2, h3⟩ => ?_⟩
        · have a1 := h.t0
          have a2 := h.t6 rfl
          simp only at a1 a2
          subst hz
          repeat' split
          all_goals omega
        · subst h2; subst h3
          have hb : 0 ≤ t ∧ t ≤ 5 := by
            subst hz
            revert h1
            repeat' split
            all_goals omega
          exact ⟨by simp, by simp <;> omega, by simp <;> omega, by simp <;> omega, by simp, by simp, by simp⟩
      rw [dec_congr e]
      simp [h1, eqSt_rs, evParts, lay, B6, undT, fnEnd, argsT, PT.get_put, keep, opRun, ev, evs, evO, give, giveI, binOf, isNilK, PM.flip, putT, putL, putH, loadOf, storeOf, cut, over, ofCells, asNat, natOr, calm, clashes, Acc.clash, ressOf, resOf, frz, frz.frzs, DV.flat, DV.flat.flats, imms]
      subst hz
      exact ⟨rfl, by omega⟩
    by_cases m3 : m = 3
    · subst m3
      generalize hz : (if ((nth l.rts r).path.length : Int) - 1 < (if g < 0 then 0 else g) then ((nth l.rts r).path.length : Int) - 1 else (if g < 0 then 0 else g)) = z
      have e : RsOk l r ⟨3, t, g, s⟩ ↔ (⟨3, t, g, s⟩ : Rst) = ⟨3, 0, z, s⟩ := by
        rw [Rst.mk.injEq]
        refine ⟨fun h => ⟨rfl, h.tz (by simp) (by simp), ?_, rfl⟩, fun ⟨_, h1, h2, h3⟩ => ?_⟩
        · have a1 := h.g3 rfl
          simp only at a1
          subst hz
          repeat' split
          all_goals omega
        · subst h1
          have hb : 0 ≤ g ∧ g < (nth l.rts r).path.length := by
            subst hz
            revert h2
            repeat' split
            all_goals omega
          exact ⟨by simp, by simp, by simp, by simp, by simp, fun _ => hb, by simp⟩
      rw [dec_congr e]
      simp [h1, ix, pl, hw, ivRt, eqSt_rs, evParts, lay, B6, undT, fnEnd, argsT, PT.get_put, keep, opRun, ev, evs, evO, give, giveI, binOf, isNilK, PM.flip, putT, putL, putH, loadOf, storeOf, cut, over, ofCells, asNat, natOr, calm, clashes, Acc.clash, ressOf, resOf, frz, frz.frzs, DV.flat, DV.flat.flats, imms]
      subst hz
      exact ⟨rfl, by omega⟩
    · have e : ¬ RsOk l r ⟨m, t, g, s⟩ := fun h => by have := h.md; simp only at this; omega
      rw [dec_f e]
      simp [h1, m0, m1, m2, m3, m4, eqSt_rs, evParts, lay, B6, undT, fnEnd, argsT, PT.get_put, keep, opRun, ev, evs, evO, give, giveI, binOf, isNilK, PM.flip, putT, putL, putH, loadOf, storeOf, cut, over, ofCells, asNat, natOr, calm, clashes, Acc.clash, ressOf, resOf, frz, frz.frzs, DV.flat, DV.flat.flats, imms]
      omega
  obtain ⟨v, H', n', e, rfl, rfl, hn⟩ := key
  exact ⟨n', e, hn⟩
/-! ### Set -/
/-- Two routes that may not both stand. -/
def Bad (l : Lo) (qs : List Rst) (i s : Nat) : Prop := (nth qs i).mode ≠ 0 ∧ (nth qs s).mode ≠ 0 ∧ CF l i s
structure IQ1 (p : Nat) (w : IV) (H : PT HB) (n0 i k : Nat) (x : Rst) (j : Nat) (st : St) : Prop where
  h0 : st.T.get 0 = some (.ptr p 0 0)
  h1 : st.T.get 1 = some (.imm w)
  h5 : st.T.get 5 = some (.imm (.int .i64 i))
  b6 : BoxD st 6 (rowRS x)
  h21 : st.T.get 21 = some (.imm w)
  h22 : st.T.get 22 = some (.imm (.int .i64 k))
  h23 : st.T.get 23 = some (.imm (.int .i64 i))
  h35 : st.T.get 35 = some (.imm (takeV w i))
  h36 : st.T.get 36 = some (.imm (.int .i64 i))
  h37 : st.T.get 37 = some (.imm (.int .i64 j))
  hH : st.H = H
  hn : n0 ≤ st.n
theorem nth_take {α : Type} [Inhabited α] {xs : List α} {i j : Nat} (h : j < i) : nth (xs.take i) j = nth xs j := by simp [nth, List.getD, List.getElem?_take, h]
theorem loopQ1 {d : Nat} (hd : 9 ≤ d) {H : PT HB} {p n0 : Nat} {own : List Nat} {l : Lo} {rs : List Rst} (ok : LoOk l) (is : ISL l) (lk : LkAt H p own l rs) {w : IV} {qs : List Rst} (hw : Sl 4 w (qs.map ivRS)) (hq : qs.length = l.rts.length) {i k : Nat} (hi : i < l.rts.length) {ks : List Kf} {st : St} {Q : Ex → St → Prop} (h : IQ1 p w H n0 i k (nth qs i) 0 st)
    (h1 : ∀ st', st'.T.get 4 = some (.imm (.bool false)) → st'.H = H → n0 ≤ st'.n → (∃ s, s < i ∧ Bad l qs i s) → Bk DG (K DG d) 0 .ret ks st' Q)
    (h2 : ∀ st', IQ1 p w H n0 i k (nth qs i) i st' → (∀ s, s < i → ¬ Bad l qs i s) → Bk DG (K DG d) 0 (.exit 2) ks st' Q) : Wp DG (K DG d) 0 D.l58_1 ks st Q := by
  have hrb := rb3
  have lr := ok.lr
  obtain ⟨y, k1, k2, k3, k4⟩ := lk
  have vt := takeV_sl hw i
  have vtl := vt.len
  simp only [List.length_map, List.length_take] at vtl
  refine dw_loop (N := i) (small (by omega)) (fun j st => IQ1 p w H n0 i k (nth qs i) j st ∧ ∀ s, s < j → ¬ Bad l qs i s) (fun e st' => (e = .ret ∧ st'.T.get 4 = some (.imm (.bool false)) ∧ st'.H = H ∧ n0 ≤ st'.n ∧ ∃ s, s < i ∧ Bad l qs i s) ∨ (e = .exit 2 ∧ IQ1 p w H n0 i k (nth qs i) i st' ∧ ∀ s, s < i → ¬ Bad l qs i s)) (fun j st hle hI => ?_) ⟨h, fun s hs => absurd hs (by omega)⟩ (fun e s' h => by
    rcases h with ⟨rfl, a1, a2, a3, a4⟩ | ⟨rfl, a1, a2⟩
    · exact h1 s' a1 a2 a3 a4
    · exact h2 s' a1 a2)
  obtain ⟨⟨g0, g1, g5, ⟨i6, g6, L6⟩, g21, g22, g23, g35, g36, g37, hH, hn⟩, al⟩ := hI
  by_cases hj : j < i
  · have hj1 : (j : Int) < i := by omega
    have hj' := ilt_t hj1
    have hw8 : IntKind.i64.wrap ((j : Int) + 1) = (j : Int) + 1 := wr_succ hj (by omega)
    have ix := fun {h : Nat → Option HB} {n : Nat} => idx_sl (h := h) (n := n) vt (by omega) (k := .i64) (z := (j : Int)) (by omega) (by simp; omega)
    simp only [Int.toNat_natCast, nth_take hj] at ix
    have cf := Conflict_bl (D := d) (by omega) ok is.few hi (s := j) (by omega)
    have bad : Bad l qs i j ↔ (nth qs i).mode ≠ 0 ∧ (nth qs j).mode ≠ 0 ∧ CF l i j := Iff.rfl
    have nx : ¬ Bad l qs i j → ∀ s, s < j + 1 → ¬ Bad l qs i s := fun hb s hs => by
      by_cases e : s = j
      · subst e; exact hb
      · exact al s (by omega)
    generalize nth qs i = x at *
    generalize nth qs j = y at *
    generalize hQ : (fun (e : Ex) (s' : St) => _) = Q'
    simp only [D.l58_1b]
    by_cases mx : x.mode = 0
    · have nb := nx fun e => (bad.1 e).1 mx
      simp [g0, g1, g5, g6, L6, g21, g22, g23, g35, g36, g37, hj', hw8, ix, hH, k1, mx, ivRS, evParts, lay, B6, undT, fnEnd, argsT, PT.get_put, keep, opRun, ev, evs, evO, give, giveI, binOf, isNilK, PM.flip, putT, putL, putH, loadOf, storeOf, cut, over, ofCells, asNat, natOr, calm, clashes, Acc.clash, ressOf, resOf, frz, frz.frzs, DV.flat, DV.flat.flats, imms]
      subst hQ
      exact .inl ⟨rfl, hj, ⟨by simp [PT.get_put], by simp [PT.get_put], by simp [PT.get_put], ⟨i6, by simp [PT.get_put], by simp [PT.get_put, mx]⟩, by simp [PT.get_put], by simp [PT.get_put], by simp [PT.get_put], by simp [PT.get_put], by simp [PT.get_put], by simp [PT.get_put], rfl, by simp; omega⟩, nb⟩
    by_cases my : y.mode = 0
    · have nb := nx fun e => (bad.1 e).2.1 my
      simp [g0, g1, g5, g6, L6, g21, g22, g23, g35, g36, g37, hj', hw8, ix, hH, k1, mx, my, ivRS, evParts, lay, B6, undT, fnEnd, argsT, PT.get_put, keep, opRun, ev, evs, evO, give, giveI, binOf, isNilK, PM.flip, putT, putL, putH, loadOf, storeOf, cut, over, ofCells, asNat, natOr, calm, clashes, Acc.clash, ressOf, resOf, frz, frz.frzs, DV.flat, DV.flat.flats, imms]
      subst hQ
      exact .inl ⟨rfl, hj, ⟨by simp [PT.get_put], by simp [PT.get_put], by simp [PT.get_put], ⟨i6, by simp [PT.get_put], by simp [PT.get_put]⟩, by simp [PT.get_put], by simp [PT.get_put], by simp [PT.get_put], by simp [PT.get_put], by simp [PT.get_put], by simp [PT.get_put], rfl, by simp; omega⟩, nb⟩
    by_cases hc : CF l i j
    · rw [dec_t hc] at cf
      simp [g0, g1, g5, g6, L6, g21, g22, g23, g35, g36, g37, hj', hw8, ix, hH, k1, mx, my, cf, ok.s.scal, ok.p.scal, ok.g.scal, ok.r.scal, ivRS, evParts, lay, B6, undT, fnEnd, argsT, PT.get_put, keep, opRun, ev, evs, evO, give, giveI, binOf, isNilK, PM.flip, putT, putL, putH, loadOf, storeOf, cut, over, ofCells, asNat, natOr, calm, clashes, Acc.clash, ressOf, resOf, frz, frz.frzs, DV.flat, DV.flat.flats, imms]
      subst hQ
      exact .inr ⟨nofun, .inl ⟨rfl, by simp [PT.get_put], rfl, by simp; omega, j, hj, bad.2 ⟨mx, my, hc⟩⟩⟩
    · rw [dec_f hc] at cf
      have nb := nx fun e => hc (bad.1 e).2.2
      simp [g0, g1, g5, g6, L6, g21, g22, g23, g35, g36, g37, hj', hw8, ix, hH, k1, mx, my, cf, ok.s.scal, ok.p.scal, ok.g.scal, ok.r.scal, ivRS, evParts, lay, B6, undT, fnEnd, argsT, PT.get_put, keep, opRun, ev, evs, evO, give, giveI, binOf, isNilK, PM.flip, putT, putL, putH, loadOf, storeOf, cut, over, ofCells, asNat, natOr, calm, clashes, Acc.clash, ressOf, resOf, frz, frz.frzs, DV.flat, DV.flat.flats, imms]
      subst hQ
      exact .inl ⟨rfl, hj, ⟨by simp [PT.get_put], by simp [PT.get_put], by simp [PT.get_put], ⟨i6, by simp [PT.get_put], by simp [PT.get_put]⟩, by simp [PT.get_put], by simp [PT.get_put], by simp [PT.get_put], by simp [PT.get_put], by simp [PT.get_put], by simp [PT.get_put], rfl, by simp; omega⟩, nb⟩
  · obtain rfl : j = i := by omega
    generalize hQ : (fun (e : Ex) (s' : St) => _) = Q'
    simp only [D.l58_1b]
    simp [g0, g1, g5, g6, L6, g21, g22, g23, g35, g36, g37, hH, B6, undT, fnEnd, argsT, PT.get_put, keep, opRun, ev, evs, evO, give, giveI, binOf, isNilK, PM.flip, putT, putL, putH, loadOf, storeOf, cut, over, ofCells, asNat, natOr, calm, clashes, Acc.clash, ressOf, resOf, frz, frz.frzs, DV.flat, DV.flat.flats, imms]
    subst hQ
    exact .inr ⟨nofun, .inr ⟨rfl, ⟨by simp [PT.get_put, g0], by simp [PT.get_put, g1], by simp [PT.get_put, g5], ⟨i6, by simp [PT.get_put, g6], by simp [PT.get_put, L6]⟩, by simp [PT.get_put, g21], by simp [PT.get_put, g22], by simp [PT.get_put, g23], by simp [PT.get_put, g35], by simp [PT.get_put, g36], by simp [PT.get_put, g37], rfl, hn⟩, al⟩⟩
structure IQ0 (p : Nat) (w : IV) (H : PT HB) (n0 k i : Nat) (st : St) : Prop where
  h0 : st.T.get 0 = some (.ptr p 0 0)
  h1 : st.T.get 1 = some (.imm w)
  h21 : st.T.get 21 = some (.imm w)
  h22 : st.T.get 22 = some (.imm (.int .i64 k))
  h23 : st.T.get 23 = some (.imm (.int .i64 i))
  hH : st.H = H
  hn : n0 ≤ st.n
/-- A route that may stand so, beside those ahead of it. -/
def Good (l : Lo) (qs : List Rst) (r : Nat) : Prop := RsOk l r (nth qs r) ∧ ∀ s, s < r → ¬ Bad l qs r s
theorem good_inv {l : Lo} {qs : List Rst} (hq : qs.length = l.rts.length) : (∀ r, r < l.rts.length → Good l qs r) ↔ INV l qs := by
  refine ⟨fun h => ⟨hq, fun r hr => (h r hr).1, fun i j hi hj hij mi mj hc => ?_⟩, fun h r hr => ⟨h.ro r hr, fun s hs hb => h.nc r s hr (by omega) (by omega) hb.1 hb.2.1 hb.2.2⟩⟩
  rcases Nat.lt_or_gt_of_ne hij with hlt | hlt
  · exact (h j hj).2 i hlt ⟨mj, mi, CF_sym hc⟩
  · exact (h i hi).2 j hlt ⟨mi, mj, hc⟩
theorem loopQ0 {d : Nat} (hd : 10 ≤ d) {H : PT HB} {p n0 : Nat} {own : List Nat} {l : Lo} {rs : List Rst} (ok : LoOk l) (is : ISL l) (lk : LkAt H p own l rs) {w : IV} {qs : List Rst} (hw : Sl 4 w (qs.map ivRS)) (hq : qs.length = l.rts.length) {ks : List Kf} {st : St} {Q : Ex → St → Prop} (h : IQ0 p w H n0 l.rts.length 0 st)
    (h1 : ∀ st', st'.T.get 4 = some (.imm (.bool false)) → st'.H = H → n0 ≤ st'.n → ¬ (∀ r, r < l.rts.length → Good l qs r) → Bk DG (K DG d) 0 .ret ks st' Q)
    (h2 : ∀ st', IQ0 p w H n0 l.rts.length l.rts.length st' → (∀ r, r < l.rts.length → Good l qs r) → Bk DG (K DG d) 0 (.exit 0) ks st' Q) : Wp DG (K DG d) 0 D.l58_0 ks st Q := by
  have hrb := rb3
  have lr := ok.lr
  obtain ⟨d, rfl⟩ : ∃ d', d = d' + 1 := ⟨d - 1, by omega⟩
  refine dw_loop (N := l.rts.length) (small lr) (fun i st => IQ0 p w H n0 l.rts.length i st ∧ ∀ r, r < i → Good l qs r) (fun e st' => (e = .ret ∧ st'.T.get 4 = some (.imm (.bool false)) ∧ st'.H = H ∧ n0 ≤ st'.n ∧ ¬ ∀ r, r < l.rts.length → Good l qs r) ∨ (e = .exit 0 ∧ IQ0 p w H n0 l.rts.length l.rts.length st' ∧ ∀ r, r < l.rts.length → Good l qs r)) (fun i st hle hI => ?_) ⟨h, fun s hs => absurd hs (by omega)⟩ (fun e s' h => by
    rcases h with ⟨rfl, a1, a2, a3, a4⟩ | ⟨rfl, a1, a2⟩
    · exact h1 s' a1 a2 a3 a4
    · exact h2 s' a1 a2)
  obtain ⟨⟨g0, g1, g21, g22, g23, hH, hn⟩, al⟩ := hI
  by_cases hi : i < l.rts.length
  · have hi1 : (i : Int) < l.rts.length := by omega
    have hi' := ilt_t hi1
    have hw8 : IntKind.i64.wrap ((i : Int) + 1) = (i : Int) + 1 := wr_succ hi lr
    have ix := fun {h : Nat → Option HB} {n : Nat} => idx_sl (h := h) (n := n) hw (by omega) (k := .i64) (z := (i : Int)) (by omega) (by omega)
    simp only [Int.toNat_natCast] at ix
    have sl := fun {h : Nat → Option HB} {n : Nat} => slc_to (h := h) (n := n) hw (i := i) (by omega)
    have vt := (takeV_sl hw i).len
    simp only [List.length_map, List.length_take, Nat.min_eq_left (show i ≤ qs.length by omega)] at vt
    obtain ⟨n2, e2, hn2⟩ := isState_run (d := d) ok is lk hi (nth qs i) (n := st.n + 1) (lo := st.n + 1)
    subst hH
    have loop := fun {ks st Q} => loopQ1 (d := d + 1) (n0 := n0) (k := l.rts.length) (ks := ks) (st := st) (Q := Q) (by omega) ok is lk hw hq hi
    have gd : RsOk l i (nth qs i) → (∀ s, s < i → ¬ Bad l qs i s) → ∀ r, r < i + 1 → Good l qs r := fun a b r hr => by
      by_cases e : r = i
      · subst e; exact ⟨a, b⟩
      · exact al r (by omega)
    have nb : (∃ s, s < i ∧ Bad l qs i s) → ¬ ∀ r, r < l.rts.length → Good l qs r := fun ⟨s, hs, hb⟩ h => (h i hi).2 s hs hb
    have ns : ¬ RsOk l i (nth qs i) → ¬ ∀ r, r < l.rts.length → Good l qs r := fun hs h => hs (h i hi).1
    generalize nth qs i = x at *
    generalize hQ : (fun (e : Ex) (s' : St) => _) = Q'
    simp only [D.l58_0b]
    by_cases ho : RsOk l i x
    · rw [dec_t ho] at e2
      simp [g0, g1, g21, g22, g23, hi', hw8, ix, sl, vt, e2, ivRS, evParts, lay, B6, undT, fnEnd, argsT, PT.get_put, keep, opRun, ev, evs, evO, give, giveI, binOf, isNilK, PM.flip, putT, putL, putH, loadOf, storeOf, cut, over, ofCells, asNat, natOr, calm, clashes, Acc.clash, ressOf, resOf, frz, frz.frzs, DV.flat, DV.flat.flats, imms]
      refine loop ⟨by simp [PT.get_put], by simp [PT.get_put], by simp [PT.get_put], ⟨st.n, by simp [PT.get_put], by simp [PT.get_put]⟩, by simp [PT.get_put], by simp [PT.get_put], by simp [PT.get_put], by simp [PT.get_put], by simp [PT.get_put], by simp [PT.get_put], rfl, by simp; omega⟩ (fun s2 f4 fH fn hb => ?_) (fun s2 f hb => ?_)
      · simp [f4, B6, undT, fnEnd, argsT, PT.get_put, keep, opRun, ev, evs, evO, give, giveI, binOf, isNilK, PM.flip, putT, putL, putH, loadOf, storeOf, cut, over, ofCells, asNat, natOr, calm, clashes, Acc.clash, ressOf, resOf, frz, frz.frzs, DV.flat, DV.flat.flats, imms]
        subst hQ
        exact .inr ⟨nofun, .inl ⟨rfl, f4, fH, fn, nb hb⟩⟩
      · obtain ⟨f0, f1, f5, ⟨j6, f6, M6⟩, f21, f22, f23, f35, f36, f37, fH, fn⟩ := f
        simp [f0, f1, f5, f6, M6, f21, f22, f23, hw8, B6, undT, fnEnd, argsT, PT.get_put, keep, opRun, ev, evs, evO, give, giveI, binOf, isNilK, PM.flip, putT, putL, putH, loadOf, storeOf, cut, over, ofCells, asNat, natOr, calm, clashes, Acc.clash, ressOf, resOf, frz, frz.frzs, DV.flat, DV.flat.flats, imms]
        subst hQ
        exact .inl ⟨rfl, hi, ⟨by simp [PT.get_put, f0], by simp [PT.get_put, f1], by simp [PT.get_put, f21], by simp [PT.get_put, f22], by simp [PT.get_put], fH, fn⟩, gd ho hb⟩
    · rw [dec_f ho] at e2
      simp [g0, g1, g21, g22, g23, hi', hw8, ix, sl, vt, e2, ivRS, evParts, lay, B6, undT, fnEnd, argsT, PT.get_put, keep, opRun, ev, evs, evO, give, giveI, binOf, isNilK, PM.flip, putT, putL, putH, loadOf, storeOf, cut, over, ofCells, asNat, natOr, calm, clashes, Acc.clash, ressOf, resOf, frz, frz.frzs, DV.flat, DV.flat.flats, imms]
      subst hQ
      exact .inr ⟨nofun, .inl ⟨rfl, by simp [PT.get_put], rfl, by simp; omega, ns ho⟩⟩
  · obtain rfl : i = l.rts.length := by omega
    generalize hQ : (fun (e : Ex) (s' : St) => _) = Q'
    simp only [D.l58_0b]
    simp [g0, g1, g21, g22, g23, hH, B6, undT, fnEnd, argsT, PT.get_put, keep, opRun, ev, evs, evO, give, giveI, binOf, isNilK, PM.flip, putT, putL, putH, loadOf, storeOf, cut, over, ofCells, asNat, natOr, calm, clashes, Acc.clash, ressOf, resOf, frz, frz.frzs, DV.flat, DV.flat.flats, imms]
    subst hQ
    exact .inr ⟨nofun, .inr ⟨rfl, ⟨by simp [PT.get_put, g0], by simp [PT.get_put, g1], by simp [PT.get_put, g21], by simp [PT.get_put, g22], by simp [PT.get_put, g23], rfl, hn⟩, al⟩⟩
/-- A copy of a row that nobody writes: in the heap. -/
theorem clone_q {d : Nat} {w : IV} {qs : List Rst} (hw : Sl 4 w (qs.map ivRS)) (hl : qs.length ≤ 1000) (H : PT HB) (n : Nat) :
    Fe (K DG (d + 1) 81 [.imm w] H n 0) (fun x H' n' => n ≤ n' ∧ ((qs = [] ∧ H' = H ∧ ∃ u, x = .imm u ∧ Sl 4 u []) ∨ (qs ≠ [] ∧ x = .sl n 0 qs.length qs.length ∧ H' = H.put n (some ⟨4, qs.map rowRS⟩) ∧ n' = n + 1))) := by
  have hes := map_rowRS qs
  have hel : (qs.map ivRS).length = qs.length := by simp
  have hq0 : qs.map ivRS = [] ↔ qs = [] := by simp
  rw [← hq0, hes, ← hel]
  rw [← hel] at hl
  generalize qs.map ivRS = es at *
  have hv0 := hw
  rw [D.k81]
  refine fn_dw rfl ?_
  rcases hw with ⟨rfl, rfl⟩ | ⟨f, rfl⟩
  · simp [B6, undT, fnEnd, argsT, PT.get_put, keep, opRun, ev, evs, evO, give, giveI, binOf, isNilK, PM.flip, putT, putL, putH, loadOf, storeOf, cut, over, ofCells, asNat, natOr, calm, clashes, Acc.clash, ressOf, resOf, frz, frz.frzs, DV.flat, DV.flat.flats, imms]
    exact .inl ⟨rfl, rfl⟩
  · by_cases he : es = []
    · have p1 := fun {h : Nat → Option HB} {n : Nat} {x : DV} hx => app_none (bytes := 32) (h := h) (n := n) (x := x) hx (he ▸ hv0)
      subst he
      simp [p1, evParts2, lay, unImms, unImm, mapO, rowsN, B6, undT, fnEnd, argsT, PT.get_put, keep, opRun, ev, evs, evO, give, giveI, binOf, isNilK, PM.flip, putT, putL, putH, loadOf, storeOf, cut, over, ofCells, asNat, natOr, calm, clashes, Acc.clash, ressOf, resOf, frz, frz.frzs, DV.flat, DV.flat.flats, imms]
      exact .inr ⟨_, rfl⟩
    · have p1 := fun {h : Nat → Option HB} {n : Nat} => app_new (bytes := 32) (h := h) (n := n) hv0 he (by omega) (by omega) (by omega)
      simp [p1, he, evParts2, lay, unImms, unImm, mapO, rowsN, B6, undT, fnEnd, argsT, PT.get_put, keep, opRun, ev, evs, evO, give, giveI, binOf, isNilK, PM.flip, putT, putL, putH, loadOf, storeOf, cut, over, ofCells, asNat, natOr, calm, clashes, Acc.clash, ressOf, resOf, frz, frz.frzs, DV.flat, DV.flat.flats, imms]
      exact fun e => he (hq0.2 e)
theorem Set_run {d : Nat} (hd : 10 ≤ d) {H : PT HB} {p : Nat} {own : List Nat} {l : Lo} {rs : List Rst} (ok : LoOk l) (is : ISL l) (lk : LkAt H p own l rs) {w : IV} {qs : List Rst} (hw : Sl 4 w (qs.map ivRS)) (hl : qs.length ≤ reachBytes) {n : Nat} (hpn : ∀ i ∈ p :: own, i < n) :
    Fe (K DG (d + 1) 58 [.ptr p 0 0, .imm w] H n 0) (fun v H' n' => n ≤ n' ∧ v = .imm (.bool (dec (INV l qs))) ∧ (∀ j, j ≠ p → j < n → H'.get j = H.get j) ∧
      ((INV l qs ∧ ∃ own', LkAt H' p own' l qs ∧ ∀ i ∈ own', n ≤ i ∧ i < n') ∨ (¬ INV l qs ∧ LkAt H' p own l rs))) := by
  have hrb := rb3
  have lk0 := lk
  obtain ⟨x, h1, h2, h3, h4⟩ := lk
  have xl := h2.len
  have wl := hw.len
  simp only [List.length_map] at wl
  have hp := hpn p (by simp)
  obtain ⟨d, rfl⟩ : ∃ d', d = d' + 1 := ⟨d - 1, by omega⟩
  rw [D.k58]
  refine fn_dw rfl ?_
  by_cases hq : qs.length = rs.length
  · have hq' : qs.length = l.rts.length := by omega
    rw [h4] at xl
    rw [hq'] at wl
    simp [h1, xl, wl, B6, undT, fnEnd, argsT, PT.get_put, keep, opRun, ev, evs, evO, give, giveI, binOf, isNilK, PM.flip, putT, putL, putH, loadOf, storeOf, cut, over, ofCells, asNat, natOr, calm, clashes, Acc.clash, ressOf, resOf, frz, frz.frzs, DV.flat, DV.flat.flats, imms]
    refine loopQ0 (n0 := n) (by omega) ok is lk0 hw hq' ⟨by simp [PT.get_put], by simp [PT.get_put], by simp [PT.get_put], by simp [PT.get_put], by simp [PT.get_put], rfl, by simp⟩ (fun s2 f4 fH fn hb => ?_) (fun s2 f hb => ?_)
    · rw [good_inv hq'] at hb
      simp [f4, B6, undT, fnEnd, argsT, PT.get_put, keep, opRun, ev, evs, evO, give, giveI, binOf, isNilK, PM.flip, putT, putL, putH, loadOf, storeOf, cut, over, ofCells, asNat, natOr, calm, clashes, Acc.clash, ressOf, resOf, frz, frz.frzs, DV.flat, DV.flat.flats, imms]
      exact ⟨fn, hb, fun j hj hjn => by rw [fH], .inr ⟨hb, by rw [fH]; exact lk0⟩⟩
    · rw [good_inv hq'] at hb
      obtain ⟨f0, f1, f21, f22, f23, fH, fn⟩ := f
      obtain ⟨v, H1, n1, e1, hn1, hc⟩ := clone_q (d := d) hw (by have := is.r2; omega) H s2.n
      subst fH
      rcases hc with ⟨rfl, rfl, u, rfl, hu⟩ | ⟨hne, rfl, rfl, rfl⟩
      · simp [f0, f1, e1, h1, hu.scal, B6, undT, fnEnd, argsT, PT.get_put, keep, opRun, ev, evs, evO, give, giveI, binOf, isNilK, PM.flip, putT, putL, putH, loadOf, storeOf, cut, over, ofCells, asNat, natOr, calm, clashes, Acc.clash, ressOf, resOf, frz, frz.frzs, DV.flat, DV.flat.flats, imms]
        exact ⟨by omega, hb, fun j hj hjn => by simp [PT.get_put, hj], .inl ⟨hb, [], ⟨_, by simp [PT.get_put], .inl ⟨rfl, rfl, u, rfl, hu⟩, by simp, hq'⟩, by simp⟩⟩
      · have hpn' : ¬ p = s2.n := by omega
        have hnp : ¬ s2.n = p := by omega
        simp [f0, f1, e1, h1, hpn', B6, undT, fnEnd, argsT, PT.get_put, keep, opRun, ev, evs, evO, give, giveI, binOf, isNilK, PM.flip, putT, putL, putH, loadOf, storeOf, cut, over, ofCells, asNat, natOr, calm, clashes, Acc.clash, ressOf, resOf, frz, frz.frzs, DV.flat, DV.flat.flats, imms]
        refine ⟨by omega, hb, fun j hj hjn => ?_, .inl ⟨hb, [s2.n], ⟨_, by simp [PT.get_put], .inr ⟨s2.n, rfl, rfl, by simp [PT.get_put, hnp]⟩, by simp; omega, hq'⟩, by simp; omega⟩⟩
        have : ¬ j = s2.n := by omega
        simp [PT.get_put, hj, this]
  · have hni : ¬ INV l qs := fun h => hq (by have := h.ln; omega)
    have hq2 : ¬ (qs.length : Int) = (rs.length : Int) := by omega
    simp [h1, xl, wl, hq2, B6, undT, fnEnd, argsT, PT.get_put, keep, opRun, ev, evs, evO, give, giveI, binOf, isNilK, PM.flip, putT, putL, putH, loadOf, storeOf, cut, over, ofCells, asNat, natOr, calm, clashes, Acc.clash, ressOf, resOf, frz, frz.frzs, DV.flat, DV.flat.flats, imms]
    exact ⟨hni, .inr ⟨hni, lk0⟩⟩
end Go.Proofs.YtnpcgejfkonfdabGreatDoor.D

set_option linter.unusedVariables false
set_option linter.unusedSimpArgs false
set_option maxHeartbeats 16000000
namespace Go.Proofs.YtnpcgejfkonfdabGreatDoor.D
open Go Go.PM Go.Lib
/-- A Lock in the heap that stands as it may. -/
def LkI (H : PT HB) (n p : Nat) (l : Lo) : Prop := ∃ own rs, LkAt H p own l rs ∧ INV l rs ∧ ∀ j ∈ p :: own, j < n
theorem LkI.mono {H H' : PT HB} {n n' p : Nat} {l : Lo} (h : LkI H n p l) (hn : n ≤ n') (hf : ∀ j, j < n → H'.get j = H.get j) : LkI H' n' p l := by
  obtain ⟨own, rs, lk, inv, ho⟩ := h
  exact ⟨own, rs, lk.mono fun i hi => hf i (ho i hi), inv, fun j hj => by have := ho j hj; omega⟩
end Go.Proofs.YtnpcgejfkonfdabGreatDoor.D

-- T9a
set_option linter.unusedVariables false
set_option linter.unusedSimpArgs false
set_option maxHeartbeats 16000000
namespace Go.Proofs.YtnpcgejfkonfdabGreatDoor.D
open Go Go.PM Go.Lib
theorem AtS.keep {sz : Nat} {x : DV} {H H' : PT HB} {n : Nat} {rows : List (List IV)} (h : AtS sz x H n rows) (hk : ∀ j, j < n → H'.get j = H.get j) : AtS sz x H' n rows := by
  rcases h with h | ⟨id, h1, h2, h3⟩
  · exact .inl h
  · exact .inr ⟨id, h1, h2, by rw [hk id h1]; exact h3⟩
end Go.Proofs.YtnpcgejfkonfdabGreatDoor.D

-- K24
set_option linter.unusedVariables false
set_option linter.unusedSimpArgs false
set_option maxHeartbeats 16000000
namespace Go.Proofs.YtnpcgejfkonfdabGreatDoor.D
open Go Go.PM Go.Lib
theorem RtEq.symm {r r' : Rt} (h : RtEq r r') : RtEq r' r := ⟨h.name.symm, h.fr.symm, h.to.symm, h.path.symm, h.pts.symm, h.flk.symm⟩
theorem LoEq.symm {l l' : Lo} (e : LoEq l l') : LoEq l' l := ⟨e.secs.symm, e.pts.symm, e.sigs.symm, e.len.symm, fun i hi => (e.rts i (by rw [← e.len]; exact hi)).symm⟩
theorem LoEq.fre {l l' : Lo} (e : LoEq l l') {rs : List Rst} {os : List Bool} {ls : List Int} {r : Nat} (hr : r < l.rts.length) (h : FRE l rs os ls r) : FRE l' rs os ls r := by
  refine ⟨fun s hs hm => ?_, fun i hi => ?_, ?_⟩
  · have hs' : s < l.rts.length := by rw [← e.len]; exact hs
    rw [e.cf hr hs']; exact h.cf s hs' hm
  · rw [e.nd hr] at hi ⊢
    have := h.nf i hi
    unfold NFree secOf at *
    rw [e.pts, e.hol]; exact this
  · rw [(e.rts r hr).path]; exact h.oc
theorem LoEq.cmd {l l' : Lo} (e : LoEq l l') {rs : List Rst} {os : List Bool} {ls : List Int} {c r : Int} : cmdF l' rs os ls c r = cmdF l rs os ls c r := by
  unfold cmdF
  rw [dec_congr (show (¬ MI l' os ls ∨ (c ≠ 1 ∧ c ≠ 2)) ↔ (¬ MI l os ls ∨ (c ≠ 1 ∧ c ≠ 2)) by rw [e.mi']), e.len]
  by_cases hr : InR r l.rts.length
  · have hn : r.toNat < l.rts.length := by have := hr.1; have := hr.2; omega
    have : callF l' rs os ls r.toNat = callF l rs os ls r.toNat := by
      unfold callF
      rw [dec_congr (show FRE l' rs os ls r.toNat ↔ FRE l rs os ls r.toNat from ⟨fun h => e.symm.fre (by rw [e.len]; exact hn) h, fun h => e.fre hn h⟩)]
    rw [this]
  · rw [dec_f hr]; rfl
theorem LoEq.stp {l l' : Lo} (e : LoEq l l') {os : List Bool} {ls : List Int} {r : Nat} (hr : r < l.rts.length) {x : Rst} : stepF l' os ls r x = stepF l os ls r x := by
  unfold stepF usedF
  rw [dec_congr (e.lie hr), (e.rts r hr).path]
theorem LoEq.drF {l l' : Lo} (e : LoEq l l') {rs : List Rst} {os : List Bool} {ls : List Int} : D.drF l' rs os ls = D.drF l rs os ls := by
  unfold D.drF
  rw [e.len, e.pts]
  refine it_congr _ fun r x hr => ?_
  unfold drR
  rw [e.nd hr]
  congr 1
  refine it_congr _ fun i y hi => ?_
  unfold drN drC
  rw [e.nd hr, e.pts, e.hol]
theorem LoEq.prF {l l' : Lo} (e : LoEq l l') {rs : List Rst} {os : List Bool} {ls : List Int} : D.prF l' rs os ls = D.prF l rs os ls := by
  unfold D.prF
  rw [e.len, e.sigs]
  refine it_congr _ fun r x hr => ?_
  unfold prR
  rw [dec_congr (show prC l' rs os ls r ↔ prC l rs os ls r by unfold prC; rw [(e.rts r hr).path, e.lie hr]), (e.rts r hr).fr]
/-- How all routes stand next. -/
noncomputable def stpF (l : Lo) (os : List Bool) (ls : List Int) (rs : List Rst) : List Rst := (List.range l.rts.length).map fun r => stepF l os ls r (nth rs r)
theorem stpF_eq {l : Lo} {os : List Bool} {ls : List Int} {rs qs : List Rst} (hl : qs.length = l.rts.length) (hq : ∀ j, j < l.rts.length → nth qs j = stepF l os ls j (nth rs j)) : qs = stpF l os ls rs := by
  refine List.ext_getElem (by simp [stpF, hl]) fun i h1 h2 => ?_
  have hi : i < l.rts.length := by omega
  have := hq i hi
  simp only [nth, List.getD, List.getElem?_eq_getElem h1, Option.getD_some] at this
  rw [this]
  simp [stpF, nth]
theorem LoEq.stpF {l l' : Lo} (e : LoEq l l') {os : List Bool} {ls : List Int} {rs : List Rst} : D.stpF l' os ls rs = D.stpF l os ls rs := by
  unfold D.stpF
  rw [e.len]
  refine List.map_congr_left fun r hr => ?_
  exact e.stp (List.mem_range.1 hr)
theorem INV.stp {l : Lo} (is : ISL l) {rs : List Rst} (h : INV l rs) {os : List Bool} {ls : List Int} : INV l (stpF l os ls rs) :=
  h.step is (os := os) (ls := ls) (by simp [stpF]) fun j hj => by simp [stpF, nth, hj]
/-- A cycle: how routes stand, what is driven, what proceeds. -/
noncomputable def cycF (l : Lo) (rs : List Rst) (os : List Bool) (ls : List Int) : List Rst × List Int × List Bool :=
  bif dec (MI l os ls) then (stpF l os ls rs, drF l (stpF l os ls rs) os ls, prF l (stpF l os ls rs) os ls) else (rs, List.replicate l.pts.length 0, List.replicate l.sigs.length false)
theorem LoEq.cyc {l l' : Lo} (e : LoEq l l') {rs : List Rst} {os : List Bool} {ls : List Int} : cycF l' rs os ls = cycF l rs os ls := by
  unfold cycF
  rw [dec_congr e.mi', e.stpF, e.drF, e.prF, e.pts, e.sigs]
theorem INV.cyc {l : Lo} (is : ISL l) {rs : List Rst} (h : INV l rs) {os : List Bool} {ls : List Int} : INV l (cycF l rs os ls).1 := by
  unfold cycF
  cases dec (MI l os ls) with
  | true => exact h.stp is
  | false => exact h
theorem drF_len {l : Lo} (is : ISL l) {rs : List Rst} {os : List Bool} {ls : List Int} : (drF l rs os ls).length = l.pts.length := (drF_ok is).1
theorem prF_len {l : Lo} (is : ISL l) {rs : List Rst} {os : List Bool} {ls : List Int} : (prF l rs os ls).length = l.sigs.length := (prF_ok is).1
theorem Cycle_all {d : Nat} (hd : 11 ≤ d) {H : PT HB} {p : Nat} {own : List Nat} {l : Lo} {rs : List Rst} (ok : LoOk l) (is : ISL l) (lk : LkAt H p own l rs) (inv : INV l rs) {ov lv : IV} {os : List Bool} {ls : List Int} (io : InOk ov lv os ls) {n : Nat} (hpn : ∀ i ∈ p :: own, i < n) :
    ∃ H' n', K DG (d + 1) 80 [.ptr p 0 0, inD ov lv] H n 0 = some (.agg [.sl (n + 2 + 1) 0 l.pts.length l.pts.length, .sl (n + 2 + 2) 0 l.sigs.length l.sigs.length], H', n') ∧ n + 5 ≤ n' ∧ (∀ j, j ∉ own → j < n → H'.get j = H.get j) ∧
      LkAt H' p own l (cycF l rs os ls).1 ∧ H'.get (n + 2 + 1) = some ⟨1, (cycF l rs os ls).2.1.map rowI⟩ ∧ H'.get (n + 2 + 2) = some ⟨1, (cycF l rs os ls).2.2.map rowB⟩ ∧ (cycF l rs os ls).2.1.length = l.pts.length ∧ (cycF l rs os ls).2.2.length = l.sigs.length := by
  by_cases mi : MI l os ls
  · obtain ⟨v, H', n', e, rfl, hn, fr, qs, lk', hq, h1, h2⟩ := Cycle_fn hd ok is lk inv.ro io mi hpn
    obtain rfl := stpF_eq (by obtain ⟨_, _, _, _, h⟩ := lk'; exact h) hq
    refine ⟨H', n', e, hn, fr, ?_⟩
    unfold cycF
    rw [dec_t mi]
    exact ⟨lk', h1, h2, drF_len is, prF_len is⟩
  · obtain ⟨v, H', n', e, rfl, hn, hH⟩ := Cycle_err (d := d) (by omega) ok is.p2 is.g2 lk io mi hpn
    have hf : ∀ j, j < n → H'.get j = H.get j := fun j hj => by
      have b1 : ¬ j = n + 2 + 1 := by omega
      have b2 : ¬ j = n + 2 + 2 := by omega
      rw [hH]; simp [PT.get_put, b1, b2]
    refine ⟨H', n', e, by omega, fun j _ hj => hf j hj, ?_⟩
    unfold cycF
    rw [dec_f mi]
    refine ⟨lk.mono fun i hi => hf i (hpn i hi), ?_, ?_, by simp, by simp⟩
    · have : ¬ n + 2 + 1 = n + 2 + 2 := by omega
      rw [hH]; simp [PT.get_put, this, rowI, imms]
    · rw [hH]; simp [PT.get_put, rowB, imms]
/-- Two Locks in the heap, apart. -/
def Two (H : PT HB) (n p q : Nat) (l k : Lo) (rs qs : List Rst) : Prop := ∃ o o', LkAt H p o l rs ∧ LkAt H q o' k qs ∧ (∀ j ∈ p :: o, j < n) ∧ (∀ j ∈ q :: o', j < n) ∧ ∀ j ∈ p :: o, j ∉ q :: o'
theorem Two.symm {H : PT HB} {n p q : Nat} {l k : Lo} {rs qs : List Rst} (h : Two H n p q l k rs qs) : Two H n q p k l qs rs := by
  obtain ⟨o, o', a, b, c, d, e⟩ := h
  exact ⟨o', o, b, a, d, c, fun j h1 h2 => e j h2 h1⟩
theorem Two.mono {H H' : PT HB} {n n' p q : Nat} {l k : Lo} {rs qs : List Rst} (h : Two H n p q l k rs qs) (hn : n ≤ n') (hf : ∀ j, j < n → H'.get j = H.get j) : Two H' n' p q l k rs qs := by
  obtain ⟨o, o', a, b, c, d, e⟩ := h
  exact ⟨o, o', a.mono fun i hi => hf i (c i hi), b.mono fun i hi => hf i (d i hi), fun j hj => by have := c j hj; omega, fun j hj => by have := d j hj; omega, e⟩
theorem Two.cmd {d : Nat} (hd : 11 ≤ d) {H : PT HB} {n p q : Nat} {l k : Lo} {rs qs : List Rst} (h : Two H n p q l k rs qs) (ok : LoOk l) (is : ISL l) (inv : INV l rs) {ov lv : IV} {os : List Bool} {ls : List Int} (io : InOk ov lv os ls) (c r : Int) :
    ∃ H1 n1, K DG (d + 1) 79 [.ptr p 0 0, inD ov lv, .agg [.imm (.int .i64 c), .imm (.int .i64 r)]] H n 0 = some (.imm (.int .i64 (cmdF l rs os ls c r).1), H1, n1) ∧ n ≤ n1 ∧ Two H1 n1 p q l k (cmdF l rs os ls c r).2 qs := by
  obtain ⟨o, o', a, b, hc, hd', e⟩ := h
  obtain ⟨H1, n1, e1, lk1, hn1, fr1⟩ := Command_run hd ok is a (go_of inv.ro) io c r (n := n)
  exact ⟨H1, n1, e1, hn1, o, o', lk1, b.mono fun i hi => fr1 i fun hi' => e i (by simp [hi']) hi, fun j hj => by have := hc j hj; omega, fun j hj => by have := hd' j hj; omega, e⟩
theorem Two.cyc {d : Nat} (hd : 11 ≤ d) {H : PT HB} {n p q : Nat} {l k : Lo} {rs qs : List Rst} (h : Two H n p q l k rs qs) (ok : LoOk l) (is : ISL l) (inv : INV l rs) {ov lv : IV} {os : List Bool} {ls : List Int} (io : InOk ov lv os ls) :
    ∃ v H1 n1, K DG (d + 1) 80 [.ptr p 0 0, inD ov lv] H n 0 = some (v, H1, n1) ∧ n ≤ n1 ∧ Two H1 n1 p q l k (cycF l rs os ls).1 qs := by
  obtain ⟨o, o', a, b, hc, hd', e⟩ := h
  obtain ⟨H1, n1, e1, hn1, fr1, lk1, h1, h2, h3, h4⟩ := Cycle_all hd ok is a inv io hc
  exact ⟨_, H1, n1, e1, by omega, o, o', lk1, b.mono fun i hi => fr1 i (fun hi' => e i (by simp [hi']) hi) (hd' i hi), fun j hj => by have := hc j hj; omega, fun j hj => by have := hd' j hj; omega, e⟩
/-- Two rows of states that are one. -/
theorem Same_same {D : Nat} (hD : 1 ≤ D) {w w' : IV} {rs : List Rst} (hw : Sl 4 w (rs.map ivRS)) (hw' : Sl 4 w' (rs.map ivRS)) (hl : rs.length ≤ reachBytes) : bl (K DG D) 21 [.imm w, .imm w'] = some (.imm (.bool true)) := by
  obtain ⟨d, rfl⟩ : ∃ d, D = d + 1 := ⟨D - 1, by omega⟩
  have wl := hw.len
  have wl' := hw'.len
  simp only [List.length_map] at wl wl'
  refine bl_fe ?_
  rw [D.k21]
  refine fn_dw rfl ?_
  simp [hw.scal, hw'.scal, wl, wl', B6, undT, fnEnd, argsT, PT.get_put, keep, opRun, ev, evs, evO, give, giveI, binOf, isNilK, PM.flip, putT, putL, putH, loadOf, storeOf, cut, over, ofCells, asNat, natOr, calm, clashes, Acc.clash, ressOf, resOf, frz, frz.frzs, DV.flat, DV.flat.flats, imms]
  refine dw_loop (N := rs.length) (small hl) (fun i st => st.T.get 0 = some (.imm w) ∧ st.T.get 1 = some (.imm w') ∧ st.T.get 5 = some (.imm (.int .i64 i))) (fun e st' => e = .exit 0) (fun i st hle hI => ?_) ⟨by simp [PT.get_put], by simp [PT.get_put], by simp [PT.get_put]⟩ (fun e s' h => by subst h; simp [B6, undT, fnEnd, argsT, PT.get_put, keep, opRun, ev, evs, evO, give, giveI, binOf, isNilK, PM.flip, putT, putL, putH, loadOf, storeOf, cut, over, ofCells, asNat, natOr, calm, clashes, Acc.clash, ressOf, resOf, frz, frz.frzs, DV.flat, DV.flat.flats, imms])
  obtain ⟨h0, h1, h5⟩ := hI
  by_cases hi : i < rs.length
  · have hi1 : (i : Int) < rs.length := by omega
    have hi' := ilt_t hi1
    have hw8 : IntKind.i64.wrap ((i : Int) + 1) = (i : Int) + 1 := wr_succ hi hl
    have ix := fun {h : Nat → Option HB} {n : Nat} => idx_sl (h := h) (n := n) hw (by omega) (k := .i64) (z := (i : Int)) (by omega) hi1
    have iy := fun {h : Nat → Option HB} {n : Nat} => idx_sl (h := h) (n := n) hw' (by omega) (k := .i64) (z := (i : Int)) (by omega) hi1
    generalize hQ : (fun (e : Ex) (s' : St) => _) = Q'
    simp only [D.l21_0b]
    simp [h0, h1, h5, wl, hi', hw8, ix, iy, ivRS, eqSt_rs, B6, undT, fnEnd, argsT, PT.get_put, keep, opRun, ev, evs, evO, give, giveI, binOf, isNilK, PM.flip, putT, putL, putH, loadOf, storeOf, cut, over, ofCells, asNat, natOr, calm, clashes, Acc.clash, ressOf, resOf, frz, frz.frzs, DV.flat, DV.flat.flats, imms]
    subst hQ
    exact .inl ⟨rfl, hi, by simp [PT.get_put], by simp [PT.get_put], by simp [PT.get_put]⟩
  · obtain rfl : i = rs.length := by omega
    generalize hQ : (fun (e : Ex) (s' : St) => _) = Q'
    simp only [D.l21_0b]
    simp [h0, h1, h5, wl, B6, undT, fnEnd, argsT, PT.get_put, keep, opRun, ev, evs, evO, give, giveI, binOf, isNilK, PM.flip, putT, putL, putH, loadOf, storeOf, cut, over, ofCells, asNat, natOr, calm, clashes, Acc.clash, ressOf, resOf, frz, frz.frzs, DV.flat, DV.flat.flats, imms]
    subst hQ
    simp
end Go.Proofs.YtnpcgejfkonfdabGreatDoor.D

-- UL
set_option linter.unusedVariables false
set_option linter.unusedSimpArgs false
set_option maxHeartbeats 16000000
namespace Go.Proofs.YtnpcgejfkonfdabGreatDoor.D
open Go Go.PM Go.Lib

def rowL (e t : Int) (g : Bool) : HB := ⟨3, [[.imm (.int .i64 e), .imm (.int .i64 t), .imm (.bool g)]]⟩
theorem lease_new {d : Nat} {H : PT HB} {n lo : Nat} (hlo : lo ≤ n) : ∃ n' H', K DG (d + 1) 38 [] H n lo = some (.ptr n 0 0, H', n') ∧ n' = n + 1 ∧ H' = H.put n (some (rowL 0 0 false)) := by
  have key : Fe (K DG (d + 1) 38 [] H n lo) (fun v H' n' => v = .ptr n 0 0 ∧ n' = n + 1 ∧ H' = H.put n (some (rowL 0 0 false))) := by
    rw [D.k38]
    refine fn_dw rfl ?_
    simp [hlo, rowL, evParts, lay, unImms, unImm, mapO, B6, undT, fnEnd, argsT, PT.get_put, keep, opRun, ev, evs, evO, give, giveI, binOf, isNilK, PM.flip, putT, putL, putH, loadOf, storeOf, cut, over, ofCells, asNat, natOr, calm, clashes, Acc.clash, ressOf, resOf, frz, frz.frzs, DV.flat, DV.flat.flats, imms]
  obtain ⟨v, H', n', e, rfl, r⟩ := key
  exact ⟨n', H', e, r⟩
theorem lease_grant {d : Nat} {H : PT HB} {n q : Nat} {e t : Int} {g : Bool} (h : H.get q = some (rowL e t g)) (e' k : Int) (h0 : 0 ≤ k) (h1 : k ≤ 1000000) :
    ∃ v H', K DG (d + 1) 41 [.ptr q 0 0, .imm (.int .i64 e'), .imm (.int .i64 k)] H n 0 = some (v, H', n) ∧ H'.get q = some (rowL e' (k + 5) true) ∧ ∀ j, j ≠ q → H'.get j = H.get j := by
  have w1 : IntKind.i64.wrap (k + 8) = k + 8 := wr_id (by omega) (by omega)
  have w2 : IntKind.i64.wrap (k + 8 - 3) = k + 8 - 3 := wr_id (by omega) (by omega)
  have w3 : IntKind.i64.wrap (k + 5) = k + 5 := wr_id (by omega) (by omega)
  have key : Fe (K DG (d + 1) 41 [.ptr q 0 0, .imm (.int .i64 e'), .imm (.int .i64 k)] H n 0) (fun v H' n' => n' = n ∧ H'.get q = some (rowL e' (k + 5) true) ∧ ∀ j, j ≠ q → H'.get j = H.get j) := by
    unfold rowL at h
    rw [D.k41]
    refine fn_dw rfl ?_
    simp (config := {contextual := true}) [h, w1, w2, w3, rowL, B6, undT, fnEnd, argsT, PT.get_put, keep, opRun, ev, evs, evO, give, giveI, binOf, isNilK, PM.flip, putT, putL, putH, loadOf, storeOf, cut, over, ofCells, asNat, natOr, calm, clashes, Acc.clash, ressOf, resOf, frz, frz.frzs, DV.flat, DV.flat.flats, imms]
    omega
  obtain ⟨v, H', n', e, rfl, r⟩ := key
  exact ⟨v, H', e, r⟩
theorem ro_of {K : Go.PM.Callee} {f : FuncId} {args : List DV} {H : PT HB} {n lo : Nat} {v : IV} (ho : DV.out.outs args = true) (h : Fe (K f args H n n) (fun v' H' n' => n ≤ n' ∧ v' = .imm v)) :
    ∃ m, callM K .ro f args H n lo = some ⟨.imm v, H, m, [.rA]⟩ ∧ n ≤ m := by
  obtain ⟨v', H', n', e, h1, rfl⟩ := h
  exact ⟨n', by rw [callM_ro, if_pos ho, e]; rfl, h1⟩
theorem lease_live {d : Nat} {H : PT HB} {n lo q : Nat} {e t : Int} {g : Bool} (h : H.get q = some (rowL e t g)) (k : Int) :
    ∃ m, callM (K DG (d + 1)) .ro 43 [.ptr q 0 0, .imm (.int .i64 k)] H n lo = some ⟨.imm (.bool (dec (g = true ∧ k < t))), H, m, [.rA]⟩ ∧ n ≤ m := by
  refine ro_of rfl ?_
  unfold rowL at h
  rw [D.k43]
  refine fn_dw rfl ?_
  cases g with
  | false =>
    have e1 : dec (false = true ∧ k < t) = false := dec_f (by simp)
    simp [h, e1, B6, undT, fnEnd, argsT, PT.get_put, keep, opRun, ev, evs, evO, give, giveI, binOf, isNilK, PM.flip, putT, putL, putH, loadOf, storeOf, cut, over, ofCells, asNat, natOr, calm, clashes, Acc.clash, ressOf, resOf, frz, frz.frzs, DV.flat, DV.flat.flats, imms]
  | true =>
    by_cases hk : k < t
    · have e1 : dec (true = true ∧ k < t) = true := dec_t ⟨rfl, hk⟩
      simp [h, e1, ilt_t hk, B6, undT, fnEnd, argsT, PT.get_put, keep, opRun, ev, evs, evO, give, giveI, binOf, isNilK, PM.flip, putT, putL, putH, loadOf, storeOf, cut, over, ofCells, asNat, natOr, calm, clashes, Acc.clash, ressOf, resOf, frz, frz.frzs, DV.flat, DV.flat.flats, imms]
      exact hk
    · have e1 : dec (true = true ∧ k < t) = false := dec_f (fun h => hk h.2)
      simp [h, e1, ilt_f (Int.not_lt.1 hk), B6, undT, fnEnd, argsT, PT.get_put, keep, opRun, ev, evs, evO, give, giveI, binOf, isNilK, PM.flip, putT, putL, putH, loadOf, storeOf, cut, over, ofCells, asNat, natOr, calm, clashes, Acc.clash, ressOf, resOf, frz, frz.frzs, DV.flat, DV.flat.flats, imms]
      omega
theorem lease_epoch {d : Nat} {H : PT HB} {n lo q : Nat} {e t : Int} {g : Bool} (h : H.get q = some (rowL e t g)) :
    ∃ m, callM (K DG (d + 1)) .ro 40 [.ptr q 0 0] H n lo = some ⟨.imm (.int .i64 e), H, m, [.rA]⟩ ∧ n ≤ m := by
  refine ro_of rfl ?_
  unfold rowL at h
  rw [D.k40]
  refine fn_dw rfl ?_
  simp [h, B6, undT, fnEnd, argsT, PT.get_put, keep, opRun, ev, evs, evO, give, giveI, binOf, isNilK, PM.flip, putT, putL, putH, loadOf, storeOf, cut, over, ofCells, asNat, natOr, calm, clashes, Acc.clash, ressOf, resOf, frz, frz.frzs, DV.flat, DV.flat.flats, imms]
/-! ### A unit -/
structure US where
  rs : List Rst
  ep : Int
  en : Int
  gr : Bool
  cp : Option (Int × Int × List Rst)
  mode : Int
  tick : Int
  count : Int
  left : Int
def CpAt (Z : Nat → Prop) (H : PT HB) (n : Nat) (bad : List Nat) (x : DV) : Option (Int × Int × List Rst) → Prop
  | none => x = .imm .nilp
  | some (e, c, qs) => ∃ m w, x = .ptr m 0 0 ∧ (m ∉ bad ∧ m < n ∧ Z m) ∧ H.get m = some ⟨3, [[.imm (.int .i64 e), .imm (.int .i64 c), .imm w]]⟩ ∧ Sl 4 w (qs.map ivRS)
def rowU (p q : Nat) (x : DV) (mode tick count left : Int) : HB := ⟨7, [[.ptr p 0 0, .ptr q 0 0, x, .imm (.int .i64 mode), .imm (.int .i64 tick), .imm (.int .i64 count), .imm (.int .i64 left)]]⟩
structure UAt (Z : Nat → Prop) (l : Lo) (H : PT HB) (n a p q : Nat) (own : List Nat) (x : DV) (u : US) : Prop where
  blk : H.get a = some (rowU p q x u.mode u.tick u.count u.left)
  lk : LkAt H p own l u.rs
  le : H.get q = some (rowL u.ep u.en u.gr)
  cp : CpAt Z H n (a :: p :: q :: own) x u.cp
  ap : a ≠ p
  aq : a ≠ q
  pq : p ≠ q
  ao : a ∉ own
  qo : q ∉ own
  lt : ∀ j ∈ a :: p :: q :: own, j < n ∧ Z j
def UI (Z : Nat → Prop) (l : Lo) (H : PT HB) (n a : Nat) (u : US) : Prop := ∃ p q own x, UAt Z l H n a p q own x u
theorem CpAt.mono {Z Z' : Nat → Prop} {H H' : PT HB} {n n' : Nat} {bad bad' : List Nat} {x : DV} {c : Option (Int × Int × List Rst)} (h : CpAt Z H n bad x c) (hn : n ≤ n') (hz : ∀ j, j < n → Z j → Z' j) (hb : ∀ j ∈ bad', j < n → j ∈ bad) (hf : ∀ j, j < n → Z j → j ∉ bad → H'.get j = H.get j) : CpAt Z' H' n' bad' x c := by
  rcases c with _ | ⟨e, c, qs⟩
  · exact h
  · obtain ⟨m, w, h1, ⟨h2, h3, h4⟩, h5, h6⟩ := h
    exact ⟨m, w, h1, ⟨fun h => h2 (hb m h h3), by omega, hz m h3 h4⟩, by rw [hf m h3 h4 h2]; exact h5, h6⟩
theorem UAt.mono {Z Z' : Nat → Prop} {l : Lo} {H H' : PT HB} {n n' a p q : Nat} {own : List Nat} {x : DV} {u : US} (h : UAt Z l H n a p q own x u) (hn : n ≤ n') (hz : ∀ j, j < n → Z j → Z' j) (hf : ∀ j, j < n → Z j → H'.get j = H.get j) : UAt Z' l H' n' a p q own x u := by
  obtain ⟨blk, lk, le, cp, ap, aq, pq, ao, qo, lt⟩ := h
  have hg : ∀ j ∈ a :: p :: q :: own, H'.get j = H.get j := fun j hj => hf j (lt j hj).1 (lt j hj).2
  refine ⟨by rw [hg a (by simp)]; exact blk, lk.mono fun i hi => hg i (by simp at hi ⊢; rcases hi with h | h <;> simp [h]), by rw [hg q (by simp)]; exact le, cp.mono hn hz (fun j hj _ => hj) (fun j h1 h2 _ => hf j h1 h2), ap, aq, pq, ao, qo, fun j hj => ⟨by have := (lt j hj).1; omega, hz j (lt j hj).1 (lt j hj).2⟩⟩
theorem UI.mono {Z Z' : Nat → Prop} {l : Lo} {H H' : PT HB} {n n' a : Nat} {u : US} (h : UI Z l H n a u) (hn : n ≤ n') (hz : ∀ j, j < n → Z j → Z' j) (hf : ∀ j, j < n → Z j → H'.get j = H.get j) : UI Z' l H' n' a u := by
  obtain ⟨p, q, own, x, h⟩ := h
  exact ⟨p, q, own, x, h.mono hn hz hf⟩
/-- the unit's block is written: another copy, other numbers -/
theorem UAt.upd {Z : Nat → Prop} {l : Lo} {H H' : PT HB} {n n' a p q : Nat} {own : List Nat} {x x' : DV} {u : US} (h : UAt Z l H n a p q own x u) (hn : n ≤ n') {c : Option (Int × Int × List Rst)} {m t k z : Int}
    (hb : H'.get a = some (rowU p q x' m t k z)) (hc : CpAt Z H' n' (a :: p :: q :: own) x' c) (hf : ∀ j, j ≠ a → j < n → H'.get j = H.get j) : UAt Z l H' n' a p q own x' ⟨u.rs, u.ep, u.en, u.gr, c, m, t, k, z⟩ := by
  obtain ⟨blk, lk, le, cp, ap, aq, pq, ao, qo, lt⟩ := h
  refine ⟨hb, lk.mono fun i hi => hf i ?_ ?_, by rw [hf q aq.symm (lt q (by simp)).1]; exact le, hc, ap, aq, pq, ao, qo, fun j hj => ⟨by have := (lt j hj).1; omega, (lt j hj).2⟩⟩
  · rcases List.mem_cons.1 hi with rfl | hi
    · exact ap.symm
    · exact fun e => ao (e ▸ hi)
  · exact (lt i (by simp at hi ⊢; rcases hi with h | h <;> simp [h])).1
/-- its lease is written -/
theorem UAt.updq {Z : Nat → Prop} {l : Lo} {H H' : PT HB} {n n' a p q : Nat} {own : List Nat} {x : DV} {u : US} (h : UAt Z l H n a p q own x u) (hn : n ≤ n') {e t : Int} {g : Bool}
    (hb : H'.get q = some (rowL e t g)) (hf : ∀ j, j ≠ q → j < n → H'.get j = H.get j) : UAt Z l H' n' a p q own x ⟨u.rs, e, t, g, u.cp, u.mode, u.tick, u.count, u.left⟩ := by
  obtain ⟨blk, lk, le, cp, ap, aq, pq, ao, qo, lt⟩ := h
  refine ⟨by rw [hf a aq (lt a (by simp)).1]; exact blk, lk.mono fun i hi => hf i ?_ ?_, hb, cp.mono hn (fun j _ h => h) (fun j hj _ => hj) (fun j h1 h2 h3 => hf j (fun e => h3 (by simp [e])) h1), ap, aq, pq, ao, qo, fun j hj => ⟨by have := (lt j hj).1; omega, (lt j hj).2⟩⟩
  · rcases List.mem_cons.1 hi with rfl | hi
    · exact pq
    · exact fun e => qo (e ▸ hi)
  · exact (lt i (by simp at hi ⊢; rcases hi with h | h <;> simp [h])).1
/-- its Lock stands otherwise -/
theorem UAt.lock {Z : Nat → Prop} {l : Lo} {H H' : PT HB} {n n' a p q : Nat} {own own' : List Nat} {x : DV} {u : US} (h : UAt Z l H n a p q own x u) (hz : ∀ j, n ≤ j → Z j) (hn : n ≤ n') {qs : List Rst}
    (hl : LkAt H' p own' l qs) (ho : ∀ j ∈ own', j ∈ own ∨ (n ≤ j ∧ j < n')) (hf : ∀ j, j ≠ p → j ∉ own → j < n → H'.get j = H.get j) : UAt Z l H' n' a p q own' x ⟨qs, u.ep, u.en, u.gr, u.cp, u.mode, u.tick, u.count, u.left⟩ := by
  obtain ⟨blk, lk, le, cp, ap, aq, pq, ao, qo, lt⟩ := h
  have la := (lt a (by simp)).1
  have lq := (lt q (by simp)).1
  refine ⟨by rw [hf a ap ao la]; exact blk, hl, by rw [hf q pq.symm qo lq]; exact le, cp.mono hn (fun j _ h => h) (fun j hj hlt => ?_) (fun j h1 h2 h3 => hf j (fun e => h3 (by simp [e])) (fun e => h3 (by simp [e])) h1), ap, aq, pq, fun e => ?_, fun e => ?_, fun j hj => ?_⟩
  · simp at hj ⊢
    rcases hj with h | h | h | h
    · simp [h]
    · simp [h]
    · simp [h]
    · rcases ho j h with h | h
      · simp [h]
      · omega
  · rcases ho a e with h | h
    · exact ao h
    · omega
  · rcases ho q e with h | h
    · exact qo h
    · omega
  · simp at hj
    rcases hj with rfl | rfl | rfl | hj
    · exact ⟨by have := (lt j (by simp)).1; omega, (lt j (by simp)).2⟩
    · exact ⟨by have := (lt j (by simp)).1; omega, (lt j (by simp)).2⟩
    · exact ⟨by have := (lt j (by simp)).1; omega, (lt j (by simp)).2⟩
    · rcases ho j hj with h | h
      · exact ⟨by have := (lt j (by simp [h])).1; omega, (lt j (by simp [h])).2⟩
      · exact ⟨by omega, hz _ h.1⟩
/-- what a call on a unit leaves -/
def UR (Z : Nat → Prop) (l : Lo) (H : PT HB) (n a : Nat) (u : US) (H' : PT HB) (n' : Nat) : Prop := n ≤ n' ∧ UI Z l H' n' a u ∧ ∀ j, j < n → ¬ Z j → H'.get j = H.get j
end Go.Proofs.YtnpcgejfkonfdabGreatDoor.D

-- UN
set_option linter.unusedVariables false
set_option linter.unusedSimpArgs false
set_option maxHeartbeats 16000000
namespace Go.Proofs.YtnpcgejfkonfdabGreatDoor.D
open Go Go.PM Go.Lib

theorem u_mode {Z : Nat → Prop} {l : Lo} {H : PT HB} {n a p q : Nat} {own : List Nat} {x : DV} {u : US} (h : UAt Z l H n a p q own x u) {d m lo : Nat} :
    ∃ k, callM (K DG (d + 1)) .ro 23 [.ptr a 0 0] H m lo = some ⟨.imm (.int .i64 u.mode), H, k, [.rA]⟩ ∧ m ≤ k := by
  have hb := h.blk
  unfold rowU at hb
  refine ro_of rfl ?_
  rw [D.k23]
  refine fn_dw rfl ?_
  simp [hb, B6, undT, fnEnd, argsT, PT.get_put, keep, opRun, ev, evs, evO, give, giveI, binOf, isNilK, PM.flip, putT, putL, putH, loadOf, storeOf, cut, over, ofCells, asNat, natOr, calm, clashes, Acc.clash, ressOf, resOf, frz, frz.frzs, DV.flat, DV.flat.flats, imms]
theorem u_count {Z : Nat → Prop} {l : Lo} {H : PT HB} {n a p q : Nat} {own : List Nat} {x : DV} {u : US} (h : UAt Z l H n a p q own x u) {d m lo : Nat} :
    ∃ k, callM (K DG (d + 1)) .ro 16 [.ptr a 0 0] H m lo = some ⟨.imm (.int .i64 u.count), H, k, [.rA]⟩ ∧ m ≤ k := by
  have hb := h.blk
  unfold rowU at hb
  refine ro_of rfl ?_
  rw [D.k16]
  refine fn_dw rfl ?_
  simp [hb, B6, undT, fnEnd, argsT, PT.get_put, keep, opRun, ev, evs, evO, give, giveI, binOf, isNilK, PM.flip, putT, putL, putH, loadOf, storeOf, cut, over, ofCells, asNat, natOr, calm, clashes, Acc.clash, ressOf, resOf, frz, frz.frzs, DV.flat, DV.flat.flats, imms]
def Wk (u : US) : Prop := u.mode = 3 ∨ u.mode = 4
theorem u_works {Z : Nat → Prop} {l : Lo} {H : PT HB} {n a p q : Nat} {own : List Nat} {x : DV} {u : US} (h : UAt Z l H n a p q own x u) {d m lo : Nat} :
    ∃ k, callM (K DG (d + 1)) .ro 39 [.ptr a 0 0] H m lo = some ⟨.imm (.bool (dec (Wk u))), H, k, [.rA]⟩ ∧ m ≤ k := by
  have hb := h.blk
  unfold rowU at hb
  refine ro_of rfl ?_
  rw [D.k39]
  refine fn_dw rfl ?_
  unfold Wk
  by_cases h3 : u.mode = 3
  · have e : dec (u.mode = 3 ∨ u.mode = 4) = true := dec_t (.inl h3)
    rw [e]
    rw [h3] at hb
    simp [hb, B6, undT, fnEnd, argsT, PT.get_put, keep, opRun, ev, evs, evO, give, giveI, binOf, isNilK, PM.flip, putT, putL, putH, loadOf, storeOf, cut, over, ofCells, asNat, natOr, calm, clashes, Acc.clash, ressOf, resOf, frz, frz.frzs, DV.flat, DV.flat.flats, imms]
  · by_cases h4 : u.mode = 4
    · have e : dec (u.mode = 3 ∨ u.mode = 4) = true := dec_t (.inr h4)
      rw [e]
      rw [h4] at hb
      simp [hb, B6, undT, fnEnd, argsT, PT.get_put, keep, opRun, ev, evs, evO, give, giveI, binOf, isNilK, PM.flip, putT, putL, putH, loadOf, storeOf, cut, over, ofCells, asNat, natOr, calm, clashes, Acc.clash, ressOf, resOf, frz, frz.frzs, DV.flat, DV.flat.flats, imms]
    · have e : dec (u.mode = 3 ∨ u.mode = 4) = false := dec_f (by simp [h3, h4])
      rw [e]
      simp [hb, h3, h4, B6, undT, fnEnd, argsT, PT.get_put, keep, opRun, ev, evs, evO, give, giveI, binOf, isNilK, PM.flip, putT, putL, putH, loadOf, storeOf, cut, over, ofCells, asNat, natOr, calm, clashes, Acc.clash, ressOf, resOf, frz, frz.frzs, DV.flat, DV.flat.flats, imms]
theorem u_routes {Z : Nat → Prop} {l : Lo} {H : PT HB} {n a p q : Nat} {own : List Nat} {x : DV} {u : US} (h : UAt Z l H n a p q own x u) (hl : u.rs.length ≤ 1000) {d m lo : Nat} (hd : 2 ≤ d) :
    ∃ w k, callM (K DG (d + 1)) .ro 15 [.ptr a 0 0] H m lo = some ⟨.imm w, H, k, [.rA]⟩ ∧ m ≤ k ∧ Sl 4 w (u.rs.map ivRS) := by
  obtain ⟨d, rfl⟩ : ∃ d', d = d' + 1 := ⟨d - 1, by omega⟩
  have hb := h.blk
  unfold rowU at hb
  obtain ⟨w, k, e, hk, hw⟩ := Routes_ro (d := d) (by omega) hl h.lk (n := m) (lo := m)
  have key : Fe (K DG (d + 1 + 1) 15 [.ptr a 0 0] H m m) (fun v' H' n' => m ≤ n' ∧ v' = .imm w) := by
    rw [D.k15]
    refine fn_dw rfl ?_
    have ws := hw.scal
    simp [hb, e, ws, B6, undT, fnEnd, argsT, PT.get_put, keep, opRun, ev, evs, evO, give, giveI, binOf, isNilK, PM.flip, putT, putL, putH, loadOf, storeOf, cut, over, ofCells, asNat, natOr, calm, clashes, Acc.clash, ressOf, resOf, frz, frz.frzs, DV.flat, DV.flat.flats, imms]
    omega
  obtain ⟨k', e', hk'⟩ := ro_of (lo := lo) rfl key
  exact ⟨w, k', e', hk', hw⟩
theorem UAt.set {d : Nat} (hd : 10 ≤ d) {Z : Nat → Prop} {l : Lo} {H : PT HB} {n a p q : Nat} {own : List Nat} {x : DV} {u : US} (ok : LoOk l) (is : ISL l) (h : UAt Z l H n a p q own x u) (hz : ∀ j, n ≤ j → Z j) {w : IV} {qs : List Rst} (hw : Sl 4 w (qs.map ivRS)) (hl : qs.length ≤ reachBytes) {m : Nat} (hm : n ≤ m) :
    ∃ H' n' own', K DG (d + 1) 58 [.ptr p 0 0, .imm w] H m 0 = some (.imm (.bool (dec (INV l qs))), H', n') ∧ m ≤ n' ∧ UAt Z l H' n' a p q own' x ⟨bif dec (INV l qs) then qs else u.rs, u.ep, u.en, u.gr, u.cp, u.mode, u.tick, u.count, u.left⟩ ∧ (∀ j, j ≠ p → j < m → H'.get j = H.get j) ∧ ∀ j ∈ own', j ∈ own ∨ m ≤ j := by
  have lt := h.lt
  have hp := lt p (by simp)
  obtain ⟨v, H', n', e, hn, rfl, fr, hc⟩ := Set_run hd ok is h.lk hw hl (n := m) (fun i hi => by
    have := (lt i (by simp at hi ⊢; rcases hi with h | h <;> simp [h])).1
    omega)
  rcases hc with ⟨iq, own', lk', ho⟩ | ⟨niq, lk'⟩
  · refine ⟨H', n', own', e, hn, ?_, fr, fun j hj => .inr (ho j hj).1⟩
    rw [dec_t iq]
    exact h.lock hz (by omega) lk' (fun j hj => .inr ⟨by have := ho j hj; omega, (ho j hj).2⟩) (fun j h1 h2 h3 => fr j h1 (by omega))
  · refine ⟨H', n', own, e, hn, ?_, fr, fun j hj => .inl hj⟩
    rw [dec_f niq]
    exact h.lock hz (by omega) lk' (fun j hj => .inl hj) (fun j h1 h2 h3 => fr j h1 (by omega))
/-- all routes idle -/
def rep0 (l : Lo) : List Rst := List.replicate l.rts.length rs0
theorem resets_fn {d : Nat} (hd : 10 ≤ d) {Z : Nat → Prop} {l : Lo} {H : PT HB} {n a p q : Nat} {own : List Nat} {x : DV} {u : US} (ok : LoOk l) (is : ISL l) (h : UAt Z l H n a p q own x u) (hz : ∀ j, n ≤ j → Z j) :
    ∃ v H' n' own', K DG (d + 2) 73 [.ptr a 0 0] H n 0 = some (v, H', n') ∧ n ≤ n' ∧ UAt Z l H' n' a p q own' x ⟨rep0 l, u.ep, u.en, u.gr, u.cp, u.mode, u.tick, u.count, u.left⟩ ∧ ∀ j, j ≠ p → j < n → H'.get j = H.get j := by
  have hb := h.blk
  unfold rowU at hb
  have hrl : u.rs.length = l.rts.length := by obtain ⟨_, _, _, _, h⟩ := h.lk; exact h
  have r6 := is.r2
  obtain ⟨w, k, e1, hk, hw⟩ := Routes_ro (d := d) (by omega) (by omega) h.lk (n := n) (lo := 0)
  have wl := hw.len
  simp only [List.length_map, hrl] at wl
  have ws := hw.scal
  have a1 : l.rts.length ≤ appMax := by unfold appMax; omega
  have a2 : l.rts.length * 32 ≤ appMax := by unfold appMax; omega
  obtain ⟨H', n', own', e2, hn, hu, fz, _⟩ := UAt.set (d := d) (by omega) ok is h hz (w := .lst true 4 (List.replicate l.rts.length [.int .i64 0, .int .i64 0, .int .i64 0, .bool false])) (qs := rep0 l) (.inr ⟨true, by simp [rep0, ivRS]⟩) (by simp [rep0]; have := rb3; omega) hk
  rw [dec_t (show INV l (rep0 l) from INV.new)] at hu e2
  have key : Fe (K DG (d + 1 + 1) 73 [.ptr a 0 0] H n 0) (fun v H2 n2 => H2 = H' ∧ n2 = n') := by
    rw [D.k73]
    refine fn_dw rfl ?_
    simp [hb, e1, wl, ws, a1, a2, e2, B6, undT, fnEnd, argsT, PT.get_put, keep, opRun, ev, evs, evO, give, giveI, binOf, isNilK, PM.flip, putT, putL, putH, loadOf, storeOf, cut, over, ofCells, asNat, natOr, calm, clashes, Acc.clash, ressOf, resOf, frz, frz.frzs, DV.flat, DV.flat.flats, imms]
  obtain ⟨v, H2, n2, e, h1, h2⟩ := key
  rw [h1, h2] at e
  exact ⟨v, H', n', own', e, by omega, hu, fun j h1 h2 => fz j h1 (by omega)⟩
end Go.Proofs.YtnpcgejfkonfdabGreatDoor.D

-- UT
set_option linter.unusedVariables false
set_option linter.unusedSimpArgs false
set_option maxHeartbeats 16000000
namespace Go.Proofs.YtnpcgejfkonfdabGreatDoor.D
open Go Go.PM Go.Lib

theorem UAt.xs {Z : Nat → Prop} {l : Lo} {H : PT HB} {n a p q : Nat} {own : List Nat} {x : DV} {u : US} (h : UAt Z l H n a p q own x u) : x.scal = true ∧ x.out = true := by
  have := h.cp
  cases hc : u.cp with
  | none => rw [hc] at this; rw [show x = .imm .nilp from this]; exact ⟨rfl, rfl⟩
  | some c => rw [hc] at this; obtain ⟨m, w, rfl, _⟩ := this; exact ⟨rfl, rfl⟩
/-- the unit's block is written: other numbers -/
theorem UAt.num {Z : Nat → Prop} {l : Lo} {H : PT HB} {n a p q : Nat} {own : List Nat} {x : DV} {u : US} (h : UAt Z l H n a p q own x u) (m t k z : Int) :
    UAt Z l (H.put a (some ⟨7, [[.ptr p 0 0, .ptr q 0 0, x, .imm (.int .i64 m), .imm (.int .i64 t), .imm (.int .i64 k), .imm (.int .i64 z)]]⟩)) n a p q own x ⟨u.rs, u.ep, u.en, u.gr, u.cp, m, t, k, z⟩ := by
  have f : ∀ j, j ≠ a → (H.put a (some ⟨7, [[.ptr p 0 0, .ptr q 0 0, x, .imm (.int .i64 m), .imm (.int .i64 t), .imm (.int .i64 k), .imm (.int .i64 z)]]⟩)).get j = H.get j := fun j hj => by simp [PT.get_put, hj]
  exact h.upd (Nat.le_refl _) (by simp [PT.get_put, rowU]) (h.cp.mono (Nat.le_refl _) (fun _ _ h => h) (fun _ h _ => h) fun j _ _ hj => f j (fun e => hj (by simp [e]))) (fun j hj _ => f j hj)
noncomputable def begF (l : Lo) (u : US) (e k : Int) : US := match u.cp with
  | some (e', c, qs) => if u.mode = 2 ∧ e' = e - 1 ∧ k ≤ c then ⟨qs, u.ep, u.en, u.gr, u.cp, 3, u.tick, c, u.left⟩ else ⟨rep0 l, u.ep, u.en, u.gr, u.cp, 4, u.tick, k, 10⟩
  | none => ⟨rep0 l, u.ep, u.en, u.gr, u.cp, 4, u.tick, k, 10⟩
/-- the copy may stand so -/
def CpOk (l : Lo) (u : US) : Prop := ∀ e c qs, u.cp = some (e, c, qs) → INV l qs
theorem begins_fn {d : Nat} (hd : 10 ≤ d) {Z : Nat → Prop} {l : Lo} {H : PT HB} {n a p q : Nat} {own : List Nat} {x : DV} {u : US} (ok : LoOk l) (is : ISL l) (h : UAt Z l H n a p q own x u) (hz : ∀ j, n ≤ j → Z j) (co : CpOk l u) {e k : Int} (he : 0 ≤ e ∧ e ≤ 1099511627776) :
    ∃ v H' n' own', K DG (d + 3) 42 [.ptr a 0 0, .imm (.int .i64 e), .imm (.int .i64 k)] H n 0 = some (v, H', n') ∧ n ≤ n' ∧ UAt Z l H' n' a p q own' x (begF l u e k) ∧ ∀ j, j < n → ¬ Z j → H'.get j = H.get j := by
  have hb := h.blk
  have xs := h.xs.1
  have la := h.lt a (by simp)
  have lp := h.lt p (by simp)
  unfold rowU at hb
  have w1 : IntKind.i64.wrap (e - 1) = e - 1 := wr_id (by omega) (by omega)
  obtain ⟨v3, H3, n3, own3, e3, hn3, hu3, fz3⟩ := resets_fn (d := d) hd ok is h hz
  have hb3 := hu3.blk
  unfold rowU at hb3
  have hF := hu3.num 4 u.tick k 10
  have fF : ∀ j, j < n → ¬ Z j → (H3.put a (some ⟨7, [[.ptr p 0 0, .ptr q 0 0, x, .imm (.int .i64 4), .imm (.int .i64 u.tick), .imm (.int .i64 k), .imm (.int .i64 10)]]⟩)).get j = H.get j := fun j hj hzj => by
    have : ¬ j = a := fun e => hzj (e ▸ la.2)
    simp [PT.get_put, this]
    exact fz3 j (fun e => hzj (e ▸ lp.2)) hj
  have up : ∀ {H' n' own'} {w : US}, Fe (K DG (d + 2 + 1) 42 [.ptr a 0 0, .imm (.int .i64 e), .imm (.int .i64 k)] H n 0) (fun _ H2 n2 => n2 = n' ∧ ∀ j, H2.get j = H'.get j) → n ≤ n' → UAt Z l H' n' a p q own' x w → (∀ j, j < n → ¬ Z j → H'.get j = H.get j) → ∃ v H' n' own', K DG (d + 3) 42 [.ptr a 0 0, .imm (.int .i64 e), .imm (.int .i64 k)] H n 0 = some (v, H', n') ∧ n ≤ n' ∧ UAt Z l H' n' a p q own' x w ∧ ∀ j, j < n → ¬ Z j → H'.get j = H.get j := by
    rintro H' n' own' w ⟨v, H2, n2, e, rfl, r⟩ hn hu hf
    exact ⟨v, H2, n2, own', e, hn, hu.mono (Nat.le_refl _) (fun _ _ h => h) (fun j _ _ => r j), fun j h1 h2 => by rw [r j]; exact hf j h1 h2⟩
  have frc : begF l u e k = ⟨rep0 l, u.ep, u.en, u.gr, u.cp, 4, u.tick, k, 10⟩ → Fe (K DG (d + 2 + 1) 42 [.ptr a 0 0, .imm (.int .i64 e), .imm (.int .i64 k)] H n 0) (fun _ H2 n2 => n2 = n3 ∧ ∀ j, H2.get j = (H3.put a (some ⟨7, [[.ptr p 0 0, .ptr q 0 0, x, .imm (.int .i64 4), .imm (.int .i64 u.tick), .imm (.int .i64 k), .imm (.int .i64 10)]]⟩)).get j) → ∃ v H' n' own', K DG (d + 3) 42 [.ptr a 0 0, .imm (.int .i64 e), .imm (.int .i64 k)] H n 0 = some (v, H', n') ∧ n ≤ n' ∧ UAt Z l H' n' a p q own' x (begF l u e k) ∧ ∀ j, j < n → ¬ Z j → H'.get j = H.get j := fun h1 h2 => by
    rw [h1]
    exact up h2 hn3 hF fF
  rw [D.k42] at frc up
  by_cases h2 : u.mode = 2
  · cases hc : u.cp with
    | none =>
      have hx : x = .imm .nilp := by have := h.cp; rw [hc] at this; exact this
      refine frc (by unfold begF; rw [hc]) ?_
      refine fn_dw rfl ?_
      rw [h2] at hb
      rw [hx] at hb hb3 ⊢
      simp [hb, e3, hb3, PT.get_put, B6, undT, fnEnd, argsT, PT.get_put, keep, opRun, ev, evs, evO, give, giveI, binOf, isNilK, PM.flip, putT, putL, putH, loadOf, storeOf, cut, over, ofCells, asNat, natOr, calm, clashes, Acc.clash, ressOf, resOf, frz, frz.frzs, DV.flat, DV.flat.flats, imms]
      intro j
      by_cases hj : j = a <;> simp [hj]
    | some c =>
      obtain ⟨e', c, qs⟩ := c
      have hx := h.cp
      rw [hc] at hx
      obtain ⟨m, w, rfl, ⟨m1, m2, m3⟩, hm, hw⟩ := hx
      have iq := co e' c qs hc
      have hql := iq.ln
      have r6 := is.r2
      obtain ⟨H4, n4, own4, e4, hn4, hu4, fz4, _⟩ := UAt.set (d := d + 1) (by omega) ok is h hz hw (by have := rb3; omega) (Nat.le_refl _)
      rw [dec_t iq] at e4 hu4
      have hb4 := hu4.blk
      unfold rowU at hb4
      have ws := hw.scal
      have hma : ¬ m = a := fun e => m1 (by simp [e])
      have hm4 : H4.get m = H.get m := fz4 m (fun e => m1 (by simp [e])) m2
      rw [hm] at hm4
      have iv1 : ¬ c < k → ILt c k = False := fun h => ilt_f (by omega)
      by_cases h5 : e' = e - 1
      · by_cases h6 : k ≤ c
        · have i0 : ILt c k = False := ilt_f h6
          have hG := hu4.num 3 u.tick c u.left
          have e9 : begF l u e k = ⟨qs, u.ep, u.en, u.gr, u.cp, 3, u.tick, c, u.left⟩ := by unfold begF; rw [hc]; exact if_pos ⟨h2, h5, h6⟩
          have fG : ∀ j, j < n → ¬ Z j → (H4.put a (some ⟨7, [[.ptr p 0 0, .ptr q 0 0, .ptr m 0 0, .imm (.int .i64 3), .imm (.int .i64 u.tick), .imm (.int .i64 c), .imm (.int .i64 u.left)]]⟩)).get j = H.get j := fun j hj hzj => by
            have : ¬ j = a := fun e => hzj (e ▸ la.2)
            simp [PT.get_put, this]
            exact fz4 j (fun e => hzj (e ▸ lp.2)) hj
          have fin := up (H' := H4.put a (some ⟨7, [[.ptr p 0 0, .ptr q 0 0, .ptr m 0 0, .imm (.int .i64 3), .imm (.int .i64 u.tick), .imm (.int .i64 c), .imm (.int .i64 u.left)]]⟩)) (n' := n4) (own' := own4) (w := begF l u e k)
          rw [e9] at fin ⊢
          refine fin ?_ hn4 hG fG
          refine fn_dw rfl ?_
          rw [h2] at hb hb4
          simp [hb, hm, hm4, hma, w1, h5, i0, ws, e4, hb4, PT.get_put, B6, undT, fnEnd, argsT, PT.get_put, keep, opRun, ev, evs, evO, give, giveI, binOf, isNilK, PM.flip, putT, putL, putH, loadOf, storeOf, cut, over, ofCells, asNat, natOr, calm, clashes, Acc.clash, ressOf, resOf, frz, frz.frzs, DV.flat, DV.flat.flats, imms]
          intro j
          by_cases hj : j = a <;> simp [hj]
        · have i0 : ILt c k = True := ilt_t (by omega)
          refine frc (by unfold begF; rw [hc]; exact if_neg (fun h => h6 h.2.2)) ?_
          refine fn_dw rfl ?_
          rw [h2] at hb hb3
          simp [hb, hm, hma, w1, h5, i0, ws, e3, hb3, PT.get_put, B6, undT, fnEnd, argsT, PT.get_put, keep, opRun, ev, evs, evO, give, giveI, binOf, isNilK, PM.flip, putT, putL, putH, loadOf, storeOf, cut, over, ofCells, asNat, natOr, calm, clashes, Acc.clash, ressOf, resOf, frz, frz.frzs, DV.flat, DV.flat.flats, imms]
          intro j
          by_cases hj : j = a <;> simp [hj]
      · refine frc (by unfold begF; rw [hc]; exact if_neg (fun h => h5 h.2.1)) ?_
        refine fn_dw rfl ?_
        rw [h2] at hb hb3
        simp [hb, hm, hma, w1, h5, ws, e3, hb3, PT.get_put, B6, undT, fnEnd, argsT, PT.get_put, keep, opRun, ev, evs, evO, give, giveI, binOf, isNilK, PM.flip, putT, putL, putH, loadOf, storeOf, cut, over, ofCells, asNat, natOr, calm, clashes, Acc.clash, ressOf, resOf, frz, frz.frzs, DV.flat, DV.flat.flats, imms]
        intro j
        by_cases hj : j = a <;> simp [hj]
  · refine frc (by unfold begF; split <;> simp [h2]) ?_
    refine fn_dw rfl ?_
    simp [hb, xs, h2, e3, hb3, PT.get_put, B6, undT, fnEnd, argsT, PT.get_put, keep, opRun, ev, evs, evO, give, giveI, binOf, isNilK, PM.flip, putT, putL, putH, loadOf, storeOf, cut, over, ofCells, asNat, natOr, calm, clashes, Acc.clash, ressOf, resOf, frz, frz.frzs, DV.flat, DV.flat.flats, imms]
    intro j
    by_cases hj : j = a <;> simp [hj]
def granted (u : US) (e : Int) : US := ⟨u.rs, e, u.tick + 5, true, u.cp, u.mode, u.tick, u.count, u.left⟩
def noCp (w : US) : US := ⟨w.rs, w.ep, w.en, w.gr, none, w.mode, w.tick, w.count, w.left⟩
open Classical in
noncomputable def grantF (l : Lo) (u : US) (e k : Int) : US :=
  if Wk u ∧ u.ep = e then granted u e
  else if Wk u ∨ u.mode = 2 then noCp (begF l (granted u e) e k)
  else u
end Go.Proofs.YtnpcgejfkonfdabGreatDoor.D

-- UG
set_option linter.unusedVariables false
set_option linter.unusedSimpArgs false
set_option maxHeartbeats 16000000
namespace Go.Proofs.YtnpcgejfkonfdabGreatDoor.D
open Go Go.PM Go.Lib

theorem grant_u {d : Nat} {Z : Nat → Prop} {l : Lo} {H : PT HB} {n a p q : Nat} {own : List Nat} {x : DV} {u : US} (h : UAt Z l H n a p q own x u) (t0 : 0 ≤ u.tick) (t1 : u.tick ≤ 1000000) (e : Int) {m : Nat} (hm : n ≤ m) :
    ∃ v H', K DG (d + 1) 41 [.ptr q 0 0, .imm (.int .i64 e), .imm (.int .i64 u.tick)] H m 0 = some (v, H', m) ∧ UAt Z l H' m a p q own x (granted u e) ∧ ∀ j, j < n → ¬ Z j → H'.get j = H.get j := by
  obtain ⟨v, H', e1, g, f⟩ := lease_grant (d := d) (n := m) h.le e u.tick t0 t1
  exact ⟨v, H', e1, h.updq hm g (fun j hj _ => f j hj), fun j _ hz => f j (fun e => hz (e ▸ (h.lt q (by simp)).2))⟩
theorem Granted_fn {d : Nat} (hd : 10 ≤ d) {Z : Nat → Prop} {l : Lo} {H : PT HB} {n a : Nat} {u : US} (ok : LoOk l) (is : ISL l) (h : UI Z l H n a u) (hz : ∀ j, n ≤ j → Z j) (co : CpOk l u) {e k : Int} (he : 0 ≤ e ∧ e ≤ 1099511627776) (t0 : 0 ≤ u.tick) (t1 : u.tick ≤ 1000000) :
    ∃ v H' n', K DG (d + 4) 12 [.ptr a 0 0, .imm (.int .i64 e), .imm (.int .i64 k)] H n 0 = some (v, H', n') ∧ UR Z l H n a (grantF l u e k) H' n' := by
  obtain ⟨p, q, own, x, h⟩ := h
  have hb := h.blk
  have xs := h.xs.1
  have la := h.lt a (by simp)
  simp only [rowU] at hb
  refine (fun (hq : Fe (K DG (d + 3 + 1) 12 [.ptr a 0 0, .imm (.int .i64 e), .imm (.int .i64 k)] H n 0) fun _ H' n' => UR Z l H n a (grantF l u e k) H' n') => by
    obtain ⟨v', H', n', e, r⟩ := hq
    exact ⟨v', H', n', e, r⟩) ?_
  -- a grant, and then begins
  have both : ∀ m, n ≤ m → ∃ v1 H1, K DG (d + 3) 41 [.ptr q 0 0, .imm (.int .i64 e), .imm (.int .i64 u.tick)] H m 0 = some (v1, H1, m) ∧ ∃ v2 H2 n2, K DG (d + 3) 42 [.ptr a 0 0, .imm (.int .i64 e), .imm (.int .i64 k)] H1 m 0 = some (v2, H2, n2) ∧
      ∃ x2 own2, H2.get a = some (rowU p q x2 (begF l (granted u e) e k).mode (begF l (granted u e) e k).tick (begF l (granted u e) e k).count (begF l (granted u e) e k).left) ∧ x2.scal = true ∧
      UR Z l H n a (noCp (begF l (granted u e) e k)) (H2.put a (some (rowU p q (.imm .nilp) (begF l (granted u e) e k).mode (begF l (granted u e) e k).tick (begF l (granted u e) e k).count (begF l (granted u e) e k).left))) n2 := fun m hm => by
    obtain ⟨v1, H1, e1, h1, f1⟩ := grant_u (d := d + 2) h t0 t1 e hm
    obtain ⟨v2, H2, n2, own2, e2, hn2, h2, f2⟩ := begins_fn (d := d) hd ok is h1 (fun j hj => hz j (by omega)) co he (k := k)
    refine ⟨v1, H1, e1, v2, H2, n2, e2, x, own2, h2.blk, xs, by omega, ⟨p, q, own2, .imm .nilp, ?_⟩, fun j hj hzj => ?_⟩
    · generalize begF l (granted u e) e k = w at *
      have := h2.upd (Nat.le_refl _) (H' := H2.put a (some (rowU p q (.imm .nilp) w.mode w.tick w.count w.left))) (c := none) (x' := .imm .nilp) (m := w.mode) (t := w.tick) (k := w.count) (z := w.left) (by simp [PT.get_put]) rfl (fun j hj _ => by simp [PT.get_put, hj])
      exact this
    · have : ¬ j = a := fun e => hzj (e ▸ la.2)
      simp [PT.get_put, this]
      rw [f2 j (by omega) hzj, f1 j hj hzj]
  rw [D.k12]
  refine fn_dw rfl ?_
  unfold grantF
  obtain ⟨k1, e1, hk1⟩ := u_works h (d := d + 2) (m := n) (lo := 0)
  by_cases wk : Wk u
  · rw [dec_t wk] at e1
    obtain ⟨k2, e2, hk2⟩ := lease_epoch h.le (d := d + 2) (n := k1) (lo := 0)
    by_cases hp : u.ep = e
    · rw [if_pos ⟨wk, hp⟩]
      obtain ⟨v3, H3, e3, h3, f3⟩ := grant_u (d := d + 2) h t0 t1 e (m := k2) (by omega)
      simp [hb, xs, e1, e2, hp, e3, B6, undT, fnEnd, argsT, PT.get_put, keep, opRun, ev, evs, evO, give, giveI, binOf, isNilK, PM.flip, putT, putL, putH, loadOf, storeOf, cut, over, ofCells, asNat, natOr, calm, clashes, Acc.clash, ressOf, resOf, frz, frz.frzs, DV.flat, DV.flat.flats, imms]
      exact ⟨by omega, ⟨p, q, own, x, h3⟩, f3⟩
    · rw [if_neg (fun h => hp h.2), if_pos (.inl wk)]
      obtain ⟨k3, e3, hk3⟩ := u_works h (d := d + 2) (m := k2) (lo := 0)
      rw [dec_t wk] at e3
      obtain ⟨v4, H4, e4, v5, H5, n5, e5, x5, own5, b5, s5, fin⟩ := both k3 (by omega)
      generalize begF l (granted u e) e k = w at *
      simp only [rowU] at b5 fin
      simp [hb, xs, e1, e2, hp, e3, e4, e5, b5, s5, B6, undT, fnEnd, argsT, PT.get_put, keep, opRun, ev, evs, evO, give, giveI, binOf, isNilK, PM.flip, putT, putL, putH, loadOf, storeOf, cut, over, ofCells, asNat, natOr, calm, clashes, Acc.clash, ressOf, resOf, frz, frz.frzs, DV.flat, DV.flat.flats, imms]
      exact fin
  · rw [dec_f wk] at e1
    rw [if_neg (fun h => wk h.1)]
    obtain ⟨k3, e3, hk3⟩ := u_works h (d := d + 2) (m := k1) (lo := 0)
    rw [dec_f wk] at e3
    by_cases h2 : u.mode = 2
    · rw [if_pos (.inr h2)]
      obtain ⟨v4, H4, e4, v5, H5, n5, e5, x5, own5, b5, s5, fin⟩ := both k3 (by omega)
      generalize begF l (granted u e) e k = w at *
      simp only [rowU] at b5 fin
      simp [hb, xs, e1, e3, h2, e4, e5, b5, s5, B6, undT, fnEnd, argsT, PT.get_put, keep, opRun, ev, evs, evO, give, giveI, binOf, isNilK, PM.flip, putT, putL, putH, loadOf, storeOf, cut, over, ofCells, asNat, natOr, calm, clashes, Acc.clash, ressOf, resOf, frz, frz.frzs, DV.flat, DV.flat.flats, imms]
      exact fin
    · rw [if_neg (by simp [wk, h2])]
      simp [hb, xs, e1, e3, h2, B6, undT, fnEnd, argsT, PT.get_put, keep, opRun, ev, evs, evO, give, giveI, binOf, isNilK, PM.flip, putT, putL, putH, loadOf, storeOf, cut, over, ofCells, asNat, natOr, calm, clashes, Acc.clash, ressOf, resOf, frz, frz.frzs, DV.flat, DV.flat.flats, imms]
      exact ⟨by omega, ⟨p, q, own, x, h.mono (by omega) (fun _ _ h => h) fun _ _ _ => rfl⟩, fun _ _ _ => rfl⟩
def OldP (u : US) (e c : Int) : Prop := ∃ e' c' qs, u.cp = some (e', c', qs) ∧ (e < e' ∨ (e = e' ∧ c ≤ c'))
theorem isOld_ro {Z : Nat → Prop} {l : Lo} {H : PT HB} {n a p q : Nat} {own : List Nat} {x : DV} {u : US} (h : UAt Z l H n a p q own x u) (e c : Int) {w : IV} (hw : (DV.imm w).scal = true) {d m lo : Nat} (hm : n ≤ m) :
    ∃ k, callM (K DG (d + 1)) .ro 57 [.ptr a 0 0, .agg [.imm (.int .i64 e), .imm (.int .i64 c), .imm w]] H m lo = some ⟨.imm (.bool (dec (OldP u e c))), H, k, [.rA]⟩ ∧ m ≤ k := by
  have hb := h.blk
  simp only [rowU] at hb
  refine ro_of rfl ?_
  rw [D.k57]
  refine fn_dw rfl ?_
  have hx := h.cp
  cases hc : u.cp with
  | none =>
    rw [hc] at hx
    rw [show x = .imm .nilp from hx] at hb
    have e1 : dec (OldP u e c) = false := dec_f (fun ⟨_, _, _, h, _⟩ => by rw [hc] at h; cases h)
    rw [e1]
    simp [hb, hw, B6, undT, fnEnd, argsT, PT.get_put, keep, opRun, ev, evs, evO, give, giveI, binOf, isNilK, PM.flip, putT, putL, putH, loadOf, storeOf, cut, over, ofCells, asNat, natOr, calm, clashes, Acc.clash, ressOf, resOf, frz, frz.frzs, DV.flat, DV.flat.flats, imms]
  | some y =>
    obtain ⟨e', c', qs⟩ := y
    rw [hc] at hx
    obtain ⟨k, w', rfl, ⟨m1, m2, m3⟩, hk, hw'⟩ := hx
    by_cases h1 : e < e'
    · have e1 : dec (OldP u e c) = true := dec_t ⟨e', c', qs, hc, .inl h1⟩
      rw [e1]
      simp [hb, hw, hk, ilt_t h1, B6, undT, fnEnd, argsT, PT.get_put, keep, opRun, ev, evs, evO, give, giveI, binOf, isNilK, PM.flip, putT, putL, putH, loadOf, storeOf, cut, over, ofCells, asNat, natOr, calm, clashes, Acc.clash, ressOf, resOf, frz, frz.frzs, DV.flat, DV.flat.flats, imms]
    · by_cases h2 : e = e'
      · by_cases h3 : c ≤ c'
        · have e1 : dec (OldP u e c) = true := dec_t ⟨e', c', qs, hc, .inr ⟨h2, h3⟩⟩
          rw [e1]
          subst h2
          simp [hb, hw, hk, ilt_f (Int.not_lt.1 h1), ilt_f h3, B6, undT, fnEnd, argsT, PT.get_put, keep, opRun, ev, evs, evO, give, giveI, binOf, isNilK, PM.flip, putT, putL, putH, loadOf, storeOf, cut, over, ofCells, asNat, natOr, calm, clashes, Acc.clash, ressOf, resOf, frz, frz.frzs, DV.flat, DV.flat.flats, imms]
        · have e1 : dec (OldP u e c) = false := dec_f (fun ⟨_, _, _, h, h'⟩ => by rw [hc] at h; cases h; omega)
          rw [e1]
          subst h2
          simp [hb, hw, hk, ilt_f (Int.not_lt.1 h1), ilt_t (show c' < c by omega), B6, undT, fnEnd, argsT, PT.get_put, keep, opRun, ev, evs, evO, give, giveI, binOf, isNilK, PM.flip, putT, putL, putH, loadOf, storeOf, cut, over, ofCells, asNat, natOr, calm, clashes, Acc.clash, ressOf, resOf, frz, frz.frzs, DV.flat, DV.flat.flats, imms]
      · have e1 : dec (OldP u e c) = false := dec_f (fun ⟨_, _, _, h, h'⟩ => by rw [hc] at h; cases h; omega)
        rw [e1]
        simp [hb, hw, hk, ilt_f (Int.not_lt.1 h1), h2, B6, undT, fnEnd, argsT, PT.get_put, keep, opRun, ev, evs, evO, give, giveI, binOf, isNilK, PM.flip, putT, putL, putH, loadOf, storeOf, cut, over, ofCells, asNat, natOr, calm, clashes, Acc.clash, ressOf, resOf, frz, frz.frzs, DV.flat, DV.flat.flats, imms]
end Go.Proofs.YtnpcgejfkonfdabGreatDoor.D
