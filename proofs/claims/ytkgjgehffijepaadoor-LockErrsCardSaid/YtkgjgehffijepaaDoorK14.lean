/-
  How a route stands next: allLie, later, used, step. Over D.
  How a route stands next: step. Over D.
  Cycle: every route steps. Over D.
  What is driven: drives. Over D.
  What is driven: drives, whole. Over D.
  What may proceed; Cycle, whole. Over D.
  Cycle, whole. Over D.
-/
import Derived.Test.YtkgjgehffijepaaDoorK7
-- K8
set_option linter.unusedVariables false
set_option linter.unusedSimpArgs false
set_option maxHeartbeats 16000000
namespace Go.Proofs.YtkgjgehffijepaaDoor.D
open Go Go.PM Go.Lib
/-! ### All points lie as a route needs them -/
def Lie (l : Lo) (ls : List Int) (r : Nat) : Prop := ∀ x ∈ nd (nth l.rts r), nth ls x.pt.toNat = pos x
theorem saysLie {d : Nat} (hd : 3 ≤ d) {ov lv : IV} {os : List Bool} {ls : List Int} (io : InOk ov lv os ls) {H : PT HB} {a n0 : Nat} (ha : H.get a = some ⟨2, [[.imm ov, .imm lv]]⟩) {xs : List Need} (hx : ∀ x ∈ xs, InR x.pt ls.length) :
    Says d 78 [.ptr a 0 0] H n0 (fun x : Need => .agg [.imm (.int .i64 x.pt), .imm (.bool x.rev)]) (fun x => ¬ nth ls x.pt.toNat = pos x) (fun x => x ∈ xs) := fun x hm n hn => by
  obtain ⟨d, rfl⟩ : ∃ d', d = d' + 1 := ⟨d - 1, by omega⟩
  have hl := lies_bl (D := d) (by omega) io (hx x hm)
  have key : Fe (K DG (d + 1) 78 [.agg [.imm (.int .i64 x.pt), .imm (.bool x.rev)], .ptr a 0 0] H n n) (fun y _ n' => n ≤ n' ∧ y = .imm (.bool (dec (¬ nth ls x.pt.toNat = pos x)))) := by
    rw [D.k78]
    refine fn_dw rfl ?_
    by_cases h : nth ls x.pt.toNat = pos x
    · rw [dec_t h] at hl
      simp [ha, hl, h, dec_true, dec_false, B6, undT, fnEnd, argsT, PT.get_put, keep, opRun, ev, evs, evO, give, giveI, binOf, isNilK, PM.flip, putT, putL, putH, loadOf, storeOf, cut, over, ofCells, asNat, natOr, calm, clashes, Acc.clash, ressOf, resOf, frz, frz.frzs, DV.flat, DV.flat.flats, imms]
    · rw [dec_f h] at hl
      simp [ha, hl, h, dec_true, dec_false, B6, undT, fnEnd, argsT, PT.get_put, keep, opRun, ev, evs, evO, give, giveI, binOf, isNilK, PM.flip, putT, putL, putH, loadOf, storeOf, cut, over, ofCells, asNat, natOr, calm, clashes, Acc.clash, ressOf, resOf, frz, frz.frzs, DV.flat, DV.flat.flats, imms]
  obtain ⟨y, H1, n1, e, h1, rfl⟩ := key
  exact ⟨H1, n1, e, h1⟩
theorem allLie_run {d : Nat} (hd : 6 ≤ d) {H : PT HB} {p : Nat} {own : List Nat} {l : Lo} {rs : List Rst} (ok : LoOk l) (is : ISL l) (lk : LkAt H p own l rs) {ov lv : IV} {os : List Bool} {ls : List Int} (io : InOk ov lv os ls) (mi : MI l os ls) {r : Nat} (hr : r < l.rts.length) {n lo : Nat} (hpn : p < n) :
    ∃ n' H', K DG (d + 1) 42 [.ptr p 0 0, inD ov lv, .imm (.int .i64 r)] H n lo = some (.imm (.bool (dec (Lie l ls r))), H', n') ∧ n ≤ n' := by
  obtain ⟨d, rfl⟩ : ∃ d', d = d' + 2 := ⟨d - 2, by omega⟩
  obtain ⟨x, h1, h2, h3, h4⟩ := lk
  have hrb := rb3
  obtain ⟨nv, en, hv⟩ := Needs_bl (D := d + 2) (by omega) ok hr (is.few r hr).1 (is.few r hr).2
  have hnl : (nd (nth l.rts r)).length ≤ reachBytes := by have := is.few r hr; simp [nd]; omega
  have hpn' : ¬ p = n := by omega
  obtain ⟨x1, H1, n1, e1, hn1, rfl⟩ := containsF_needs (d := d) (n := n + 1) (H := H.put n (some ⟨2, [[.imm ov, .imm lv]]⟩)) (f := 78) (caps := [.ptr n 0 0]) rfl (saysLie (by omega) io (by simp [PT.get_put]) fun x hx => by rw [mi.2.1]; exact nd_in is hr hx) hv hnl (n + 1)
  have hL : Lie l ls r ↔ ¬ ∃ x ∈ nd (nth l.rts r), ¬ nth ls x.pt.toNat = pos x := ⟨fun h ⟨x, hx, hn⟩ => hn (h x hx), fun h x hx => Classical.byContradiction fun hn => h ⟨x, hx, hn⟩⟩
  rw [dec_congr hL]
  generalize (∃ x ∈ nd (nth l.rts r), ¬ nth ls x.pt.toNat = pos x) = P at e1 ⊢
  have key : Fe (K DG (d + 2 + 1) 42 [.ptr p 0 0, inD ov lv, .imm (.int .i64 r)] H n lo) (fun v H' n' => v = .imm (.bool (dec (¬ P))) ∧ n ≤ n') := by
    rw [D.k42]
    refine fn_dw rfl ?_
    simp [io.o.scal, io.l.scal, hpn', h1, en, e1, B6, undT, fnEnd, argsT, PT.get_put, keep, opRun, ev, evs, evO, give, giveI, binOf, isNilK, PM.flip, putT, putL, putH, loadOf, storeOf, cut, over, ofCells, asNat, natOr, calm, clashes, Acc.clash, ressOf, resOf, frz, frz.frzs, DV.flat, DV.flat.flats, imms]
    by_cases hP : P
    · simp [hP, dec_true, dec_false]; omega
    · simp [hP, dec_true, dec_false]; omega
  obtain ⟨v, H', n', e, rfl, hn⟩ := key
  exact ⟨n', H', e, hn⟩
/-! ### How a route stands next -/
/-- What a route's state may be. -/
structure RsOk (l : Lo) (r : Nat) (x : Rst) : Prop where
  md : 0 ≤ x.mode ∧ x.mode ≤ 4
  t0 : 0 ≤ x.timer
  t8 : x.mode = 1 → x.timer ≤ 8
  t6 : x.mode = 4 → x.timer < 6
  tz : ¬ x.mode = 1 → ¬ x.mode = 4 → x.timer = 0
  g3 : x.mode = 3 → 0 ≤ x.gone ∧ x.gone < (nth l.rts r).path.length
  gz : ¬ x.mode = 3 → x.gone = 0 ∧ x.seen = false
noncomputable def laterF (x : Rst) (m : Int) : Rst := bif dec (m < x.timer + 1) then rs0 else ⟨x.mode, x.timer + 1, x.gone, x.seen⟩
noncomputable def usedF (l : Lo) (os : List Bool) (r : Nat) (x : Rst) : Rst :=
  bif nth os (nth (nth l.rts r).path x.gone.toNat).toNat then ⟨x.mode, x.timer, x.gone, true⟩
  else bif x.seen then (bif dec (x.gone + 1 < (nth l.rts r).path.length) then ⟨x.mode, x.timer, x.gone + 1, false⟩ else rs0) else x
noncomputable def stepF (l : Lo) (os : List Bool) (ls : List Int) (r : Nat) (x : Rst) : Rst :=
  bif dec (x.mode = 1) then (bif dec (Lie l ls r) then ⟨2, 0, 0, false⟩ else laterF x 8)
  else bif dec (x.mode = 2 ∨ x.mode = 4) then (bif nth os (nth (nth l.rts r).path 0).toNat then ⟨3, 0, 0, true⟩ else bif dec (x.mode = 4) then laterF x 5 else x)
  else bif dec (x.mode = 3) then usedF l os r x else x
theorem later_bl {D : Nat} (hD : 1 ≤ D) (x : Rst) (h0 : 0 ≤ x.timer) (h1 : x.timer ≤ 100) (m : Int) : bl (K DG D) 71 [.agg (rowRS x), .imm (.int .i64 m)] = some (.agg (rowRS (laterF x m))) := by
  obtain ⟨d, rfl⟩ : ∃ d, D = d + 1 := ⟨D - 1, by omega⟩
  have hw : IntKind.i64.wrap (x.timer + 1) = x.timer + 1 := wr_id (by omega) (by omega)
  have key : Fe (K DG (d + 1) 71 [.agg (rowRS x), .imm (.int .i64 m)] .lf 0 0) (fun v _ _ => v = .agg (rowRS (laterF x m))) := by
    rw [D.k71]
    refine fn_dw rfl ?_
    by_cases h : m < x.timer + 1
    · have e : laterF x m = rs0 := by simp [laterF, dec_t h]
      rw [e]
      simp [hw, ilt_t h, evParts, lay, B6, undT, fnEnd, argsT, PT.get_put, keep, opRun, ev, evs, evO, give, giveI, binOf, isNilK, PM.flip, putT, putL, putH, loadOf, storeOf, cut, over, ofCells, asNat, natOr, calm, clashes, Acc.clash, ressOf, resOf, frz, frz.frzs, DV.flat, DV.flat.flats, imms]
    · have e : laterF x m = ⟨x.mode, x.timer + 1, x.gone, x.seen⟩ := by simp [laterF, dec_f h]
      rw [e]
      simp [hw, ilt_f (show x.timer + 1 ≤ m by omega), evParts, lay, B6, undT, fnEnd, argsT, PT.get_put, keep, opRun, ev, evs, evO, give, giveI, binOf, isNilK, PM.flip, putT, putL, putH, loadOf, storeOf, cut, over, ofCells, asNat, natOr, calm, clashes, Acc.clash, ressOf, resOf, frz, frz.frzs, DV.flat, DV.flat.flats, imms]
  obtain ⟨v, H, n, e, rfl⟩ := key
  exact bl_of e rfl
theorem used_run {d : Nat} {H : PT HB} {p : Nat} {own : List Nat} {l : Lo} {rs : List Rst} (ok : LoOk l) (is : ISL l) (lk : LkAt H p own l rs) {ov lv : IV} {os : List Bool} {ls : List Int} (io : InOk ov lv os ls) (mi : MI l os ls) {r : Nat} (hr : r < l.rts.length) (ro : RsOk l r (nth rs r)) (h3' : (nth rs r).mode = 3) {n lo : Nat} :
    ∃ n', K DG (d + 1) 72 [.ptr p 0 0, inD ov lv, .imm (.int .i64 r)] H n lo = some (.agg (rowRS (usedF l os r (nth rs r))), H, n') ∧ n ≤ n' := by
  obtain ⟨x, h1, h2, h3, h4⟩ := lk
  obtain ⟨id, rfl, rfl, hrs⟩ := h2.sl (by omega)
  have rk := ok.or _ (nth_mem hr)
  have pl := rk.p.len
  simp only [List.length_map] at pl
  have hr1 : (r : Int) < l.rts.length := by omega
  have ix := fun {h : Nat → Option HB} {n : Nat} => idx_sl (h := h) (n := n) ok.r (by omega) (k := .i64) (z := (r : Int)) (by omega) hr1
  have iy := fun {n : Nat} => idx_hp (h := H.get) (n := n) (id := id) (row := 0) (len := rs.length) (cap := rs.length) hrs rfl (k := .i64) (z := (r : Int)) (by omega) (by omega)
  have hrow : (rs.map rowRS)[r]? = some (rowRS (nth rs r)) := by rw [List.getElem?_map, nth_get (by omega)]; rfl
  generalize hrr : rs.map rowRS = rows at hrs hrow
  generalize nth rs r = y at *
  simp only [Int.toNat_natCast, Nat.zero_add] at iy
  obtain ⟨g0, g1⟩ := ro.g3 h3'
  have p5 := is.p5 r hr
  have ip := fun {h : Nat → Option HB} {n : Nat} => idx_sl (h := h) (n := n) rk.p (by omega) (k := .i64) (z := y.gone) g0 g1
  have hpin := path_in is hr (nth_mem (xs := (nth l.rts r).path) (i := y.gone.toNat) (by omega))
  have io' := fun {h : Nat → Option HB} {n : Nat} => idx_in (h := h) (n := n) io.o (by omega) (k := .i64) (z := nth (nth l.rts r).path y.gone.toNat) (by rw [mi.1]; exact hpin)
  have hw : IntKind.i64.wrap (y.gone + 1) = y.gone + 1 := wr_id (by omega) (by omega)
  have j1 := ilt_t g1
  have key : Fe (K DG (d + 1) 72 [.ptr p 0 0, inD ov lv, .imm (.int .i64 r)] H n lo) (fun v H' n' => v = .agg (rowRS (usedF l os r y)) ∧ H' = H ∧ n ≤ n') := by
    rw [D.k72]
    refine fn_dw rfl ?_
    cases ho : nth os (nth (nth l.rts r).path y.gone.toNat).toNat with
    | true =>
      have e : usedF l os r y = ⟨y.mode, y.timer, y.gone, true⟩ := by simp [usedF, ho]
      rw [e]
      simp [io.o.scal, io.l.scal, h1, hrs, ix, iy, ip, io', hrow, ho, j1, pl, ivRt, ivI, ivB1, evParts, lay, B6, undT, fnEnd, argsT, PT.get_put, keep, opRun, ev, evs, evO, give, giveI, binOf, isNilK, PM.flip, putT, putL, putH, loadOf, storeOf, cut, over, ofCells, asNat, natOr, calm, clashes, Acc.clash, ressOf, resOf, frz, frz.frzs, DV.flat, DV.flat.flats, imms]
      omega
    | false =>
      cases hse : y.seen with
      | true =>
        by_cases hg : y.gone + 1 < (nth l.rts r).path.length
        · have e : usedF l os r y = ⟨y.mode, y.timer, y.gone + 1, false⟩ := by simp [usedF, ho, hse, dec_t hg]
          rw [e]
          simp [io.o.scal, io.l.scal, h1, hrs, ix, iy, ip, io', hrow, ho, hse, hw, ilt_t hg, pl, ivRt, ivI, ivB1, evParts, lay, B6, undT, fnEnd, argsT, PT.get_put, keep, opRun, ev, evs, evO, give, giveI, binOf, isNilK, PM.flip, putT, putL, putH, loadOf, storeOf, cut, over, ofCells, asNat, natOr, calm, clashes, Acc.clash, ressOf, resOf, frz, frz.frzs, DV.flat, DV.flat.flats, imms]
          omega
        · have e : usedF l os r y = rs0 := by simp [usedF, ho, hse, dec_f hg]
          rw [e]
          simp [io.o.scal, io.l.scal, h1, hrs, ix, iy, ip, io', hrow, ho, hse, hw, ilt_f (show ((nth l.rts r).path.length : Int) ≤ y.gone + 1 by omega), pl, ivRt, ivI, ivB1, evParts, lay, B6, undT, fnEnd, argsT, PT.get_put, keep, opRun, ev, evs, evO, give, giveI, binOf, isNilK, PM.flip, putT, putL, putH, loadOf, storeOf, cut, over, ofCells, asNat, natOr, calm, clashes, Acc.clash, ressOf, resOf, frz, frz.frzs, DV.flat, DV.flat.flats, imms]
          omega
      | false =>
        have e : usedF l os r y = y := by simp [usedF, ho, hse]
        rw [e]
        simp [io.o.scal, io.l.scal, h1, hrs, ix, iy, ip, io', hrow, ho, hse, j1, pl, ivRt, ivI, ivB1, evParts, lay, B6, undT, fnEnd, argsT, PT.get_put, keep, opRun, ev, evs, evO, give, giveI, binOf, isNilK, PM.flip, putT, putL, putH, loadOf, storeOf, cut, over, ofCells, asNat, natOr, calm, clashes, Acc.clash, ressOf, resOf, frz, frz.frzs, DV.flat, DV.flat.flats, imms]
        omega
  obtain ⟨v, H', n', e, rfl, rfl, hn⟩ := key
  exact ⟨n', e, hn⟩
end Go.Proofs.YtkgjgehffijepaaDoor.D

-- K9
set_option linter.unusedVariables false
set_option linter.unusedSimpArgs false
set_option maxHeartbeats 16000000
namespace Go.Proofs.YtkgjgehffijepaaDoor.D
open Go Go.PM Go.Lib
theorem step_run {d : Nat} (hd : 8 ≤ d) {H : PT HB} {p : Nat} {own : List Nat} {l : Lo} {rs : List Rst} (ok : LoOk l) (is : ISL l) (lk : LkAt H p own l rs) {ov lv : IV} {os : List Bool} {ls : List Int} (io : InOk ov lv os ls) (mi : MI l os ls) {r : Nat} (hr : r < l.rts.length) (ro : RsOk l r (nth rs r)) {n lo : Nat} (hpn : p < n) :
    ∃ n', K DG (d + 1) 39 [.ptr p 0 0, inD ov lv, .imm (.int .i64 r)] H n lo = some (.agg (rowRS (stepF l os ls r (nth rs r))), H, n') ∧ n ≤ n' := by
  obtain ⟨d, rfl⟩ : ∃ d', d = d' + 1 := ⟨d - 1, by omega⟩
  have lk0 := lk
  obtain ⟨x, h1, h2, h3, h4⟩ := lk
  obtain ⟨id, rfl, rfl, hrs⟩ := h2.sl (by omega)
  have rk := ok.or _ (nth_mem hr)
  have pl := rk.p.len
  simp only [List.length_map] at pl
  have hr1 : (r : Int) < l.rts.length := by omega
  have hr2 : (r : Int) < (rs.length : Int) := by omega
  have p1 := (is.rr r hr).p1
  have ix := fun {h : Nat → Option HB} {n : Nat} => idx_sl (h := h) (n := n) ok.r (by omega) (k := .i64) (z := (r : Int)) (by omega) hr1
  have iy := fun {n : Nat} => idx_hp (h := H.get) (n := n) (id := id) (row := 0) (len := rs.length) (cap := rs.length) hrs rfl (k := .i64) (z := (r : Int)) (by omega) (by omega)
  have ip := fun {h : Nat → Option HB} {n : Nat} => idx_sl (h := h) (n := n) rk.p (by omega) (k := .i64) (z := (0 : Int)) (by omega) (by omega)
  have hpin := path_in is hr (nth_mem (xs := (nth l.rts r).path) (i := 0) (by omega))
  have io' := fun {h : Nat → Option HB} {n : Nat} => idx_in (h := h) (n := n) io.o (by omega) (k := .i64) (z := nth (nth l.rts r).path 0) (by rw [mi.1]; exact hpin)
  obtain ⟨na, Ha, ea, hna⟩ := allLie_run (d := d) (by omega) ok is lk0 io mi hr (n := n + 1 + 1 + 1) (lo := n + 1 + 1 + 1) (by omega)
  have lt := later_bl (D := d + 1) (by omega) (nth rs r) ro.t0 (by
    by_cases m1 : (nth rs r).mode = 1
    · have := ro.t8 m1; omega
    by_cases m4 : (nth rs r).mode = 4
    · have := ro.t6 m4; omega
    have := ro.tz m1 m4; omega)
  have us := fun (h : (nth rs r).mode = 3) => used_run (d := d) ok is lk0 io mi hr ro h (n := n + 1 + 1 + 1) (lo := n + 1 + 1 + 1)
  have hrow : (rs.map rowRS)[r]? = some (rowRS (nth rs r)) := by rw [List.getElem?_map, nth_get (by omega)]; rfl
  have hmd := ro.md
  generalize hrr : rs.map rowRS = rows at hrs hrow
  generalize nth rs r = y at *
  simp only [Int.toNat_natCast, Nat.zero_add] at iy
  have key : Fe (K DG (d + 1 + 1) 39 [.ptr p 0 0, inD ov lv, .imm (.int .i64 r)] H n lo) (fun v H' n' => v = .agg (rowRS (stepF l os ls r y)) ∧ H' = H ∧ n ≤ n') := by
    rw [D.k39]
    refine fn_dw rfl ?_
    obtain ⟨ym, yt, yg, ys⟩ := y
    simp only at hmd
    have hc : ym = 0 ∨ ym = 1 ∨ ym = 2 ∨ ym = 3 ∨ ym = 4 := by omega
    rcases hc with rfl | rfl | rfl | rfl | rfl
    · have e : stepF l os ls r ⟨0, yt, yg, ys⟩ = ⟨0, yt, yg, ys⟩ := by simp [stepF, dec_false]
      rw [e]
      simp [io.o.scal, io.l.scal, h1, hrs, ix, iy, ip, io', hrow, pl, ivRt, ivI, ivB1, evParts, lay, B6, undT, fnEnd, argsT, PT.get_put, keep, opRun, ev, evs, evO, give, giveI, binOf, isNilK, PM.flip, putT, putL, putH, loadOf, storeOf, cut, over, ofCells, asNat, natOr, calm, clashes, Acc.clash, ressOf, resOf, frz, frz.frzs, DV.flat, DV.flat.flats, imms]
      omega
    · by_cases hL : Lie l ls r
      · rw [dec_t hL] at ea
        have e : stepF l os ls r ⟨1, yt, yg, ys⟩ = ⟨2, 0, 0, false⟩ := by simp [stepF, dec_true, dec_t hL]
        rw [e]
        simp [io.o.scal, io.l.scal, h1, hrs, ix, iy, ip, io', hrow, pl, ea, ivRt, ivI, ivB1, evParts, lay, rowRS, B6, undT, fnEnd, argsT, PT.get_put, keep, opRun, ev, evs, evO, give, giveI, binOf, isNilK, PM.flip, putT, putL, putH, loadOf, storeOf, cut, over, ofCells, asNat, natOr, calm, clashes, Acc.clash, ressOf, resOf, frz, frz.frzs, DV.flat, DV.flat.flats, imms]
        omega
      · rw [dec_f hL] at ea
        have e : stepF l os ls r ⟨1, yt, yg, ys⟩ = laterF ⟨1, yt, yg, ys⟩ 8 := by simp [stepF, dec_true, dec_f hL]
        rw [e]
        simp [io.o.scal, io.l.scal, h1, hrs, ix, iy, ip, io', hrow, pl, ea, lt, ivRt, ivI, ivB1, evParts, lay, B6, undT, fnEnd, argsT, PT.get_put, keep, opRun, ev, evs, evO, give, giveI, binOf, isNilK, PM.flip, putT, putL, putH, loadOf, storeOf, cut, over, ofCells, asNat, natOr, calm, clashes, Acc.clash, ressOf, resOf, frz, frz.frzs, DV.flat, DV.flat.flats, imms]
        omega
    · cases ho : nth os (nth (nth l.rts r).path 0).toNat with
      | true =>
        have e : stepF l os ls r ⟨2, yt, yg, ys⟩ = ⟨3, 0, 0, true⟩ := by simp [stepF, dec_true, dec_false, ho]
        rw [e]
        simp [io.o.scal, io.l.scal, h1, hrs, ix, iy, ip, io', hrow, ho, pl, ivRt, ivI, ivB1, evParts, lay, B6, undT, fnEnd, argsT, PT.get_put, keep, opRun, ev, evs, evO, give, giveI, binOf, isNilK, PM.flip, putT, putL, putH, loadOf, storeOf, cut, over, ofCells, asNat, natOr, calm, clashes, Acc.clash, ressOf, resOf, frz, frz.frzs, DV.flat, DV.flat.flats, imms]
        omega
      | false =>
        have e : stepF l os ls r ⟨2, yt, yg, ys⟩ = ⟨2, yt, yg, ys⟩ := by simp [stepF, dec_true, dec_false, ho]
        rw [e]
        simp [io.o.scal, io.l.scal, h1, hrs, ix, iy, ip, io', hrow, ho, pl, ivRt, ivI, ivB1, evParts, lay, B6, undT, fnEnd, argsT, PT.get_put, keep, opRun, ev, evs, evO, give, giveI, binOf, isNilK, PM.flip, putT, putL, putH, loadOf, storeOf, cut, over, ofCells, asNat, natOr, calm, clashes, Acc.clash, ressOf, resOf, frz, frz.frzs, DV.flat, DV.flat.flats, imms]
        omega
    · obtain ⟨nu, eu, hnu⟩ := us rfl
      have e : stepF l os ls r ⟨3, yt, yg, ys⟩ = usedF l os r ⟨3, yt, yg, ys⟩ := by simp [stepF, dec_true, dec_false]
      rw [e]
      simp [io.o.scal, io.l.scal, h1, hrs, ix, iy, ip, io', hrow, pl, eu, ivRt, ivI, ivB1, evParts, lay, B6, undT, fnEnd, argsT, PT.get_put, keep, opRun, ev, evs, evO, give, giveI, binOf, isNilK, PM.flip, putT, putL, putH, loadOf, storeOf, cut, over, ofCells, asNat, natOr, calm, clashes, Acc.clash, ressOf, resOf, frz, frz.frzs, DV.flat, DV.flat.flats, imms]
      omega
    · cases ho : nth os (nth (nth l.rts r).path 0).toNat with
      | true =>
        have e : stepF l os ls r ⟨4, yt, yg, ys⟩ = ⟨3, 0, 0, true⟩ := by simp [stepF, dec_true, dec_false, ho]
        rw [e]
        simp [io.o.scal, io.l.scal, h1, hrs, ix, iy, ip, io', hrow, ho, pl, ivRt, ivI, ivB1, evParts, lay, B6, undT, fnEnd, argsT, PT.get_put, keep, opRun, ev, evs, evO, give, giveI, binOf, isNilK, PM.flip, putT, putL, putH, loadOf, storeOf, cut, over, ofCells, asNat, natOr, calm, clashes, Acc.clash, ressOf, resOf, frz, frz.frzs, DV.flat, DV.flat.flats, imms]
        omega
      | false =>
        have e : stepF l os ls r ⟨4, yt, yg, ys⟩ = laterF ⟨4, yt, yg, ys⟩ 5 := by simp [stepF, dec_true, dec_false, ho]
        rw [e]
        simp [io.o.scal, io.l.scal, h1, hrs, ix, iy, ip, io', hrow, ho, pl, lt, ivRt, ivI, ivB1, evParts, lay, B6, undT, fnEnd, argsT, PT.get_put, keep, opRun, ev, evs, evO, give, giveI, binOf, isNilK, PM.flip, putT, putL, putH, loadOf, storeOf, cut, over, ofCells, asNat, natOr, calm, clashes, Acc.clash, ressOf, resOf, frz, frz.frzs, DV.flat, DV.flat.flats, imms]
        omega
  obtain ⟨v, H', n', e, rfl, rfl, hn⟩ := key
  exact ⟨n', e, hn⟩
end Go.Proofs.YtkgjgehffijepaaDoor.D

-- K10
set_option linter.unusedVariables false
set_option linter.unusedSimpArgs false
set_option maxHeartbeats 16000000
namespace Go.Proofs.YtkgjgehffijepaaDoor.D
open Go Go.PM Go.Lib
structure ICy (p : Nat) (own : List Nat) (l : Lo) (os : List Bool) (ls : List Int) (rs : List Rst) (ov lv : IV) (us : List DV) (H1 : PT HB) (n1 : Nat) (i : Nat) (qs : List Rst) (st : St) : Prop where
  h0 : st.T.get 0 = some (.ptr p 0 0)
  h28 : st.T.get 28 = some (.imm (.int .i64 l.rts.length))
  h29 : st.T.get 29 = some (.imm (.int .i64 i))
  b3 : BoxD st 3 [.imm ov, .imm lv]
  b4 : BoxD st 4 [.imm .nils, .imm .nils]
  b5 : BoxD st 5 us
  lk : LkAt st.H p own l qs
  fr : ∀ j, j ∉ own → st.H.get j = H1.get j
  hn : n1 ≤ st.n
  al : ∀ j, j < l.rts.length → nth qs j = if j < i then stepF l os ls j (nth rs j) else nth rs j
theorem loopCy0 {d : Nat} (hd : 9 ≤ d) {p : Nat} {own : List Nat} {l : Lo} {os : List Bool} {ls : List Int} {rs : List Rst} (ok : LoOk l) (is : ISL l) {ov lv : IV} (io : InOk ov lv os ls) (mi : MI l os ls) (ro : ∀ r, r < l.rts.length → RsOk l r (nth rs r))
    {us : List DV} {H1 : PT HB} {n1 : Nat} (hpn : p < n1) {ks : List Kf} {st : St} {Q : Ex → St → Prop} (h : ICy p own l os ls rs ov lv us H1 n1 0 rs st)
    (hk : ∀ st' qs, ICy p own l os ls rs ov lv us H1 n1 l.rts.length qs st' → Bk DG (K DG d) 0 (.exit 0) ks st' Q) : Wp DG (K DG d) 0 D.l15_0 ks st Q := by
  have hrb := rb3
  obtain ⟨d, rfl⟩ : ∃ d', d = d' + 1 := ⟨d - 1, by omega⟩
  refine dw_loop (N := l.rts.length) (small ok.lr) (fun i st => ∃ qs, ICy p own l os ls rs ov lv us H1 n1 i qs st) (fun e st' => e = .exit 0 ∧ ∃ qs, ICy p own l os ls rs ov lv us H1 n1 l.rts.length qs st') (fun i st hle hI => ?_) ⟨rs, h⟩ (fun e s' h => by obtain ⟨rfl, qs, h⟩ := h; exact hk s' qs h)
  obtain ⟨qs, h0, h28, h29, ⟨i3, h3, L3⟩, ⟨i4, h4, L4⟩, ⟨i5, h5, L5⟩, lk, fr, hn, al⟩ := hI
  by_cases hi : i < l.rts.length
  · have hi1 : (i : Int) < l.rts.length := by omega
    have hi' := ilt_t hi1
    have hw8 : IntKind.i64.wrap ((i : Int) + 1) = (i : Int) + 1 := wr_succ hi ok.lr
    have eqi : nth qs i = nth rs i := by rw [al i hi, if_neg (by omega)]
    obtain ⟨n2, e2, hn2⟩ := step_run (d := d) (by omega) ok is lk io mi hi (by rw [eqi]; exact ro i hi) (n := st.n) (lo := st.n) (by omega)
    obtain ⟨x, k1, k2, k3, k4⟩ := lk
    obtain ⟨id, rfl, rfl, hrs⟩ := k2.sl (by omega)
    have iy := fun {n : Nat} => idx_hp (h := st.H.get) (n := n) (id := id) (row := 0) (len := qs.length) (cap := qs.length) hrs rfl (k := .i64) (z := (i : Int)) (by omega) (by omega)
    have hrow : (qs.map rowRS)[i]? = some (rowRS (nth qs i)) := by rw [List.getElem?_map, nth_get (by omega)]; rfl
    have hset := set_lk k1 k3 k4 (by omega) (stepF l os ls i (nth qs i)) (r := i)
    have hal : ∀ j, j < l.rts.length → nth (qs.set i (stepF l os ls i (nth qs i))) j = if j < i + 1 then stepF l os ls j (nth rs j) else nth rs j := fun j hj => by
      by_cases hij : i = j
      · subst hij
        rw [if_pos (by omega), ← eqi]
        simp [nth, k4, hi]
      · have : nth (qs.set i (stepF l os ls i (nth qs i))) j = nth qs j := by simp [nth, List.getD, List.getElem?_set, hij]
        rw [this, al j hj]
        by_cases hji : j < i
        · rw [if_pos hji, if_pos (by omega)]
        · rw [if_neg hji, if_neg (by omega)]
    generalize qs.set i (stepF l os ls i (nth qs i)) = ws at hset hal
    generalize hrr : qs.map rowRS = rows at hrs hrow hset
    generalize stepF l os ls i (nth qs i) = y at *
    generalize nth qs i = w at *
    simp only [Int.toNat_natCast, Nat.zero_add] at iy
    generalize hQ : (fun (e : Ex) (s' : St) => _) = Q'
    simp only [D.l15_0b]
    simp [h0, h28, h29, h3, L3, h4, L4, h5, L5, hi', hw8, e2, k1, hrs, iy, hrow, rowRS, io.o.scal, io.l.scal, evParts, lay, B6, undT, fnEnd, argsT, PT.get_put, keep, opRun, ev, evs, evO, give, giveI, binOf, isNilK, PM.flip, putT, putL, putH, loadOf, storeOf, cut, over, ofCells, asNat, natOr, calm, clashes, Acc.clash, ressOf, resOf, frz, frz.frzs, DV.flat, DV.flat.flats, imms]
    subst hQ
    refine .inl ⟨rfl, hi, ws, by simp [PT.get_put], by simp [PT.get_put], by simp [PT.get_put], ⟨i3, by simp [PT.get_put], by simp [PT.get_put]⟩, ⟨i4, by simp [PT.get_put], by simp [PT.get_put]⟩, ⟨i5, by simp [PT.get_put], by simp [PT.get_put]⟩, hset, fun j hj => ?_, by simp; omega, hal⟩
    have := fr j hj
    simp at hj
    simp [PT.get_put, hj, this]
  · obtain rfl : i = l.rts.length := by omega
    generalize hQ : (fun (e : Ex) (s' : St) => _) = Q'
    simp only [D.l15_0b]
    simp [h0, h28, h29, h3, L3, h4, L4, h5, L5, B6, undT, fnEnd, argsT, PT.get_put, keep, opRun, ev, evs, evO, give, giveI, binOf, isNilK, PM.flip, putT, putL, putH, loadOf, storeOf, cut, over, ofCells, asNat, natOr, calm, clashes, Acc.clash, ressOf, resOf, frz, frz.frzs, DV.flat, DV.flat.flats, imms]
    subst hQ
    exact .inr ⟨nofun, rfl, qs, by simp [PT.get_put, h0], by simp [PT.get_put, h28], by simp [PT.get_put, h29], ⟨i3, by simp [PT.get_put, h3], by simp [PT.get_put, L3]⟩, ⟨i4, by simp [PT.get_put, h4], by simp [PT.get_put, L4]⟩, ⟨i5, by simp [PT.get_put, h5], by simp [PT.get_put, L5]⟩, lk, fr, hn, al⟩
end Go.Proofs.YtkgjgehffijepaaDoor.D

-- K11
set_option linter.unusedVariables false
set_option linter.unusedSimpArgs false
set_option maxHeartbeats 16000000
namespace Go.Proofs.YtkgjgehffijepaaDoor.D
open Go Go.PM Go.Lib
def rowI (z : Int) : List DV := [.imm (.int .i64 z)]
def DrAt (l : Lo) (rs : List Rst) (os : List Bool) (ls : List Int) (q : Nat) (z : Int) : Prop :=
  ∃ r x, r < l.rts.length ∧ (nth rs r).mode = 1 ∧ x ∈ nd (nth l.rts r) ∧ x.pt = (q : Int) ∧ z = pos x ∧ ¬ nth ls q = z ∧ nth os (nth l.pts q).sec.toNat = false ∧ (hol l rs (nth l.pts q).sec < 0 ∨ hol l rs (nth l.pts q).sec = (r : Int))
def DrOk (l : Lo) (rs : List Rst) (os : List Bool) (ls : List Int) (zs : List Int) : Prop := zs.length = l.pts.length ∧ ∀ q, q < l.pts.length → nth zs q = 0 ∨ DrAt l rs os ls q (nth zs q)
theorem DrOk.put {l : Lo} {rs : List Rst} {os : List Bool} {ls zs : List Int} (h : DrOk l rs os ls zs) {q : Nat} {z : Int} (hz : DrAt l rs os ls q z) : DrOk l rs os ls (zs.set q z) := by
  refine ⟨by simp [h.1], fun k hk => ?_⟩
  by_cases hq : q = k
  · subst hq
    right
    have : nth (zs.set q z) q = z := by simp [nth, h.1, hk]
    rw [this]; exact hz
  · have : nth (zs.set q z) k = nth zs k := by simp [nth, List.getD, List.getElem?_set, hq]
    rw [this]; exact h.2 k hk
/-- Rounds of a function. -/
def it {α : Type} (f : Nat → α → α) (z : α) : Nat → α
  | 0 => z
  | i + 1 => f i (it f z i)
theorem it_ind {α : Type} {f : Nat → α → α} {z : α} {P : α → Prop} (h0 : P z) : ∀ n, (∀ i x, i < n → P x → P (f i x)) → P (it f z n)
  | 0, _ => h0
  | n + 1, h => h n _ (by omega) (it_ind h0 n fun i x hi => h i x (by omega))
theorem it_congr {α : Type} {f g : Nat → α → α} {z : α} : ∀ n, (∀ i x, i < n → f i x = g i x) → it f z n = it g z n
  | 0, _ => rfl
  | n + 1, h => by
    show f n (it f z n) = g n (it g z n)
    rw [it_congr n fun i x hi => h i x (by omega), h n _ (by omega)]
/-- Is a need of a route driven? -/
def drC (l : Lo) (rs : List Rst) (os : List Bool) (ls : List Int) (r : Nat) (x : Need) : Prop := ¬ nth ls x.pt.toNat = pos x ∧ nth os (nth l.pts x.pt.toNat).sec.toNat = false ∧ (hol l rs (nth l.pts x.pt.toNat).sec < 0 ∨ hol l rs (nth l.pts x.pt.toNat).sec = (r : Int))
noncomputable def drN (l : Lo) (rs : List Rst) (os : List Bool) (ls : List Int) (r : Nat) (i : Nat) (zs : List Int) : List Int := bif dec (drC l rs os ls r (nth (nd (nth l.rts r)) i)) then zs.set (nth (nd (nth l.rts r)) i).pt.toNat (pos (nth (nd (nth l.rts r)) i)) else zs
noncomputable def drR (l : Lo) (rs : List Rst) (os : List Bool) (ls : List Int) (r : Nat) (zs : List Int) : List Int := bif dec ((nth rs r).mode = 1) then it (drN l rs os ls r) zs (nd (nth l.rts r)).length else zs
/-- What points are driven. -/
noncomputable def drF (l : Lo) (rs : List Rst) (os : List Bool) (ls : List Int) : List Int := it (drR l rs os ls) (List.replicate l.pts.length 0) l.rts.length
theorem drN_len {l : Lo} {rs : List Rst} {os : List Bool} {ls : List Int} {r i : Nat} {zs : List Int} : (drN l rs os ls r i zs).length = zs.length := by
  unfold drN; cases dec _ <;> simp
theorem drF_ok {l : Lo} (is : ISL l) {rs : List Rst} {os : List Bool} {ls : List Int} : DrOk l rs os ls (drF l rs os ls) := by
  refine it_ind (P := DrOk l rs os ls) ⟨by simp, fun q hq => .inl (by simp [nth, hq])⟩ _ fun r x hr hx => ?_
  unfold drR
  by_cases hm : (nth rs r).mode = 1
  · rw [dec_t hm]
    refine it_ind (P := DrOk l rs os ls) hx _ fun i y hi hy => ?_
    unfold drN
    have hmem := nth_mem hi
    generalize nth (nd (nth l.rts r)) i = w at *
    by_cases hc : drC l rs os ls r w
    · rw [dec_t hc]
      obtain ⟨e1, e2, e3⟩ := hc
      exact hy.put ⟨r, w, hr, hm, hmem, by have := (nd_in is hr hmem).1; omega, rfl, e1, e2, e3⟩
    · rw [dec_f hc]; exact hy
  · rw [dec_f hm]; exact hx
structure ID1 (p : Nat) (l : Lo) (rs : List Rst) (os : List Bool) (ls : List Int) (ov lv nv : IV) (sb xr : DV) (a : Nat) (H1 : PT HB) (n0 r : Nat) (z0 : List Int) (i : Nat) (zs : List Int) (st : St) : Prop where
  h0 : st.T.get 0 = some (.ptr p 0 0)
  b4 : BoxD st 4 [.imm ov, .imm lv]
  b5 : BoxD st 5 [.sl a 0 l.pts.length l.pts.length, sb]
  h6 : st.T.get 6 = some (.imm (.int .i64 r))
  h15 : st.T.get 15 = some xr
  h16 : st.T.get 16 = some (.imm (.int .i64 l.rts.length))
  h17 : st.T.get 17 = some (.imm (.int .i64 r))
  h30 : st.T.get 30 = some (.imm nv)
  h31 : st.T.get 31 = some (.imm (.int .i64 (nd (nth l.rts r)).length))
  h32 : st.T.get 32 = some (.imm (.int .i64 i))
  ha : st.H.get a = some ⟨1, zs.map rowI⟩
  fr : ∀ j, j ≠ a → st.H.get j = H1.get j
  hn : n0 ≤ st.n
  dr : zs.length = l.pts.length ∧ zs = it (drN l rs os ls r) z0 i
theorem loopD1 {d : Nat} (hd : 9 ≤ d) {p : Nat} {own : List Nat} {l : Lo} {rs : List Rst} (ok : LoOk l) (is : ISL l) {H1 : PT HB} (lk : LkAt H1 p own l rs) (go : GoneOk l rs) {ov lv : IV} {os : List Bool} {ls : List Int} (io : InOk ov lv os ls) (mi : MI l os ls) {a n0 : Nat} (hna : a ∉ p :: own) {sb : DV}
    {r : Nat} (hr : r < l.rts.length) (hm : (nth rs r).mode = 1) {nv : IV} (hv : Sl 2 nv ((nd (nth l.rts r)).map ivN)) {xr : DV} {z0 : List Int} {ks : List Kf} {st : St} {Q : Ex → St → Prop} (h : ID1 p l rs os ls ov lv nv sb xr a H1 n0 r z0 0 z0 st)
    (hk : ∀ st' zs', ID1 p l rs os ls ov lv nv sb xr a H1 n0 r z0 (nd (nth l.rts r)).length zs' st' → Bk DG (K DG d) 0 (.exit 2) ks st' Q) : Wp DG (K DG d) 0 D.l40_1 ks st Q := by
  have hrb := rb3
  obtain ⟨d, rfl⟩ : ∃ d', d = d' + 1 := ⟨d - 1, by omega⟩
  have hnl : (nd (nth l.rts r)).length ≤ reachBytes := by have := is.few r hr; simp [nd]; omega
  have p5 := is.p2
  refine dw_loop (N := (nd (nth l.rts r)).length) (small hnl) (fun i st => ∃ ws, ID1 p l rs os ls ov lv nv sb xr a H1 n0 r z0 i ws st) (fun e st' => e = .exit 2 ∧ ∃ ws, ID1 p l rs os ls ov lv nv sb xr a H1 n0 r z0 (nd (nth l.rts r)).length ws st') (fun i st hle hI => ?_) ⟨z0, h⟩ (fun e s' h => by obtain ⟨rfl, zs, h⟩ := h; exact hk s' zs h)
  obtain ⟨zs, g0, ⟨i4, g4, L4⟩, ⟨i5, g5, L5⟩, g6, g15, g16, g17, g30, g31, g32, ha, fr, hn, dr⟩ := hI
  have lk1 : LkAt st.H p own l rs := lk.mono fun j hj => fr j fun e => hna (e ▸ hj)
  have lk0 := lk1
  obtain ⟨x, h1, h2, h3, h4⟩ := lk1
  by_cases hi : i < (nd (nth l.rts r)).length
  · have hi1 : (i : Int) < (nd (nth l.rts r)).length := by omega
    have hi' := ilt_t hi1
    have hw8 : IntKind.i64.wrap ((i : Int) + 1) = (i : Int) + 1 := wr_succ hi hnl
    have ix := fun {h : Nat → Option HB} {n : Nat} => idx_sl (h := h) (n := n) hv (by omega) (k := .i64) (z := (i : Int)) (by omega) hi1
    have hmem := nth_mem hi
    simp only [Int.toNat_natCast] at ix
    generalize hgx : nth (nd (nth l.rts r)) i = y at *
    have hpt := nd_in is hr hmem
    have hsec := sec_in is hr hmem
    have ip := fun {h : Nat → Option HB} {n : Nat} => idx_in (h := h) (n := n) ok.p (by omega) (k := .i64) (z := y.pt) hpt
    have io' := fun {h : Nat → Option HB} {n : Nat} => idx_in (h := h) (n := n) io.o (by omega) (k := .i64) (z := secOf l y) (by rw [mi.1]; exact hsec)
    have hl := lies_bl (D := d + 1) (by omega) io (x := y) (by rw [mi.2.1]; exact hpt)
    have hpo := position_bl (D := d + 1) (by omega) y.pt y.rev
    have ho := fun n lo => Holder_run (d := d) (by omega) ok lk0 go is.p5 (secOf l y) (n := n) (lo := lo)
    have iy := fun {n : Nat} => idx_hp (h := st.H.get) (n := n) (id := a) (row := 0) (len := l.pts.length) (cap := l.pts.length) ha rfl (k := .i64) (z := y.pt) hpt.1 hpt.2
    have hlt : y.pt.toNat < (zs.map rowI).length := by have := hpt.1; have := hpt.2; simp [dr.1]; omega
    have hrow : (zs.map rowI)[y.pt.toNat]? = some (rowI (nth zs y.pt.toNat)) := by
      rw [List.getElem?_map, nth_get (by simpa using hlt)]; rfl
    have hset : (zs.map rowI).set y.pt.toNat (rowI (pos y)) = (zs.set y.pt.toNat (pos y)).map rowI := by simp [List.map_set]
    have dr' := dr
    have hput : drC l rs os ls r y → (zs.set y.pt.toNat (pos y)).length = l.pts.length ∧ zs.set y.pt.toNat (pos y) = it (drN l rs os ls r) z0 (i + 1) := fun e =>
      ⟨by simp [dr.1], by show _ = drN l rs os ls r i (it (drN l rs os ls r) z0 i); rw [← dr.2]; unfold drN; rw [hgx, dec_t e]; rfl⟩
    have hkeep : ¬ drC l rs os ls r y → zs.length = l.pts.length ∧ zs = it (drN l rs os ls r) z0 (i + 1) := fun e =>
      ⟨dr.1, by show _ = drN l rs os ls r i (it (drN l rs os ls r) z0 i); rw [← dr.2]; unfold drN; rw [hgx, dec_f e]; rfl⟩
    generalize hws : zs.set y.pt.toNat (pos y) = ws at hset hput
    obtain ⟨n2, e2, hn2⟩ := ho (st.n + 1) (st.n + 1)
    simp only [secOf] at io' e2
    generalize hrr : zs.map rowI = rows at ha hrow hlt hset
    simp only [Nat.zero_add] at iy
    generalize hQ : (fun (e : Ex) (s' : St) => _) = Q'
    simp only [D.l40_1b]
    by_cases hly : nth ls y.pt.toNat = pos y
    · rw [dec_t hly] at hl
      have dr := hkeep fun e => e.1 hly
      simp [g0, g4, L4, g5, L5, g6, g15, g16, g17, g30, g31, g32, hi', hw8, ix, ip, h1, hl, e2, ivN, ivP, io.o.scal, io.l.scal, B6, undT, fnEnd, argsT, PT.get_put, keep, opRun, ev, evs, evO, give, giveI, binOf, isNilK, PM.flip, putT, putL, putH, loadOf, storeOf, cut, over, ofCells, asNat, natOr, calm, clashes, Acc.clash, ressOf, resOf, frz, frz.frzs, DV.flat, DV.flat.flats, imms]
      subst hQ
      exact .inl ⟨rfl, hi, zs, by simp [PT.get_put], ⟨i4, by simp [PT.get_put], by simp [PT.get_put]⟩, ⟨i5, by simp [PT.get_put], by simp [PT.get_put]⟩, by simp [PT.get_put], by simp [PT.get_put], by simp [PT.get_put], by simp [PT.get_put], by simp [PT.get_put], by simp [PT.get_put], by simp [PT.get_put], by rw [hrr]; exact ha, fr, by simp; omega, dr⟩
    · rw [dec_f hly] at hl
      cases hoc : nth os (nth l.pts y.pt.toNat).sec.toNat with
      | true =>
        have dr := hkeep fun e => by rw [e.2.1] at hoc; cases hoc
        simp [g0, g4, L4, g5, L5, g6, g15, g16, g17, g30, g31, g32, hi', hw8, ix, ip, io', hoc, h1, hl, e2, ivN, ivP, ivB1, io.o.scal, io.l.scal, B6, undT, fnEnd, argsT, PT.get_put, keep, opRun, ev, evs, evO, give, giveI, binOf, isNilK, PM.flip, putT, putL, putH, loadOf, storeOf, cut, over, ofCells, asNat, natOr, calm, clashes, Acc.clash, ressOf, resOf, frz, frz.frzs, DV.flat, DV.flat.flats, imms]
        subst hQ
        exact .inl ⟨rfl, hi, zs, by simp [PT.get_put], ⟨i4, by simp [PT.get_put], by simp [PT.get_put]⟩, ⟨i5, by simp [PT.get_put], by simp [PT.get_put]⟩, by simp [PT.get_put], by simp [PT.get_put], by simp [PT.get_put], by simp [PT.get_put], by simp [PT.get_put], by simp [PT.get_put], by simp [PT.get_put], by rw [hrr]; exact ha, fr, by simp; omega, dr⟩
      | false =>
        by_cases hho : hol l rs (nth l.pts y.pt.toNat).sec < 0
        · have hj := ilt_t hho
          have hd := hput ⟨hly, hoc, .inl hho⟩
          simp [g0, g4, L4, g5, L5, g6, g15, g16, g17, g30, g31, g32, hi', hw8, ix, ip, io', iy, ha, hrow, hpo, hoc, h1, hl, e2, hj, ivN, ivP, ivB1, rowI, io.o.scal, io.l.scal, evParts, lay, B6, undT, fnEnd, argsT, PT.get_put, keep, opRun, ev, evs, evO, give, giveI, binOf, isNilK, PM.flip, putT, putL, putH, loadOf, storeOf, cut, over, ofCells, asNat, natOr, calm, clashes, Acc.clash, ressOf, resOf, frz, frz.frzs, DV.flat, DV.flat.flats, imms]
          subst hQ
          refine .inl ⟨rfl, hi, ws, by simp [PT.get_put], ⟨i4, by simp [PT.get_put], by simp [PT.get_put]⟩, ⟨i5, by simp [PT.get_put], by simp [PT.get_put]⟩, by simp [PT.get_put], by simp [PT.get_put], by simp [PT.get_put], by simp [PT.get_put], by simp [PT.get_put], by simp [PT.get_put], by simp [PT.get_put], ?_, ?_, by simp; omega, hd⟩
          · rw [← hset]; simp [PT.get_put, rowI]
          · intro j hj; simp [PT.get_put, hj]; exact fr j hj
        · have hj := ilt_f (show 0 ≤ hol l rs (nth l.pts y.pt.toNat).sec by omega)
          by_cases hhr : hol l rs (nth l.pts y.pt.toNat).sec = (r : Int)
          · have hd := hput ⟨hly, hoc, .inr hhr⟩
            simp [g0, g4, L4, g5, L5, g6, g15, g16, g17, g30, g31, g32, hi', hw8, ix, ip, io', iy, ha, hrow, hpo, hoc, h1, hl, e2, hj, hhr, ivN, ivP, ivB1, rowI, io.o.scal, io.l.scal, evParts, lay, B6, undT, fnEnd, argsT, PT.get_put, keep, opRun, ev, evs, evO, give, giveI, binOf, isNilK, PM.flip, putT, putL, putH, loadOf, storeOf, cut, over, ofCells, asNat, natOr, calm, clashes, Acc.clash, ressOf, resOf, frz, frz.frzs, DV.flat, DV.flat.flats, imms]
            subst hQ
            refine .inl ⟨rfl, hi, ws, by simp [PT.get_put], ⟨i4, by simp [PT.get_put], by simp [PT.get_put]⟩, ⟨i5, by simp [PT.get_put], by simp [PT.get_put]⟩, by simp [PT.get_put], by simp [PT.get_put], by simp [PT.get_put], by simp [PT.get_put], by simp [PT.get_put], by simp [PT.get_put], by simp [PT.get_put], ?_, ?_, by simp; omega, hd⟩
            · rw [← hset]; simp [PT.get_put, rowI]
            · intro j hj; simp [PT.get_put, hj]; exact fr j hj
          · have dr := hkeep fun e => e.2.2.elim hho hhr
            simp [g0, g4, L4, g5, L5, g6, g15, g16, g17, g30, g31, g32, hi', hw8, ix, ip, io', hoc, h1, hl, e2, hj, hhr, ivN, ivP, ivB1, io.o.scal, io.l.scal, B6, undT, fnEnd, argsT, PT.get_put, keep, opRun, ev, evs, evO, give, giveI, binOf, isNilK, PM.flip, putT, putL, putH, loadOf, storeOf, cut, over, ofCells, asNat, natOr, calm, clashes, Acc.clash, ressOf, resOf, frz, frz.frzs, DV.flat, DV.flat.flats, imms]
            subst hQ
            exact .inl ⟨rfl, hi, zs, by simp [PT.get_put], ⟨i4, by simp [PT.get_put], by simp [PT.get_put]⟩, ⟨i5, by simp [PT.get_put], by simp [PT.get_put]⟩, by simp [PT.get_put], by simp [PT.get_put], by simp [PT.get_put], by simp [PT.get_put], by simp [PT.get_put], by simp [PT.get_put], by simp [PT.get_put], by rw [hrr]; exact ha, fr, by simp; omega, dr⟩
  · obtain rfl : i = (nd (nth l.rts r)).length := by omega
    generalize hQ : (fun (e : Ex) (s' : St) => _) = Q'
    simp only [D.l40_1b]
    simp [g0, g4, L4, g5, L5, g6, g15, g16, g17, g30, g31, g32, B6, undT, fnEnd, argsT, PT.get_put, keep, opRun, ev, evs, evO, give, giveI, binOf, isNilK, PM.flip, putT, putL, putH, loadOf, storeOf, cut, over, ofCells, asNat, natOr, calm, clashes, Acc.clash, ressOf, resOf, frz, frz.frzs, DV.flat, DV.flat.flats, imms]
    subst hQ
    exact .inr ⟨nofun, rfl, zs, by simp [PT.get_put, g0], ⟨i4, by simp [PT.get_put, g4], by simp [PT.get_put, L4]⟩, ⟨i5, by simp [PT.get_put, g5], by simp [PT.get_put, L5]⟩, by simp [PT.get_put, g6], by simp [PT.get_put, g15], by simp [PT.get_put, g16], by simp [PT.get_put, g17], by simp [PT.get_put, g30], by simp [PT.get_put, g31], by simp [PT.get_put, g32], ha, fr, hn, dr⟩
end Go.Proofs.YtkgjgehffijepaaDoor.D

-- K12
set_option linter.unusedVariables false
set_option linter.unusedSimpArgs false
set_option maxHeartbeats 16000000
namespace Go.Proofs.YtkgjgehffijepaaDoor.D
open Go Go.PM Go.Lib
structure ID0 (p : Nat) (l : Lo) (rs : List Rst) (os : List Bool) (ls : List Int) (ov lv : IV) (sb xr : DV) (a : Nat) (H1 : PT HB) (n0 : Nat) (i : Nat) (zs : List Int) (st : St) : Prop where
  h0 : st.T.get 0 = some (.ptr p 0 0)
  b4 : BoxD st 4 [.imm ov, .imm lv]
  b5 : BoxD st 5 [.sl a 0 l.pts.length l.pts.length, sb]
  h15 : st.T.get 15 = some xr
  h16 : st.T.get 16 = some (.imm (.int .i64 l.rts.length))
  h17 : st.T.get 17 = some (.imm (.int .i64 i))
  ha : st.H.get a = some ⟨1, zs.map rowI⟩
  fr : ∀ j, j ≠ a → st.H.get j = H1.get j
  hn : n0 ≤ st.n
  dr : zs.length = l.pts.length ∧ zs = it (drR l rs os ls) (List.replicate l.pts.length 0) i
theorem loopD0 {d : Nat} (hd : 9 ≤ d) {p : Nat} {own : List Nat} {l : Lo} {rs : List Rst} (ok : LoOk l) (is : ISL l) {H1 : PT HB} {xr : DV} (hp : H1.get p = some ⟨5, [[.imm l.sv, .imm l.pv, .imm l.gv, .imm l.rv, xr]]⟩) (hr0 : RsAt H1 xr own rs) (hpo : p ∉ own) (hrl : rs.length = l.rts.length) (go : GoneOk l rs) {ov lv : IV} {os : List Bool} {ls : List Int} (io : InOk ov lv os ls) (mi : MI l os ls) {a n0 : Nat} (hna : a ∉ p :: own) {sb : DV}
    {zs : List Int} {ks : List Kf} {st : St} {Q : Ex → St → Prop} (h : ID0 p l rs os ls ov lv sb xr a H1 n0 0 zs st)
    (hk : ∀ st' zs', ID0 p l rs os ls ov lv sb xr a H1 n0 l.rts.length zs' st' → Bk DG (K DG d) 0 (.exit 0) ks st' Q) : Wp DG (K DG d) 0 D.l40_0 ks st Q := by
  have hrb := rb3
  have lk : LkAt H1 p own l rs := ⟨xr, hp, hr0, hpo, hrl⟩
  refine dw_loop (N := l.rts.length) (small ok.lr) (fun i st => ∃ zs, ID0 p l rs os ls ov lv sb xr a H1 n0 i zs st) (fun e st' => e = .exit 0 ∧ ∃ zs, ID0 p l rs os ls ov lv sb xr a H1 n0 l.rts.length zs st') (fun i st hle hI => ?_) ⟨zs, h⟩ (fun e s' h => by obtain ⟨rfl, zs, h⟩ := h; exact hk s' zs h)
  obtain ⟨zs, g0, ⟨i4, g4, L4⟩, ⟨i5, g5, L5⟩, g15, g16, g17, ha, fr, hn, dr⟩ := hI
  by_cases hi : i < l.rts.length
  · have hi1 : (i : Int) < l.rts.length := by omega
    have hi' := ilt_t hi1
    have hw8 : IntKind.i64.wrap ((i : Int) + 1) = (i : Int) + 1 := wr_succ hi ok.lr
    obtain ⟨id, rfl, rfl, hrs⟩ := hr0.sl (by omega)
    have hap : ¬ p = a := fun e => hna (by simp [e])
    have hia : ¬ id = a := fun e => hna (by simp [e])
    have hrs' : st.H.get id = some ⟨4, rs.map rowRS⟩ := by rw [fr id hia]; exact hrs
    have hp' := hp
    rw [← fr p hap] at hp'
    obtain ⟨nv, en, hv⟩ := Needs_bl (D := d) (by omega) ok hi (is.few i hi).1 (is.few i hi).2
    have vl := hv.len
    simp only [List.length_map] at vl
    have iy := fun {n : Nat} => idx_hp (h := st.H.get) (n := n) (id := id) (row := 0) (len := rs.length) (cap := rs.length) hrs' rfl (k := .i64) (z := (i : Int)) (by omega) (by omega)
    have hrow : (rs.map rowRS)[i]? = some (rowRS (nth rs i)) := by rw [List.getElem?_map, nth_get (by omega)]; rfl
    generalize hrr : rs.map rowRS = rows at hrs' hrow
    simp only [Int.toNat_natCast, Nat.zero_add] at iy
    generalize hQ : (fun (e : Ex) (s' : St) => _) = Q'
    simp only [D.l40_0b]
    by_cases hm : (nth rs i).mode = 1
    · simp [g0, g4, L4, g5, L5, g15, g16, g17, hi', hw8, iy, hp', hrs', hrow, hm, en, vl, rowRS, evParts, lay, B6, undT, fnEnd, argsT, PT.get_put, keep, opRun, ev, evs, evO, give, giveI, binOf, isNilK, PM.flip, putT, putL, putH, loadOf, storeOf, cut, over, ofCells, asNat, natOr, calm, clashes, Acc.clash, ressOf, resOf, frz, frz.frzs, DV.flat, DV.flat.flats, imms]
      refine loopD1 (n0 := n0) (H1 := H1) (nv := nv) (ov := ov) (lv := lv) (sb := sb) (a := a) (xr := .sl id 0 rs.length rs.length) (z0 := zs) hd ok is lk go io mi hna hi hm hv ⟨by simp [PT.get_put], ⟨i4, by simp [PT.get_put], by simp [PT.get_put]⟩, ⟨i5, by simp [PT.get_put], by simp [PT.get_put]⟩, by simp [PT.get_put], by simp [PT.get_put], by simp [PT.get_put], by simp [PT.get_put], by simp [PT.get_put], by simp [PT.get_put], by simp [PT.get_put], ha, fr, by simp; omega, dr.1, rfl⟩ ?_
      rintro s2 ws ⟨f0, ⟨j4, f4, M4⟩, ⟨j5, f5, M5⟩, f6, f15, f16, f17, f30, f31, f32, fa, ffr, fn, fdr⟩
      simp [f0, f4, M4, f5, M5, f6, f15, f16, f17, f30, f31, f32, hw8, B6, undT, fnEnd, argsT, PT.get_put, keep, opRun, ev, evs, evO, give, giveI, binOf, isNilK, PM.flip, putT, putL, putH, loadOf, storeOf, cut, over, ofCells, asNat, natOr, calm, clashes, Acc.clash, ressOf, resOf, frz, frz.frzs, DV.flat, DV.flat.flats, imms]
      subst hQ
      exact .inl ⟨rfl, hi, ws, by simp [PT.get_put, f0], ⟨j4, by simp [PT.get_put, f4], by simp [PT.get_put, M4]⟩, ⟨j5, by simp [PT.get_put, f5], by simp [PT.get_put, M5]⟩, by simp [PT.get_put, f15], by simp [PT.get_put, f16], by simp [PT.get_put], fa, ffr, fn, fdr.1, by show _ = drR l rs os ls i (it (drR l rs os ls) _ i); rw [← dr.2]; unfold drR; rw [dec_t hm]; exact fdr.2⟩
    · simp [g0, g4, L4, g5, L5, g15, g16, g17, hi', hw8, iy, hp', hrs', hrow, hm, rowRS, evParts, lay, B6, undT, fnEnd, argsT, PT.get_put, keep, opRun, ev, evs, evO, give, giveI, binOf, isNilK, PM.flip, putT, putL, putH, loadOf, storeOf, cut, over, ofCells, asNat, natOr, calm, clashes, Acc.clash, ressOf, resOf, frz, frz.frzs, DV.flat, DV.flat.flats, imms]
      subst hQ
      exact .inl ⟨rfl, hi, zs, by simp [PT.get_put], ⟨i4, by simp [PT.get_put], by simp [PT.get_put]⟩, ⟨i5, by simp [PT.get_put], by simp [PT.get_put]⟩, by simp [PT.get_put], by simp [PT.get_put], by simp [PT.get_put], ha, fr, by simp; omega, dr.1, by show _ = drR l rs os ls i (it (drR l rs os ls) _ i); rw [← dr.2]; unfold drR; rw [dec_f hm]; rfl⟩
  · obtain rfl : i = l.rts.length := by omega
    generalize hQ : (fun (e : Ex) (s' : St) => _) = Q'
    simp only [D.l40_0b]
    simp [g0, g4, L4, g5, L5, g15, g16, g17, B6, undT, fnEnd, argsT, PT.get_put, keep, opRun, ev, evs, evO, give, giveI, binOf, isNilK, PM.flip, putT, putL, putH, loadOf, storeOf, cut, over, ofCells, asNat, natOr, calm, clashes, Acc.clash, ressOf, resOf, frz, frz.frzs, DV.flat, DV.flat.flats, imms]
    subst hQ
    exact .inr ⟨nofun, rfl, zs, by simp [PT.get_put, g0], ⟨i4, by simp [PT.get_put, g4], by simp [PT.get_put, L4]⟩, ⟨i5, by simp [PT.get_put, g5], by simp [PT.get_put, L5]⟩, by simp [PT.get_put, g15], by simp [PT.get_put, g16], by simp [PT.get_put, g17], ha, fr, hn, dr⟩
theorem drives_run {d : Nat} (hd : 9 ≤ d) {H : PT HB} {p : Nat} {own : List Nat} {l : Lo} {rs : List Rst} (ok : LoOk l) (is : ISL l) (lk : LkAt H p own l rs) (go : GoneOk l rs) {ov lv : IV} {os : List Bool} {ls : List Int} (io : InOk ov lv os ls) (mi : MI l os ls) {a b c n : Nat} (hna : a ∉ p :: own) (ha : H.get a = some ⟨1, (List.replicate l.pts.length 0).map rowI⟩) :
    Fe (K DG (d + 1) 40 [.ptr p 0 0, inD ov lv, .agg [.sl a 0 l.pts.length l.pts.length, .sl b 0 c c]] H n 0) (fun v H' n' => n ≤ n' ∧ (∀ j, j ≠ a → H'.get j = H.get j) ∧ H'.get a = some ⟨1, (drF l rs os ls).map rowI⟩) := by
  obtain ⟨x, h1, h2, h3, h4⟩ := lk
  have xl := h2.len
  rw [h4] at xl
  rw [D.k40]
  refine fn_dw rfl ?_
  simp [io.o.scal, io.l.scal, h1, xl, B6, undT, fnEnd, argsT, PT.get_put, keep, opRun, ev, evs, evO, give, giveI, binOf, isNilK, PM.flip, putT, putL, putH, loadOf, storeOf, cut, over, ofCells, asNat, natOr, calm, clashes, Acc.clash, ressOf, resOf, frz, frz.frzs, DV.flat, DV.flat.flats, imms]
  refine loopD0 (n0 := n) (H1 := H) (ov := ov) (lv := lv) (sb := .sl b 0 c c) (a := a) (xr := x) (zs := List.replicate l.pts.length 0) hd ok is h1 h2 h3 h4 go io mi hna ⟨by simp [PT.get_put], ⟨n, by simp [PT.get_put], by simp [PT.get_put]⟩, ⟨n + 1, by simp [PT.get_put], by simp [PT.get_put]⟩, by simp [PT.get_put], by simp [PT.get_put], by simp [PT.get_put], ha, fun j hj => rfl, by simp; omega, by simp, rfl⟩ ?_
  rintro s2 ws ⟨f0, ⟨j4, f4, M4⟩, ⟨j5, f5, M5⟩, f15, f16, f17, fa, ffr, fn, fdr⟩
  simp [f0, f4, M4, f5, M5, f15, f16, f17, B6, undT, fnEnd, argsT, PT.get_put, keep, opRun, ev, evs, evO, give, giveI, binOf, isNilK, PM.flip, putT, putL, putH, loadOf, storeOf, cut, over, ofCells, asNat, natOr, calm, clashes, Acc.clash, ressOf, resOf, frz, frz.frzs, DV.flat, DV.flat.flats, imms]
  exact ⟨fn, fun j hj => ffr j hj, by rw [fdr.2] at fa; exact fa⟩
end Go.Proofs.YtkgjgehffijepaaDoor.D

-- K13
set_option linter.unusedVariables false
set_option linter.unusedSimpArgs false
set_option maxHeartbeats 16000000
namespace Go.Proofs.YtkgjgehffijepaaDoor.D
open Go Go.PM Go.Lib
def rowB (z : Bool) : List DV := [.imm (.bool z)]
def PrAt (l : Lo) (rs : List Rst) (os : List Bool) (ls : List Int) (s : Nat) : Prop := ∃ r, r < l.rts.length ∧ (nth rs r).mode = 2 ∧ (nth l.rts r).fr = (s : Int) ∧ (¬ ∃ z ∈ (nth l.rts r).path, nth os z.toNat = true) ∧ Lie l ls r
def PrOk (l : Lo) (rs : List Rst) (os : List Bool) (ls : List Int) (bs : List Bool) : Prop := bs.length = l.sigs.length ∧ ∀ s, s < l.sigs.length → nth bs s = true → PrAt l rs os ls s
theorem PrOk.put {l : Lo} {rs : List Rst} {os : List Bool} {ls : List Int} {bs : List Bool} (h : PrOk l rs os ls bs) {q : Nat} (hz : PrAt l rs os ls q) : PrOk l rs os ls (bs.set q true) := by
  refine ⟨by simp [h.1], fun k hk ht => ?_⟩
  by_cases hq : q = k
  · subst hq; exact hz
  · have : nth (bs.set q true) k = nth bs k := by simp [nth, List.getD, List.getElem?_set, hq]
    rw [this] at ht
    exact h.2 k hk ht
def prC (l : Lo) (rs : List Rst) (os : List Bool) (ls : List Int) (r : Nat) : Prop := (nth rs r).mode = 2 ∧ (¬ ∃ z ∈ (nth l.rts r).path, nth os z.toNat = true) ∧ Lie l ls r
noncomputable def prR (l : Lo) (rs : List Rst) (os : List Bool) (ls : List Int) (r : Nat) (bs : List Bool) : List Bool := bif dec (prC l rs os ls r) then bs.set (nth l.rts r).fr.toNat true else bs
/-- What signals proceed. -/
noncomputable def prF (l : Lo) (rs : List Rst) (os : List Bool) (ls : List Int) : List Bool := it (prR l rs os ls) (List.replicate l.sigs.length false) l.rts.length
theorem prF_ok {l : Lo} (is : ISL l) {rs : List Rst} {os : List Bool} {ls : List Int} : PrOk l rs os ls (prF l rs os ls) := by
  refine it_ind (P := PrOk l rs os ls) ⟨by simp, fun s hs h => by simp [nth, hs] at h⟩ _ fun r x hr hx => ?_
  unfold prR
  by_cases hm : prC l rs os ls r
  · rw [dec_t hm]
    have hfr := (is.rr r hr).fr
    exact hx.put ⟨r, hr, hm.1, by have := hfr.1; omega, hm.2.1, hm.2.2⟩
  · rw [dec_f hm]; exact hx
structure ICp (p : Nat) (l : Lo) (rs : List Rst) (os : List Bool) (ls : List Int) (ov lv : IV) (sa xr : DV) (b : Nat) (H1 : PT HB) (n0 : Nat) (i : Nat) (bs : List Bool) (st : St) : Prop where
  h0 : st.T.get 0 = some (.ptr p 0 0)
  b3 : BoxD st 3 [.imm ov, .imm lv]
  b4 : BoxD st 4 [.imm .nils, .imm .nils]
  b5 : BoxD st 5 [sa, .sl b 0 l.sigs.length l.sigs.length]
  h50 : st.T.get 50 = some xr
  h51 : st.T.get 51 = some (.imm (.int .i64 l.rts.length))
  h52 : st.T.get 52 = some (.imm (.int .i64 i))
  hb : st.H.get b = some ⟨1, bs.map rowB⟩
  fr : ∀ j, j ≠ b → st.H.get j = H1.get j
  hn : n0 ≤ st.n
  pr : bs.length = l.sigs.length ∧ bs = it (prR l rs os ls) (List.replicate l.sigs.length false) i
theorem loopCy1 {d : Nat} (hd : 9 ≤ d) {p : Nat} {own : List Nat} {l : Lo} {rs : List Rst} (ok : LoOk l) (is : ISL l) {H1 : PT HB} {xr : DV} (hp : H1.get p = some ⟨5, [[.imm l.sv, .imm l.pv, .imm l.gv, .imm l.rv, xr]]⟩) (hr0 : RsAt H1 xr own rs) (hpo : p ∉ own) (hrl : rs.length = l.rts.length) {ov lv : IV} {os : List Bool} {ls : List Int} (io : InOk ov lv os ls) (mi : MI l os ls) {b n0 : Nat} (hnb : b ∉ p :: own) (hpn : p < n0) {a c : Nat}
    {bs : List Bool} {ks : List Kf} {st : St} {Q : Ex → St → Prop} (h : ICp p l rs os ls ov lv (.sl a 0 c c) xr b H1 n0 0 bs st)
    (hk : ∀ st' bs', ICp p l rs os ls ov lv (.sl a 0 c c) xr b H1 n0 l.rts.length bs' st' → Bk DG (K DG d) 0 (.exit 2) ks st' Q) : Wp DG (K DG d) 0 D.l15_1 ks st Q := by
  have hrb := rb3
  obtain ⟨d, rfl⟩ : ∃ d', d = d' + 1 := ⟨d - 1, by omega⟩
  have g6 := is.g2
  refine dw_loop (N := l.rts.length) (small ok.lr) (fun i st => ∃ bs, ICp p l rs os ls ov lv (.sl a 0 c c) xr b H1 n0 i bs st) (fun e st' => e = .exit 2 ∧ ∃ bs, ICp p l rs os ls ov lv (.sl a 0 c c) xr b H1 n0 l.rts.length bs st') (fun i st hle hI => ?_) ⟨bs, h⟩ (fun e s' h => by obtain ⟨rfl, bs, h⟩ := h; exact hk s' bs h)
  obtain ⟨bs, g0, ⟨i3, g3, L3⟩, ⟨i4, g4, L4⟩, ⟨i5, g5, L5⟩, g50, g51, g52, hb, fr, hn, pr⟩ := hI
  by_cases hi : i < l.rts.length
  · have hi1 : (i : Int) < l.rts.length := by omega
    have hi' := ilt_t hi1
    have hw8 : IntKind.i64.wrap ((i : Int) + 1) = (i : Int) + 1 := wr_succ hi ok.lr
    have lk : LkAt H1 p own l rs := ⟨xr, hp, hr0, hpo, hrl⟩
    have lk1 : LkAt st.H p own l rs := lk.mono fun j hj => fr j fun e => hnb (e ▸ hj)
    obtain ⟨id, rfl, rfl, hrs⟩ := hr0.sl (by omega)
    have hbp : ¬ p = b := fun e => hnb (by simp [e])
    have hib : ¬ id = b := fun e => hnb (by simp [e])
    have hrs' : st.H.get id = some ⟨4, rs.map rowRS⟩ := by rw [fr id hib]; exact hrs
    have hp' := hp
    rw [← fr p hbp] at hp'
    have rk := ok.or _ (nth_mem hi)
    have hfr := (is.rr i hi).fr
    obtain ⟨n2, Ha, ea, hn2⟩ := allLie_run (d := d) (by omega) ok is lk1 io mi hi (n := st.n + 1 + 1) (lo := st.n + 1 + 1) (by omega)
    have oc := isOcc_bl (D := d + 1) (by omega) io rk.p rk.lp fun z hz => by rw [mi.1]; exact path_in is hi hz
    have ix := fun {h : Nat → Option HB} {n : Nat} => idx_sl (h := h) (n := n) ok.r (by omega) (k := .i64) (z := (i : Int)) (by omega) hi1
    have iy := fun {n : Nat} => idx_hp (h := st.H.get) (n := n) (id := id) (row := 0) (len := rs.length) (cap := rs.length) hrs' rfl (k := .i64) (z := (i : Int)) (by omega) (by omega)
    have hrow : (rs.map rowRS)[i]? = some (rowRS (nth rs i)) := by rw [List.getElem?_map, nth_get (by omega)]; rfl
    have iz := fun {n : Nat} => idx_hp (h := st.H.get) (n := n) (id := b) (row := 0) (len := l.sigs.length) (cap := l.sigs.length) hb rfl (k := .i64) (z := (nth l.rts i).fr) hfr.1 hfr.2
    have hlt : (nth l.rts i).fr.toNat < bs.length := by have := hfr.1; have := hfr.2; rw [pr.1]; omega
    have hrob : (bs.map rowB)[(nth l.rts i).fr.toNat]? = some (rowB (nth bs (nth l.rts i).fr.toNat)) := by
      rw [List.getElem?_map, nth_get hlt]; rfl
    have hset : (bs.map rowB).set (nth l.rts i).fr.toNat (rowB true) = (bs.set (nth l.rts i).fr.toNat true).map rowB := by simp [List.map_set]
    have hput : (nth rs i).mode = 2 → (¬ ∃ z ∈ (nth l.rts i).path, nth os z.toNat = true) → Lie l ls i → (bs.set (nth l.rts i).fr.toNat true).length = l.sigs.length ∧ bs.set (nth l.rts i).fr.toNat true = it (prR l rs os ls) (List.replicate l.sigs.length false) (i + 1) := fun e1 e2 e3 =>
      ⟨by simp [pr.1], by show _ = prR l rs os ls i (it (prR l rs os ls) _ i); rw [← pr.2]; unfold prR; rw [dec_t ⟨e1, e2, e3⟩]; rfl⟩
    have hkeep : ¬ ((nth rs i).mode = 2 ∧ (¬ ∃ z ∈ (nth l.rts i).path, nth os z.toNat = true) ∧ Lie l ls i) → bs = it (prR l rs os ls) (List.replicate l.sigs.length false) (i + 1) := fun e => by
      show _ = prR l rs os ls i (it (prR l rs os ls) _ i); rw [← pr.2]; unfold prR; rw [dec_f (p := prC l rs os ls i) e]; rfl
    generalize bs.set (nth l.rts i).fr.toNat true = ws at hset hput
    generalize (∃ z ∈ (nth l.rts i).path, nth os z.toNat = true) = P at oc hput hkeep
    generalize Lie l ls i = R at ea hput hkeep
    generalize hrr : rs.map rowRS = rows at hrs' hrow
    generalize hrb : bs.map rowB = rowb at hb hrob hset
    simp only [Int.toNat_natCast, Nat.zero_add] at iy iz ix
    generalize hQ : (fun (e : Ex) (s' : St) => _) = Q'
    simp only [D.l15_1b]
    have old : ∀ s2 : St, s2.T.get 0 = some (.ptr p 0 0) → BoxD s2 3 [.imm ov, .imm lv] → BoxD s2 4 [.imm .nils, .imm .nils] → BoxD s2 5 [.sl a 0 c c, .sl b 0 l.sigs.length l.sigs.length] → s2.T.get 50 = some (.sl id 0 rs.length rs.length) → s2.T.get 51 = some (.imm (.int .i64 l.rts.length)) → s2.T.get 52 = some (.imm (.int .i64 ((i + 1 : Nat) : Int))) → s2.H = st.H → n0 ≤ s2.n → ¬ ((nth rs i).mode = 2 ∧ (¬ P) ∧ R) → ∃ bs, ICp p l rs os ls ov lv (.sl a 0 c c) (.sl id 0 rs.length rs.length) b H1 n0 (i + 1) bs s2 := fun s2 a1 a2 a3 a4 a5 a6 a7 a8 a9 b1 =>
      ⟨bs, a1, a2, a3, a4, a5, a6, a7, by rw [a8, hrb]; exact hb, by rw [a8]; exact fr, a9, pr.1, hkeep b1⟩
    by_cases hm : (nth rs i).mode = 2
    · by_cases hP : P
      · rw [dec_t hP] at oc
        simp [g0, g3, L3, g4, L4, g5, L5, g50, g51, g52, hi', hw8, ix, iy, hp', hrs', hrow, hm, oc, rowRS, ivRt, io.o.scal, io.l.scal, rk.p.scal, rk.q.scal, rk.f.scal, evParts, lay, B6, undT, fnEnd, argsT, PT.get_put, keep, opRun, ev, evs, evO, give, giveI, binOf, isNilK, PM.flip, putT, putL, putH, loadOf, storeOf, cut, over, ofCells, asNat, natOr, calm, clashes, Acc.clash, ressOf, resOf, frz, frz.frzs, DV.flat, DV.flat.flats, imms]
        subst hQ
        exact .inl ⟨rfl, hi, old _ (by simp [PT.get_put]) ⟨i3, by simp [PT.get_put], by simp [PT.get_put]⟩ ⟨i4, by simp [PT.get_put], by simp [PT.get_put]⟩ ⟨i5, by simp [PT.get_put], by simp [PT.get_put]⟩ (by simp [PT.get_put]) (by simp [PT.get_put]) (by simp [PT.get_put]) rfl (by simp; omega) (fun e => e.2.1 hP)⟩
      · rw [dec_f hP] at oc
        by_cases hR : R
        · rw [dec_t hR] at ea
          have hd := hput hm hP hR
          simp [g0, g3, L3, g4, L4, g5, L5, g50, g51, g52, hi', hw8, ix, iy, iz, hp', hrs', hrow, hb, hrob, hm, oc, ea, rowRS, rowB, ivRt, io.o.scal, io.l.scal, rk.p.scal, rk.q.scal, rk.f.scal, evParts, lay, B6, undT, fnEnd, argsT, PT.get_put, keep, opRun, ev, evs, evO, give, giveI, binOf, isNilK, PM.flip, putT, putL, putH, loadOf, storeOf, cut, over, ofCells, asNat, natOr, calm, clashes, Acc.clash, ressOf, resOf, frz, frz.frzs, DV.flat, DV.flat.flats, imms]
          subst hQ
          refine .inl ⟨rfl, hi, ws, by simp [PT.get_put], ⟨i3, by simp [PT.get_put], by simp [PT.get_put]⟩, ⟨i4, by simp [PT.get_put], by simp [PT.get_put]⟩, ⟨i5, by simp [PT.get_put], by simp [PT.get_put]⟩, by simp [PT.get_put], by simp [PT.get_put], by simp [PT.get_put], ?_, ?_, by simp; omega, hd⟩
          · rw [← hset]; simp [PT.get_put, rowB]
          · intro j hj; simp [PT.get_put, hj]; exact fr j hj
        · rw [dec_f hR] at ea
          simp [g0, g3, L3, g4, L4, g5, L5, g50, g51, g52, hi', hw8, ix, iy, hp', hrs', hrow, hm, oc, ea, rowRS, ivRt, io.o.scal, io.l.scal, rk.p.scal, rk.q.scal, rk.f.scal, evParts, lay, B6, undT, fnEnd, argsT, PT.get_put, keep, opRun, ev, evs, evO, give, giveI, binOf, isNilK, PM.flip, putT, putL, putH, loadOf, storeOf, cut, over, ofCells, asNat, natOr, calm, clashes, Acc.clash, ressOf, resOf, frz, frz.frzs, DV.flat, DV.flat.flats, imms]
          subst hQ
          exact .inl ⟨rfl, hi, old _ (by simp [PT.get_put]) ⟨i3, by simp [PT.get_put], by simp [PT.get_put]⟩ ⟨i4, by simp [PT.get_put], by simp [PT.get_put]⟩ ⟨i5, by simp [PT.get_put], by simp [PT.get_put]⟩ (by simp [PT.get_put]) (by simp [PT.get_put]) (by simp [PT.get_put]) rfl (by simp; omega) (fun e => hR e.2.2)⟩
    · simp [g0, g3, L3, g4, L4, g5, L5, g50, g51, g52, hi', hw8, ix, iy, hp', hrs', hrow, hm, rowRS, ivRt, io.o.scal, io.l.scal, rk.p.scal, rk.q.scal, rk.f.scal, evParts, lay, B6, undT, fnEnd, argsT, PT.get_put, keep, opRun, ev, evs, evO, give, giveI, binOf, isNilK, PM.flip, putT, putL, putH, loadOf, storeOf, cut, over, ofCells, asNat, natOr, calm, clashes, Acc.clash, ressOf, resOf, frz, frz.frzs, DV.flat, DV.flat.flats, imms]
      subst hQ
      exact .inl ⟨rfl, hi, old _ (by simp [PT.get_put]) ⟨i3, by simp [PT.get_put], by simp [PT.get_put]⟩ ⟨i4, by simp [PT.get_put], by simp [PT.get_put]⟩ ⟨i5, by simp [PT.get_put], by simp [PT.get_put]⟩ (by simp [PT.get_put]) (by simp [PT.get_put]) (by simp [PT.get_put]) rfl (by simp; omega) (fun e => hm e.1)⟩
  · obtain rfl : i = l.rts.length := by omega
    generalize hQ : (fun (e : Ex) (s' : St) => _) = Q'
    simp only [D.l15_1b]
    simp [g0, g3, L3, g4, L4, g5, L5, g50, g51, g52, B6, undT, fnEnd, argsT, PT.get_put, keep, opRun, ev, evs, evO, give, giveI, binOf, isNilK, PM.flip, putT, putL, putH, loadOf, storeOf, cut, over, ofCells, asNat, natOr, calm, clashes, Acc.clash, ressOf, resOf, frz, frz.frzs, DV.flat, DV.flat.flats, imms]
    subst hQ
    exact .inr ⟨nofun, rfl, bs, by simp [PT.get_put, g0], ⟨i3, by simp [PT.get_put, g3], by simp [PT.get_put, L3]⟩, ⟨i4, by simp [PT.get_put, g4], by simp [PT.get_put, L4]⟩, ⟨i5, by simp [PT.get_put, g5], by simp [PT.get_put, L5]⟩, by simp [PT.get_put, g50], by simp [PT.get_put, g51], by simp [PT.get_put, g52], hb, fr, hn, pr⟩
end Go.Proofs.YtkgjgehffijepaaDoor.D

-- K14
set_option linter.unusedVariables false
set_option linter.unusedSimpArgs false
set_option maxHeartbeats 16000000
namespace Go.Proofs.YtkgjgehffijepaaDoor.D
open Go Go.PM Go.Lib
theorem RsOk.idle {l : Lo} {r : Nat} : RsOk l r rs0 := ⟨by simp [rs0], by simp [rs0], by simp [rs0], by simp [rs0], by simp [rs0], by simp [rs0], by simp [rs0]⟩
theorem RsOk.step {l : Lo} (is : ISL l) {os : List Bool} {ls : List Int} {r : Nat} (hr : r < l.rts.length) {x : Rst} (h : RsOk l r x) : RsOk l r (stepF l os ls r x) := by
  have p1 := (is.rr r hr).p1
  obtain ⟨md, t0, t8, t6, tz, g3, gz⟩ := h
  obtain ⟨m, t, g, s⟩ := x
  simp only at *
  have hc : m = 0 ∨ m = 1 ∨ m = 2 ∨ m = 3 ∨ m = 4 := by omega
  rcases hc with rfl | rfl | rfl | rfl | rfl
  · have e : stepF l os ls r ⟨0, t, g, s⟩ = ⟨0, t, g, s⟩ := by simp [stepF, dec_false]
    rw [e]; exact ⟨md, t0, t8, t6, tz, g3, gz⟩
  · by_cases hL : Lie l ls r
    · have e : stepF l os ls r ⟨1, t, g, s⟩ = ⟨2, 0, 0, false⟩ := by simp [stepF, dec_true, dec_t hL]
      rw [e]; exact ⟨by simp, by simp, by simp, by simp, by simp, by simp, by simp⟩
    · have e : stepF l os ls r ⟨1, t, g, s⟩ = laterF ⟨1, t, g, s⟩ 8 := by simp [stepF, dec_true, dec_f hL]
      rw [e]
      by_cases ht : 8 < t + 1
      · have : laterF ⟨1, t, g, s⟩ 8 = rs0 := by simp [laterF, dec_t ht]
        rw [this]; exact RsOk.idle
      · have : laterF ⟨1, t, g, s⟩ 8 = ⟨1, t + 1, g, s⟩ := by simp [laterF, dec_f ht]
        rw [this]
        exact ⟨by simp, by simp; omega, by simp; omega, by simp, by simp, by simp, by simpa using gz⟩
  · cases ho : nth os (nth (nth l.rts r).path 0).toNat with
    | true =>
      have e : stepF l os ls r ⟨2, t, g, s⟩ = ⟨3, 0, 0, true⟩ := by simp [stepF, dec_true, dec_false, ho]
      rw [e]; exact ⟨by simp, by simp, by simp, by simp, by simp, by simp; omega, by simp⟩
    | false =>
      have e : stepF l os ls r ⟨2, t, g, s⟩ = ⟨2, t, g, s⟩ := by simp [stepF, dec_true, dec_false, ho]
      rw [e]; exact ⟨md, t0, t8, t6, tz, g3, gz⟩
  · have e : stepF l os ls r ⟨3, t, g, s⟩ = usedF l os r ⟨3, t, g, s⟩ := by simp [stepF, dec_true, dec_false]
    rw [e]
    have hz := tz (by omega) (by omega)
    have hg := g3 rfl
    cases ho : nth os (nth (nth l.rts r).path g.toNat).toNat with
    | true =>
      have e : usedF l os r ⟨3, t, g, s⟩ = ⟨3, t, g, true⟩ := by simp [usedF, ho]
      rw [e]; exact ⟨by simp, by simp; omega, by simp, by simp, by simp [hz], by simpa using hg, by simp⟩
    | false =>
      cases s with
      | true =>
        by_cases hl : g + 1 < (nth l.rts r).path.length
        · have e : usedF l os r ⟨3, t, g, true⟩ = ⟨3, t, g + 1, false⟩ := by simp [usedF, ho, dec_t hl]
          rw [e]; exact ⟨by simp, by simp; omega, by simp, by simp, by simp [hz], by simp; omega, by simp⟩
        · have e : usedF l os r ⟨3, t, g, true⟩ = rs0 := by simp [usedF, ho, dec_f hl]
          rw [e]; exact RsOk.idle
      | false =>
        have e : usedF l os r ⟨3, t, g, false⟩ = ⟨3, t, g, false⟩ := by simp [usedF, ho]
        rw [e]; exact ⟨md, t0, t8, t6, tz, g3, gz⟩
  · cases ho : nth os (nth (nth l.rts r).path 0).toNat with
    | true =>
      have e : stepF l os ls r ⟨4, t, g, s⟩ = ⟨3, 0, 0, true⟩ := by simp [stepF, dec_true, dec_false, ho]
      rw [e]; exact ⟨by simp, by simp, by simp, by simp, by simp, by simp; omega, by simp⟩
    | false =>
      have e : stepF l os ls r ⟨4, t, g, s⟩ = laterF ⟨4, t, g, s⟩ 5 := by simp [stepF, dec_true, dec_false, ho]
      rw [e]
      by_cases ht : 5 < t + 1
      · have : laterF ⟨4, t, g, s⟩ 5 = rs0 := by simp [laterF, dec_t ht]
        rw [this]; exact RsOk.idle
      · have : laterF ⟨4, t, g, s⟩ 5 = ⟨4, t + 1, g, s⟩ := by simp [laterF, dec_f ht]
        rw [this]
        exact ⟨by simp, by simp; omega, by simp, by simp; omega, by simp, by simp, by simpa using gz⟩
theorem nth_rep' {α : Type} [Inhabited α] {k i : Nat} {x : α} (h : i < k) : nth (List.replicate k x) i = x := by simp [nth, h]
theorem go_of {l : Lo} {rs : List Rst} (h : ∀ r, r < l.rts.length → RsOk l r (nth rs r)) : GoneOk l rs := fun r hr hm => by
  have := (h r hr).g3 hm
  exact ⟨this.1, by omega⟩
theorem Cycle_fn {d : Nat} (hd : 11 ≤ d) {H : PT HB} {p : Nat} {own : List Nat} {l : Lo} {rs : List Rst} (ok : LoOk l) (is : ISL l) (lk : LkAt H p own l rs) (ro : ∀ r, r < l.rts.length → RsOk l r (nth rs r)) {ov lv : IV} {os : List Bool} {ls : List Int} (io : InOk ov lv os ls) (mi : MI l os ls) {n : Nat} (hpn : ∀ i ∈ p :: own, i < n) :
    Fe (K DG (d + 1) 15 [.ptr p 0 0, inD ov lv] H n 0) (fun v H' n' => v = .agg [.sl (n + 2 + 1) 0 l.pts.length l.pts.length, .sl (n + 2 + 2) 0 l.sigs.length l.sigs.length] ∧ n + 5 ≤ n' ∧ (∀ j, j ∉ own → j < n → H'.get j = H.get j) ∧
      ∃ qs, LkAt H' p own l qs ∧ (∀ j, j < l.rts.length → nth qs j = stepF l os ls j (nth rs j)) ∧ H'.get (n + 2 + 1) = some ⟨1, (drF l qs os ls).map rowI⟩ ∧ H'.get (n + 2 + 2) = some ⟨1, (prF l qs os ls).map rowB⟩) := by
  have hp := hpn p (by simp)
  obtain ⟨d, rfl⟩ : ∃ d', d = d' + 1 := ⟨d - 1, by omega⟩
  have p5 := is.p2
  have g6 := is.g2
  obtain ⟨v, H1, n1, e1, rfl, rfl, hH1⟩ := Safe_run (d := d) ok p5 g6 lk (n := n + 2) (lo := 0) (by omega)
  have e := MayIn_bl (D := d + 1) (by omega) ok io
  rw [dec_t mi] at e
  have lk1 : LkAt H1 p own l rs := lk.mono fun j hj => by
    have := hpn j hj
    have b1 : ¬ j = n + 2 + 1 := by omega
    have b2 : ¬ j = n + 2 + 2 := by omega
    rw [hH1]; simp [PT.get_put, b1, b2]
  have hz1 : H1.get (n + 2 + 1) = some ⟨1, (List.replicate l.pts.length (0 : Int)).map rowI⟩ := by
    have b1 : ¬ n + 2 + 1 = n + 2 + 2 := by omega
    rw [hH1]; simp [PT.get_put, b1, rowI, imms]
  have hz2 : H1.get (n + 2 + 2) = some ⟨1, (List.replicate l.sigs.length false).map rowB⟩ := by
    rw [hH1]; simp [PT.get_put, rowB, imms]
  have hfr1 : ∀ j, j < n → H1.get j = H.get j := fun j hj => by
    have b1 : ¬ j = n + 2 + 1 := by omega
    have b2 : ¬ j = n + 2 + 2 := by omega
    rw [hH1]; simp [PT.get_put, b1, b2]
  clear hH1
  have lk1' := lk1
  obtain ⟨x, h1, h2, h3, h4⟩ := lk1
  have xl := h2.len
  rw [h4] at xl
  rw [D.k15]
  refine fn_dw rfl ?_
  simp [io.o.scal, io.l.scal, e1, h1, e, xl, B6, undT, fnEnd, argsT, PT.get_put, keep, opRun, ev, evs, evO, give, giveI, binOf, isNilK, PM.flip, putT, putL, putH, loadOf, storeOf, cut, over, ofCells, asNat, natOr, calm, clashes, Acc.clash, ressOf, resOf, frz, frz.frzs, DV.flat, DV.flat.flats, imms]
  refine loopCy0 (own := own) (os := os) (ls := ls) (rs := rs) (ov := ov) (lv := lv) (us := [.sl (n + 2 + 1) 0 l.pts.length l.pts.length, .sl (n + 2 + 2) 0 l.sigs.length l.sigs.length]) (H1 := H1) (n1 := n + 2 + 3) (by omega) ok is io mi ro (by omega) ⟨by simp [PT.get_put], by simp [PT.get_put], by simp [PT.get_put], ⟨n, by simp [PT.get_put], by simp [PT.get_put]⟩, ⟨n + 1, by simp [PT.get_put], by simp [PT.get_put]⟩, ⟨n + 2 + 3, by simp [PT.get_put], by simp [PT.get_put]⟩, lk1', fun j hj => rfl, by simp, fun j hj => by simp⟩ ?_
  rintro s2 qs ⟨f0, f28, f29, ⟨i3, f3, M3⟩, ⟨i4, f4, M4⟩, ⟨i5, f5, M5⟩, lk2, fr2, fn2, al⟩
  have hq : ∀ j, j < l.rts.length → nth qs j = stepF l os ls j (nth rs j) := fun j hj => by rw [al j hj, if_pos hj]
  have roq : ∀ j, j < l.rts.length → RsOk l j (nth qs j) := fun j hj => by rw [hq j hj]; exact (ro j hj).step is hj
  have ha : n + 2 + 1 ∉ p :: own := fun h => by have := hpn _ h; omega
  have hb : n + 2 + 2 ∉ p :: own := fun h => by have := hpn _ h; omega
  obtain ⟨v3, H3, n3, e3, hn3, fr3, hz3⟩ := drives_run (d := d) (by omega) ok is lk2 (go_of roq) io mi (a := n + 2 + 1) (b := n + 2 + 2) (c := l.sigs.length) (n := s2.n) ha (by rw [fr2 _ (fun h => ha (by simp [h]))]; exact hz1)
  have lk3 : LkAt H3 p own l qs := lk2.mono fun j hj => fr3 j fun h => ha (h ▸ hj)
  have lk3' := lk3
  have hz4 : H3.get (n + 2 + 2) = some ⟨1, (List.replicate l.sigs.length false).map rowB⟩ := by
    rw [fr3 _ (by omega), fr2 _ (fun h => hb (by simp [h]))]; exact hz2
  obtain ⟨y, k1, k2, k3, k4⟩ := lk3
  have yl := k2.len
  rw [k4] at yl
  simp [f0, f28, f29, f3, M3, f4, M4, f5, M5, io.o.scal, io.l.scal, e3, k1, yl, B6, undT, fnEnd, argsT, PT.get_put, keep, opRun, ev, evs, evO, give, giveI, binOf, isNilK, PM.flip, putT, putL, putH, loadOf, storeOf, cut, over, ofCells, asNat, natOr, calm, clashes, Acc.clash, ressOf, resOf, frz, frz.frzs, DV.flat, DV.flat.flats, imms]
  refine loopCy1 (own := own) (os := os) (ls := ls) (rs := qs) (ov := ov) (lv := lv) (a := n + 2 + 1) (c := l.pts.length) (b := n + 2 + 2) (H1 := H3) (xr := y) (n0 := n + 2 + 3) (bs := List.replicate l.sigs.length false) (by omega) ok is k1 k2 k3 k4 io mi hb (by omega) ⟨by simp [PT.get_put, f0], ⟨i3, by simp [PT.get_put, f3], by simp [PT.get_put, M3]⟩, ⟨i4, by simp [PT.get_put, f4], by simp [PT.get_put, M4]⟩, ⟨i5, by simp [PT.get_put, f5], by simp [PT.get_put, M5]⟩, by simp [PT.get_put], by simp [PT.get_put], by simp [PT.get_put], hz4, fun j hj => rfl, by simp; omega, by simp, rfl⟩ ?_
  rintro s4 bs ⟨t0, ⟨j3, t3, N3⟩, ⟨j4, t4, N4⟩, ⟨j5, t5, N5⟩, t50, t51, t52, tb, tfr, tn, pr⟩
  simp [t0, t3, N3, t4, N4, t5, N5, B6, undT, fnEnd, argsT, PT.get_put, keep, opRun, ev, evs, evO, give, giveI, binOf, isNilK, PM.flip, putT, putL, putH, loadOf, storeOf, cut, over, ofCells, asNat, natOr, calm, clashes, Acc.clash, ressOf, resOf, frz, frz.frzs, DV.flat, DV.flat.flats, imms]
  refine ⟨by omega, fun j hj hjn => ?_, qs, lk3'.mono fun j hj => tfr j fun h => hb (h ▸ hj), hq, ?_, by rw [pr.2] at tb; exact tb⟩
  · rw [tfr j (by omega), fr3 j (by omega), fr2 j hj, hfr1 j hjn]
  · rw [tfr _ (by omega)]; exact hz3
theorem Cycle_run {d : Nat} (hd : 11 ≤ d) {H : PT HB} {p : Nat} {own : List Nat} {l : Lo} {rs : List Rst} (ok : LoOk l) (is : ISL l) (lk : LkAt H p own l rs) (ro : ∀ r, r < l.rts.length → RsOk l r (nth rs r)) {ov lv : IV} {os : List Bool} {ls : List Int} (io : InOk ov lv os ls) (mi : MI l os ls) {n : Nat} (hpn : ∀ i ∈ p :: own, i < n) :
    Fe (K DG (d + 1) 15 [.ptr p 0 0, inD ov lv] H n 0) (fun v H' n' => v = .agg [.sl (n + 2 + 1) 0 l.pts.length l.pts.length, .sl (n + 2 + 2) 0 l.sigs.length l.sigs.length] ∧ n + 5 ≤ n' ∧ (∀ j, j ∉ own → j < n → H'.get j = H.get j) ∧
      ∃ qs zs bs, LkAt H' p own l qs ∧ (∀ j, j < l.rts.length → nth qs j = stepF l os ls j (nth rs j)) ∧ H'.get (n + 2 + 1) = some ⟨1, zs.map rowI⟩ ∧ DrOk l qs os ls zs ∧ H'.get (n + 2 + 2) = some ⟨1, bs.map rowB⟩ ∧ PrOk l qs os ls bs) := by
  obtain ⟨v, H', n', e, rfl, hn, fr, qs, lk', hq, h1, h2⟩ := Cycle_fn hd ok is lk ro io mi hpn
  exact ⟨_, H', n', e, rfl, hn, fr, qs, _, _, lk', hq, h1, drF_ok is, h2, prF_ok is⟩
end Go.Proofs.YtkgjgehffijepaaDoor.D
