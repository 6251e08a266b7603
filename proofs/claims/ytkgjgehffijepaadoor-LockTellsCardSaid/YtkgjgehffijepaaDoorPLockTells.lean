/-
  pointsmanref5's Side, Clear, Right; pointsmanlaw5's right; LockTells over D.
-/
import Derived.Test.YtkgjgehffijepaaDoorK21
import Derived.Test.YtkgjgehffijepaaDoorT4
import Derived.Test.YtkgjgehffijepaaDoorT9a
-- K17
set_option linter.unusedVariables false
set_option linter.unusedSimpArgs false
set_option maxHeartbeats 16000000
namespace Go.Proofs.YtkgjgehffijepaaDoor.D
open Go Go.PM Go.Lib
theorem Side_bl {D : Nat} (hD : 1 ≤ D) (a : Int) (b : Bool) : bl (K DG D) 53 [.agg [.imm (.int .i64 a), .imm (.bool b)]] = some (.imm (.int .i64 (pos ⟨a, b⟩))) := by
  obtain ⟨d, rfl⟩ : ∃ d, D = d + 1 := ⟨D - 1, by omega⟩
  have key : Fe (K DG (d + 1) 53 [.agg [.imm (.int .i64 a), .imm (.bool b)]] .lf 0 0) (fun v _ _ => v = .imm (.int .i64 (pos ⟨a, b⟩))) := by
    rw [D.k53]
    refine fn_dw rfl ?_
    cases b <;> simp [pos, B6, undT, fnEnd, argsT, PT.get_put, keep, opRun, ev, evs, evO, give, giveI, binOf, isNilK, PM.flip, putT, putL, putH, loadOf, storeOf, cut, over, ofCells, asNat, natOr, calm, clashes, Acc.clash, ressOf, resOf, frz, frz.frzs, DV.flat, DV.flat.flats, imms]
  obtain ⟨v, H, n, e, rfl⟩ := key
  exact bl_of e rfl
def ICl (l : Lo) (ov lv : IV) (r i : Nat) (st : St) : Prop := st.T.get 1 = some (.imm (.int .i64 r)) ∧ Box st 3 l.ivs ∧ Box st 5 [ov, lv] ∧ st.T.get 7 = some (.imm (.int .i64 i))
theorem loopCl {d : Nat} {l : Lo} (ok : LoOk l) (is : ISL l) {ov lv : IV} {os : List Bool} {ls : List Int} (io : InOk ov lv os ls) (mi : MI l os ls) {r : Nat} (hr : r < l.rts.length) (hno : ¬ ∃ z ∈ (nth l.rts r).path, nth os z.toNat = true) {ks : List Kf} {st : St} {Q : Ex → St → Prop} (h : ICl l ov lv r 0 st)
    (hk : ∀ st', ICl l ov lv r (nth l.rts r).path.length st' → Bk DG (K DG d) 0 (.exit 0) ks st' Q) : Wp DG (K DG d) 0 D.l45_0 ks st Q := by
  have hrb := rb3
  have p5 := is.p5 r hr
  have rk := ok.or _ (nth_mem hr)
  have pl := rk.p.len
  simp only [List.length_map] at pl
  have ixr := fun {h : Nat → Option HB} {n : Nat} => idx_sl (h := h) (n := n) ok.r (by omega) (k := .i64) (z := (r : Int)) (by omega) (show (r : Int) < l.rts.length by omega)
  simp only [Int.toNat_natCast] at ixr
  refine dw_loop (N := (nth l.rts r).path.length) (small (by omega)) (ICl l ov lv r) (fun e st' => e = .exit 0 ∧ ICl l ov lv r (nth l.rts r).path.length st') (fun i st hle hI => ?_) h (fun e s' h => by obtain ⟨rfl, h⟩ := h; exact hk s' h)
  obtain ⟨h1, ⟨i3, h3, L3⟩, ⟨i5, h5, L5⟩, h7⟩ := hI
  by_cases hi : i < (nth l.rts r).path.length
  · have hi1 : (i : Int) < (nth l.rts r).path.length := by omega
    have hi' := ilt_t hi1
    have hw8 : IntKind.i64.wrap ((i : Int) + 1) = (i : Int) + 1 := wr_succ hi (by omega)
    have ip := fun {h : Nat → Option HB} {n : Nat} => idx_sl (h := h) (n := n) rk.p (by omega) (k := .i64) (z := (i : Int)) (by omega) hi1
    have hz := nth_mem hi
    have io' := fun {h : Nat → Option HB} {n : Nat} => idx_in (h := h) (n := n) io.o (by omega) (k := .i64) (z := nth (nth l.rts r).path i) (by rw [mi.1]; exact path_in is hr hz)
    have ho : nth os (nth (nth l.rts r).path i).toNat = false := by
      cases e : nth os (nth (nth l.rts r).path i).toNat with
      | false => rfl
      | true => exact absurd ⟨_, hz, e⟩ hno
    simp only [Int.toNat_natCast] at ip
    generalize hQ : (fun (e : Ex) (s' : St) => _) = Q'
    simp only [D.l45_0b]
    simp [h1, h3, L3, h5, L5, h7, hi', hw8, ixr, ip, io', ho, pl, ivRt, ivI, ivB1, imms, B6, undT, fnEnd, argsT, PT.get_put, keep, opRun, ev, evs, evO, give, giveI, binOf, isNilK, PM.flip, putT, putL, putH, loadOf, storeOf, cut, over, ofCells, asNat, natOr, calm, clashes, Acc.clash, ressOf, resOf, frz, frz.frzs, DV.flat, DV.flat.flats, imms]
    subst hQ
    exact .inl ⟨rfl, hi, by simp [PT.get_put], ⟨i3, by simp [PT.get_put], by simp [PT.get_put, imms]⟩, ⟨i5, by simp [PT.get_put], by simp [PT.get_put, imms]⟩, by simp [PT.get_put]⟩
  · obtain rfl : i = (nth l.rts r).path.length := by omega
    generalize hQ : (fun (e : Ex) (s' : St) => _) = Q'
    simp only [D.l45_0b]
    simp [h1, h3, L3, h5, L5, h7, ixr, pl, ivRt, ivI, imms, B6, undT, fnEnd, argsT, PT.get_put, keep, opRun, ev, evs, evO, give, giveI, binOf, isNilK, PM.flip, putT, putL, putH, loadOf, storeOf, cut, over, ofCells, asNat, natOr, calm, clashes, Acc.clash, ressOf, resOf, frz, frz.frzs, DV.flat, DV.flat.flats, imms]
    subst hQ
    exact .inr ⟨nofun, rfl, by simp [PT.get_put], ⟨i3, by simp [PT.get_put], by simp [PT.get_put, imms]⟩, ⟨i5, by simp [PT.get_put], by simp [PT.get_put, imms]⟩, by simp [PT.get_put]⟩
theorem Clear_bl {D : Nat} (hD : 1 ≤ D) {l : Lo} (ok : LoOk l) (is : ISL l) {ov lv : IV} {os : List Bool} {ls : List Int} (io : InOk ov lv os ls) (mi : MI l os ls) {r : Nat} (hr : r < l.rts.length) (hno : ¬ ∃ z ∈ (nth l.rts r).path, nth os z.toNat = true) :
    bl (K DG D) 45 [l.dv, .imm (.int .i64 r), inD ov lv] = some (.imm (.bool true)) := by
  obtain ⟨d, rfl⟩ : ∃ d, D = d + 1 := ⟨D - 1, by omega⟩
  have key : Fe (K DG (d + 1) 45 [l.dv, .imm (.int .i64 r), inD ov lv] .lf 0 0) (fun v _ _ => v = .imm (.bool true)) := by
    rw [D.k45]
    refine fn_dw rfl ?_
    simp [ok.s.scal, ok.p.scal, ok.g.scal, ok.r.scal, io.o.scal, io.l.scal, B6, undT, fnEnd, argsT, PT.get_put, keep, opRun, ev, evs, evO, give, giveI, binOf, isNilK, PM.flip, putT, putL, putH, loadOf, storeOf, cut, over, ofCells, asNat, natOr, calm, clashes, Acc.clash, ressOf, resOf, frz, frz.frzs, DV.flat, DV.flat.flats, imms]
    refine loopCl (ov := ov) (lv := lv) (os := os) (ls := ls) (r := r) ok is io mi hr hno ⟨by simp [PT.get_put], ⟨0, by simp [PT.get_put], by simp [PT.get_put, imms]⟩, ⟨1, by simp [PT.get_put], by simp [PT.get_put, imms]⟩, by simp [PT.get_put]⟩ ?_
    rintro s2 ⟨f1, ⟨j3, f3, M3⟩, ⟨j5, f5, M5⟩, f7⟩
    simp [f1, f3, M3, f5, M5, f7, B6, undT, fnEnd, argsT, PT.get_put, keep, opRun, ev, evs, evO, give, giveI, binOf, isNilK, PM.flip, putT, putL, putH, loadOf, storeOf, cut, over, ofCells, asNat, natOr, calm, clashes, Acc.clash, ressOf, resOf, frz, frz.frzs, DV.flat, DV.flat.flats, imms]
  obtain ⟨v, H, n, e, rfl⟩ := key
  exact bl_of e rfl
def IRi (w : IV) (ov lv : IV) (i : Nat) (st : St) : Prop := Box st 5 [ov, lv] ∧ st.T.get 7 = some (.imm w) ∧ st.T.get 8 = some (.imm (.int .i64 i))
theorem loopRi {d : Nat} (hd : 1 ≤ d) {l : Lo} (is : ISL l) {ov lv : IV} {os : List Bool} {ls : List Int} (io : InOk ov lv os ls) (mi : MI l os ls) {r : Nat} (hr : r < l.rts.length) (hL : Lie l ls r) {w : IV} (hv : Sl 2 w ((nd (nth l.rts r)).map ivN)) {ks : List Kf} {st : St} {Q : Ex → St → Prop} (h : IRi w ov lv 0 st)
    (hk : ∀ st', IRi w ov lv (nd (nth l.rts r)).length st' → Bk DG (K DG d) 0 (.exit 0) ks st' Q) : Wp DG (K DG d) 0 D.l46_0 ks st Q := by
  have hrb := rb3
  have hnl : (nd (nth l.rts r)).length ≤ reachBytes := by have := is.few r hr; simp [nd]; omega
  have vl := hv.len
  simp only [List.length_map] at vl
  refine dw_loop (N := (nd (nth l.rts r)).length) (small hnl) (IRi w ov lv) (fun e st' => e = .exit 0 ∧ IRi w ov lv (nd (nth l.rts r)).length st') (fun i st hle hI => ?_) h (fun e s' h => by obtain ⟨rfl, h⟩ := h; exact hk s' h)
  obtain ⟨⟨i5, h5, L5⟩, h7, h8⟩ := hI
  by_cases hi : i < (nd (nth l.rts r)).length
  · have hi1 : (i : Int) < (nd (nth l.rts r)).length := by omega
    have hi' := ilt_t hi1
    have hw8 : IntKind.i64.wrap ((i : Int) + 1) = (i : Int) + 1 := wr_succ hi hnl
    have ix := fun {h : Nat → Option HB} {n : Nat} => idx_sl (h := h) (n := n) hv (by omega) (k := .i64) (z := (i : Int)) (by omega) hi1
    have hmem := nth_mem hi
    have hp := hL _ hmem
    simp only [Int.toNat_natCast] at ix
    generalize hgx : nth (nd (nth l.rts r)) i = y at *
    have hpt := nd_in is hr hmem
    have il := fun {h : Nat → Option HB} {n : Nat} => idx_in (h := h) (n := n) io.l (by omega) (k := .i64) (z := y.pt) (by rw [mi.2.1]; exact hpt)
    have hs := Side_bl (D := d) hd y.pt y.rev
    generalize hQ : (fun (e : Ex) (s' : St) => _) = Q'
    simp only [D.l46_0b]
    simp [h5, L5, h7, h8, hi', hw8, vl, ix, il, hs, hp, ivN, ivI, imms, B6, undT, fnEnd, argsT, PT.get_put, keep, opRun, ev, evs, evO, give, giveI, binOf, isNilK, PM.flip, putT, putL, putH, loadOf, storeOf, cut, over, ofCells, asNat, natOr, calm, clashes, Acc.clash, ressOf, resOf, frz, frz.frzs, DV.flat, DV.flat.flats, imms]
    subst hQ
    exact .inl ⟨rfl, hi, ⟨i5, by simp [PT.get_put], by simp [PT.get_put, imms]⟩, by simp [PT.get_put], by simp [PT.get_put]⟩
  · obtain rfl : i = (nd (nth l.rts r)).length := by omega
    generalize hQ : (fun (e : Ex) (s' : St) => _) = Q'
    simp only [D.l46_0b]
    simp [h5, L5, h7, h8, vl, imms, B6, undT, fnEnd, argsT, PT.get_put, keep, opRun, ev, evs, evO, give, giveI, binOf, isNilK, PM.flip, putT, putL, putH, loadOf, storeOf, cut, over, ofCells, asNat, natOr, calm, clashes, Acc.clash, ressOf, resOf, frz, frz.frzs, DV.flat, DV.flat.flats, imms]
    subst hQ
    exact .inr ⟨nofun, rfl, ⟨i5, by simp [PT.get_put], by simp [PT.get_put, imms]⟩, by simp [PT.get_put], by simp [PT.get_put]⟩
theorem Right_bl {D : Nat} (hD : 3 ≤ D) {l : Lo} (ok : LoOk l) (is : ISL l) {ov lv : IV} {os : List Bool} {ls : List Int} (io : InOk ov lv os ls) (mi : MI l os ls) {r : Nat} (hr : r < l.rts.length) (hL : Lie l ls r) :
    bl (K DG D) 46 [l.dv, .imm (.int .i64 r), inD ov lv] = some (.imm (.bool true)) := by
  obtain ⟨d, rfl⟩ : ∃ d, D = d + 1 := ⟨D - 1, by omega⟩
  obtain ⟨w, e0, hv⟩ := Needs4_bl (D := d) (by omega) ok hr (is.few r hr).1 (is.few r hr).2
  have key : Fe (K DG (d + 1) 46 [l.dv, .imm (.int .i64 r), inD ov lv] .lf 0 0) (fun v _ _ => v = .imm (.bool true)) := by
    rw [D.k46]
    refine fn_dw rfl ?_
    simp [ok.s.scal, ok.p.scal, ok.g.scal, ok.r.scal, io.o.scal, io.l.scal, e0, B6, undT, fnEnd, argsT, PT.get_put, keep, opRun, ev, evs, evO, give, giveI, binOf, isNilK, PM.flip, putT, putL, putH, loadOf, storeOf, cut, over, ofCells, asNat, natOr, calm, clashes, Acc.clash, ressOf, resOf, frz, frz.frzs, DV.flat, DV.flat.flats, imms]
    refine loopRi (ov := ov) (lv := lv) (os := os) (ls := ls) (r := r) (w := w) (by omega) is io mi hr hL hv ⟨⟨1, by simp [PT.get_put], by simp [PT.get_put, imms]⟩, by simp [PT.get_put], by simp [PT.get_put]⟩ ?_
    rintro s2 ⟨⟨j5, f5, M5⟩, f7, f8⟩
    simp [f5, M5, f7, f8, B6, undT, fnEnd, argsT, PT.get_put, keep, opRun, ev, evs, evO, give, giveI, binOf, isNilK, PM.flip, putT, putL, putH, loadOf, storeOf, cut, over, ofCells, asNat, natOr, calm, clashes, Acc.clash, ressOf, resOf, frz, frz.frzs, DV.flat, DV.flat.flats, imms]
  obtain ⟨v, H, n, e, rfl⟩ := key
  exact bl_of e rfl
end Go.Proofs.YtkgjgehffijepaaDoor.D

-- K18
set_option linter.unusedVariables false
set_option linter.unusedSimpArgs false
set_option maxHeartbeats 16000000
namespace Go.Proofs.YtkgjgehffijepaaDoor.D
open Go Go.PM Go.Lib
structure RG (l : Lo) (rs : List Rst) (os : List Bool) (ls : List Int) (ov lv dv pv w : IV) (zs : List Int) (bs : List Bool) : Prop where
  ok : LoOk l
  is : ISL l
  inv : INV l rs
  io : InOk ov lv os ls
  mi : MI l os ls
  dr : DrOk l rs os ls zs
  pr : PrOk l rs os ls bs
  sd : Sl 1 dv (zs.map ivI)
  sp : Sl 1 pv (bs.map ivB1)
  sw : Sl 4 w (rs.map ivRS)
structure RB (l : Lo) (ov lv dv pv w : IV) (st : St) : Prop where
  h3 : st.T.get 3 = some (.imm w)
  b4 : Box st 4 l.ivs
  b5 : Box st 5 [ov, lv]
  b6 : Box st 6 [dv, pv]
def PrP (l : Lo) (rs : List Rst) (os : List Bool) (ls : List Int) (s r : Nat) : Prop := (nth rs r).mode = 2 ∧ (nth l.rts r).fr = (s : Int) ∧ (¬ ∃ z ∈ (nth l.rts r).path, nth os z.toNat = true) ∧ Lie l ls r
def IG1 (l : Lo) (rs : List Rst) (os : List Bool) (ls : List Int) (ov lv dv pv w : IV) (bs : List Bool) (s j : Nat) (st : St) : Prop := RB l ov lv dv pv w st ∧ st.T.get 9 = some (.imm (.int .i64 s)) ∧ st.T.get 11 = some (.imm (.int .i64 j)) ∧ ∃ b, st.T.get 10 = some (.imm (.bool b)) ∧ (b = true ∨ (nth bs s = true ∧ ∀ r, r < j → ¬ PrP l rs os ls s r))
theorem loopG1 {d : Nat} (hd : 4 ≤ d) {l : Lo} {rs : List Rst} {os : List Bool} {ls : List Int} {ov lv dv pv w : IV} {zs : List Int} {bs : List Bool} (g : RG l rs os ls ov lv dv pv w zs bs) {s : Nat} (hs : s < l.sigs.length) {ks : List Kf} {st : St} {Q : Ex → St → Prop} (h : IG1 l rs os ls ov lv dv pv w bs s 0 st)
    (hk : ∀ st', RB l ov lv dv pv w st' → st'.T.get 9 = some (.imm (.int .i64 s)) → st'.T.get 10 = some (.imm (.bool true)) → Bk DG (K DG d) 0 (.exit 2) ks st' Q) : Wp DG (K DG d) 0 D.l21_1 ks st Q := by
  obtain ⟨ok, is, inv, io, mi, dr, pr, sd, sp, sw⟩ := g
  have hrb := rb3
  have hl6 := is.r2
  have hln := inv.ln
  have wl := sw.len
  simp only [List.length_map, hln] at wl
  refine dw_loop (N := l.rts.length) (small ok.lr) (IG1 l rs os ls ov lv dv pv w bs s) (fun e st' => e = .exit 2 ∧ RB l ov lv dv pv w st' ∧ st'.T.get 9 = some (.imm (.int .i64 s)) ∧ st'.T.get 10 = some (.imm (.bool true))) (fun i st hle hI => ?_) h (fun e s' h => by obtain ⟨rfl, a, b, c⟩ := h; exact hk s' a b c)
  obtain ⟨⟨h3, ⟨i4, h4, L4⟩, ⟨i5, h5, L5⟩, ⟨i6, h6, L6⟩⟩, h9, h11, b, h10, hb⟩ := hI
  by_cases hi : i < l.rts.length
  · have hi1 : (i : Int) < l.rts.length := by omega
    have hi' := ilt_t hi1
    have hw8 : IntKind.i64.wrap ((i : Int) + 1) = (i : Int) + 1 := wr_succ hi ok.lr
    have ixw := fun {h : Nat → Option HB} {n : Nat} => idx_sl (h := h) (n := n) sw (by omega) (k := .i64) (z := (i : Int)) (by omega) (by omega)
    have ixr := fun {h : Nat → Option HB} {n : Nat} => idx_sl (h := h) (n := n) ok.r (by omega) (k := .i64) (z := (i : Int)) (by omega) hi1
    simp only [Int.toNat_natCast] at ixw ixr
    generalize hQ : (fun (e : Ex) (s' : St) => _) = Q'
    simp only [D.l21_1b]
    cases b with
    | true =>
      simp [h3, h4, L4, h5, L5, h6, L6, h9, h10, h11, hi', hw8, wl, imms, B6, undT, fnEnd, argsT, PT.get_put, keep, opRun, ev, evs, evO, give, giveI, binOf, isNilK, PM.flip, putT, putL, putH, loadOf, storeOf, cut, over, ofCells, asNat, natOr, calm, clashes, Acc.clash, ressOf, resOf, frz, frz.frzs, DV.flat, DV.flat.flats, imms]
      subst hQ
      exact .inl ⟨rfl, hi, ⟨by simp [PT.get_put], ⟨i4, by simp [PT.get_put], by simp [PT.get_put, imms]⟩, ⟨i5, by simp [PT.get_put], by simp [PT.get_put, imms]⟩, ⟨i6, by simp [PT.get_put], by simp [PT.get_put, imms]⟩⟩, by simp [PT.get_put], by simp [PT.get_put], true, by simp [PT.get_put], .inl rfl⟩
    | false =>
      obtain ⟨hbs, hall⟩ := hb.resolve_left (by simp)
      obtain ⟨r0, hr0, q2, qf, qc, ql⟩ := pr.2 s hs hbs
      by_cases hr : r0 = i
      · subst hr
        have c1 := Clear_bl (D := d) (by omega) ok is io mi hi qc
        have c2 := Right_bl (D := d) (by omega) ok is io mi hi ql
        simp [h3, h4, L4, h5, L5, h6, L6, h9, h10, h11, hi', hw8, wl, ixw, ixr, ivRS, ivRt, q2, qf, c1, c2, ok.s.scal, ok.p.scal, ok.g.scal, ok.r.scal, io.o.scal, io.l.scal, evParts, lay, imms, B6, undT, fnEnd, argsT, PT.get_put, keep, opRun, ev, evs, evO, give, giveI, binOf, isNilK, PM.flip, putT, putL, putH, loadOf, storeOf, cut, over, ofCells, asNat, natOr, calm, clashes, Acc.clash, ressOf, resOf, frz, frz.frzs, DV.flat, DV.flat.flats, imms]
        subst hQ
        exact .inl ⟨rfl, hi, ⟨by simp [PT.get_put], ⟨i4, by simp [PT.get_put], by simp [PT.get_put, imms]⟩, ⟨i5, by simp [PT.get_put], by simp [PT.get_put, imms]⟩, ⟨i6, by simp [PT.get_put], by simp [PT.get_put, imms]⟩⟩, by simp [PT.get_put], by simp [PT.get_put], true, by simp [PT.get_put], .inl rfl⟩
      · have hno : (nth rs i).mode = 2 → ¬ (nth l.rts i).fr = (s : Int) := fun m2 e =>
          inv.nc i r0 hi hr0 (fun e => hr e.symm) (by omega) (by omega) (by first | exact .inl (by rw [e, qf]) | exact .inr (.inl (by rw [e, qf])))
        have hall' : ∀ r, r < i + 1 → ¬ PrP l rs os ls s r := fun r hri hp => by
          rcases Nat.lt_or_eq_of_le (Nat.le_of_lt_succ hri) with hri | rfl
          · exact hall r hri hp
          · exact hno hp.1 hp.2.1
        by_cases m2 : (nth rs i).mode = 2
        · have hf := hno m2
          simp [h3, h4, L4, h5, L5, h6, L6, h9, h10, h11, hi', hw8, wl, ixw, ixr, ivRS, ivRt, m2, hf, ok.s.scal, ok.p.scal, ok.g.scal, ok.r.scal, io.o.scal, io.l.scal, evParts, lay, imms, B6, undT, fnEnd, argsT, PT.get_put, keep, opRun, ev, evs, evO, give, giveI, binOf, isNilK, PM.flip, putT, putL, putH, loadOf, storeOf, cut, over, ofCells, asNat, natOr, calm, clashes, Acc.clash, ressOf, resOf, frz, frz.frzs, DV.flat, DV.flat.flats, imms]
          subst hQ
          exact .inl ⟨rfl, hi, ⟨by simp [PT.get_put], ⟨i4, by simp [PT.get_put], by simp [PT.get_put, imms]⟩, ⟨i5, by simp [PT.get_put], by simp [PT.get_put, imms]⟩, ⟨i6, by simp [PT.get_put], by simp [PT.get_put, imms]⟩⟩, by simp [PT.get_put], by simp [PT.get_put], false, by simp [PT.get_put], .inr ⟨hbs, hall'⟩⟩
        · simp [h3, h4, L4, h5, L5, h6, L6, h9, h10, h11, hi', hw8, wl, ixw, ixr, ivRS, ivRt, m2, ok.s.scal, ok.p.scal, ok.g.scal, ok.r.scal, io.o.scal, io.l.scal, evParts, lay, imms, B6, undT, fnEnd, argsT, PT.get_put, keep, opRun, ev, evs, evO, give, giveI, binOf, isNilK, PM.flip, putT, putL, putH, loadOf, storeOf, cut, over, ofCells, asNat, natOr, calm, clashes, Acc.clash, ressOf, resOf, frz, frz.frzs, DV.flat, DV.flat.flats, imms]
          subst hQ
          exact .inl ⟨rfl, hi, ⟨by simp [PT.get_put], ⟨i4, by simp [PT.get_put], by simp [PT.get_put, imms]⟩, ⟨i5, by simp [PT.get_put], by simp [PT.get_put, imms]⟩, ⟨i6, by simp [PT.get_put], by simp [PT.get_put, imms]⟩⟩, by simp [PT.get_put], by simp [PT.get_put], false, by simp [PT.get_put], .inr ⟨hbs, hall'⟩⟩
  · obtain rfl : i = l.rts.length := by omega
    have hbt : b = true := by
      refine hb.elim id fun ⟨hbs, hall⟩ => ?_
      obtain ⟨r0, hr0, q⟩ := pr.2 s hs hbs
      exact absurd q (hall r0 hr0)
    subst hbt
    generalize hQ : (fun (e : Ex) (s' : St) => _) = Q'
    simp only [D.l21_1b]
    simp [h3, h4, L4, h5, L5, h6, L6, h9, h10, h11, wl, imms, B6, undT, fnEnd, argsT, PT.get_put, keep, opRun, ev, evs, evO, give, giveI, binOf, isNilK, PM.flip, putT, putL, putH, loadOf, storeOf, cut, over, ofCells, asNat, natOr, calm, clashes, Acc.clash, ressOf, resOf, frz, frz.frzs, DV.flat, DV.flat.flats, imms]
    subst hQ
    exact .inr ⟨nofun, rfl, ⟨by simp [PT.get_put], ⟨i4, by simp [PT.get_put], by simp [PT.get_put, imms]⟩, ⟨i5, by simp [PT.get_put], by simp [PT.get_put, imms]⟩, ⟨i6, by simp [PT.get_put], by simp [PT.get_put, imms]⟩⟩, by simp [PT.get_put], by simp [PT.get_put]⟩
def IG0 (l : Lo) (ov lv dv pv w : IV) (i : Nat) (st : St) : Prop := RB l ov lv dv pv w st ∧ st.T.get 9 = some (.imm (.int .i64 i))
theorem loopG0 {d : Nat} (hd : 4 ≤ d) {l : Lo} {rs : List Rst} {os : List Bool} {ls : List Int} {ov lv dv pv w : IV} {zs : List Int} {bs : List Bool} (g : RG l rs os ls ov lv dv pv w zs bs) {ks : List Kf} {st : St} {Q : Ex → St → Prop} (h : IG0 l ov lv dv pv w 0 st)
    (hk : ∀ st', RB l ov lv dv pv w st' → Bk DG (K DG d) 0 (.exit 0) ks st' Q) : Wp DG (K DG d) 0 D.l21_0 ks st Q := by
  have hrb := rb3
  have g6 := g.is.g2
  have gl := g.ok.g.len
  simp only [List.length_map] at gl
  refine dw_loop (N := l.sigs.length) (small (by omega)) (IG0 l ov lv dv pv w) (fun e st' => e = .exit 0 ∧ RB l ov lv dv pv w st') (fun i st hle hI => ?_) h (fun e s' h => by obtain ⟨rfl, a⟩ := h; exact hk s' a)
  obtain ⟨⟨h3, ⟨i4, h4, L4⟩, ⟨i5, h5, L5⟩, ⟨i6, h6, L6⟩⟩, h9⟩ := hI
  by_cases hi : i < l.sigs.length
  · have hi1 : (i : Int) < l.sigs.length := by omega
    have hi' := ilt_t hi1
    have hw8 : IntKind.i64.wrap ((i : Int) + 1) = (i : Int) + 1 := wr_succ hi (by omega)
    have hbl := g.pr.1
    have ixp := fun {h : Nat → Option HB} {n : Nat} => idx_sl (h := h) (n := n) g.sp (by omega) (k := .i64) (z := (i : Int)) (by omega) (by omega)
    simp only [Int.toNat_natCast] at ixp
    generalize hQ : (fun (e : Ex) (s' : St) => _) = Q'
    simp only [D.l21_0b]
    simp [h3, h4, L4, h5, L5, h6, L6, h9, hi', hw8, gl, ixp, ivB1, imms, B6, undT, fnEnd, argsT, PT.get_put, keep, opRun, ev, evs, evO, give, giveI, binOf, isNilK, PM.flip, putT, putL, putH, loadOf, storeOf, cut, over, ofCells, asNat, natOr, calm, clashes, Acc.clash, ressOf, resOf, frz, frz.frzs, DV.flat, DV.flat.flats, imms]
    refine loopG1 hd g hi ⟨⟨by simp [PT.get_put], ⟨i4, by simp [PT.get_put], by simp [PT.get_put, imms]⟩, ⟨i5, by simp [PT.get_put], by simp [PT.get_put, imms]⟩, ⟨i6, by simp [PT.get_put], by simp [PT.get_put, imms]⟩⟩, by simp [PT.get_put], by simp [PT.get_put], !nth bs i, by simp [PT.get_put], by cases nth bs i <;> simp⟩ ?_
    rintro s2 ⟨f3, ⟨j4, f4, M4⟩, ⟨j5, f5, M5⟩, ⟨j6, f6, M6⟩⟩ f9 f10
    simp [f3, f4, M4, f5, M5, f6, M6, f9, f10, hw8, imms, B6, undT, fnEnd, argsT, PT.get_put, keep, opRun, ev, evs, evO, give, giveI, binOf, isNilK, PM.flip, putT, putL, putH, loadOf, storeOf, cut, over, ofCells, asNat, natOr, calm, clashes, Acc.clash, ressOf, resOf, frz, frz.frzs, DV.flat, DV.flat.flats, imms]
    subst hQ
    exact .inl ⟨rfl, hi, ⟨by simp [PT.get_put, f3], ⟨j4, by simp [PT.get_put, f4], by simp [PT.get_put, M4, imms]⟩, ⟨j5, by simp [PT.get_put, f5], by simp [PT.get_put, M5, imms]⟩, ⟨j6, by simp [PT.get_put, f6], by simp [PT.get_put, M6, imms]⟩⟩, by simp [PT.get_put]⟩
  · obtain rfl : i = l.sigs.length := by omega
    generalize hQ : (fun (e : Ex) (s' : St) => _) = Q'
    simp only [D.l21_0b]
    simp [h3, h4, L4, h5, L5, h6, L6, h9, gl, imms, B6, undT, fnEnd, argsT, PT.get_put, keep, opRun, ev, evs, evO, give, giveI, binOf, isNilK, PM.flip, putT, putL, putH, loadOf, storeOf, cut, over, ofCells, asNat, natOr, calm, clashes, Acc.clash, ressOf, resOf, frz, frz.frzs, DV.flat, DV.flat.flats, imms]
    subst hQ
    exact .inr ⟨nofun, rfl, ⟨by simp [PT.get_put], ⟨i4, by simp [PT.get_put], by simp [PT.get_put, imms]⟩, ⟨i5, by simp [PT.get_put], by simp [PT.get_put, imms]⟩, ⟨i6, by simp [PT.get_put], by simp [PT.get_put, imms]⟩⟩⟩
def IG3 (l : Lo) (ov lv dv pv w : IV) (q j : Nat) (st : St) : Prop := RB l ov lv dv pv w st ∧ st.T.get 12 = some (.imm (.int .i64 q)) ∧ st.T.get 13 = some (.imm (.int .i64 j))
theorem loopG3 {d : Nat} (hd : 4 ≤ d) {l : Lo} {rs : List Rst} {os : List Bool} {ls : List Int} {ov lv dv pv w : IV} {zs : List Int} {bs : List Bool} (g : RG l rs os ls ov lv dv pv w zs bs) {q : Nat} (hq : q < l.pts.length) (hz : ∀ j, j < l.rts.length → (nth l.pts q).sec ∈ hld l rs j → (nth rs j).mode = 1) {ks : List Kf} {st : St} {Q : Ex → St → Prop} (h : IG3 l ov lv dv pv w q 0 st)
    (hk : ∀ st', IG3 l ov lv dv pv w q l.rts.length st' → Bk DG (K DG d) 0 (.exit 6) ks st' Q) : Wp DG (K DG d) 0 D.l21_3 ks st Q := by
  obtain ⟨ok, is, inv, io, mi, dr, pr, sd, sp, sw⟩ := g
  have hrb := rb3
  have hl6 := is.r2
  have hp5 := is.p2
  have hln := inv.ln
  have wl := sw.len
  simp only [List.length_map, hln] at wl
  have ixq := fun {h : Nat → Option HB} {n : Nat} => idx_sl (h := h) (n := n) ok.p (by omega) (k := .i64) (z := (q : Int)) (by omega) (show (q : Int) < l.pts.length by omega)
  simp only [Int.toNat_natCast] at ixq
  refine dw_loop (N := l.rts.length) (small ok.lr) (IG3 l ov lv dv pv w q) (fun e st' => e = .exit 6 ∧ IG3 l ov lv dv pv w q l.rts.length st') (fun i st hle hI => ?_) h (fun e s' h => by obtain ⟨rfl, a⟩ := h; exact hk s' a)
  obtain ⟨⟨h3, ⟨i4, h4, L4⟩, ⟨i5, h5, L5⟩, ⟨i6, h6, L6⟩⟩, h12, h13⟩ := hI
  by_cases hi : i < l.rts.length
  · have hi1 : (i : Int) < l.rts.length := by omega
    have hi' := ilt_t hi1
    have hw8 : IntKind.i64.wrap ((i : Int) + 1) = (i : Int) + 1 := wr_succ hi ok.lr
    have ixw := fun {h : Nat → Option HB} {n : Nat} => idx_sl (h := h) (n := n) sw (by omega) (k := .i64) (z := (i : Int)) (by omega) (by omega)
    have hh := Holds_bl (D := d) (by omega) ok is (go_of inv.ro) hi (nth l.pts q).sec
    simp only [Int.toNat_natCast] at ixw
    simp only [rowRS] at hh
    generalize hQ : (fun (e : Ex) (s' : St) => _) = Q'
    simp only [D.l21_3b]
    by_cases hm : (nth l.pts q).sec ∈ hld l rs i
    · have m1 := hz i hi hm
      simp [h3, h4, L4, h5, L5, h6, L6, h12, h13, hi', hw8, wl, ixw, ixq, ivRS, ivP, hh, hm, m1, ok.s.scal, ok.p.scal, ok.g.scal, ok.r.scal, evParts, lay, imms, B6, undT, fnEnd, argsT, PT.get_put, keep, opRun, ev, evs, evO, give, giveI, binOf, isNilK, PM.flip, putT, putL, putH, loadOf, storeOf, cut, over, ofCells, asNat, natOr, calm, clashes, Acc.clash, ressOf, resOf, frz, frz.frzs, DV.flat, DV.flat.flats, imms]
      simp [m1] at hh
      simp [hh, hm, m1, h3, hi', hw8, wl, ixw, ivRS, evParts, lay, imms, B6, undT, fnEnd, argsT, PT.get_put, keep, opRun, ev, evs, evO, give, giveI, binOf, isNilK, PM.flip, putT, putL, putH, loadOf, storeOf, cut, over, ofCells, asNat, natOr, calm, clashes, Acc.clash, ressOf, resOf, frz, frz.frzs, DV.flat, DV.flat.flats, imms]
      subst hQ
      exact .inl ⟨rfl, hi, ⟨by simp [PT.get_put], ⟨i4, by simp [PT.get_put], by simp [PT.get_put, imms]⟩, ⟨i5, by simp [PT.get_put], by simp [PT.get_put, imms]⟩, ⟨i6, by simp [PT.get_put], by simp [PT.get_put, imms]⟩⟩, by simp [PT.get_put], by simp [PT.get_put]⟩
    · simp [h3, h4, L4, h5, L5, h6, L6, h12, h13, hi', hw8, wl, ixw, ixq, ivRS, ivP, hh, hm, ok.s.scal, ok.p.scal, ok.g.scal, ok.r.scal, evParts, lay, imms, B6, undT, fnEnd, argsT, PT.get_put, keep, opRun, ev, evs, evO, give, giveI, binOf, isNilK, PM.flip, putT, putL, putH, loadOf, storeOf, cut, over, ofCells, asNat, natOr, calm, clashes, Acc.clash, ressOf, resOf, frz, frz.frzs, DV.flat, DV.flat.flats, imms]
      subst hQ
      exact .inl ⟨rfl, hi, ⟨by simp [PT.get_put], ⟨i4, by simp [PT.get_put], by simp [PT.get_put, imms]⟩, ⟨i5, by simp [PT.get_put], by simp [PT.get_put, imms]⟩, ⟨i6, by simp [PT.get_put], by simp [PT.get_put, imms]⟩⟩, by simp [PT.get_put], by simp [PT.get_put]⟩
  · obtain rfl : i = l.rts.length := by omega
    generalize hQ : (fun (e : Ex) (s' : St) => _) = Q'
    simp only [D.l21_3b]
    simp [h3, h4, L4, h5, L5, h6, L6, h12, h13, wl, imms, B6, undT, fnEnd, argsT, PT.get_put, keep, opRun, ev, evs, evO, give, giveI, binOf, isNilK, PM.flip, putT, putL, putH, loadOf, storeOf, cut, over, ofCells, asNat, natOr, calm, clashes, Acc.clash, ressOf, resOf, frz, frz.frzs, DV.flat, DV.flat.flats, imms]
    subst hQ
    exact .inr ⟨nofun, rfl, ⟨by simp [PT.get_put], ⟨i4, by simp [PT.get_put], by simp [PT.get_put, imms]⟩, ⟨i5, by simp [PT.get_put], by simp [PT.get_put, imms]⟩, ⟨i6, by simp [PT.get_put], by simp [PT.get_put, imms]⟩⟩, by simp [PT.get_put], by simp [PT.get_put]⟩
def IG2 (l : Lo) (ov lv dv pv w : IV) (i : Nat) (st : St) : Prop := RB l ov lv dv pv w st ∧ st.T.get 12 = some (.imm (.int .i64 i))
theorem loopG2 {d : Nat} (hd : 4 ≤ d) {l : Lo} {rs : List Rst} {os : List Bool} {ls : List Int} {ov lv dv pv w : IV} {zs : List Int} {bs : List Bool} (g : RG l rs os ls ov lv dv pv w zs bs) {ks : List Kf} {st : St} {Q : Ex → St → Prop} (h : IG2 l ov lv dv pv w 0 st)
    (hk : ∀ st', RB l ov lv dv pv w st' → Bk DG (K DG d) 0 (.exit 4) ks st' Q) : Wp DG (K DG d) 0 D.l21_2 ks st Q := by
  have hrb := rb3
  have p5 := g.is.p2
  have pl := g.ok.p.len
  simp only [List.length_map] at pl
  refine dw_loop (N := l.pts.length) (small (by omega)) (IG2 l ov lv dv pv w) (fun e st' => e = .exit 4 ∧ RB l ov lv dv pv w st') (fun i st hle hI => ?_) h (fun e s' h => by obtain ⟨rfl, a⟩ := h; exact hk s' a)
  obtain ⟨⟨h3, ⟨i4, h4, L4⟩, ⟨i5, h5, L5⟩, ⟨i6, h6, L6⟩⟩, h12⟩ := hI
  by_cases hi : i < l.pts.length
  · have hi1 : (i : Int) < l.pts.length := by omega
    have hi' := ilt_t hi1
    have hw8 : IntKind.i64.wrap ((i : Int) + 1) = (i : Int) + 1 := wr_succ hi (by omega)
    have hzl := g.dr.1
    have m2 := g.mi.2.1
    have hsec := g.is.ps i hi
    have ixd := fun {h : Nat → Option HB} {n : Nat} => idx_sl (h := h) (n := n) g.sd (by omega) (k := .i64) (z := (i : Int)) (by omega) (by omega)
    have ixq := fun {h : Nat → Option HB} {n : Nat} => idx_sl (h := h) (n := n) g.ok.p (by omega) (k := .i64) (z := (i : Int)) (by omega) hi1
    have ixl := fun {h : Nat → Option HB} {n : Nat} => idx_in (h := h) (n := n) g.io.l (by omega) (k := .i64) (z := (i : Int)) (by rw [m2]; exact ⟨by omega, hi1⟩)
    have ixo := fun {h : Nat → Option HB} {n : Nat} => idx_in (h := h) (n := n) g.io.o (by omega) (k := .i64) (z := (nth l.pts i).sec) (by rw [g.mi.1]; exact hsec)
    simp only [Int.toNat_natCast] at ixd ixq ixl
    generalize hQ : (fun (e : Ex) (s' : St) => _) = Q'
    simp only [D.l21_2b]
    by_cases z0 : nth zs i = 0
    · simp [h3, h4, L4, h5, L5, h6, L6, h12, hi', hw8, pl, ixd, z0, ivI, imms, B6, undT, fnEnd, argsT, PT.get_put, keep, opRun, ev, evs, evO, give, giveI, binOf, isNilK, PM.flip, putT, putL, putH, loadOf, storeOf, cut, over, ofCells, asNat, natOr, calm, clashes, Acc.clash, ressOf, resOf, frz, frz.frzs, DV.flat, DV.flat.flats, imms]
      subst hQ
      exact .inl ⟨rfl, hi, ⟨by simp [PT.get_put], ⟨i4, by simp [PT.get_put], by simp [PT.get_put, imms]⟩, ⟨i5, by simp [PT.get_put], by simp [PT.get_put, imms]⟩, ⟨i6, by simp [PT.get_put], by simp [PT.get_put, imms]⟩⟩, by simp [PT.get_put]⟩
    · obtain ⟨r, x, hr, hm, hx, hxp, hzp, hnl, hoc, hho⟩ := (g.dr.2 i hi).resolve_left z0
      have hz : ∀ j, j < l.rts.length → (nth l.pts i).sec ∈ hld l rs j → (nth rs j).mode = 1 := fun j hj hm' => by
        have hr' : hol l rs (nth l.pts i).sec = (r : Int) := hho.resolve_left fun h => hol_neg.1 h j hj hm'
        have := g.inv.apart hj hr hm' (hol_mem hr')
        rw [this]; exact hm
      have hnl' : ¬ nth zs i = nth ls i := fun e => hnl e.symm
      simp [h3, h4, L4, h5, L5, h6, L6, h12, hi', hw8, pl, ixd, ixq, ixl, ixo, hoc, z0, hnl', ivI, ivP, ivB1, imms, B6, undT, fnEnd, argsT, PT.get_put, keep, opRun, ev, evs, evO, give, giveI, binOf, isNilK, PM.flip, putT, putL, putH, loadOf, storeOf, cut, over, ofCells, asNat, natOr, calm, clashes, Acc.clash, ressOf, resOf, frz, frz.frzs, DV.flat, DV.flat.flats, imms]
      refine loopG3 hd g hi hz ⟨⟨by simp [PT.get_put], ⟨i4, by simp [PT.get_put], by simp [PT.get_put, imms]⟩, ⟨i5, by simp [PT.get_put], by simp [PT.get_put, imms]⟩, ⟨i6, by simp [PT.get_put], by simp [PT.get_put, imms]⟩⟩, by simp [PT.get_put], by simp [PT.get_put]⟩ ?_
      rintro s2 ⟨⟨f3, ⟨j4, f4, M4⟩, ⟨j5, f5, M5⟩, ⟨j6, f6, M6⟩⟩, f12, f13⟩
      simp [f3, f4, M4, f5, M5, f6, M6, f12, f13, hw8, imms, B6, undT, fnEnd, argsT, PT.get_put, keep, opRun, ev, evs, evO, give, giveI, binOf, isNilK, PM.flip, putT, putL, putH, loadOf, storeOf, cut, over, ofCells, asNat, natOr, calm, clashes, Acc.clash, ressOf, resOf, frz, frz.frzs, DV.flat, DV.flat.flats, imms]
      subst hQ
      exact .inl ⟨rfl, hi, ⟨by simp [PT.get_put, f3], ⟨j4, by simp [PT.get_put, f4], by simp [PT.get_put, M4, imms]⟩, ⟨j5, by simp [PT.get_put, f5], by simp [PT.get_put, M5, imms]⟩, ⟨j6, by simp [PT.get_put, f6], by simp [PT.get_put, M6, imms]⟩⟩, by simp [PT.get_put]⟩
  · obtain rfl : i = l.pts.length := by omega
    generalize hQ : (fun (e : Ex) (s' : St) => _) = Q'
    simp only [D.l21_2b]
    simp [h3, h4, L4, h5, L5, h6, L6, h12, pl, imms, B6, undT, fnEnd, argsT, PT.get_put, keep, opRun, ev, evs, evO, give, giveI, binOf, isNilK, PM.flip, putT, putL, putH, loadOf, storeOf, cut, over, ofCells, asNat, natOr, calm, clashes, Acc.clash, ressOf, resOf, frz, frz.frzs, DV.flat, DV.flat.flats, imms]
    subst hQ
    exact .inr ⟨nofun, rfl, ⟨by simp [PT.get_put], ⟨i4, by simp [PT.get_put], by simp [PT.get_put, imms]⟩, ⟨i5, by simp [PT.get_put], by simp [PT.get_put, imms]⟩, ⟨i6, by simp [PT.get_put], by simp [PT.get_put, imms]⟩⟩⟩
theorem right_bl {D : Nat} (hD : 5 ≤ D) {l : Lo} {rs : List Rst} {os : List Bool} {ls : List Int} {ov lv dv pv w : IV} {zs : List Int} {bs : List Bool} (g : RG l rs os ls ov lv dv pv w zs bs) :
    bl (K DG D) 21 [l.dv, inD ov lv, .agg [.imm dv, .imm pv], .imm w] = some (.imm (.bool true)) := by
  obtain ⟨d, rfl⟩ : ∃ d, D = d + 1 := ⟨D - 1, by omega⟩
  have key : Fe (K DG (d + 1) 21 [l.dv, inD ov lv, .agg [.imm dv, .imm pv], .imm w] .lf 0 0) (fun v _ _ => v = .imm (.bool true)) := by
    rw [D.k21]
    refine fn_dw rfl ?_
    simp [g.ok.s.scal, g.ok.p.scal, g.ok.g.scal, g.ok.r.scal, g.io.o.scal, g.io.l.scal, g.sd.scal, g.sp.scal, g.sw.scal, B6, undT, fnEnd, argsT, PT.get_put, keep, opRun, ev, evs, evO, give, giveI, binOf, isNilK, PM.flip, putT, putL, putH, loadOf, storeOf, cut, over, ofCells, asNat, natOr, calm, clashes, Acc.clash, ressOf, resOf, frz, frz.frzs, DV.flat, DV.flat.flats, imms]
    refine loopG0 (by omega) g ⟨⟨by simp [PT.get_put], ⟨0, by simp [PT.get_put], by simp [PT.get_put, imms]⟩, ⟨1, by simp [PT.get_put], by simp [PT.get_put, imms]⟩, ⟨2, by simp [PT.get_put], by simp [PT.get_put, imms]⟩⟩, by simp [PT.get_put]⟩ ?_
    rintro s2 ⟨f3, ⟨j4, f4, M4⟩, ⟨j5, f5, M5⟩, ⟨j6, f6, M6⟩⟩
    simp [f3, f4, M4, f5, M5, f6, M6, imms, B6, undT, fnEnd, argsT, PT.get_put, keep, opRun, ev, evs, evO, give, giveI, binOf, isNilK, PM.flip, putT, putL, putH, loadOf, storeOf, cut, over, ofCells, asNat, natOr, calm, clashes, Acc.clash, ressOf, resOf, frz, frz.frzs, DV.flat, DV.flat.flats, imms]
    refine loopG2 (by omega) g ⟨⟨by simp [PT.get_put, f3], ⟨j4, by simp [PT.get_put, f4], by simp [PT.get_put, M4, imms]⟩, ⟨j5, by simp [PT.get_put, f5], by simp [PT.get_put, M5, imms]⟩, ⟨j6, by simp [PT.get_put, f6], by simp [PT.get_put, M6, imms]⟩⟩, by simp [PT.get_put]⟩ ?_
    rintro s3 ⟨t3, ⟨k4, t4, N4⟩, ⟨k5, t5, N5⟩, ⟨k6, t6, N6⟩⟩
    simp [t3, t4, N4, t5, N5, t6, N6, imms, B6, undT, fnEnd, argsT, PT.get_put, keep, opRun, ev, evs, evO, give, giveI, binOf, isNilK, PM.flip, putT, putL, putH, loadOf, storeOf, cut, over, ofCells, asNat, natOr, calm, clashes, Acc.clash, ressOf, resOf, frz, frz.frzs, DV.flat, DV.flat.flats, imms]
  obtain ⟨v, H, n, e, rfl⟩ := key
  exact bl_of e rfl
end Go.Proofs.YtkgjgehffijepaaDoor.D

set_option linter.unusedVariables false
set_option linter.unusedSimpArgs false
set_option maxHeartbeats 16000000
namespace Go.Proofs.YtkgjgehffijepaaDoor.D
open Go Go.PM Go.Lib
def ss_LockTells : List (Bool × List Kd) := [(true, kdL), (false, [.sl kdAc])]
structure IT (l l' : Lo) (p : Nat) (own : List Nat) (v : IV) (i : Nat) (st : St) : Prop where
  h1 : st.T.get 1 = some (.imm v)
  b2 : Box st 2 l.ivs
  h5 : st.T.get 5 = some (.ptr p 0 0)
  h7 : st.T.get 7 = some (.imm (.int .i64 i))
  lk : ∃ rs, LkAt st.H p own l' rs ∧ INV l' rs
  hn : ∀ j ∈ p :: own, j < st.n
theorem loopT {l l' : Lo} (ok : LoOk l) (is : ISL l) (ok' : LoOk l') (eq : LoEq l l') {p : Nat} {own : List Nat} {v : IV} {xs : List Acv} (hv : Sl 6 v (xs.map ivAc)) (hl : xs.length ≤ reachBytes) (hx : ∀ x ∈ xs, AcOk x) {ks : List Kf} {st : St} {Q : Ex → St → Prop} (h : IT l l' p own v 0 st)
    (hk : ∀ st', Bk DG (K DG 29) 0 (.exit 0) ks st' Q) : Wp DG (K DG 29) 0 D.l3_0 ks st Q := by
  have hrb := rb3
  have vl := hv.len
  have pl := ok.p.len
  have gl := ok.g.len
  have rl := ok.r.len
  simp only [List.length_map] at vl pl gl rl
  have is' := eq.is is
  have c1 : l'.pts.length = l.pts.length := by rw [eq.pts]
  have c2 : l'.sigs.length = l.sigs.length := by rw [eq.sigs]
  refine dw_loop (N := xs.length) (small hl) (IT l l' p own v) (fun e st' => e = .exit 0) (fun i st hle hI => ?_) h (fun e s' h => by subst h; exact hk s')
  obtain ⟨h1, ⟨i2, h2, L2⟩, h5, h7, ⟨rs, lk, inv⟩, hn⟩ := hI
  have hp := hn p (by simp)
  by_cases hi : i < xs.length
  · have hi1 : (i : Int) < xs.length := by omega
    have hi' := ilt_t hi1
    have hw8 : IntKind.i64.wrap ((i : Int) + 1) = (i : Int) + 1 := wr_succ hi hl
    by_cases h60 : (i : Int) < 60
    · have j60 := ilt_t h60
      have ac := hx _ (nth_mem hi)
      have ix := fun {h : Nat → Option HB} {n : Nat} => idx_sl (h := h) (n := n) hv (by omega) (k := .i64) (z := (i : Int)) (by omega) hi1
      simp only [Int.toNat_natCast] at ix
      generalize nth xs i = x at *
      have io := ac.io
      have k1 := MayIn5_bl (D := 29) (by omega) ok io
      -- after the command
      have rest : ∀ (H1 : PT HB) (n1 : Nat) (rs1 : List Rst), LkAt H1 p own l' rs1 → INV l' rs1 → (∀ j ∈ p :: own, j < n1) → ∃ v2 H2 n2 w m2, K DG 29 15 [.ptr p 0 0, inD x.ov x.lv] H1 n1 0 = some (v2, H2, n2) ∧ v2 = .agg [.sl (n1 + 2 + 1) 0 l.pts.length l.pts.length, .sl (n1 + 2 + 2) 0 l.sigs.length l.sigs.length] ∧ n1 ≤ n2 ∧
          callM (K DG 29) .ro 16 [.ptr p 0 0] H2 (n2 + 1) 0 = some ⟨.imm w, H2, m2, [.rA]⟩ ∧ n2 + 1 ≤ m2 ∧ lenOf (.imm w) = some l.rts.length ∧ (∃ qs : List Rst, Sl 4 w (qs.map ivRS)) ∧ (∃ rs2, LkAt H2 p own l' rs2 ∧ INV l' rs2) ∧
          ((MI l x.os x.ls ∧ bl (K DG 29) 20 [l.dv, .imm w] = some (.imm (.bool true)) ∧ ∀ m, callM (K DG 29) .blind 21 [l.dv, inD x.ov x.lv, v2, .imm w] H2 m 0 = some ⟨.imm (.bool true), H2, m, [.rA]⟩) ∨ (¬ MI l x.os x.ls ∧ callM (K DG 29) .ro 19 [.ptr p 0 0] H2 m2 0 = some ⟨safeV l', H2, m2 + 3, [.rA]⟩ ∧ ∀ m, callM (K DG 29) .blind 18 [v2, safeV l'] H2 m 0 = some ⟨.imm (.bool true), H2, m, [.rA]⟩)) := by
        intro H1 n1 rs1 lk1 inv1 hn1
        have go1 := inv1.ro
        by_cases hMI : MI l x.os x.ls
        · obtain ⟨v2, H2, n2, e2, rfl, hn2, fr2, qs, zs, bs, lk2, hq, hz, dr, hb, pr⟩ := Cycle_run (d := 28) (by omega) ok' is' lk1 go1 io (eq.mi'.2 hMI) hn1
          have inv2 : INV l' qs := inv1.step is' (by obtain ⟨_, _, _, _, h⟩ := lk2; exact h) hq
          obtain ⟨w, m2, er, hm2, hw⟩ := Routes_ro (d := 28) (by omega) (by have := is'.r2; have := inv2.ln; omega) lk2 (n := n2 + 1) (lo := 0)
          have wl := hw.len
          simp only [List.length_map] at wl
          have iv := eq.inv inv2
          have em := May_bl (D := 29) (by omega) ok is iv.ro iv.nc iv.ln hw
          have zl := (eq.dr dr).1
          have bl' := (eq.pr pr).1
          have rg : RG l qs x.os x.ls x.ov x.lv (.lst false 1 (zs.map ivI)) (.lst false 1 (bs.map ivB1)) w zs bs := ⟨ok, is, iv, io, hMI, eq.dr dr, eq.pr pr, .inr ⟨_, rfl⟩, .inr ⟨_, rfl⟩, hw⟩
          have eg := right_bl (D := 29) (by omega) rg
          rw [rowI_map] at hz
          rw [rowB_map] at hb
          have s1 := snap_row hz (k := l.pts.length) (by simp [zl])
          have s2 := snap_row hb (k := l.sigs.length) (by simp [bl'])
          have sn : snap.snaps H2.get [l.dv, inD x.ov x.lv, .agg [.sl (n1 + 2 + 1) 0 l.pts.length l.pts.length, .sl (n1 + 2 + 2) 0 l.sigs.length l.sigs.length], .imm w] = some [l.dv, inD x.ov x.lv, .agg [.imm (.lst false 1 (zs.map ivI)), .imm (.lst false 1 (bs.map ivB1))], .imm w] := by
            have y1 : snap H2.get (.agg [.sl (n1 + 2 + 1) 0 l.pts.length l.pts.length, .sl (n1 + 2 + 2) 0 l.sigs.length l.sigs.length]) = some (.agg [.imm (.lst false 1 (zs.map ivI)), .imm (.lst false 1 (bs.map ivB1))]) := by
              show (snap.snaps H2.get [.sl (n1 + 2 + 1) 0 l.pts.length l.pts.length, .sl (n1 + 2 + 2) 0 l.sigs.length l.sigs.length]).map DV.agg = _
              simp only [snap.snaps, s1, s2]
              rfl
            have y2 : snap H2.get l.dv = some l.dv := rfl
            have y3 : snap H2.get (inD x.ov x.lv) = some (inD x.ov x.lv) := rfl
            have y4 : snap H2.get (.imm w) = some (.imm w) := rfl
            simp only [snap.snaps, y1, y2, y3, y4]
          rw [c1, c2] at e2
          refine ⟨_, H2, n2, w, m2, e2, rfl, by omega, er, hm2, by rw [wl, inv2.ln, eq.len], ⟨qs, hw⟩, ⟨qs, lk2, inv2⟩, .inl ⟨hMI, em, fun m => call_snap (by rfl) sn eg⟩⟩
        · have hm' : ¬ MI l' x.os x.ls := fun h => hMI (eq.mi'.1 h)
          obtain ⟨v2, H2, n2, e2, rfl, hn2, hH2⟩ := Cycle_err (d := 28) (by omega) ok' is'.p2 is'.g2 lk1 io hm' (n := n1) hn1
          have lk2 : LkAt H2 p own l' rs1 := lk1.mono fun i hi => by
            have := hn1 i hi
            have a1 : ¬ i = n1 + 2 + 1 := by omega
            have a2 : ¬ i = n1 + 2 + 2 := by omega
            rw [hH2]; simp [PT.get_put, a1, a2]
          obtain ⟨w, m2, er, hm2, hw⟩ := Routes_ro (d := 28) (by omega) (by have := is'.r2; have := inv1.ln; omega) lk2 (n := n2 + 1) (lo := 0)
          have wl := hw.len
          simp only [List.length_map] at wl
          have hp1 := hn1 p (by simp)
          have sf := Safe_ro (d := 28) ok' is'.p2 is'.g2 lk2 (n := m2) (lo := 0) (by omega)
          have g1 : H2.get (n1 + 2 + 1) = some ⟨1, (List.replicate l'.pts.length [.int .i64 0]).map imms⟩ := by
            have : ¬ n1 + 2 + 1 = n1 + 2 + 2 := by omega
            rw [hH2]; simp [PT.get_put, this]
          have g2 : H2.get (n1 + 2 + 2) = some ⟨1, (List.replicate l'.sigs.length [.bool false]).map imms⟩ := by rw [hH2]; simp [PT.get_put]
          have q := SameOut_same (D := 29) (by omega) (a := .lst false 1 (List.replicate l'.pts.length [.int .i64 0])) (a' := .lst false 1 (List.replicate l'.pts.length [.int .i64 0])) (b := .lst false 1 (List.replicate l'.sigs.length [.bool false])) (b' := .lst false 1 (List.replicate l'.sigs.length [.bool false]))
            (ds := List.replicate l'.pts.length 0) (ps := List.replicate l'.sigs.length false) (.inr ⟨false, by simp [ivI]⟩) (.inr ⟨false, by simp [ivI]⟩) (.inr ⟨false, by simp [ivB1]⟩) (.inr ⟨false, by simp [ivB1]⟩) (by have := is'.p2; simp; omega) (by have := is'.g2; simp; omega)
          have z1 := snap_row g1 (k := l'.pts.length) (by simp)
          have z2 := snap_row g2 (k := l'.sigs.length) (by simp)
          have sn : snap.snaps H2.get [.agg [.sl (n1 + 2 + 1) 0 l'.pts.length l'.pts.length, .sl (n1 + 2 + 2) 0 l'.sigs.length l'.sigs.length], safeV l'] = some [safeV l', safeV l'] := by
            have y1 : snap H2.get (.agg [.sl (n1 + 2 + 1) 0 l'.pts.length l'.pts.length, .sl (n1 + 2 + 2) 0 l'.sigs.length l'.sigs.length]) = some (safeV l') := by
              show (snap.snaps H2.get [.sl (n1 + 2 + 1) 0 l'.pts.length l'.pts.length, .sl (n1 + 2 + 2) 0 l'.sigs.length l'.sigs.length]).map DV.agg = _
              simp only [snap.snaps, z1, z2]
              rfl
            have y2 : snap H2.get (safeV l') = some (safeV l') := rfl
            simp only [snap.snaps, y1, y2]
          have w2 := fun m => call_snap (m := m) (lo := 0) (K := K DG 29) (by rfl) sn q
          refine ⟨_, H2, n2, w, m2, e2, by rw [c1, c2], by omega, er, hm2, by rw [wl, inv1.ln, eq.len], ⟨rs1, hw⟩, ⟨rs1, lk2, inv1⟩, .inr ⟨hMI, sf, fun m => w2 m⟩⟩
      by_cases hk1 : x.kind = 1
      · obtain ⟨H1, n1, e1, lk1, hn1, fr1⟩ := Command_run (d := 28) (by omega) ok' is' lk (go_of inv.ro) io x.c x.r (n := st.n + 1)
        obtain ⟨v2, H2, n2, w, m2, e2, rfl, hn2, er, hm2, wl, ⟨qs, hw⟩, lk2, hc⟩ := rest H1 n1 _ lk1 inv.cmd (fun j hj => by have := hn j hj; omega)
        rcases hc with ⟨hMI, em, eg⟩ | ⟨hMI, sf, es⟩
        · rw [dec_t hMI] at k1
          generalize hQ : (fun (e : Ex) (s' : St) => _) = Q'
          simp only [D.l3_0b]
          simp [h1, h2, L2, h5, h7, vl, hi', hw8, j60, ix, ivAc, hk1, e1, e2, er, k1, em, eg, ok.s.scal, ok.p.scal, ok.g.scal, ok.r.scal, io.o.scal, io.l.scal, hw.scal, pl, gl, rl, wl, evParts, lay, imms, B6, undT, fnEnd, argsT, PT.get_put, keep, opRun, ev, evs, evO, give, giveI, binOf, isNilK, PM.flip, putT, putL, putH, loadOf, storeOf, cut, over, ofCells, asNat, natOr, calm, clashes, Acc.clash, ressOf, resOf, frz, frz.frzs, DV.flat, DV.flat.flats, imms]
          subst hQ
          exact .inl ⟨rfl, hi, by simp [PT.get_put], ⟨i2, by simp [PT.get_put], by simp [PT.get_put, imms]⟩, by simp [PT.get_put], by simp [PT.get_put], lk2, fun j hj => by have := hn j hj; simp; omega⟩
        · rw [dec_f hMI] at k1
          generalize hQ : (fun (e : Ex) (s' : St) => _) = Q'
          simp only [D.l3_0b]
          simp [h1, h2, L2, h5, h7, vl, hi', hw8, j60, ix, ivAc, hk1, e1, e2, er, k1, sf, es, ok.s.scal, ok.p.scal, ok.g.scal, ok.r.scal, io.o.scal, io.l.scal, hw.scal, pl, gl, rl, wl, evParts, lay, imms, B6, undT, fnEnd, argsT, PT.get_put, keep, opRun, ev, evs, evO, give, giveI, binOf, isNilK, PM.flip, putT, putL, putH, loadOf, storeOf, cut, over, ofCells, asNat, natOr, calm, clashes, Acc.clash, ressOf, resOf, frz, frz.frzs, DV.flat, DV.flat.flats, imms]
          subst hQ
          exact .inl ⟨rfl, hi, by simp [PT.get_put], ⟨i2, by simp [PT.get_put], by simp [PT.get_put, imms]⟩, by simp [PT.get_put], by simp [PT.get_put], lk2, fun j hj => by have := hn j hj; simp; omega⟩
      · obtain ⟨v2, H2, n2, w, m2, e2, rfl, hn2, er, hm2, wl, ⟨qs, hw⟩, lk2, hc⟩ := rest st.H (st.n + 1) rs lk inv (fun j hj => by have := hn j hj; omega)
        rcases hc with ⟨hMI, em, eg⟩ | ⟨hMI, sf, es⟩
        · rw [dec_t hMI] at k1
          generalize hQ : (fun (e : Ex) (s' : St) => _) = Q'
          simp only [D.l3_0b]
          simp [h1, h2, L2, h5, h7, vl, hi', hw8, j60, ix, ivAc, hk1, e2, er, k1, em, eg, ok.s.scal, ok.p.scal, ok.g.scal, ok.r.scal, io.o.scal, io.l.scal, hw.scal, pl, gl, rl, wl, evParts, lay, imms, B6, undT, fnEnd, argsT, PT.get_put, keep, opRun, ev, evs, evO, give, giveI, binOf, isNilK, PM.flip, putT, putL, putH, loadOf, storeOf, cut, over, ofCells, asNat, natOr, calm, clashes, Acc.clash, ressOf, resOf, frz, frz.frzs, DV.flat, DV.flat.flats, imms]
          subst hQ
          exact .inl ⟨rfl, hi, by simp [PT.get_put], ⟨i2, by simp [PT.get_put], by simp [PT.get_put, imms]⟩, by simp [PT.get_put], by simp [PT.get_put], lk2, fun j hj => by have := hn j hj; simp; omega⟩
        · rw [dec_f hMI] at k1
          generalize hQ : (fun (e : Ex) (s' : St) => _) = Q'
          simp only [D.l3_0b]
          simp [h1, h2, L2, h5, h7, vl, hi', hw8, j60, ix, ivAc, hk1, e2, er, k1, sf, es, ok.s.scal, ok.p.scal, ok.g.scal, ok.r.scal, io.o.scal, io.l.scal, hw.scal, pl, gl, rl, wl, evParts, lay, imms, B6, undT, fnEnd, argsT, PT.get_put, keep, opRun, ev, evs, evO, give, giveI, binOf, isNilK, PM.flip, putT, putL, putH, loadOf, storeOf, cut, over, ofCells, asNat, natOr, calm, clashes, Acc.clash, ressOf, resOf, frz, frz.frzs, DV.flat, DV.flat.flats, imms]
          subst hQ
          exact .inl ⟨rfl, hi, by simp [PT.get_put], ⟨i2, by simp [PT.get_put], by simp [PT.get_put, imms]⟩, by simp [PT.get_put], by simp [PT.get_put], lk2, fun j hj => by have := hn j hj; simp; omega⟩
    · have j60 := ilt_f (show (60 : Int) ≤ i by omega)
      generalize hQ : (fun (e : Ex) (s' : St) => _) = Q'
      simp only [D.l3_0b]
      simp [h1, h2, L2, h5, h7, vl, hi', j60, B6, undT, fnEnd, argsT, PT.get_put, keep, opRun, ev, evs, evO, give, giveI, binOf, isNilK, PM.flip, putT, putL, putH, loadOf, storeOf, cut, over, ofCells, asNat, natOr, calm, clashes, Acc.clash, ressOf, resOf, frz, frz.frzs, DV.flat, DV.flat.flats, imms]
      subst hQ
      exact .inr ⟨nofun, rfl⟩
  · obtain rfl : i = xs.length := by omega
    generalize hQ : (fun (e : Ex) (s' : St) => _) = Q'
    simp only [D.l3_0b]
    simp [h1, h2, L2, h5, h7, vl, B6, undT, fnEnd, argsT, PT.get_put, keep, opRun, ev, evs, evO, give, giveI, binOf, isNilK, PM.flip, putT, putL, putH, loadOf, storeOf, cut, over, ofCells, asNat, natOr, calm, clashes, Acc.clash, ressOf, resOf, frz, frz.frzs, DV.flat, DV.flat.flats, imms]
    subst hQ
    exact .inr ⟨nofun, rfl⟩
theorem run_LockTells {l : Lo} (ok : LoOk l) {v : IV} {xs : List Acv} (hv : Sl 6 v (xs.map ivAc)) (hl : xs.length ≤ reachBytes) (hx : ∀ x ∈ xs, AcOk x) : Fe (K DG 30 3 [l.dv, .imm v] .lf 0 0) (fun v _ _ => v = .imm (.bool true)) := by
  have hrb := rb3
  obtain ⟨m, hm, hs⟩ := size_bl (D := 29) (by omega) ok
  obtain ⟨b, hlg⟩ := long_bl (D := 29) (by omega) hv hl hx
  have hkn := known_bl
  rw [D.k3]
  refine fn_dw rfl ?_
  by_cases hm3 : m < 3000
  · have hj3 : ILt (m : Int) 3000 = True := ilt_t (by omega)
    have e2 := Is4_bl (D := 29) (by omega) ok (hs hm3).sm
    cases b with
    | true => simp [ok.s.scal, ok.p.scal, ok.g.scal, ok.r.scal, hv.scal, hm, hj3, hlg, B6, undT, fnEnd, argsT, PT.get_put, keep, opRun, ev, evs, evO, give, giveI, binOf, isNilK, PM.flip, putT, putL, putH, loadOf, storeOf, cut, over, ofCells, asNat, natOr, calm, clashes, Acc.clash, ressOf, resOf, frz, frz.frzs, DV.flat, DV.flat.flats, imms]
    | false =>
      by_cases is : ISL l
      · rw [dec_t is] at e2
        obtain ⟨v1, H1, n1, e1, p, own, l', rfl, ok', eq, lk, hown, _⟩ := LockNew_run (d := 28) (by omega) ok is .lf 1
        simp [ok.s.scal, ok.p.scal, ok.g.scal, ok.r.scal, hv.scal, hm, hj3, hlg, e2, e1, B6, undT, fnEnd, argsT, PT.get_put, keep, opRun, ev, evs, evO, give, giveI, binOf, isNilK, PM.flip, putT, putL, putH, loadOf, storeOf, cut, over, ofCells, asNat, natOr, calm, clashes, Acc.clash, ressOf, resOf, frz, frz.frzs, DV.flat, DV.flat.flats, imms]
        refine loopT ok is ok' eq hv hl hx ⟨by simp [PT.get_put], ⟨0, by simp [PT.get_put], by simp [PT.get_put, imms]⟩, by simp [PT.get_put], by simp [PT.get_put], ⟨_, lk, by rw [← eq.len]; exact INV.new⟩, fun j hj => (hown j hj).2⟩ ?_
        intro st'
        simp [hkn, B6, undT, fnEnd, argsT, PT.get_put, keep, opRun, ev, evs, evO, give, giveI, binOf, isNilK, PM.flip, putT, putL, putH, loadOf, storeOf, cut, over, ofCells, asNat, natOr, calm, clashes, Acc.clash, ressOf, resOf, frz, frz.frzs, DV.flat, DV.flat.flats, imms]
      · rw [dec_f is] at e2
        simp [ok.s.scal, ok.p.scal, ok.g.scal, ok.r.scal, hv.scal, hm, hj3, hlg, e2, B6, undT, fnEnd, argsT, PT.get_put, keep, opRun, ev, evs, evO, give, giveI, binOf, isNilK, PM.flip, putT, putL, putH, loadOf, storeOf, cut, over, ofCells, asNat, natOr, calm, clashes, Acc.clash, ressOf, resOf, frz, frz.frzs, DV.flat, DV.flat.flats, imms]
  · have hj3 : ILt (m : Int) 3000 = False := ilt_f (by omega)
    simp [ok.s.scal, ok.p.scal, ok.g.scal, ok.r.scal, hv.scal, hm, hj3, B6, undT, fnEnd, argsT, PT.get_put, keep, opRun, ev, evs, evO, give, giveI, binOf, isNilK, PM.flip, putT, putL, putH, loadOf, storeOf, cut, over, ofCells, asNat, natOr, calm, clashes, Acc.clash, ressOf, resOf, frz, frz.frzs, DV.flat, DV.flat.flats, imms]
theorem pure_LockTells : ∀ cs, ArgsFit ss_LockTells cs → ∃ H' n', K (doorG 0 1) 30 3 cs .lf 0 0 = some (.imm (.bool true), H', n') := fun cs h => by
  obtain ⟨d, ds, rfl, h1, h2⟩ := fit_cons h
  obtain ⟨l, rfl, ok⟩ := lay_of h1
  obtain ⟨d1, r1, rfl, g1, h3⟩ := fit_cons h2
  obtain ⟨k, iv, hk, rfl, hf⟩ := g1
  cases hk
  obtain ⟨xs, hv, hl, hx⟩ := acts_of hf
  cases fit0 (r := []) h3
  obtain ⟨v, H, n, e, rfl⟩ := run_LockTells ok hv hl hx
  exact ⟨H, n, e⟩
end Go.Proofs.YtkgjgehffijepaaDoor.D
