/-
  pointsmanref5.MayIn, Safe, SameOut of what is the same; Command and Cycle of what may not be. Over D.
-/
import Derived.Test.YtkgjgehffijepabDoorK3
set_option linter.unusedVariables false
set_option linter.unusedSimpArgs false
set_option maxHeartbeats 16000000
namespace Go.Proofs.YtkgjgehffijepabDoor.D
open Go Go.PM Go.Lib
def IM5 (l : Lo) (ov lv : IV) (ls : List Int) (i : Nat) (st : St) : Prop := Box st 2 l.ivs ∧ Box st 3 [ov, lv] ∧ st.T.get 5 = some (.imm (.int .i64 i)) ∧ ∀ j, j < i → ¬ (nth ls j < 0 ∨ 2 < nth ls j)
theorem loopM5 {d : Nat} {l : Lo} {ov lv : IV} {os : List Bool} {ls : List Int} (io : InOk ov lv os ls) {ks : List Kf} {st : St} {Q : Ex → St → Prop} (h : IM5 l ov lv ls 0 st)
    (hk : ∀ e st', (e = .ret ∧ st'.T.get 4 = some (.imm (.bool false)) ∧ ∃ z ∈ ls, z < 0 ∨ 2 < z) ∨ (e = .exit 0 ∧ IM5 l ov lv ls ls.length st') → Bk DG (K DG d) 0 e ks st' Q) : Wp DG (K DG d) 0 D.l18_0 ks st Q := by
  refine dw_loop (N := ls.length) (small io.ll) (IM5 l ov lv ls) (fun e st' => (e = .ret ∧ st'.T.get 4 = some (.imm (.bool false)) ∧ ∃ z ∈ ls, z < 0 ∨ 2 < z) ∨ (e = .exit 0 ∧ IM5 l ov lv ls ls.length st')) (fun i st hle hI => ?_) h (fun e s' h => hk e s' h)
  obtain ⟨⟨i2, h2, L2⟩, ⟨i3, h3, L3⟩, h5, hall⟩ := hI
  have il := io.l.len
  simp only [List.length_map] at il
  by_cases hi : i < ls.length
  · have hi1 : (i : Int) < ls.length := by omega
    have hi' := ilt_t hi1
    have hw8 : IntKind.i64.wrap ((i : Int) + 1) = (i : Int) + 1 := wr_succ hi io.ll
    have ix := fun {h : Nat → Option HB} {n : Nat} => idx_sl (h := h) (n := n) io.l (by omega) (k := .i64) (z := (i : Int)) (by omega) hi1
    generalize hQ : (fun (e : Ex) (s' : St) => _) = Q'
    simp only [D.l18_0b]
    by_cases h0 : nth ls i < 0
    · simp [h2, h3, h5, L2, L3, il, hi', ix, ivI, ilt_t h0, B6, undT, fnEnd, argsT, PT.get_put, keep, opRun, ev, evs, evO, give, giveI, binOf, isNilK, PM.flip, putT, putL, putH, loadOf, storeOf, cut, over, ofCells, asNat, natOr, calm, clashes, Acc.clash, ressOf, resOf, frz, frz.frzs, DV.flat, DV.flat.flats, imms]
      subst hQ
      exact .inr ⟨nofun, .inl ⟨rfl, by simp [PT.get_put], _, nth_mem hi, .inl h0⟩⟩
    · by_cases h1 : 2 < nth ls i
      · simp [h2, h3, h5, L2, L3, il, hi', ix, ivI, ilt_f (show 0 ≤ nth ls i by omega), ilt_t h1, B6, undT, fnEnd, argsT, PT.get_put, keep, opRun, ev, evs, evO, give, giveI, binOf, isNilK, PM.flip, putT, putL, putH, loadOf, storeOf, cut, over, ofCells, asNat, natOr, calm, clashes, Acc.clash, ressOf, resOf, frz, frz.frzs, DV.flat, DV.flat.flats, imms]
        subst hQ
        exact .inr ⟨nofun, .inl ⟨rfl, by simp [PT.get_put], _, nth_mem hi, .inr h1⟩⟩
      · simp [h2, h3, h5, L2, L3, il, hi', hw8, ix, ivI, ilt_f (show 0 ≤ nth ls i by omega), ilt_f (show nth ls i ≤ 2 by omega), B6, undT, fnEnd, argsT, PT.get_put, keep, opRun, ev, evs, evO, give, giveI, binOf, isNilK, PM.flip, putT, putL, putH, loadOf, storeOf, cut, over, ofCells, asNat, natOr, calm, clashes, Acc.clash, ressOf, resOf, frz, frz.frzs, DV.flat, DV.flat.flats, imms]
        subst hQ
        refine .inl ⟨rfl, hi, ⟨i2, by simp [PT.get_put], by simp [PT.get_put, imms]⟩, ⟨i3, by simp [PT.get_put], by simp [PT.get_put, imms]⟩, by simp [PT.get_put], fun j hj => ?_⟩
        rcases Nat.lt_or_eq_of_le (Nat.le_of_lt_succ hj) with hj | rfl
        · exact hall j hj
        · exact fun h => h.elim h0 h1
  · obtain rfl : i = ls.length := by omega
    generalize hQ : (fun (e : Ex) (s' : St) => _) = Q'
    simp only [D.l18_0b]
    simp [h2, h3, h5, L2, L3, il, B6, undT, fnEnd, argsT, PT.get_put, keep, opRun, ev, evs, evO, give, giveI, binOf, isNilK, PM.flip, putT, putL, putH, loadOf, storeOf, cut, over, ofCells, asNat, natOr, calm, clashes, Acc.clash, ressOf, resOf, frz, frz.frzs, DV.flat, DV.flat.flats, imms]
    subst hQ
    exact .inr ⟨nofun, .inr ⟨rfl, ⟨i2, by simp [PT.get_put, h2], by simp [PT.get_put, L2, imms]⟩, ⟨i3, by simp [PT.get_put, h3], by simp [PT.get_put, L3, imms]⟩, by simp [PT.get_put], hall⟩⟩
theorem MayIn5_bl {D : Nat} (hD : 1 ≤ D) {l : Lo} (ok : LoOk l) {ov lv : IV} {os : List Bool} {ls : List Int} (io : InOk ov lv os ls) :
    bl (K DG D) 18 [l.dv, inD ov lv] = some (.imm (.bool (dec (MI l os ls)))) := by
  obtain ⟨d, rfl⟩ : ∃ d, D = d + 1 := ⟨D - 1, by omega⟩
  have sl := ok.s.len
  have pl := ok.p.len
  have ol := io.o.len
  have il := io.l.len
  simp only [List.length_map] at sl pl ol il
  have c1 : ((os.length : Int) = (l.secs.length : Int)) = (os.length = l.secs.length) := propext ⟨fun h => by omega, fun h => by omega⟩
  have c2 : ((ls.length : Int) = (l.pts.length : Int)) = (ls.length = l.pts.length) := propext ⟨fun h => by omega, fun h => by omega⟩
  refine bl_fe ?_
  rw [D.k18]
  refine fn_dw rfl ?_
  simp [ok.s.scal, ok.p.scal, ok.g.scal, ok.r.scal, io.o.scal, io.l.scal, B6, undT, fnEnd, argsT, PT.get_put, keep, opRun, ev, evs, evO, give, giveI, binOf, isNilK, PM.flip, putT, putL, putH, loadOf, storeOf, cut, over, ofCells, asNat, natOr, calm, clashes, Acc.clash, ressOf, resOf, frz, frz.frzs, DV.flat, DV.flat.flats, imms]
  refine loopM5 (l := l) io ⟨⟨0, by simp [PT.get_put], by simp [PT.get_put, imms]⟩, ⟨1, by simp [PT.get_put], by simp [PT.get_put, imms]⟩, by simp [PT.get_put], fun j hj => by omega⟩ ?_
  rintro e st' (⟨rfl, h4, hm⟩ | ⟨rfl, ⟨i2, h2, L2⟩, ⟨i3, h3, L3⟩, h5, hall⟩)
  · have : ¬ MI l os ls := fun h => h.2.2 hm
    simp [h4, this, B6, undT, fnEnd, argsT, PT.get_put, keep, opRun, ev, evs, evO, give, giveI, binOf, isNilK, PM.flip, putT, putL, putH, loadOf, storeOf, cut, over, ofCells, asNat, natOr, calm, clashes, Acc.clash, ressOf, resOf, frz, frz.frzs, DV.flat, DV.flat.flats, imms]
  · have hn : ¬ ∃ z ∈ ls, z < 0 ∨ 2 < z := fun ⟨z, hz, h⟩ => by
      obtain ⟨j, hj, e⟩ := mem_nth hz
      exact hall j hj (e ▸ h)
    have hm : MI l os ls ↔ os.length = l.secs.length ∧ ls.length = l.pts.length := ⟨fun h => ⟨h.1, h.2.1⟩, fun h => ⟨h.1, h.2, hn⟩⟩
    rw [dec_congr hm]
    generalize hQ : Fin _ _ = Q
    simp (config := {contextual := true}) [h2, h3, L2, L3, sl, pl, ol, il, c1, c2, B6, undT, fnEnd, argsT, PT.get_put, keep, opRun, ev, evs, evO, give, giveI, binOf, isNilK, PM.flip, putT, putL, putH, loadOf, storeOf, cut, over, ofCells, asNat, natOr, calm, clashes, Acc.clash, ressOf, resOf, frz, frz.frzs, DV.flat, DV.flat.flats, imms]
    subst hQ
    simp (config := {contextual := true}) [B6, undT, fnEnd, argsT, PT.get_put, keep, opRun, ev, evs, evO, give, giveI, binOf, isNilK, PM.flip, putT, putL, putH, loadOf, storeOf, cut, over, ofCells, asNat, natOr, calm, clashes, Acc.clash, ressOf, resOf, frz, frz.frzs, DV.flat, DV.flat.flats, imms]
    intro _
    exact dec_d
/-! ### Safe -/
theorem Safe_run {d : Nat} {H : PT HB} {p : Nat} {own : List Nat} {l : Lo} {rs : List Rst} (ok : LoOk l) (p5 : l.pts.length ≤ 5) (g6 : l.sigs.length ≤ 6) (lk : LkAt H p own l rs) {n lo : Nat} (hpn : p < n) :
    Fe (K DG (d + 1) 21 [.ptr p 0 0] H n lo) (fun v H' n' => v = .agg [.sl (n + 1) 0 l.pts.length l.pts.length, .sl (n + 2) 0 l.sigs.length l.sigs.length] ∧ n' = n + 3 ∧
      H' = (H.put (n + 1) (some ⟨1, List.replicate l.pts.length (imms [.int .i64 0])⟩)).put (n + 2) (some ⟨1, List.replicate l.sigs.length (imms [.bool false])⟩)) := by
  obtain ⟨x, h1, h2, h3, h4⟩ := lk
  have pl := ok.p.len
  have gl := ok.g.len
  simp only [List.length_map] at pl gl
  have a1 : l.pts.length ≤ appMax := by unfold appMax; omega
  have a2 : l.pts.length * 8 ≤ appMax := by unfold appMax; omega
  have a3 : l.sigs.length ≤ appMax := by unfold appMax; omega
  rw [D.k21]
  refine fn_dw rfl ?_
  have b1 : ¬ p = n + 1 := by omega
  have b2 : ¬ n + 1 = p := by omega
  have b3 : ¬ p = n + 1 + 1 := by omega
  simp [h1, pl, gl, a1, a2, a3, b1, b2, b3, evParts, lay, B6, undT, fnEnd, argsT, PT.get_put, keep, opRun, ev, evs, evO, give, giveI, binOf, isNilK, PM.flip, putT, putL, putH, loadOf, storeOf, cut, over, ofCells, asNat, natOr, calm, clashes, Acc.clash, ressOf, resOf, frz, frz.frzs, DV.flat, DV.flat.flats, imms]
theorem zeros_sl {sz k id n lo : Nat} {H : PT HB} {r : List IV} (h : H.get id = some ⟨sz, List.replicate k (imms r)⟩) (hlo : lo ≤ id) : frz H.get lo (.sl id 0 k k) = some (.imm (.lst false sz (List.replicate k r))) := by
  have hf : frzI H.get lo frzDepth (.sl id 0 k k) = some (.lst false sz (List.replicate k r)) := by
    show (if lo ≤ id then _ else _) = _
    rw [if_pos hlo]
    simp only [h]
    rw [if_pos (by simp)]
    simp only [List.drop_zero]
    rw [List.take_of_length_le (by simp), show List.replicate k (imms r) = (List.replicate k r).map imms by simp, mapO_frz2]
    rfl
  have hz0 : frz H.get lo (.sl id 0 k k) = if id < lo then some (.sl id 0 k k) else (frzI H.get lo frzDepth (.sl id 0 k k)).map .imm := rfl
  rw [hz0, if_neg (by omega), hf]
  rfl
/-- What tells the field nothing, as a value. -/
abbrev safeV (l : Lo) : DV := .agg [.imm (.lst false 1 (List.replicate l.pts.length [.int .i64 0])), .imm (.lst false 1 (List.replicate l.sigs.length [.bool false]))]
theorem Safe_ro {d : Nat} {H : PT HB} {p : Nat} {own : List Nat} {l : Lo} {rs : List Rst} (ok : LoOk l) (p5 : l.pts.length ≤ 5) (g6 : l.sigs.length ≤ 6) (lk : LkAt H p own l rs) {n lo : Nat} (hpn : p < n) :
    callM (K DG (d + 1)) .ro 21 [.ptr p 0 0] H n lo = some ⟨safeV l, H, n + 3, [.rA]⟩ := by
  obtain ⟨v, H1, n1, e, rfl, rfl, rfl⟩ := Safe_run (d := d) ok p5 g6 lk (n := n) (lo := n) hpn
  have z1 := zeros_sl (n := n) (lo := n) (id := n + 1) (k := l.pts.length) (sz := 1) (r := [.int .i64 0]) (H := (H.put (n + 1) (some ⟨1, List.replicate l.pts.length (imms [.int .i64 0])⟩)).put (n + 2) (some ⟨1, List.replicate l.sigs.length (imms [.bool false])⟩)) (by
    have : ¬ n + 1 = n + 2 := by omega
    simp [PT.get_put, this]) (by omega)
  have z2 := zeros_sl (n := n) (lo := n) (id := n + 2) (k := l.sigs.length) (sz := 1) (r := [.bool false]) (H := (H.put (n + 1) (some ⟨1, List.replicate l.pts.length (imms [.int .i64 0])⟩)).put (n + 2) (some ⟨1, List.replicate l.sigs.length (imms [.bool false])⟩)) (by
    simp [PT.get_put]) (by omega)
  have ho : DV.out.outs [DV.ptr p 0 0] = true := rfl
  rw [callM_ro, if_pos ho, e]
  simp only
  show ((frz.frzs _ n _).map DV.agg).map _ = _
  simp only [frz.frzs, z1, z2]
  rfl
/-! ### SameOut -/
structure OutV (v : DV) (ds : List Int) (ps : List Bool) : Prop where
  ex : ∃ a b, v = .agg [.imm a, .imm b] ∧ Sl 1 a (ds.map ivI) ∧ Sl 1 b (ps.map ivB1)
theorem loopSO0 {d : Nat} {a b a' b' : IV} {ds : List Int} (ha : Sl 1 a (ds.map ivI)) (ha' : Sl 1 a' (ds.map ivI)) (hl : ds.length ≤ reachBytes) {ks : List Kf} {st : St} {Q : Ex → St → Prop} (h : Box st 2 [a, b] ∧ Box st 3 [a', b'] ∧ st.T.get 5 = some (.imm (.int .i64 (0 : Nat))))
    (hk : ∀ st', Box st' 2 [a, b] ∧ Box st' 3 [a', b'] → Bk DG (K DG d) 0 (.exit 0) ks st' Q) : Wp DG (K DG d) 0 D.l20_0 ks st Q := by
  refine dw_loop (N := ds.length) (small hl) (fun i st => Box st 2 [a, b] ∧ Box st 3 [a', b'] ∧ st.T.get 5 = some (.imm (.int .i64 i))) (fun e st' => e = .exit 0 ∧ Box st' 2 [a, b] ∧ Box st' 3 [a', b']) (fun i st hle hI => ?_) h (fun e s' h => by rw [h.1]; exact hk s' h.2)
  obtain ⟨⟨i2, h2, L2⟩, ⟨i3, h3, L3⟩, h5⟩ := hI
  have al := ha.len
  simp only [List.length_map] at al
  by_cases hi : i < ds.length
  · have hi1 : (i : Int) < ds.length := by omega
    have hi' := ilt_t hi1
    have hw8 : IntKind.i64.wrap ((i : Int) + 1) = (i : Int) + 1 := wr_succ hi hl
    have ix := fun {h : Nat → Option HB} {n : Nat} => idx_sl (h := h) (n := n) ha (by omega) (k := .i64) (z := (i : Int)) (by omega) hi1
    have iy := fun {h : Nat → Option HB} {n : Nat} => idx_sl (h := h) (n := n) ha' (by omega) (k := .i64) (z := (i : Int)) (by omega) hi1
    generalize hQ : (fun (e : Ex) (s' : St) => _) = Q'
    simp only [D.l20_0b]
    simp [h2, h3, h5, L2, L3, al, hi', hw8, ix, iy, ivI, B6, undT, fnEnd, argsT, PT.get_put, keep, opRun, ev, evs, evO, give, giveI, binOf, isNilK, PM.flip, putT, putL, putH, loadOf, storeOf, cut, over, ofCells, asNat, natOr, calm, clashes, Acc.clash, ressOf, resOf, frz, frz.frzs, DV.flat, DV.flat.flats, imms]
    subst hQ
    exact .inl ⟨rfl, hi, ⟨i2, by simp [PT.get_put], by simp [PT.get_put, imms]⟩, ⟨i3, by simp [PT.get_put], by simp [PT.get_put, imms]⟩, by simp [PT.get_put]⟩
  · obtain rfl : i = ds.length := by omega
    generalize hQ : (fun (e : Ex) (s' : St) => _) = Q'
    simp only [D.l20_0b]
    simp [h2, h3, h5, L2, L3, al, B6, undT, fnEnd, argsT, PT.get_put, keep, opRun, ev, evs, evO, give, giveI, binOf, isNilK, PM.flip, putT, putL, putH, loadOf, storeOf, cut, over, ofCells, asNat, natOr, calm, clashes, Acc.clash, ressOf, resOf, frz, frz.frzs, DV.flat, DV.flat.flats, imms]
    subst hQ
    exact .inr ⟨nofun, rfl, ⟨i2, by simp [PT.get_put, h2], by simp [PT.get_put, L2, imms]⟩, ⟨i3, by simp [PT.get_put, h3], by simp [PT.get_put, L3, imms]⟩⟩
theorem loopSO1 {d : Nat} {a b a' b' : IV} {ps : List Bool} (hb : Sl 1 b (ps.map ivB1)) (hb' : Sl 1 b' (ps.map ivB1)) (hl : ps.length ≤ reachBytes) {ks : List Kf} {st : St} {Q : Ex → St → Prop} (h : Box st 2 [a, b] ∧ Box st 3 [a', b'] ∧ st.T.get 6 = some (.imm (.int .i64 (0 : Nat))))
    (hk : ∀ st', Bk DG (K DG d) 0 (.exit 2) ks st' Q) : Wp DG (K DG d) 0 D.l20_1 ks st Q := by
  refine dw_loop (N := ps.length) (small hl) (fun i st => Box st 2 [a, b] ∧ Box st 3 [a', b'] ∧ st.T.get 6 = some (.imm (.int .i64 i))) (fun e st' => e = .exit 2) (fun i st hle hI => ?_) h (fun e s' h => by rw [h]; exact hk s')
  obtain ⟨⟨i2, h2, L2⟩, ⟨i3, h3, L3⟩, h5⟩ := hI
  have al := hb.len
  simp only [List.length_map] at al
  by_cases hi : i < ps.length
  · have hi1 : (i : Int) < ps.length := by omega
    have hi' := ilt_t hi1
    have hw8 : IntKind.i64.wrap ((i : Int) + 1) = (i : Int) + 1 := wr_succ hi hl
    have ix := fun {h : Nat → Option HB} {n : Nat} => idx_sl (h := h) (n := n) hb (by omega) (k := .i64) (z := (i : Int)) (by omega) hi1
    have iy := fun {h : Nat → Option HB} {n : Nat} => idx_sl (h := h) (n := n) hb' (by omega) (k := .i64) (z := (i : Int)) (by omega) hi1
    generalize hQ : (fun (e : Ex) (s' : St) => _) = Q'
    simp only [D.l20_1b]
    simp [h2, h3, h5, L2, L3, al, hi', hw8, ix, iy, ivB1, B6, undT, fnEnd, argsT, PT.get_put, keep, opRun, ev, evs, evO, give, giveI, binOf, isNilK, PM.flip, putT, putL, putH, loadOf, storeOf, cut, over, ofCells, asNat, natOr, calm, clashes, Acc.clash, ressOf, resOf, frz, frz.frzs, DV.flat, DV.flat.flats, imms]
    subst hQ
    exact .inl ⟨rfl, hi, ⟨i2, by simp [PT.get_put], by simp [PT.get_put, imms]⟩, ⟨i3, by simp [PT.get_put], by simp [PT.get_put, imms]⟩, by simp [PT.get_put]⟩
  · obtain rfl : i = ps.length := by omega
    generalize hQ : (fun (e : Ex) (s' : St) => _) = Q'
    simp only [D.l20_1b]
    simp [h2, h3, h5, L2, L3, al, B6, undT, fnEnd, argsT, PT.get_put, keep, opRun, ev, evs, evO, give, giveI, binOf, isNilK, PM.flip, putT, putL, putH, loadOf, storeOf, cut, over, ofCells, asNat, natOr, calm, clashes, Acc.clash, ressOf, resOf, frz, frz.frzs, DV.flat, DV.flat.flats, imms]
    subst hQ
    simp
theorem SameOut_same {D : Nat} (hD : 1 ≤ D) {a b a' b' : IV} {ds : List Int} {ps : List Bool} (ha : Sl 1 a (ds.map ivI)) (ha' : Sl 1 a' (ds.map ivI)) (hb : Sl 1 b (ps.map ivB1)) (hb' : Sl 1 b' (ps.map ivB1)) (hl : ds.length ≤ reachBytes) (hl' : ps.length ≤ reachBytes) :
    bl (K DG D) 20 [.agg [.imm a, .imm b], .agg [.imm a', .imm b']] = some (.imm (.bool true)) := by
  obtain ⟨d, rfl⟩ : ∃ d, D = d + 1 := ⟨D - 1, by omega⟩
  have e1 := ha.len
  have e2 := ha'.len
  have e3 := hb.len
  have e4 := hb'.len
  simp only [List.length_map] at e1 e2 e3 e4
  refine bl_fe ?_
  rw [D.k20]
  refine fn_dw rfl ?_
  simp [ha.scal, ha'.scal, hb.scal, hb'.scal, e1, e2, e3, e4, B6, undT, fnEnd, argsT, PT.get_put, keep, opRun, ev, evs, evO, give, giveI, binOf, isNilK, PM.flip, putT, putL, putH, loadOf, storeOf, cut, over, ofCells, asNat, natOr, calm, clashes, Acc.clash, ressOf, resOf, frz, frz.frzs, DV.flat, DV.flat.flats, imms]
  refine loopSO0 (b := b) (b' := b') ha ha' hl ⟨⟨0, by simp [PT.get_put], by simp [PT.get_put, imms]⟩, ⟨1, by simp [PT.get_put], by simp [PT.get_put, imms]⟩, by simp [PT.get_put]⟩ ?_
  rintro st' ⟨⟨i2, h2, L2⟩, ⟨i3, h3, L3⟩⟩
  simp [h2, h3, L2, L3, B6, undT, fnEnd, argsT, PT.get_put, keep, opRun, ev, evs, evO, give, giveI, binOf, isNilK, PM.flip, putT, putL, putH, loadOf, storeOf, cut, over, ofCells, asNat, natOr, calm, clashes, Acc.clash, ressOf, resOf, frz, frz.frzs, DV.flat, DV.flat.flats, imms]
  refine loopSO1 (a := a) (a' := a') hb hb' hl' ⟨⟨i2, by simp [PT.get_put, h2], by simp [PT.get_put, L2, imms]⟩, ⟨i3, by simp [PT.get_put, h3], by simp [PT.get_put, L3, imms]⟩, by simp [PT.get_put]⟩ ?_
  intro st2
  simp [B6, undT, fnEnd, argsT, PT.get_put, keep, opRun, ev, evs, evO, give, giveI, binOf, isNilK, PM.flip, putT, putL, putH, loadOf, storeOf, cut, over, ofCells, asNat, natOr, calm, clashes, Acc.clash, ressOf, resOf, frz, frz.frzs, DV.flat, DV.flat.flats, imms]
/-! ### What may not be -/
theorem Command_err {d : Nat} (hd : 4 ≤ d) {H : PT HB} {p : Nat} {own : List Nat} {l : Lo} {rs : List Rst} (ok : LoOk l) (lk : LkAt H p own l rs) {ov lv : IV} {os : List Bool} {ls : List Int} (io : InOk ov lv os ls) (hm : ¬ MI l os ls) {n : Nat} (hpn : p < n) (c r : Int) :
    ∃ n', K DG (d + 1) 11 [.ptr p 0 0, inD ov lv, .agg [.imm (.int .i64 c), .imm (.int .i64 r)]] H n 0 = some (.imm (.int .i64 1), H, n') ∧ n ≤ n' := by
  obtain ⟨x, h1, h2, h3, h4⟩ := lk
  have e := MayIn_bl (D := d) (by omega) ok io
  rw [dec_f hm] at e
  have key : Fe (K DG (d + 1) 11 [.ptr p 0 0, inD ov lv, .agg [.imm (.int .i64 c), .imm (.int .i64 r)]] H n 0) (fun v H' n' => v = .imm (.int .i64 1) ∧ H' = H ∧ n ≤ n') := by
    rw [D.k11]
    refine fn_dw rfl ?_
    simp [io.o.scal, io.l.scal, h1, e, B6, undT, fnEnd, argsT, PT.get_put, keep, opRun, ev, evs, evO, give, giveI, binOf, isNilK, PM.flip, putT, putL, putH, loadOf, storeOf, cut, over, ofCells, asNat, natOr, calm, clashes, Acc.clash, ressOf, resOf, frz, frz.frzs, DV.flat, DV.flat.flats, imms]
    try omega
  obtain ⟨v, H', n', e, rfl, rfl, hn⟩ := key
  exact ⟨n', e, hn⟩
theorem Cycle_err {d : Nat} (hd : 4 ≤ d) {H : PT HB} {p : Nat} {own : List Nat} {l : Lo} {rs : List Rst} (ok : LoOk l) (p5 : l.pts.length ≤ 5) (g6 : l.sigs.length ≤ 6) (lk : LkAt H p own l rs) {ov lv : IV} {os : List Bool} {ls : List Int} (io : InOk ov lv os ls) (hm : ¬ MI l os ls) {n : Nat} (hpn : ∀ i ∈ p :: own, i < n) :
    Fe (K DG (d + 1) 13 [.ptr p 0 0, inD ov lv] H n 0) (fun v H' n' => v = .agg [.sl (n + 2 + 1) 0 l.pts.length l.pts.length, .sl (n + 2 + 2) 0 l.sigs.length l.sigs.length] ∧ n' = n + 2 + 3 + 1 ∧
      H' = (H.put (n + 2 + 1) (some ⟨1, List.replicate l.pts.length (imms [.int .i64 0])⟩)).put (n + 2 + 2) (some ⟨1, List.replicate l.sigs.length (imms [.bool false])⟩)) := by
  have hp := hpn p (by simp)
  obtain ⟨d, rfl⟩ : ∃ d', d = d' + 1 := ⟨d - 1, by omega⟩
  obtain ⟨v, H1, n1, e1, rfl, rfl, rfl⟩ := Safe_run (d := d) ok p5 g6 lk (n := n + 2) (lo := 0) (by omega)
  obtain ⟨x, h1, h2, h3, h4⟩ := lk
  have e := MayIn_bl (D := d + 1) (by omega) ok io
  rw [dec_f hm] at e
  have b1 : ¬ p = n + 2 + 1 := by omega
  have b2 : ¬ p = n + 2 + 2 := by omega
  generalize hH1 : ((H.put (n + 2 + 1) (some ⟨1, List.replicate l.pts.length (imms [.int .i64 0])⟩)).put (n + 2 + 2) (some ⟨1, List.replicate l.sigs.length (imms [.bool false])⟩)) = H1 at e1
  have g1 : H1.get p = some ⟨5, [[.imm l.sv, .imm l.pv, .imm l.gv, .imm l.rv, x]]⟩ := by rw [← hH1]; simp [PT.get_put, b1, b2, h1]
  rw [D.k13]
  refine fn_dw rfl ?_
  simp [io.o.scal, io.l.scal, e1, g1, e, B6, undT, fnEnd, argsT, PT.get_put, keep, opRun, ev, evs, evO, give, giveI, binOf, isNilK, PM.flip, putT, putL, putH, loadOf, storeOf, cut, over, ofCells, asNat, natOr, calm, clashes, Acc.clash, ressOf, resOf, frz, frz.frzs, DV.flat, DV.flat.flats, imms]
end Go.Proofs.YtkgjgehffijepabDoor.D
