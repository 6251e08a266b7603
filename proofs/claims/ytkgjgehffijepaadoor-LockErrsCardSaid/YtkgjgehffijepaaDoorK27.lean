/-
  pointsmanref5's Cycle: as the Lock's. Over D.
-/
import Derived.Test.YtkgjgehffijepaaDoorK26
set_option linter.unusedVariables false
set_option linter.unusedSimpArgs false
set_option maxHeartbeats 16000000
namespace Go.Proofs.YtkgjgehffijepaaDoor.D
open Go Go.PM Go.Lib
structure ICv (p : Nat) (ov lv : IV) (us : List DV) (st : St) : Prop where
  h0 : st.T.get 0 = some (.ptr p 0 0)
  b3 : BoxD st 3 [.imm ov, .imm lv]
  b4 : BoxD st 4 [.imm .nils, .imm .nils]
  b5 : BoxD st 5 us
structure ICv0 (p : Nat) (own : List Nat) (l : Lo) (os : List Bool) (ls : List Int) (rs : List Rst) (ov lv : IV) (us : List DV) (H1 : PT HB) (n1 : Nat) (i : Nat) (qs : List Rst) (st : St) : Prop where
  z : ICv p ov lv us st
  h6 : st.T.get 6 = some (.imm (.int .i64 i))
  lk : LkAt st.H p own l qs
  fr : ∀ j, j ∉ own → st.H.get j = H1.get j
  hn : n1 ≤ st.n
  al : ∀ j, j < l.rts.length → nth qs j = if j < i then stepF l os ls j (nth rs j) else nth rs j
theorem loopCv0 {d : Nat} (hd : 5 ≤ d) {p : Nat} {own : List Nat} {l : Lo} {os : List Bool} {ls : List Int} {rs : List Rst} (ok : LoOk l) (is : ISL l) {ov lv : IV} (io : InOk ov lv os ls) (mi : MI l os ls) (ro : ∀ r, r < l.rts.length → RsOk l r (nth rs r))
    {us : List DV} {H1 : PT HB} {n1 : Nat} {ks : List Kf} {st : St} {Q : Ex → St → Prop} (h : ICv0 p own l os ls rs ov lv us H1 n1 0 rs st)
    (hk : ∀ st' qs, ICv0 p own l os ls rs ov lv us H1 n1 l.rts.length qs st' → Bk DG (K DG d) 0 (.exit 0) ks st' Q) : Wp DG (K DG d) 0 D.l25_0 ks st Q := by
  have hrb := rb3
  obtain ⟨d, rfl⟩ : ∃ d', d = d' + 1 := ⟨d - 1, by omega⟩
  refine dw_loop (N := l.rts.length) (small ok.lr) (fun i st => ∃ qs, ICv0 p own l os ls rs ov lv us H1 n1 i qs st) (fun e st' => e = .exit 0 ∧ ∃ qs, ICv0 p own l os ls rs ov lv us H1 n1 l.rts.length qs st') (fun i st hle hI => ?_) ⟨rs, h⟩ (fun e s' h => by obtain ⟨rfl, qs, h⟩ := h; exact hk s' qs h)
  obtain ⟨qs, ⟨h0, ⟨i3, h3, L3⟩, ⟨i4, h4, L4⟩, ⟨i5, h5, L5⟩⟩, h6, lk, fr, hn, al⟩ := hI
  have lk0 := lk
  obtain ⟨x, k1, k2, k3, k4⟩ := lk
  have xl := k2.len
  rw [k4] at xl
  by_cases hi : i < l.rts.length
  · have hi1 : (i : Int) < l.rts.length := by omega
    have hi' := ilt_t hi1
    have hw8 : IntKind.i64.wrap ((i : Int) + 1) = (i : Int) + 1 := wr_succ hi ok.lr
    have eqi : nth qs i = nth rs i := by rw [al i hi, if_neg (by omega)]
    obtain ⟨v2, H2, n2, e2, lk2, hn2, fr2⟩ := step5_run (d := d) (by omega) ok is lk0 io mi hi (by rw [eqi]; exact ro i hi) (n := st.n)
    have hal : ∀ j, j < l.rts.length → nth (qs.set i (stepF l os ls i (nth qs i))) j = if j < i + 1 then stepF l os ls j (nth rs j) else nth rs j := fun j hj => by
      by_cases hij : i = j
      · subst hij
        rw [if_pos (by omega), ← eqi]
        simp [nth, k4, hi]
      · have : nth (qs.set i (stepF l os ls i (nth qs i))) j = nth qs j := by simp [nth, List.getD, List.getElem?_set, hij]
        rw [this, al j hj]
        by_cases hji : j < i
        · rw [if_pos hji, if_pos (by omega)]
        · rw [if_neg hji, if_neg (by omega)]
    generalize qs.set i (stepF l os ls i (nth qs i)) = ws at lk2 hal
    generalize hQ : (fun (e : Ex) (s' : St) => _) = Q'
    simp only [D.l25_0b]
    simp [h0, h3, L3, h4, L4, h5, L5, h6, k1, xl, hi', hw8, e2, io.o.scal, io.l.scal, evParts, lay, B6, undT, fnEnd, argsT, PT.get_put, keep, opRun, ev, evs, evO, give, giveI, binOf, isNilK, PM.flip, putT, putL, putH, loadOf, storeOf, cut, over, ofCells, asNat, natOr, calm, clashes, Acc.clash, ressOf, resOf, frz, frz.frzs, DV.flat, DV.flat.flats, imms]
    subst hQ
    exact .inl ⟨rfl, hi, ws, ⟨by simp [PT.get_put], ⟨i3, by simp [PT.get_put], by simp [PT.get_put]⟩, ⟨i4, by simp [PT.get_put], by simp [PT.get_put]⟩, ⟨i5, by simp [PT.get_put], by simp [PT.get_put]⟩⟩, by simp [PT.get_put], lk2, fun j hj => by rw [fr2 j hj]; exact fr j hj, by simp; omega, hal⟩
  · obtain rfl : i = l.rts.length := by omega
    generalize hQ : (fun (e : Ex) (s' : St) => _) = Q'
    simp only [D.l25_0b]
    simp [h0, h3, L3, h4, L4, h5, L5, h6, k1, xl, B6, undT, fnEnd, argsT, PT.get_put, keep, opRun, ev, evs, evO, give, giveI, binOf, isNilK, PM.flip, putT, putL, putH, loadOf, storeOf, cut, over, ofCells, asNat, natOr, calm, clashes, Acc.clash, ressOf, resOf, frz, frz.frzs, DV.flat, DV.flat.flats, imms]
    subst hQ
    exact .inr ⟨nofun, rfl, qs, ⟨by simp [PT.get_put, h0], ⟨i3, by simp [PT.get_put, h3], by simp [PT.get_put, L3]⟩, ⟨i4, by simp [PT.get_put, h4], by simp [PT.get_put, L4]⟩, ⟨i5, by simp [PT.get_put, h5], by simp [PT.get_put, L5]⟩⟩, by simp [PT.get_put, h6], lk0, fr, hn, al⟩
structure ICv2 (p : Nat) (l : Lo) (rs : List Rst) (os : List Bool) (ls : List Int) (ov lv nv : IV) (sb : DV) (a : Nat) (H1 : PT HB) (n0 r : Nat) (z0 : List Int) (i : Nat) (zs : List Int) (st : St) : Prop where
  z : ICv p ov lv [.sl a 0 l.pts.length l.pts.length, sb] st
  h7 : st.T.get 7 = some (.imm (.int .i64 r))
  h8 : st.T.get 8 = some (.imm nv)
  h9 : st.T.get 9 = some (.imm (.int .i64 i))
  ha : st.H.get a = some ⟨1, zs.map rowI⟩
  fr : ∀ j, j ≠ a → st.H.get j = H1.get j
  hn : n0 ≤ st.n
  dr : zs.length = l.pts.length ∧ zs = it (drN l rs os ls r) z0 i
theorem loopCv2 {d : Nat} (hd : 4 ≤ d) {p : Nat} {own : List Nat} {l : Lo} {rs : List Rst} (ok : LoOk l) (is : ISL l) {H1 : PT HB} (lk : LkAt H1 p own l rs) (go : GoneOk l rs) {ov lv : IV} {os : List Bool} {ls : List Int} (io : InOk ov lv os ls) (mi : MI l os ls) {a n0 : Nat} (hna : a ∉ p :: own) {sb : DV}
    {r : Nat} (hr : r < l.rts.length) {nv : IV} (hv : Sl 2 nv ((nd (nth l.rts r)).map ivN)) {z0 : List Int} {ks : List Kf} {st : St} {Q : Ex → St → Prop} (h : ICv2 p l rs os ls ov lv nv sb a H1 n0 r z0 0 z0 st)
    (hk : ∀ st' zs', ICv2 p l rs os ls ov lv nv sb a H1 n0 r z0 (nd (nth l.rts r)).length zs' st' → Bk DG (K DG d) 0 (.exit 4) ks st' Q) : Wp DG (K DG d) 0 D.l25_2 ks st Q := by
  have hrb := rb3
  obtain ⟨d, rfl⟩ : ∃ d', d = d' + 1 := ⟨d - 1, by omega⟩
  have hnl : (nd (nth l.rts r)).length ≤ reachBytes := by have := is.few r hr; simp [nd]; omega
  have vl := hv.len
  simp only [List.length_map] at vl
  refine dw_loop (N := (nd (nth l.rts r)).length) (small hnl) (fun i st => ∃ ws, ICv2 p l rs os ls ov lv nv sb a H1 n0 r z0 i ws st) (fun e st' => e = .exit 4 ∧ ∃ ws, ICv2 p l rs os ls ov lv nv sb a H1 n0 r z0 (nd (nth l.rts r)).length ws st') (fun i st hle hI => ?_) ⟨z0, h⟩ (fun e s' h => by obtain ⟨rfl, zs, h⟩ := h; exact hk s' zs h)
  obtain ⟨zs, ⟨g0, ⟨i3, g3, L3⟩, ⟨i4, g4, L4⟩, ⟨i5, g5, L5⟩⟩, g7, g8, g9, ha, fr, hn, dr⟩ := hI
  have lk1 : LkAt st.H p own l rs := lk.mono fun j hj => fr j fun e => hna (e ▸ hj)
  have lk0 := lk1
  obtain ⟨x, h1, h2, h3, h4⟩ := lk1
  by_cases hi : i < (nd (nth l.rts r)).length
  · have hi1 : (i : Int) < (nd (nth l.rts r)).length := by omega
    have hi' := ilt_t hi1
    have hw8 : IntKind.i64.wrap ((i : Int) + 1) = (i : Int) + 1 := wr_succ hi hnl
    have ix := fun {h : Nat → Option HB} {n : Nat} => idx_sl (h := h) (n := n) hv (by omega) (k := .i64) (z := (i : Int)) (by omega) hi1
    have hmem := nth_mem hi
    simp only [Int.toNat_natCast] at ix
    generalize hgx : nth (nd (nth l.rts r)) i = y at *
    have hpt := nd_in is hr hmem
    have hsec := sec_in is hr hmem
    have ip := fun {h : Nat → Option HB} {n : Nat} => idx_in (h := h) (n := n) ok.p (by omega) (k := .i64) (z := y.pt) hpt
    have il := fun {h : Nat → Option HB} {n : Nat} => idx_in (h := h) (n := n) io.l (by omega) (k := .i64) (z := y.pt) (by rw [mi.2.1]; exact hpt)
    have io' := fun {h : Nat → Option HB} {n : Nat} => idx_in (h := h) (n := n) io.o (by omega) (k := .i64) (z := secOf l y) (by rw [mi.1]; exact hsec)
    have hs := Side_bl (D := d + 1) (by omega) y.pt y.rev
    have ho := fun n lo => Holder5_run (d := d) (by omega) ok is lk0 go (secOf l y) (n := n) (lo := lo)
    have iy := fun {n : Nat} => idx_hp (h := st.H.get) (n := n) (id := a) (row := 0) (len := l.pts.length) (cap := l.pts.length) ha rfl (k := .i64) (z := y.pt) hpt.1 hpt.2
    have hlt : y.pt.toNat < (zs.map rowI).length := by have := hpt.1; have := hpt.2; simp [dr.1]; omega
    have hrow : (zs.map rowI)[y.pt.toNat]? = some (rowI (nth zs y.pt.toNat)) := by
      rw [List.getElem?_map, nth_get (by simpa using hlt)]; rfl
    have hset : (zs.map rowI).set y.pt.toNat (rowI (pos y)) = (zs.set y.pt.toNat (pos y)).map rowI := by simp [List.map_set]
    have hput : drC l rs os ls r y → (zs.set y.pt.toNat (pos y)).length = l.pts.length ∧ zs.set y.pt.toNat (pos y) = it (drN l rs os ls r) z0 (i + 1) := fun e =>
      ⟨by simp [dr.1], by show _ = drN l rs os ls r i (it (drN l rs os ls r) z0 i); rw [← dr.2]; unfold drN; rw [hgx, dec_t e]; rfl⟩
    have hkeep : ¬ drC l rs os ls r y → zs.length = l.pts.length ∧ zs = it (drN l rs os ls r) z0 (i + 1) := fun e =>
      ⟨dr.1, by show _ = drN l rs os ls r i (it (drN l rs os ls r) z0 i); rw [← dr.2]; unfold drN; rw [hgx, dec_f e]; rfl⟩
    generalize hws : zs.set y.pt.toNat (pos y) = ws at hset hput
    obtain ⟨n2, e2, hn2⟩ := ho st.n st.n
    simp only [secOf] at io' e2
    generalize hrr : zs.map rowI = rows at ha hrow hlt hset
    simp only [Nat.zero_add] at iy
    generalize hQ : (fun (e : Ex) (s' : St) => _) = Q'
    simp only [D.l25_2b]
    have old : ∀ s2 : St, ICv p ov lv [.sl a 0 l.pts.length l.pts.length, sb] s2 → s2.T.get 7 = some (.imm (.int .i64 r)) → s2.T.get 8 = some (.imm nv) → s2.T.get 9 = some (.imm (.int .i64 ((i + 1 : Nat) : Int))) → s2.H = st.H → n0 ≤ s2.n → ¬ drC l rs os ls r y → ∃ ws, ICv2 p l rs os ls ov lv nv sb a H1 n0 r z0 (i + 1) ws s2 := fun s2 a1 a2 a3 a4 a5 a6 a7 =>
      ⟨zs, a1, a2, a3, a4, by rw [a5, hrr]; exact ha, by rw [a5]; exact fr, a6, hkeep a7⟩
    have new : ∀ s2 : St, ICv p ov lv [.sl a 0 l.pts.length l.pts.length, sb] s2 → s2.T.get 7 = some (.imm (.int .i64 r)) → s2.T.get 8 = some (.imm nv) → s2.T.get 9 = some (.imm (.int .i64 ((i + 1 : Nat) : Int))) → s2.H = st.H.put a (some ⟨1, rows.set y.pt.toNat (rowI (pos y))⟩) → n0 ≤ s2.n → drC l rs os ls r y → ∃ ws, ICv2 p l rs os ls ov lv nv sb a H1 n0 r z0 (i + 1) ws s2 := fun s2 a1 a2 a3 a4 a5 a6 a7 =>
      ⟨ws, a1, a2, a3, a4, by rw [a5, ← hset]; simp [PT.get_put], fun j hj => by rw [a5]; simp [PT.get_put, hj]; exact fr j hj, a6, hput a7⟩
    by_cases hly : nth ls y.pt.toNat = pos y
    · simp [g0, g3, L3, g4, L4, g5, L5, g7, g8, g9, hi', hw8, vl, ix, ip, il, h1, hs, hly, e2, ivN, ivP, ivI, io.o.scal, io.l.scal, B6, undT, fnEnd, argsT, PT.get_put, keep, opRun, ev, evs, evO, give, giveI, binOf, isNilK, PM.flip, putT, putL, putH, loadOf, storeOf, cut, over, ofCells, asNat, natOr, calm, clashes, Acc.clash, ressOf, resOf, frz, frz.frzs, DV.flat, DV.flat.flats, imms]
      subst hQ
      exact .inl ⟨rfl, hi, old _ ⟨by simp [PT.get_put], ⟨i3, by simp [PT.get_put], by simp [PT.get_put]⟩, ⟨i4, by simp [PT.get_put], by simp [PT.get_put]⟩, ⟨i5, by simp [PT.get_put], by simp [PT.get_put]⟩⟩ (by simp [PT.get_put]) (by simp [PT.get_put]) (by simp [PT.get_put]) rfl (by simp; omega) (fun e => e.1 hly)⟩
    · cases hoc : nth os (nth l.pts y.pt.toNat).sec.toNat with
      | true =>
        simp [g0, g3, L3, g4, L4, g5, L5, g7, g8, g9, hi', hw8, vl, ix, ip, il, io', hoc, h1, hs, hly, e2, ivN, ivP, ivI, ivB1, io.o.scal, io.l.scal, B6, undT, fnEnd, argsT, PT.get_put, keep, opRun, ev, evs, evO, give, giveI, binOf, isNilK, PM.flip, putT, putL, putH, loadOf, storeOf, cut, over, ofCells, asNat, natOr, calm, clashes, Acc.clash, ressOf, resOf, frz, frz.frzs, DV.flat, DV.flat.flats, imms]
        subst hQ
        exact .inl ⟨rfl, hi, old _ ⟨by simp [PT.get_put], ⟨i3, by simp [PT.get_put], by simp [PT.get_put]⟩, ⟨i4, by simp [PT.get_put], by simp [PT.get_put]⟩, ⟨i5, by simp [PT.get_put], by simp [PT.get_put]⟩⟩ (by simp [PT.get_put]) (by simp [PT.get_put]) (by simp [PT.get_put]) rfl (by simp; omega) (fun e => by rw [e.2.1] at hoc; cases hoc)⟩
      | false =>
        by_cases hho : hol l rs (nth l.pts y.pt.toNat).sec < 0
        · have hj := ilt_t hho
          simp [g0, g3, L3, g4, L4, g5, L5, g7, g8, g9, hi', hw8, vl, ix, ip, il, io', iy, ha, hrow, hoc, h1, hs, hly, e2, hj, ivN, ivP, ivI, ivB1, rowI, io.o.scal, io.l.scal, evParts, lay, B6, undT, fnEnd, argsT, PT.get_put, keep, opRun, ev, evs, evO, give, giveI, binOf, isNilK, PM.flip, putT, putL, putH, loadOf, storeOf, cut, over, ofCells, asNat, natOr, calm, clashes, Acc.clash, ressOf, resOf, frz, frz.frzs, DV.flat, DV.flat.flats, imms]
          subst hQ
          exact .inl ⟨rfl, hi, new _ ⟨by simp [PT.get_put], ⟨i3, by simp [PT.get_put], by simp [PT.get_put]⟩, ⟨i4, by simp [PT.get_put], by simp [PT.get_put]⟩, ⟨i5, by simp [PT.get_put], by simp [PT.get_put]⟩⟩ (by simp [PT.get_put]) (by simp [PT.get_put]) (by simp [PT.get_put]) rfl (by simp; omega) ⟨hly, hoc, .inl hho⟩⟩
        · have hj := ilt_f (show 0 ≤ hol l rs (nth l.pts y.pt.toNat).sec by omega)
          by_cases hhr : hol l rs (nth l.pts y.pt.toNat).sec = (r : Int)
          · simp [g0, g3, L3, g4, L4, g5, L5, g7, g8, g9, hi', hw8, vl, ix, ip, il, io', iy, ha, hrow, hoc, h1, hs, hly, e2, hj, hhr, ivN, ivP, ivI, ivB1, rowI, io.o.scal, io.l.scal, evParts, lay, B6, undT, fnEnd, argsT, PT.get_put, keep, opRun, ev, evs, evO, give, giveI, binOf, isNilK, PM.flip, putT, putL, putH, loadOf, storeOf, cut, over, ofCells, asNat, natOr, calm, clashes, Acc.clash, ressOf, resOf, frz, frz.frzs, DV.flat, DV.flat.flats, imms]
            subst hQ
            exact .inl ⟨rfl, hi, new _ ⟨by simp [PT.get_put], ⟨i3, by simp [PT.get_put], by simp [PT.get_put]⟩, ⟨i4, by simp [PT.get_put], by simp [PT.get_put]⟩, ⟨i5, by simp [PT.get_put], by simp [PT.get_put]⟩⟩ (by simp [PT.get_put]) (by simp [PT.get_put]) (by simp [PT.get_put]) rfl (by simp; omega) ⟨hly, hoc, .inr hhr⟩⟩
          · simp [g0, g3, L3, g4, L4, g5, L5, g7, g8, g9, hi', hw8, vl, ix, ip, il, io', hoc, h1, hs, hly, e2, hj, hhr, ivN, ivP, ivI, ivB1, io.o.scal, io.l.scal, B6, undT, fnEnd, argsT, PT.get_put, keep, opRun, ev, evs, evO, give, giveI, binOf, isNilK, PM.flip, putT, putL, putH, loadOf, storeOf, cut, over, ofCells, asNat, natOr, calm, clashes, Acc.clash, ressOf, resOf, frz, frz.frzs, DV.flat, DV.flat.flats, imms]
            subst hQ
            exact .inl ⟨rfl, hi, old _ ⟨by simp [PT.get_put], ⟨i3, by simp [PT.get_put], by simp [PT.get_put]⟩, ⟨i4, by simp [PT.get_put], by simp [PT.get_put]⟩, ⟨i5, by simp [PT.get_put], by simp [PT.get_put]⟩⟩ (by simp [PT.get_put]) (by simp [PT.get_put]) (by simp [PT.get_put]) rfl (by simp; omega) (fun e => e.2.2.elim hho hhr)⟩
  · obtain rfl : i = (nd (nth l.rts r)).length := by omega
    generalize hQ : (fun (e : Ex) (s' : St) => _) = Q'
    simp only [D.l25_2b]
    simp [g0, g3, L3, g4, L4, g5, L5, g7, g8, g9, vl, B6, undT, fnEnd, argsT, PT.get_put, keep, opRun, ev, evs, evO, give, giveI, binOf, isNilK, PM.flip, putT, putL, putH, loadOf, storeOf, cut, over, ofCells, asNat, natOr, calm, clashes, Acc.clash, ressOf, resOf, frz, frz.frzs, DV.flat, DV.flat.flats, imms]
    subst hQ
    exact .inr ⟨nofun, rfl, zs, ⟨by simp [PT.get_put, g0], ⟨i3, by simp [PT.get_put, g3], by simp [PT.get_put, L3]⟩, ⟨i4, by simp [PT.get_put, g4], by simp [PT.get_put, L4]⟩, ⟨i5, by simp [PT.get_put, g5], by simp [PT.get_put, L5]⟩⟩, by simp [PT.get_put, g7], by simp [PT.get_put, g8], by simp [PT.get_put, g9], ha, fr, hn, dr⟩
structure ICv1 (p : Nat) (l : Lo) (rs : List Rst) (os : List Bool) (ls : List Int) (ov lv : IV) (a b : Nat) (H1 : PT HB) (n0 i : Nat) (zs : List Int) (bs : List Bool) (st : St) : Prop where
  z : ICv p ov lv [.sl a 0 l.pts.length l.pts.length, .sl b 0 l.sigs.length l.sigs.length] st
  h7 : st.T.get 7 = some (.imm (.int .i64 i))
  ha : st.H.get a = some ⟨1, zs.map rowI⟩
  hb : st.H.get b = some ⟨1, bs.map rowB⟩
  fr : ∀ j, j ≠ a → j ≠ b → st.H.get j = H1.get j
  hn : n0 ≤ st.n
  dr : zs.length = l.pts.length ∧ zs = it (drR l rs os ls) (List.replicate l.pts.length 0) i
  pr : bs.length = l.sigs.length ∧ bs = it (prR l rs os ls) (List.replicate l.sigs.length false) i
theorem loopCv1 {d : Nat} (hd : 5 ≤ d) {p : Nat} {own : List Nat} {l : Lo} {rs : List Rst} (ok : LoOk l) (is : ISL l) {H1 : PT HB} (lk : LkAt H1 p own l rs) (go : GoneOk l rs) {ov lv : IV} {os : List Bool} {ls : List Int} (io : InOk ov lv os ls) (mi : MI l os ls) {a b n0 : Nat} (hna : a ∉ p :: own) (hnb : b ∉ p :: own) (hab : ¬ a = b)
    {zs : List Int} {bs : List Bool} {ks : List Kf} {st : St} {Q : Ex → St → Prop} (h : ICv1 p l rs os ls ov lv a b H1 n0 0 zs bs st)
    (hk : ∀ st' zs' bs', ICv1 p l rs os ls ov lv a b H1 n0 l.rts.length zs' bs' st' → Bk DG (K DG d) 0 (.exit 2) ks st' Q) : Wp DG (K DG d) 0 D.l25_1 ks st Q := by
  have hrb := rb3
  have hba : ¬ b = a := fun e => hab e.symm
  refine dw_loop (N := l.rts.length) (small ok.lr) (fun i st => ∃ zs bs, ICv1 p l rs os ls ov lv a b H1 n0 i zs bs st) (fun e st' => e = .exit 2 ∧ ∃ zs bs, ICv1 p l rs os ls ov lv a b H1 n0 l.rts.length zs bs st') (fun i st hle hI => ?_) ⟨zs, bs, h⟩ (fun e s' h => by obtain ⟨rfl, zs, bs, h⟩ := h; exact hk s' zs bs h)
  obtain ⟨zs, bs, ⟨g0, ⟨i3, g3, L3⟩, ⟨i4, g4, L4⟩, ⟨i5, g5, L5⟩⟩, g7, ha, hb, fr, hn, dr, pr⟩ := hI
  have lk1 : LkAt st.H p own l rs := lk.mono fun j hj => fr j (fun e => hna (e ▸ hj)) (fun e => hnb (e ▸ hj))
  have lk0 := lk1
  obtain ⟨x, h1, h2, h3, h4⟩ := lk1
  have xl := h2.len
  rw [h4] at xl
  by_cases hi : i < l.rts.length
  · have hi1 : (i : Int) < l.rts.length := by omega
    have hi' := ilt_t hi1
    have hw8 : IntKind.i64.wrap ((i : Int) + 1) = (i : Int) + 1 := wr_succ hi ok.lr
    obtain ⟨id, rfl, rfl, hrs⟩ := h2.sl (by omega)
    have hap : ¬ p = a := fun e => hna (by simp [e])
    have hia : ¬ id = a := fun e => hna (by simp [e])
    have rk := ok.or _ (nth_mem hi)
    have hfr := (is.rr i hi).fr
    obtain ⟨nv, en, hv⟩ := Needs4_bl (D := d) (by omega) ok hi (is.few i hi).1 (is.few i hi).2
    have vl := hv.len
    simp only [List.length_map] at vl
    have iy := fun {n : Nat} => idx_hp (h := st.H.get) (n := n) (id := id) (row := 0) (len := rs.length) (cap := rs.length) hrs rfl (k := .i64) (z := (i : Int)) (by omega) (by omega)
    have hrow : (rs.map rowRS)[i]? = some (rowRS (nth rs i)) := by rw [List.getElem?_map, nth_get (by omega)]; rfl
    have ec := Clear_dec (D := d) (by omega) ok is io mi hi
    have el := Right_dec (D := d) (by omega) ok is io mi hi
    have ixr := fun {h : Nat → Option HB} {n : Nat} => idx_sl (h := h) (n := n) ok.r (by omega) (k := .i64) (z := (i : Int)) (by omega) hi1
    have iz := fun {h : Nat → Option HB} {n : Nat} (hb : h b = some ⟨1, bs.map rowB⟩) => idx_hp (h := h) (n := n) (id := b) (row := 0) (len := l.sigs.length) (cap := l.sigs.length) hb rfl (k := .i64) (z := (nth l.rts i).fr) hfr.1 hfr.2
    have hlt : (nth l.rts i).fr.toNat < bs.length := by have := hfr.1; have := hfr.2; rw [pr.1]; omega
    have hrob : (bs.map rowB)[(nth l.rts i).fr.toNat]? = some (rowB (nth bs (nth l.rts i).fr.toNat)) := by
      rw [List.getElem?_map, nth_get hlt]; rfl
    have hset : (bs.map rowB).set (nth l.rts i).fr.toNat (rowB true) = (bs.set (nth l.rts i).fr.toNat true).map rowB := by simp [List.map_set]
    have dput : ∀ ws, (ws.length = l.pts.length ∧ ws = it (drN l rs os ls i) zs (nd (nth l.rts i)).length) → (nth rs i).mode = 1 → ws.length = l.pts.length ∧ ws = it (drR l rs os ls) (List.replicate l.pts.length 0) (i + 1) := fun ws h hm =>
      ⟨h.1, by show _ = drR l rs os ls i (it (drR l rs os ls) _ i); rw [← dr.2]; unfold drR; rw [dec_t hm]; exact h.2⟩
    have dkeep : ¬ (nth rs i).mode = 1 → zs.length = l.pts.length ∧ zs = it (drR l rs os ls) (List.replicate l.pts.length 0) (i + 1) := fun hm =>
      ⟨dr.1, by show _ = drR l rs os ls i (it (drR l rs os ls) _ i); rw [← dr.2]; unfold drR; rw [dec_f hm]; rfl⟩
    have pput : prC l rs os ls i → (bs.set (nth l.rts i).fr.toNat true).length = l.sigs.length ∧ bs.set (nth l.rts i).fr.toNat true = it (prR l rs os ls) (List.replicate l.sigs.length false) (i + 1) := fun e =>
      ⟨by simp [pr.1], by show _ = prR l rs os ls i (it (prR l rs os ls) _ i); rw [← pr.2]; unfold prR; rw [dec_t e]; rfl⟩
    have pkeep : ¬ prC l rs os ls i → bs.length = l.sigs.length ∧ bs = it (prR l rs os ls) (List.replicate l.sigs.length false) (i + 1) := fun e =>
      ⟨pr.1, by show _ = prR l rs os ls i (it (prR l rs os ls) _ i); rw [← pr.2]; unfold prR; rw [dec_f e]; rfl⟩
    have loop := fun {ks st' Q} => loopCv2 (d := d) (ks := ks) (st := st') (Q := Q) (n0 := n0) (H1 := st.H) (ov := ov) (lv := lv) (a := a) (sb := .sl b 0 l.sigs.length l.sigs.length) (z0 := zs) (by omega) ok is lk0 go io mi hna hi hv
    have hmz : ∀ {h : ¬ (nth rs i).mode = 2}, ¬ prC l rs os ls i := fun {h} e => h e.1
    generalize hrr : rs.map rowRS = rows at hrs hrow
    generalize bs.set (nth l.rts i).fr.toNat true = cs at hset pput
    generalize hrb : bs.map rowB = rowb at hb hrob hset iz
    simp only [Int.toNat_natCast, Nat.zero_add, h4] at iy iz ixr
    simp only [h4] at h1
    generalize hQ : (fun (e : Ex) (s' : St) => _) = Q'
    simp only [D.l25_1b]
    by_cases hm1 : (nth rs i).mode = 1
    · have np : ¬ prC l rs os ls i := fun e => by have := e.1; omega
      simp [g0, g3, L3, g4, L4, g5, L5, g7, hi', hw8, iy, h1, hrs, hrow, hm1, en, ok.s.scal, ok.p.scal, ok.g.scal, ok.r.scal, rowRS, evParts, lay, B6, undT, fnEnd, argsT, PT.get_put, keep, opRun, ev, evs, evO, give, giveI, binOf, isNilK, PM.flip, putT, putL, putH, loadOf, storeOf, cut, over, ofCells, asNat, natOr, calm, clashes, Acc.clash, ressOf, resOf, frz, frz.frzs, DV.flat, DV.flat.flats, imms]
      refine loop ⟨⟨by simp [PT.get_put], ⟨i3, by simp [PT.get_put], by simp [PT.get_put]⟩, ⟨i4, by simp [PT.get_put], by simp [PT.get_put]⟩, ⟨i5, by simp [PT.get_put], by simp [PT.get_put]⟩⟩, by simp [PT.get_put], by simp [PT.get_put], by simp [PT.get_put], ha, fun j hj => rfl, by simp; omega, dr.1, rfl⟩ ?_
      rintro s2 ws ⟨⟨f0, ⟨j3, f3, M3⟩, ⟨j4, f4, M4⟩, ⟨j5, f5, M5⟩⟩, f7, f8, f9, fa, ffr, fn, fdr⟩
      have hp2 : s2.H.get p = st.H.get p := ffr p hap
      have hid2 : s2.H.get id = st.H.get id := ffr id hia
      rw [h1] at hp2
      rw [hrs] at hid2
      have iy2 := fun {n : Nat} => idx_hp (h := s2.H.get) (n := n) (id := id) (row := 0) (len := rs.length) (cap := rs.length) hid2 rfl (k := .i64) (z := (i : Int)) (by omega) (by omega)
      simp only [Int.toNat_natCast, Nat.zero_add, h4] at iy2
      simp [f0, f3, M3, f4, M4, f5, M5, f7, hw8, iy2, hp2, hid2, hrow, hm1, ok.s.scal, ok.p.scal, ok.g.scal, ok.r.scal, rowRS, evParts, lay, B6, undT, fnEnd, argsT, PT.get_put, keep, opRun, ev, evs, evO, give, giveI, binOf, isNilK, PM.flip, putT, putL, putH, loadOf, storeOf, cut, over, ofCells, asNat, natOr, calm, clashes, Acc.clash, ressOf, resOf, frz, frz.frzs, DV.flat, DV.flat.flats, imms]
      subst hQ
      exact .inl ⟨rfl, hi, ws, bs, ⟨by simp [PT.get_put, f0], ⟨j3, by simp [PT.get_put, f3], by simp [PT.get_put, M3]⟩, ⟨j4, by simp [PT.get_put, f4], by simp [PT.get_put, M4]⟩, ⟨j5, by simp [PT.get_put, f5], by simp [PT.get_put, M5]⟩⟩, by simp [PT.get_put], fa, by rw [hrb]; show s2.H.get b = _; rw [ffr b hba]; exact hb, fun j h1 h2 => by show s2.H.get j = _; rw [ffr j h1]; exact fr j h1 h2, by simp; omega, dput ws fdr hm1, pkeep np⟩
    · by_cases hm2 : (nth rs i).mode = 2
      · by_cases hP : ∃ z ∈ (nth l.rts i).path, nth os z.toNat = true
        · rw [dec_f fun h => h hP] at ec
          have np : ¬ prC l rs os ls i := fun e => e.2.1 hP
          simp [g0, g3, L3, g4, L4, g5, L5, g7, hi', hw8, iy, h1, hrs, hrow, hm1, hm2, ec, io.o.scal, io.l.scal, ok.s.scal, ok.p.scal, ok.g.scal, ok.r.scal, rowRS, evParts, lay, B6, undT, fnEnd, argsT, PT.get_put, keep, opRun, ev, evs, evO, give, giveI, binOf, isNilK, PM.flip, putT, putL, putH, loadOf, storeOf, cut, over, ofCells, asNat, natOr, calm, clashes, Acc.clash, ressOf, resOf, frz, frz.frzs, DV.flat, DV.flat.flats, imms]
          subst hQ
          exact .inl ⟨rfl, hi, zs, bs, ⟨by simp [PT.get_put], ⟨i3, by simp [PT.get_put], by simp [PT.get_put]⟩, ⟨i4, by simp [PT.get_put], by simp [PT.get_put]⟩, ⟨i5, by simp [PT.get_put], by simp [PT.get_put]⟩⟩, by simp [PT.get_put], ha, by rw [hrb]; exact hb, fr, by simp; omega, dkeep hm1, pkeep np⟩
        · rw [dec_t hP] at ec
          by_cases hR : Lie l ls i
          · rw [dec_t hR] at el
            have py : prC l rs os ls i := ⟨hm2, hP, hR⟩
            have iz2 := fun {n : Nat} => iz (h := st.H.get) (n := n) hb
            simp [g0, g3, L3, g4, L4, g5, L5, g7, hi', hw8, iy, ixr, iz2, h1, hrs, hrow, hb, hrob, hm1, hm2, ec, el, ivRt, io.o.scal, io.l.scal, ok.s.scal, ok.p.scal, ok.g.scal, ok.r.scal, rk.p.scal, rk.q.scal, rk.f.scal, rowRS, rowB, evParts, lay, B6, undT, fnEnd, argsT, PT.get_put, keep, opRun, ev, evs, evO, give, giveI, binOf, isNilK, PM.flip, putT, putL, putH, loadOf, storeOf, cut, over, ofCells, asNat, natOr, calm, clashes, Acc.clash, ressOf, resOf, frz, frz.frzs, DV.flat, DV.flat.flats, imms]
            subst hQ
            exact .inl ⟨rfl, hi, zs, cs, ⟨by simp [PT.get_put], ⟨i3, by simp [PT.get_put], by simp [PT.get_put]⟩, ⟨i4, by simp [PT.get_put], by simp [PT.get_put]⟩, ⟨i5, by simp [PT.get_put], by simp [PT.get_put]⟩⟩, by simp [PT.get_put], by simp [PT.get_put, hab]; exact ha, by rw [← hset]; simp [PT.get_put, rowB], fun j h1 h2 => by simp [PT.get_put, h2]; exact fr j h1 h2, by simp; omega, dkeep hm1, pput py⟩
          · rw [dec_f hR] at el
            have np : ¬ prC l rs os ls i := fun e => hR e.2.2
            simp [g0, g3, L3, g4, L4, g5, L5, g7, hi', hw8, iy, h1, hrs, hrow, hm1, hm2, ec, el, io.o.scal, io.l.scal, ok.s.scal, ok.p.scal, ok.g.scal, ok.r.scal, rowRS, evParts, lay, B6, undT, fnEnd, argsT, PT.get_put, keep, opRun, ev, evs, evO, give, giveI, binOf, isNilK, PM.flip, putT, putL, putH, loadOf, storeOf, cut, over, ofCells, asNat, natOr, calm, clashes, Acc.clash, ressOf, resOf, frz, frz.frzs, DV.flat, DV.flat.flats, imms]
            subst hQ
            exact .inl ⟨rfl, hi, zs, bs, ⟨by simp [PT.get_put], ⟨i3, by simp [PT.get_put], by simp [PT.get_put]⟩, ⟨i4, by simp [PT.get_put], by simp [PT.get_put]⟩, ⟨i5, by simp [PT.get_put], by simp [PT.get_put]⟩⟩, by simp [PT.get_put], ha, by rw [hrb]; exact hb, fr, by simp; omega, dkeep hm1, pkeep np⟩
      · have np : ¬ prC l rs os ls i := fun e => hm2 e.1
        simp [g0, g3, L3, g4, L4, g5, L5, g7, hi', hw8, iy, h1, hrs, hrow, hm1, hm2, io.o.scal, io.l.scal, ok.s.scal, ok.p.scal, ok.g.scal, ok.r.scal, rowRS, evParts, lay, B6, undT, fnEnd, argsT, PT.get_put, keep, opRun, ev, evs, evO, give, giveI, binOf, isNilK, PM.flip, putT, putL, putH, loadOf, storeOf, cut, over, ofCells, asNat, natOr, calm, clashes, Acc.clash, ressOf, resOf, frz, frz.frzs, DV.flat, DV.flat.flats, imms]
        subst hQ
        exact .inl ⟨rfl, hi, zs, bs, ⟨by simp [PT.get_put], ⟨i3, by simp [PT.get_put], by simp [PT.get_put]⟩, ⟨i4, by simp [PT.get_put], by simp [PT.get_put]⟩, ⟨i5, by simp [PT.get_put], by simp [PT.get_put]⟩⟩, by simp [PT.get_put], ha, by rw [hrb]; exact hb, fr, by simp; omega, dkeep hm1, pkeep np⟩
  · obtain rfl : i = l.rts.length := by omega
    generalize hQ : (fun (e : Ex) (s' : St) => _) = Q'
    simp only [D.l25_1b]
    simp [g0, g3, L3, g4, L4, g5, L5, g7, h1, xl, B6, undT, fnEnd, argsT, PT.get_put, keep, opRun, ev, evs, evO, give, giveI, binOf, isNilK, PM.flip, putT, putL, putH, loadOf, storeOf, cut, over, ofCells, asNat, natOr, calm, clashes, Acc.clash, ressOf, resOf, frz, frz.frzs, DV.flat, DV.flat.flats, imms]
    subst hQ
    exact .inr ⟨nofun, rfl, zs, bs, ⟨by simp [PT.get_put, g0], ⟨i3, by simp [PT.get_put, g3], by simp [PT.get_put, L3]⟩, ⟨i4, by simp [PT.get_put, g4], by simp [PT.get_put, L4]⟩, ⟨i5, by simp [PT.get_put, g5], by simp [PT.get_put, L5]⟩⟩, by simp [PT.get_put, g7], ha, hb, fr, hn, dr, pr⟩
theorem Cycle5_fn {d : Nat} (hd : 6 ≤ d) {H : PT HB} {p : Nat} {own : List Nat} {l : Lo} {rs : List Rst} (ok : LoOk l) (is : ISL l) (lk : LkAt H p own l rs) (ro : ∀ r, r < l.rts.length → RsOk l r (nth rs r)) {ov lv : IV} {os : List Bool} {ls : List Int} (io : InOk ov lv os ls) (mi : MI l os ls) {n : Nat} (hpn : ∀ i ∈ p :: own, i < n) :
    Fe (K DG (d + 1) 25 [.ptr p 0 0, inD ov lv] H n 0) (fun v H' n' => v = .agg [.sl (n + 2 + 1) 0 l.pts.length l.pts.length, .sl (n + 2 + 2) 0 l.sigs.length l.sigs.length] ∧ n + 5 ≤ n' ∧ (∀ j, j ∉ own → j < n → H'.get j = H.get j) ∧
      ∃ qs, LkAt H' p own l qs ∧ (∀ j, j < l.rts.length → nth qs j = stepF l os ls j (nth rs j)) ∧ H'.get (n + 2 + 1) = some ⟨1, (drF l qs os ls).map rowI⟩ ∧ H'.get (n + 2 + 2) = some ⟨1, (prF l qs os ls).map rowB⟩) := by
  have hp := hpn p (by simp)
  obtain ⟨d, rfl⟩ : ∃ d', d = d' + 1 := ⟨d - 1, by omega⟩
  have p5 := is.p2
  have g6 := is.g2
  obtain ⟨v, H1, n1, e1, rfl, rfl, hH1⟩ := Safe5_run (d := d) ok p5 g6 lk (n := n + 2) (lo := 0) (by omega)
  have e := MayIn5_bl (D := d + 1) (by omega) ok io
  rw [dec_t mi] at e
  have lk1 : LkAt H1 p own l rs := lk.mono fun j hj => by
    have := hpn j hj
    have b1 : ¬ j = n + 2 + 1 := by omega
    have b2 : ¬ j = n + 2 + 2 := by omega
    rw [hH1]; simp [PT.get_put, b1, b2]
  have hz1 : H1.get (n + 2 + 1) = some ⟨1, (List.replicate l.pts.length (0 : Int)).map rowI⟩ := by
    have b1 : ¬ n + 2 + 1 = n + 2 + 2 := by omega
    rw [hH1]; simp [PT.get_put, b1, rowI, imms]
  have hz2 : H1.get (n + 2 + 2) = some ⟨1, (List.replicate l.sigs.length false).map rowB⟩ := by
    rw [hH1]; simp [PT.get_put, rowB, imms]
  have hfr1 : ∀ j, j < n → H1.get j = H.get j := fun j hj => by
    have b1 : ¬ j = n + 2 + 1 := by omega
    have b2 : ¬ j = n + 2 + 2 := by omega
    rw [hH1]; simp [PT.get_put, b1, b2]
  clear hH1
  have lk1' := lk1
  obtain ⟨x, h1, h2, h3, h4⟩ := lk1
  have xl := h2.len
  rw [h4] at xl
  rw [D.k25]
  refine fn_dw rfl ?_
  simp [io.o.scal, io.l.scal, ok.s.scal, ok.p.scal, ok.g.scal, ok.r.scal, e1, h1, e, xl, B6, undT, fnEnd, argsT, PT.get_put, keep, opRun, ev, evs, evO, give, giveI, binOf, isNilK, PM.flip, putT, putL, putH, loadOf, storeOf, cut, over, ofCells, asNat, natOr, calm, clashes, Acc.clash, ressOf, resOf, frz, frz.frzs, DV.flat, DV.flat.flats, imms]
  refine loopCv0 (own := own) (os := os) (ls := ls) (rs := rs) (ov := ov) (lv := lv) (us := [.sl (n + 2 + 1) 0 l.pts.length l.pts.length, .sl (n + 2 + 2) 0 l.sigs.length l.sigs.length]) (H1 := H1) (n1 := n + 2 + 3) (by omega) ok is io mi ro ⟨⟨by simp [PT.get_put], ⟨n, by simp [PT.get_put], by simp [PT.get_put]⟩, ⟨n + 1, by simp [PT.get_put], by simp [PT.get_put]⟩, ⟨n + 2 + 3, by simp [PT.get_put], by simp [PT.get_put]⟩⟩, by simp [PT.get_put], lk1', fun j hj => rfl, by simp, fun j hj => by simp⟩ ?_
  rintro s2 qs ⟨⟨f0, ⟨i3, f3, M3⟩, ⟨i4, f4, M4⟩, ⟨i5, f5, M5⟩⟩, f6, lk2, fr2, fn2, al⟩
  have hq : ∀ j, j < l.rts.length → nth qs j = stepF l os ls j (nth rs j) := fun j hj => by rw [al j hj, if_pos hj]
  have roq : ∀ j, j < l.rts.length → RsOk l j (nth qs j) := fun j hj => by rw [hq j hj]; exact (ro j hj).step is hj
  have ha : n + 2 + 1 ∉ p :: own := fun h => by have := hpn _ h; omega
  have hb : n + 2 + 2 ∉ p :: own := fun h => by have := hpn _ h; omega
  simp [f0, f3, M3, f4, M4, f5, M5, B6, undT, fnEnd, argsT, PT.get_put, keep, opRun, ev, evs, evO, give, giveI, binOf, isNilK, PM.flip, putT, putL, putH, loadOf, storeOf, cut, over, ofCells, asNat, natOr, calm, clashes, Acc.clash, ressOf, resOf, frz, frz.frzs, DV.flat, DV.flat.flats, imms]
  refine loopCv1 (rs := qs) (ov := ov) (lv := lv) (os := os) (ls := ls) (a := n + 2 + 1) (b := n + 2 + 2) (H1 := s2.H) (n0 := n + 2 + 3) (zs := List.replicate l.pts.length 0) (bs := List.replicate l.sigs.length false) (by omega) ok is lk2 (go_of roq) io mi ha hb (by omega) ⟨⟨by simp [PT.get_put, f0], ⟨i3, by simp [PT.get_put, f3], by simp [PT.get_put, M3]⟩, ⟨i4, by simp [PT.get_put, f4], by simp [PT.get_put, M4]⟩, ⟨i5, by simp [PT.get_put, f5], by simp [PT.get_put, M5]⟩⟩, by simp [PT.get_put], by show s2.H.get _ = _; rw [fr2 _ (fun h => ha (by simp [h]))]; exact hz1, by show s2.H.get _ = _; rw [fr2 _ (fun h => hb (by simp [h]))]; exact hz2, fun j _ _ => rfl, by simp; omega, ⟨by simp, rfl⟩, by simp, rfl⟩ ?_
  rintro s4 zs bs ⟨⟨t0, ⟨j3, t3, N3⟩, ⟨j4, t4, N4⟩, ⟨j5, t5, N5⟩⟩, t7, ta, tb, tfr, tn, dr, pr⟩
  simp [t0, t3, N3, t4, N4, t5, N5, evParts, lay, B6, undT, fnEnd, argsT, PT.get_put, keep, opRun, ev, evs, evO, give, giveI, binOf, isNilK, PM.flip, putT, putL, putH, loadOf, storeOf, cut, over, ofCells, asNat, natOr, calm, clashes, Acc.clash, ressOf, resOf, frz, frz.frzs, DV.flat, DV.flat.flats, imms]
  refine ⟨by omega, fun j hj hjn => ?_, qs, lk2.mono fun j hj => tfr j (fun h => ha (h ▸ hj)) (fun h => hb (h ▸ hj)), hq, by rw [dr.2] at ta; exact ta, by rw [pr.2] at tb; exact tb⟩
  rw [tfr j (by omega) (by omega), fr2 j hj, hfr1 j hjn]
theorem Cycle5_err {d : Nat} (hd : 2 ≤ d) {H : PT HB} {p : Nat} {own : List Nat} {l : Lo} {rs : List Rst} (ok : LoOk l) (p5 : l.pts.length ≤ 5) (g6 : l.sigs.length ≤ 6) (lk : LkAt H p own l rs) {ov lv : IV} {os : List Bool} {ls : List Int} (io : InOk ov lv os ls) (hm : ¬ MI l os ls) {n : Nat} (hpn : ∀ i ∈ p :: own, i < n) :
    Fe (K DG (d + 1) 25 [.ptr p 0 0, inD ov lv] H n 0) (fun v H' n' => v = .agg [.sl (n + 2 + 1) 0 l.pts.length l.pts.length, .sl (n + 2 + 2) 0 l.sigs.length l.sigs.length] ∧ n' = n + 2 + 3 + 1 ∧
      H' = (H.put (n + 2 + 1) (some ⟨1, List.replicate l.pts.length (imms [.int .i64 0])⟩)).put (n + 2 + 2) (some ⟨1, List.replicate l.sigs.length (imms [.bool false])⟩)) := by
  have hp := hpn p (by simp)
  obtain ⟨d, rfl⟩ : ∃ d', d = d' + 1 := ⟨d - 1, by omega⟩
  obtain ⟨v, H1, n1, e1, rfl, rfl, hH1⟩ := Safe5_run (d := d) ok p5 g6 lk (n := n + 2) (lo := 0) (by omega)
  have e := MayIn5_bl (D := d + 1) (by omega) ok io
  rw [dec_f hm] at e
  have lk1 : LkAt H1 p own l rs := lk.mono fun j hj => by
    have := hpn j hj
    have b1 : ¬ j = n + 2 + 1 := by omega
    have b2 : ¬ j = n + 2 + 2 := by omega
    rw [hH1]; simp [PT.get_put, b1, b2]
  obtain ⟨x, h1, h2, h3, h4⟩ := lk1
  rw [D.k25]
  refine fn_dw rfl ?_
  simp [io.o.scal, io.l.scal, ok.s.scal, ok.p.scal, ok.g.scal, ok.r.scal, e1, h1, e, evParts, lay, B6, undT, fnEnd, argsT, PT.get_put, keep, opRun, ev, evs, evO, give, giveI, binOf, isNilK, PM.flip, putT, putL, putH, loadOf, storeOf, cut, over, ofCells, asNat, natOr, calm, clashes, Acc.clash, ressOf, resOf, frz, frz.frzs, DV.flat, DV.flat.flats, imms]
  exact hH1
end Go.Proofs.YtkgjgehffijepaaDoor.D
