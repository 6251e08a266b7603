/-
  UnitHears: what its functions compute, and the law (part 1).
-/
import Derived.Test.YtnpcgejfkonfdaaDoorX0
import Derived.Test.YtnpcgejfkonfdaaDoorFast
-- RC
set_option linter.unusedVariables false
set_option linter.unusedSimpArgs false
set_option maxHeartbeats 16000000
namespace Go.Proofs.YtnpcgejfkonfdaaDoor.D
open Go Go.PM Go.Lib

theorem Rw.yw {H : PT HB} {w n : Nat} {x : DV} {bs : List UInt8} (h : Rw 1 H w n x (bs.map ivY)) : Yw H w n x bs := by
  rcases h with ⟨rfl, h⟩ | ⟨id, h1, rfl, h2⟩
  · exact .inl ⟨rfl, by simpa using h⟩
  · exact .inr (.inr ⟨id, h1, by simp, by rw [h2, map_imms_ivY]⟩)
theorem big_fn {d : Nat} {H : PT HB} {n lo w m k : Nat} (hlo : lo ≤ w) (hwn : w ≤ n) (hk1 : 1 ≤ k) (hk8 : k ≤ 8) (hm : m < 2 ^ 64) :
    ∃ x H' n', K DG (d + 1) 62 [.imm (.int .u64 (m : Int)), .imm (.int .i64 (k : Int))] H n lo = some (x, H', n') ∧ n ≤ n' ∧ Yw H' w n' x (numY m k) ∧ (∃ id, n ≤ id ∧ x = .sl id 0 k k) ∧ (∀ j, j < n → H'.get j = H.get j) := by
  have w1 : IntKind.i64.wrap ((k : Int) - 1) = (k : Int) - 1 := wr_id (by omega) (by omega)
  have key : Fe (K DG (d + 1) 62 [.imm (.int .u64 (m : Int)), .imm (.int .i64 (k : Int))] H n lo) (fun x H' n' => n ≤ n' ∧ Rw 1 H' n n' x ((numY m k).map ivY) ∧ ∀ j, j < n → H'.get j = H.get j) := by
    rw [D.k62]
    refine fn_dw rfl ?_
    simp [w1, B6, undT, fnEnd, argsT, PT.get_put, keep, opRun, ev, evs, evO, give, giveI, binOf, isNilK, PM.flip, putT, putL, putH, loadOf, storeOf, cut, over, ofCells, asNat, natOr, calm, clashes, Acc.clash, ressOf, resOf, frz, frz.frzs, DV.flat, DV.flat.flats, imms]
    refine loopBg (w := n) (H0 := H) (m := m) (k := k) (by omega) hk8 hm ⟨by simp [PT.get_put], by simp [PT.get_put], ⟨.imm .nils, by simp [PT.get_put], .inl ⟨rfl, by simp⟩⟩, fun _ _ => rfl, by simp⟩ (fun s' hI => ?_)
    obtain ⟨c0, c6, ⟨x, c5, hx⟩, fr, hn⟩ := hI
    rw [List.take_of_length_le (by rw [numY_len]; exact Nat.le_refl _)] at hx
    have xs := hx.scal
    have xo := hx.out
    simp [c0, c5, c6, xs, xo, B6, undT, fnEnd, argsT, PT.get_put, keep, opRun, ev, evs, evO, give, giveI, binOf, isNilK, PM.flip, putT, putL, putH, loadOf, storeOf, cut, over, ofCells, asNat, natOr, calm, clashes, Acc.clash, ressOf, resOf, frz, frz.frzs, DV.flat, DV.flat.flats, imms]
    exact ⟨hn, hx, fr⟩
  obtain ⟨x, H', n', e, hn, hx, fr⟩ := key
  refine ⟨x, H', n', e, hn, ?_, ?_, fr⟩
  · rcases hx.yw with h | h | ⟨id, ⟨h1, h2⟩, h3⟩
    · exact .inl h
    · exact .inr (.inl h)
    · exact .inr (.inr ⟨id, ⟨by omega, h2⟩, h3⟩)
  · rcases hx with ⟨_, h⟩ | ⟨id, h1, rfl, h2⟩
    · have := congrArg List.length h
      simp [numY_len] at this
      omega
    · exact ⟨id, h1.1, by simp [numY_len]⟩
theorem thing8_bl {d : Nat} (t : Th) (hts : ∀ s, t = .text s → s.length ≤ 9000) : ∃ w, bl (K DG (d + 2)) 61 [.agg (imms (rowTh t))] = some (.imm w) ∧ Sl 1 w ((thB t).map ivY) := by
  have key : Fe (K DG (d + 1 + 1) 61 [.agg (imms (rowTh t))] .lf 0 0) (fun x H n => Yw H 0 n x (thB t)) := by
    rw [D.k61]
    refine fn_dw rfl ?_
    cases t with
    | int z =>
      obtain ⟨m, hm, wz, mz⟩ := wz64 z
      obtain ⟨y, H2, n2, e2, hn2, hy, ⟨id, hid, rfl⟩, f2⟩ := big_fn (d := d) (H := .lf) (n := 1) (lo := 0) (w := 0) (m := m) (k := 8) (Nat.le_refl _) (by omega) (by omega) (by omega) hm
      have e2' : K DG (d + 1) 62 [.imm (.int .u64 (m : Int)), .imm (.int .i64 8)] .lf 1 0 = some (.sl id 0 8 8, H2, n2) := e2
      have hrow : H2.get id = some ⟨1, (numY m 8).map rowY⟩ := by
        rcases hy with ⟨h, _⟩ | h | ⟨id', _, h, h2⟩
        · cases h
        · cases h
        · rw [numY_len] at h
          cases h
          exact h2
      have src := rows_y (id := id) hrow
      rw [numY_len] at src
      obtain ⟨x1, hw, n1, acc, p1, p2, p3, p4, p5, p6, p7⟩ := app_y (H := H2) (n := n2) (lo := 0) (w := 0) (x := .imm (.lst true 1 [[.int .u8 1]])) (bs := [1]) (y := .sl id 0 8 8) (cs := numY m 8) (Nat.le_refl _) (by omega) (.inr (.inl rfl)) src (fun _ _ _ e => by cases e) (by simp [numY_len])
      have xo := p3.out
      have xs := p3.sc
      simp [rowTh, imms, wz, e2', p1, xs, xo, evParts2, lay, unImms, unImm, mapO, rowsN, B6, undT, fnEnd, argsT, PT.get_put, keep, opRun, ev, evs, evO, give, giveI, binOf, isNilK, PM.flip, putT, putL, putH, loadOf, storeOf, cut, over, ofCells, asNat, natOr, calm, clashes, Acc.clash, ressOf, resOf, frz, frz.frzs, DV.flat, DV.flat.flats, imms]
      have e9 : thB (.int z) = 1 :: numY m 8 := by
        show 1 :: numY (z % 2 ^ 64).toNat 8 = _
        rw [mz]
      rw [e9]
      simpa using p3
    | text s =>
      have hsl := hts s rfl
      have w8 : IntKind.u8.wrap (s.length : Int) = ((UInt8.ofNat s.length).toNat : Int) := by
        rw [UInt8.toNat_ofNat']
        simp only [IntKind.wrap, IntKind.bits, IntKind.signed]
        simp
      generalize hk : UInt8.ofNat s.length = k at w8
      have e9 : thB (.text s) = 2 :: k :: s := by
        rw [← hk]
        rfl
      have hrb : s.map rowOfByte = s.map ivY := rfl
      obtain ⟨x1, hw, n1, acc, p1, p2, p3, p4, p5, p6, p7⟩ := app_y (H := .lf) (n := 1) (lo := 0) (w := 0) (x := .imm (.lst true 1 [[.int .u8 2], [.int .u8 (k.toNat : Int)]])) (bs := [2, k]) (y := .imm (.lst false 1 (s.map ivY))) (cs := s) (Nat.le_refl _) (by omega) (.inr (.inl rfl)) (src := none) (by simp [srcOf, rowsOf, Function.comp_def, imms_ivY]) (fun _ _ _ e => by cases e) (by simp; omega)
      have xo := p3.out
      have xs := p3.sc
      rw [e9]
      simp [rowTh, imms, w8, hrb, p1, xs, xo, evParts2, lay, unImms, unImm, mapO, rowsN, B6, undT, fnEnd, argsT, PT.get_put, keep, opRun, ev, evs, evO, give, giveI, binOf, isNilK, PM.flip, putT, putL, putH, loadOf, storeOf, cut, over, ofCells, asNat, natOr, calm, clashes, Acc.clash, ressOf, resOf, frz, frz.frzs, DV.flat, DV.flat.flats, imms]
      simpa using p3
    | bool b =>
      cases b with
      | true =>
        simp [rowTh, imms, evParts2, lay, unImms, unImm, mapO, rowsN, B6, undT, fnEnd, argsT, PT.get_put, keep, opRun, ev, evs, evO, give, giveI, binOf, isNilK, PM.flip, putT, putL, putH, loadOf, storeOf, cut, over, ofCells, asNat, natOr, calm, clashes, Acc.clash, ressOf, resOf, frz, frz.frzs, DV.flat, DV.flat.flats, imms]
        exact .inr (.inl rfl)
      | false =>
        simp [rowTh, imms, evParts2, lay, unImms, unImm, mapO, rowsN, B6, undT, fnEnd, argsT, PT.get_put, keep, opRun, ev, evs, evO, give, giveI, binOf, isNilK, PM.flip, putT, putL, putH, loadOf, storeOf, cut, over, ofCells, asNat, natOr, calm, clashes, Acc.clash, ressOf, resOf, frz, frz.frzs, DV.flat, DV.flat.flats, imms]
        exact .inr (.inl rfl)
  obtain ⟨x, H, n, e, hx⟩ := key
  have hne : thB t ≠ [] := by cases t <;> simp [thB]
  obtain ⟨g, hg⟩ := frz_y hx hne
  exact ⟨_, bl_of e hg, .inr ⟨g, rfl⟩⟩
theorem ref_bl {d : Nat} {f : Bool} {bs : List UInt8} (hb : bs.length ≤ 1000000) :
    bl (K DG (d + 1)) 34 [.imm (.lst f 1 (bs.map ivY))] = some (.imm (.int .u32 (crcF bs : Int))) := by
  refine bl_fe ⟨_, .lf, 0, ?_, rfl⟩
  rw [D.k34]
  show primRef [.imm (.lst f 1 (bs.map ivY))] .lf 0 0 = _
  unfold primRef
  simp only [List.length_map]
  rw [Nat.ble_eq_true_of_le hb, cond_true, crcRows_y]
  rfl
theorem call_ref {d : Nat} {H : PT HB} {n lo id : Nat} {bs : List UInt8} (hb : bs.length ≤ 1000000) (h2 : H.get id = some ⟨1, bs.map rowY⟩) :
    callM (K DG (d + 1)) .blind 34 [.sl id 0 bs.length bs.length] H n lo = some ⟨.imm (.int .u32 (crcF bs : Int)), H, n, [.rA]⟩ := by
  have e1 : frzI H.get 0 4 (.sl id 0 bs.length bs.length) = some (.lst false 1 (bs.map ivY)) := by
    show (if 0 ≤ id then _ else none) = _
    rw [if_pos (Nat.zero_le _), h2]
    show (if 0 + bs.length ≤ (bs.map rowY).length then _ else none) = _
    rw [if_pos (by simp)]
    show (mapO (mapO (frzI H.get 0 3)) (((bs.map rowY).drop 0).take bs.length)).map _ = _
    rw [List.drop_zero, List.take_of_length_le (by simp), mapO_y]
    rfl
  have e2 : snap.snaps H.get [.sl id 0 bs.length bs.length] = some [.imm (.lst false 1 (bs.map ivY))] := by
    show (match (frzI H.get 0 4 (.sl id 0 bs.length bs.length)).map DV.imm, some [] with
      | some v', some vs' => some (v' :: vs')
      | _, _ => none) = _
    rw [e1]
    rfl
  have e3 : K DG (d + 1) 34 [.imm (.lst false 1 (bs.map ivY))] .lf 0 0 = some (.imm (.int .u32 (crcF bs : Int)), .lf, 0) := by
    rw [D.k34]
    show primRef [.imm (.lst false 1 (bs.map ivY))] .lf 0 0 = _
    unfold primRef
    simp only [List.length_map]
    rw [Nat.ble_eq_true_of_le hb, cond_true, crcRows_y]
    rfl
  have e4 : DV.pure.pures [.sl id 0 bs.length bs.length] = false := rfl
  unfold callM
  simp only [e4, e2, e3]
  rfl
structure IPr (H0 : PT HB) (w a : Nat) (ts : List Th) (i : Nat) (st : St) : Prop where
  c0 : st.T.get 0 = some (.ptr a 0 0)
  c5 : st.T.get 5 = some (.imm (.int .i64 (i : Int)))
  y : ∃ x, st.T.get 4 = some x ∧ Yw st.H w st.n x (UInt8.ofNat ts.length :: thsB (ts.take i))
  fr : ∀ j, j < w → st.H.get j = H0.get j
  hn : w ≤ st.n
theorem loopPr {d : Nat} {H0 : PT HB} {w a lo : Nat} {ob : Option Nat} {ts : List Th} (hlo : lo ≤ w) (hc : CrR H0 a ob ts) (ha : a < w) (hob : ∀ b, ob = some b → b < w) (hl : ts.length ≤ 100) (hts : ∀ t ∈ ts, (thB t).length ≤ 300) (hok : ∀ t ∈ ts, thOk t = true)
    {st : St} (h : IPr H0 w a ts 0 st) {ks : List Kf} {Q : Ex → St → Prop}
    (hk : ∀ s', IPr H0 w a ts ts.length s' → Bk DG (K DG (d + 2)) lo (.exit 0) ks s' Q) :
    Wp DG (K DG (d + 2)) lo D.l43_0 ks st Q := by
  refine dw_loop (N := ts.length) (small (by have := rbW; omega)) (fun i st => IPr H0 w a ts i st) (fun e s' => e = .exit 0 ∧ IPr H0 w a ts ts.length s') (fun i st hle hI => ?_) h (fun e s' h => by
    obtain ⟨rfl, h⟩ := h
    exact hk s' h)
  obtain ⟨c0, c5, ⟨x, c4, hy⟩, fr, hn⟩ := hI
  have hga := fr a ha
  have xs := hy.sc
  -- the crate's rows
  obtain ⟨cx, hcx, hcl, hcs, hci⟩ : ∃ cx, st.H.get a = some ⟨1, [[cx]]⟩ ∧ lenOf cx = some ts.length ∧ cx.scal = true ∧ (ts = [] ∨ cx = .imm (.lst true 4 (ts.map rowTh)) ∨ ∃ b, cx = .sl b 0 ts.length ts.length ∧ st.H.get b = some ⟨4, (ts.map rowTh).map imms⟩) := by
    rcases hc with ⟨h1, rfl, _⟩ | ⟨h1, _⟩ | ⟨b, hb, _, h1, h2⟩
    · exact ⟨_, by rw [hga]; exact h1, rfl, rfl, .inl rfl⟩
    · exact ⟨_, by rw [hga]; exact h1, by simp [lenOf], rfl, .inr (.inl rfl)⟩
    · exact ⟨_, by rw [hga]; exact h1, by simp [lenOf], rfl, .inr (.inr ⟨b, rfl, by rw [fr b (hob b hb)]; exact h2⟩)⟩
  by_cases hi : i < ts.length
  · have hi1 : (i : Int) < ts.length := by omega
    have hi' : ILt (i : Int) ts.length = True := ilt_t hi1
    have hw8 : IntKind.i64.wrap ((i : Int) + 1) = (i : Int) + 1 := wr_succ hi (by have := rbW; omega)
    have hlen : (UInt8.ofNat ts.length :: thsB (ts.take i)).length ≤ 90000 := by
      have := thsB_len (ts := ts.take i) fun t ht => hts t (List.mem_of_mem_take ht)
      simp only [List.length_cons, List.length_take] at *
      omega
    have h300 := hts _ (List.getElem_mem hi)
    have hoki := hok _ (List.getElem_mem hi)
    obtain ⟨wt, et, hwt⟩ := thing8_bl (d := d) ts[i] (fun s hs => by
      rw [hs] at h300
      simp [thB] at h300
      omega)
    obtain ⟨sb, hsrc, hsb⟩ := src_sl hwt st.H.get
    have hsb1 : sb = 1 := hsb (by
      intro h
      have := congrArg List.length h
      cases ht : ts[i] <;> simp [ht, thB] at this)
    subst hsb1
    rw [map_imms_ivY] at hsrc
    obtain ⟨x1, hw, n1, acc, p1, p2, p3, p4, p5, p6, p7⟩ := app_y (y := .imm wt) (cs := thB ts[i]) hlo hn hy (src := none) hsrc (fun _ _ _ _ => by simp) (by simp only [List.length_cons] at hlen ⊢; omega)
    have x1s := p3.sc
    have fin : Yw (putH st.H hw) w n1 x1 (UInt8.ofNat ts.length :: thsB (ts.take (i + 1))) := by
      rw [thsB_succ hi]
      exact p3
    have wts := hwt.scal
    have txt : ∃ a b s e, rowTh ts[i] = [a, b, .str s, e] ∧ s.length ≤ 200 := by
      cases ht : ts[i] with
      | int z => exact ⟨_, _, _, _, rfl, by simp⟩
      | text s => rw [ht] at hoki; exact ⟨_, _, _, _, rfl, of_decide_eq_true (p := s.length ≤ 200) hoki⟩
      | bool z => exact ⟨_, _, _, _, rfl, by simp⟩
    obtain ⟨ra, rb, rs, re, hrt, hrl⟩ := txt
    have il : ILt 200 (rs.length : Int) = False := ilt_f (by omega)
    have rsc := rowTh_sc ts[i]
    rw [hrt] at et
    simp only [imms, List.map_cons, List.map_nil] at et
    rcases hci with h0 | hcx' | ⟨b, hcx', hb⟩
    · rw [h0] at hi; simp at hi
    · have ix := fun {h : Nat → Option HB} {n : Nat} => (show idxE h n 4 (some (.imm (.lst true 4 (ts.map rowTh)))) (some (.imm (.int .i64 (i : Int)))) = some { v := .imm (.cref (rowTh ts[i])), n' := n } by
        have e1 : asNat (.imm (.int .i64 (i : Int))) = some i := by simp [asNat]
        simp only [idxE, e1, List.getElem?_map, List.getElem?_eq_getElem hi, Option.map_some, give]
        simp)
      rw [hrt] at ix
      rw [hcx'] at hcx hcl hcs
      generalize ts.map rowTh = es at *
      generalize thB ts[i] = tb at *
      generalize ts[i] = t at *
      generalize hQ : (fun (e : Ex) (s' : St) => _) = Q'
      simp only [D.l43_0b]
      simp [c0, c4, c5, hcx, hcl, hcs, xs, x1s, wts, hi', hw8, ix, il, et, p1, imms, B6, undT, fnEnd, argsT, PT.get_put, keep, opRun, ev, evs, evO, give, giveI, binOf, isNilK, PM.flip, putT, putL, putH, loadOf, storeOf, cut, over, ofCells, asNat, natOr, calm, clashes, Acc.clash, ressOf, resOf, frz, frz.frzs, DV.flat, DV.flat.flats, imms]
      subst hQ
      exact .inl ⟨rfl, hi, by simp [PT.get_put], by simp [PT.get_put], ⟨x1, by simp [PT.get_put], fin⟩, fun j hj => (p4 j hj).trans (fr j hj), by simp; omega⟩
    · have ix := fun {n : Nat} => idx_hp (h := st.H.get) (n := n) (id := b) (row := 0) (len := ts.length) (cap := ts.length) hb rfl (k := .i64) (z := (i : Int)) (by omega) hi1
      simp only [Int.toNat_natCast, Nat.zero_add] at ix
      have hrow : ((ts.map rowTh).map imms)[i]? = some (imms (rowTh ts[i])) := by simp [hi]
      rw [hrt] at hrow
      rw [hcx'] at hcx hcl hcs
      generalize (ts.map rowTh).map imms = es at *
      generalize thB ts[i] = tb at *
      generalize ts[i] = t at *
      generalize hQ : (fun (e : Ex) (s' : St) => _) = Q'
      simp only [D.l43_0b]
      simp only [imms, List.map_cons, List.map_nil] at hrow
      simp [c0, c4, c5, hcx, hcl, hcs, xs, x1s, wts, hi', hw8, ix, hb, hrow, il, et, p1, imms, B6, undT, fnEnd, argsT, PT.get_put, keep, opRun, ev, evs, evO, give, giveI, binOf, isNilK, PM.flip, putT, putL, putH, loadOf, storeOf, cut, over, ofCells, asNat, natOr, calm, clashes, Acc.clash, ressOf, resOf, frz, frz.frzs, DV.flat, DV.flat.flats, imms]
      subst hQ
      exact .inl ⟨rfl, hi, by simp [PT.get_put], by simp [PT.get_put], ⟨x1, by simp [PT.get_put], fin⟩, fun j hj => (p4 j hj).trans (fr j hj), by simp; omega⟩
  · obtain rfl : i = ts.length := by omega
    generalize hQ : (fun (e : Ex) (s' : St) => _) = Q'
    simp only [D.l43_0b]
    simp [c0, c4, c5, hcx, hcl, hcs, xs, B6, undT, fnEnd, argsT, PT.get_put, keep, opRun, ev, evs, evO, give, giveI, binOf, isNilK, PM.flip, putT, putL, putH, loadOf, storeOf, cut, over, ofCells, asNat, natOr, calm, clashes, Acc.clash, ressOf, resOf, frz, frz.frzs, DV.flat, DV.flat.flats, imms]
    subst hQ
    exact .inr ⟨nofun, rfl, by simp [PT.get_put, c0], by simp [PT.get_put, c5], ⟨x, by simp [PT.get_put, c4], hy⟩, fr, hn⟩
end Go.Proofs.YtnpcgejfkonfdaaDoor.D

-- K22
set_option linter.unusedVariables false
set_option linter.unusedSimpArgs false
set_option maxHeartbeats 16000000
namespace Go.Proofs.YtnpcgejfkonfdaaDoor.D
open Go Go.PM Go.Lib
theorem isState_run {d : Nat} {H : PT HB} {p : Nat} {own : List Nat} {l : Lo} {rs : List Rst} (ok : LoOk l) (is : ISL l) (lk : LkAt H p own l rs) {r : Nat} (hr : r < l.rts.length) (x : Rst) {n lo : Nat} :
    ∃ n', K DG (d + 1) 58 [.ptr p 0 0, .imm (.int .i64 r), .agg (rowRS x)] H n lo = some (.imm (.bool (dec (RsOk l r x))), H, n') ∧ n ≤ n' := by
  obtain ⟨y, h1, h2, h3, h4⟩ := lk
  have rk := ok.or _ (nth_mem hr)
  have pl := rk.p.len
  simp only [List.length_map] at pl
  have p5 := is.p5 r hr
  have p1 := (is.rr r hr).p1
  have hr1 : (r : Int) < l.rts.length := by omega
  have ix := fun {h : Nat → Option HB} {n : Nat} => idx_sl (h := h) (n := n) ok.r (by omega) (k := .i64) (z := (r : Int)) (by omega) hr1
  have hw : IntKind.i64.wrap (((nth l.rts r).path.length : Int) - 1) = ((nth l.rts r).path.length : Int) - 1 := wr_id (by omega) (by omega)
  simp only [Int.toNat_natCast] at ix
  obtain ⟨m, t, g, s⟩ := x
  have key : Fe (K DG (d + 1) 58 [.ptr p 0 0, .imm (.int .i64 r), .agg (rowRS ⟨m, t, g, s⟩)] H n lo) (fun v H' n' => v = .imm (.bool (dec (RsOk l r ⟨m, t, g, s⟩))) ∧ H' = H ∧ n ≤ n') := by
    rw [D.k58]
    refine fn_dw rfl ?_
    by_cases m0 : m = 0
    · subst m0
      have e : RsOk l r ⟨0, t, g, s⟩ ↔ (⟨0, t, g, s⟩ : Rst) = ⟨0, 0, 0, false⟩ := by
        rw [Rst.mk.injEq]
        exact ⟨fun h => ⟨rfl, h.tz (by simp) (by simp), h.gz (by simp)⟩, fun ⟨_, h1, h2, h3⟩ => by subst h1; subst h2; subst h3; exact RsOk.idle⟩
      rw [dec_congr e]
      simp [h1, eqSt_rs, evParts, lay, B6, undT, fnEnd, argsT, PT.get_put, keep, opRun, ev, evs, evO, give, giveI, binOf, isNilK, PM.flip, putT, putL, putH, loadOf, storeOf, cut, over, ofCells, asNat, natOr, calm, clashes, Acc.clash, ressOf, resOf, frz, frz.frzs, DV.flat, DV.flat.flats, imms]
      omega
    by_cases m2 : m = 2
    · subst m2
      have e : RsOk l r ⟨2, t, g, s⟩ ↔ (⟨2, t, g, s⟩ : Rst) = ⟨2, 0, 0, false⟩ := by
        rw [Rst.mk.injEq]
        exact ⟨fun h => ⟨rfl, h.tz (by simp) (by simp), h.gz (by simp)⟩, fun ⟨_, h1, h2, h3⟩ => by subst h1; subst h2; subst h3; exact ⟨by simp, by simp, by simp, by simp, by simp, by simp, by simp⟩⟩
      rw [dec_congr e]
      simp [h1, eqSt_rs, evParts, lay, B6, undT, fnEnd, argsT, PT.get_put, keep, opRun, ev, evs, evO, give, giveI, binOf, isNilK, PM.flip, putT, putL, putH, loadOf, storeOf, cut, over, ofCells, asNat, natOr, calm, clashes, Acc.clash, ressOf, resOf, frz, frz.frzs, DV.flat, DV.flat.flats, imms]
      omega
    by_cases m1 : m = 1
    · subst m1
      generalize hz : (if 8 < (if t < 0 then 0 else t) then 8 else (if t < 0 then 0 else t)) = z
      have e : RsOk l r ⟨1, t, g, s⟩ ↔ (⟨1, t, g, s⟩ : Rst) = ⟨1, z, 0, false⟩ := by
        rw [Rst.mk.injEq]
        refine ⟨fun h => ⟨rfl, ?_, h.gz (by simp)⟩, fun ⟨_, h1, h2, h3⟩ => ?_⟩
        · have a1 := h.t0
          have a2 := h.t8 rfl
          simp only at a1 a2
          subst hz
          repeat' split
          all_goals omega
        · subst h2; subst h3
          have hb : 0 ≤ t ∧ t ≤ 8 := by
            subst hz
            revert h1
            repeat' split
            all_goals omega
          exact ⟨by simp, by simp <;> omega, by simp <;> omega, by simp <;> omega, by simp, by simp, by simp⟩
      rw [dec_congr e]
      simp [h1, eqSt_rs, evParts, lay, B6, undT, fnEnd, argsT, PT.get_put, keep, opRun, ev, evs, evO, give, giveI, binOf, isNilK, PM.flip, putT, putL, putH, loadOf, storeOf, cut, over, ofCells, asNat, natOr, calm, clashes, Acc.clash, ressOf, resOf, frz, frz.frzs, DV.flat, DV.flat.flats, imms]
      subst hz
      exact ⟨rfl, by omega⟩
    by_cases m4 : m = 4
    · subst m4
      generalize hz : (if 5 < (if t < 0 then 0 else t) then 5 else (if t < 0 then 0 else t)) = z
      have e : RsOk l r ⟨4, t, g, s⟩ ↔ (⟨4, t, g, s⟩ : Rst) = ⟨4, z, 0, false⟩ := by
        rw [Rst.mk.injEq]
        refine ⟨fun h => ⟨rfl, ?_, h.gz (by simp)⟩, fun ⟨_, h1, h2, h3⟩ => ?_⟩
        · have a1 := h.t0
          have a2 := h.t6 rfl
          simp only at a1 a2
          subst hz
          repeat' split
          all_goals omega
        · subst h2; subst h3
          have hb : 0 ≤ t ∧ t ≤ 5 := by
            subst hz
            revert h1
            repeat' split
            all_goals omega
          exact ⟨by simp, by simp <;> omega, by simp <;> omega, by simp <;> omega, by simp, by simp, by simp⟩
      rw [dec_congr e]
      simp [h1, eqSt_rs, evParts, lay, B6, undT, fnEnd, argsT, PT.get_put, keep, opRun, ev, evs, evO, give, giveI, binOf, isNilK, PM.flip, putT, putL, putH, loadOf, storeOf, cut, over, ofCells, asNat, natOr, calm, clashes, Acc.clash, ressOf, resOf, frz, frz.frzs, DV.flat, DV.flat.flats, imms]
      subst hz
      exact ⟨rfl, by omega⟩
    by_cases m3 : m = 3
    · subst m3
      generalize hz : (if ((nth l.rts r).path.length : Int) - 1 < (if g < 0 then 0 else g) then ((nth l.rts r).path.length : Int) - 1 else (if g < 0 then 0 else g)) = z
      have e : RsOk l r ⟨3, t, g, s⟩ ↔ (⟨3, t, g, s⟩ : Rst) = ⟨3, 0, z, s⟩ := by
        rw [Rst.mk.injEq]
        refine ⟨fun h => ⟨rfl, h.tz (by simp) (by simp), ?_, rfl⟩, fun ⟨_, h1, h2, h3⟩ => ?_⟩
        · have a1 := h.g3 rfl
          simp only at a1
          subst hz
          repeat' split
          all_goals omega
        · subst h1
          have hb : 0 ≤ g ∧ g < (nth l.rts r).path.length := by
            subst hz
            revert h2
            repeat' split
            all_goals omega
          exact ⟨by simp, by simp, by simp, by simp, by simp, fun _ => hb, by simp⟩
      rw [dec_congr e]
      simp [h1, ix, pl, hw, ivRt, eqSt_rs, evParts, lay, B6, undT, fnEnd, argsT, PT.get_put, keep, opRun, ev, evs, evO, give, giveI, binOf, isNilK, PM.flip, putT, putL, putH, loadOf, storeOf, cut, over, ofCells, asNat, natOr, calm, clashes, Acc.clash, ressOf, resOf, frz, frz.frzs, DV.flat, DV.flat.flats, imms]
      subst hz
      exact ⟨rfl, by omega⟩
    · have e : ¬ RsOk l r ⟨m, t, g, s⟩ := fun h => by have := h.md; simp only at this; omega
      rw [dec_f e]
      simp [h1, m0, m1, m2, m3, m4, eqSt_rs, evParts, lay, B6, undT, fnEnd, argsT, PT.get_put, keep, opRun, ev, evs, evO, give, giveI, binOf, isNilK, PM.flip, putT, putL, putH, loadOf, storeOf, cut, over, ofCells, asNat, natOr, calm, clashes, Acc.clash, ressOf, resOf, frz, frz.frzs, DV.flat, DV.flat.flats, imms]
      omega
  obtain ⟨v, H', n', e, rfl, rfl, hn⟩ := key
  exact ⟨n', e, hn⟩
/-! ### Set -/
/-- Two routes that may not both stand. -/
def Bad (l : Lo) (qs : List Rst) (i s : Nat) : Prop := (nth qs i).mode ≠ 0 ∧ (nth qs s).mode ≠ 0 ∧ CF l i s
structure IQ1 (p : Nat) (w : IV) (H : PT HB) (n0 i k : Nat) (x : Rst) (j : Nat) (st : St) : Prop where
  h0 : st.T.get 0 = some (.ptr p 0 0)
  h1 : st.T.get 1 = some (.imm w)
  h5 : st.T.get 5 = some (.imm (.int .i64 i))
  b6 : BoxD st 6 (rowRS x)
  h21 : st.T.get 21 = some (.imm w)
  h22 : st.T.get 22 = some (.imm (.int .i64 k))
  h23 : st.T.get 23 = some (.imm (.int .i64 i))
  h35 : st.T.get 35 = some (.imm (takeV w i))
  h36 : st.T.get 36 = some (.imm (.int .i64 i))
  h37 : st.T.get 37 = some (.imm (.int .i64 j))
  hH : st.H = H
  hn : n0 ≤ st.n
theorem nth_take {α : Type} [Inhabited α] {xs : List α} {i j : Nat} (h : j < i) : nth (xs.take i) j = nth xs j := by simp [nth, List.getD, List.getElem?_take, h]
theorem loopQ1 {d : Nat} (hd : 9 ≤ d) {H : PT HB} {p n0 : Nat} {own : List Nat} {l : Lo} {rs : List Rst} (ok : LoOk l) (is : ISL l) (lk : LkAt H p own l rs) {w : IV} {qs : List Rst} (hw : Sl 4 w (qs.map ivRS)) (hq : qs.length = l.rts.length) {i k : Nat} (hi : i < l.rts.length) {ks : List Kf} {st : St} {Q : Ex → St → Prop} (h : IQ1 p w H n0 i k (nth qs i) 0 st)
    (h1 : ∀ st', st'.T.get 4 = some (.imm (.bool false)) → st'.H = H → n0 ≤ st'.n → (∃ s, s < i ∧ Bad l qs i s) → Bk DG (K DG d) 0 .ret ks st' Q)
    (h2 : ∀ st', IQ1 p w H n0 i k (nth qs i) i st' → (∀ s, s < i → ¬ Bad l qs i s) → Bk DG (K DG d) 0 (.exit 2) ks st' Q) : Wp DG (K DG d) 0 D.l41_1 ks st Q := by
  have hrb := rb3
  have lr := ok.lr
  obtain ⟨y, k1, k2, k3, k4⟩ := lk
  have vt := takeV_sl hw i
  have vtl := vt.len
  simp only [List.length_map, List.length_take] at vtl
  refine dw_loop (N := i) (small (by omega)) (fun j st => IQ1 p w H n0 i k (nth qs i) j st ∧ ∀ s, s < j → ¬ Bad l qs i s) (fun e st' => (e = .ret ∧ st'.T.get 4 = some (.imm (.bool false)) ∧ st'.H = H ∧ n0 ≤ st'.n ∧ ∃ s, s < i ∧ Bad l qs i s) ∨ (e = .exit 2 ∧ IQ1 p w H n0 i k (nth qs i) i st' ∧ ∀ s, s < i → ¬ Bad l qs i s)) (fun j st hle hI => ?_) ⟨h, fun s hs => absurd hs (by omega)⟩ (fun e s' h => by
    rcases h with ⟨rfl, a1, a2, a3, a4⟩ | ⟨rfl, a1, a2⟩
    · exact h1 s' a1 a2 a3 a4
    · exact h2 s' a1 a2)
  obtain ⟨⟨g0, g1, g5, ⟨i6, g6, L6⟩, g21, g22, g23, g35, g36, g37, hH, hn⟩, al⟩ := hI
  by_cases hj : j < i
  · have hj1 : (j : Int) < i := by omega
    have hj' := ilt_t hj1
    have hw8 : IntKind.i64.wrap ((j : Int) + 1) = (j : Int) + 1 := wr_succ hj (by omega)
    have ix := fun {h : Nat → Option HB} {n : Nat} => idx_sl (h := h) (n := n) vt (by omega) (k := .i64) (z := (j : Int)) (by omega) (by simp; omega)
    simp only [Int.toNat_natCast, nth_take hj] at ix
    have cf := Conflict_bl (D := d) (by omega) ok is.few hi (s := j) (by omega)
    have bad : Bad l qs i j ↔ (nth qs i).mode ≠ 0 ∧ (nth qs j).mode ≠ 0 ∧ CF l i j := Iff.rfl
    have nx : ¬ Bad l qs i j → ∀ s, s < j + 1 → ¬ Bad l qs i s := fun hb s hs => by
      by_cases e : s = j
      · subst e; exact hb
      · exact al s (by omega)
    generalize nth qs i = x at *
    generalize nth qs j = y at *
    generalize hQ : (fun (e : Ex) (s' : St) => _) = Q'
    simp only [D.l41_1b]
    by_cases mx : x.mode = 0
    · have nb := nx fun e => (bad.1 e).1 mx
      simp [g0, g1, g5, g6, L6, g21, g22, g23, g35, g36, g37, hj', hw8, ix, hH, k1, mx, ivRS, evParts, lay, B6, undT, fnEnd, argsT, PT.get_put, keep, opRun, ev, evs, evO, give, giveI, binOf, isNilK, PM.flip, putT, putL, putH, loadOf, storeOf, cut, over, ofCells, asNat, natOr, calm, clashes, Acc.clash, ressOf, resOf, frz, frz.frzs, DV.flat, DV.flat.flats, imms]
      subst hQ
      exact .inl ⟨rfl, hj, ⟨by simp [PT.get_put], by simp [PT.get_put], by simp [PT.get_put], ⟨i6, by simp [PT.get_put], by simp [PT.get_put, mx]⟩, by simp [PT.get_put], by simp [PT.get_put], by simp [PT.get_put], by simp [PT.get_put], by simp [PT.get_put], by simp [PT.get_put], rfl, by simp; omega⟩, nb⟩
    by_cases my : y.mode = 0
    · have nb := nx fun e => (bad.1 e).2.1 my
      simp [g0, g1, g5, g6, L6, g21, g22, g23, g35, g36, g37, hj', hw8, ix, hH, k1, mx, my, ivRS, evParts, lay, B6, undT, fnEnd, argsT, PT.get_put, keep, opRun, ev, evs, evO, give, giveI, binOf, isNilK, PM.flip, putT, putL, putH, loadOf, storeOf, cut, over, ofCells, asNat, natOr, calm, clashes, Acc.clash, ressOf, resOf, frz, frz.frzs, DV.flat, DV.flat.flats, imms]
      subst hQ
      exact .inl ⟨rfl, hj, ⟨by simp [PT.get_put], by simp [PT.get_put], by simp [PT.get_put], ⟨i6, by simp [PT.get_put], by simp [PT.get_put]⟩, by simp [PT.get_put], by simp [PT.get_put], by simp [PT.get_put], by simp [PT.get_put], by simp [PT.get_put], by simp [PT.get_put], rfl, by simp; omega⟩, nb⟩
    by_cases hc : CF l i j
    · rw [dec_t hc] at cf
      simp [g0, g1, g5, g6, L6, g21, g22, g23, g35, g36, g37, hj', hw8, ix, hH, k1, mx, my, cf, ok.s.scal, ok.p.scal, ok.g.scal, ok.r.scal, ivRS, evParts, lay, B6, undT, fnEnd, argsT, PT.get_put, keep, opRun, ev, evs, evO, give, giveI, binOf, isNilK, PM.flip, putT, putL, putH, loadOf, storeOf, cut, over, ofCells, asNat, natOr, calm, clashes, Acc.clash, ressOf, resOf, frz, frz.frzs, DV.flat, DV.flat.flats, imms]
      subst hQ
      exact .inr ⟨nofun, .inl ⟨rfl, by simp [PT.get_put], rfl, by simp; omega, j, hj, bad.2 ⟨mx, my, hc⟩⟩⟩
    · rw [dec_f hc] at cf
      have nb := nx fun e => hc (bad.1 e).2.2
      simp [g0, g1, g5, g6, L6, g21, g22, g23, g35, g36, g37, hj', hw8, ix, hH, k1, mx, my, cf, ok.s.scal, ok.p.scal, ok.g.scal, ok.r.scal, ivRS, evParts, lay, B6, undT, fnEnd, argsT, PT.get_put, keep, opRun, ev, evs, evO, give, giveI, binOf, isNilK, PM.flip, putT, putL, putH, loadOf, storeOf, cut, over, ofCells, asNat, natOr, calm, clashes, Acc.clash, ressOf, resOf, frz, frz.frzs, DV.flat, DV.flat.flats, imms]
      subst hQ
      exact .inl ⟨rfl, hj, ⟨by simp [PT.get_put], by simp [PT.get_put], by simp [PT.get_put], ⟨i6, by simp [PT.get_put], by simp [PT.get_put]⟩, by simp [PT.get_put], by simp [PT.get_put], by simp [PT.get_put], by simp [PT.get_put], by simp [PT.get_put], by simp [PT.get_put], rfl, by simp; omega⟩, nb⟩
  · obtain rfl : j = i := by omega
    generalize hQ : (fun (e : Ex) (s' : St) => _) = Q'
    simp only [D.l41_1b]
    simp [g0, g1, g5, g6, L6, g21, g22, g23, g35, g36, g37, hH, B6, undT, fnEnd, argsT, PT.get_put, keep, opRun, ev, evs, evO, give, giveI, binOf, isNilK, PM.flip, putT, putL, putH, loadOf, storeOf, cut, over, ofCells, asNat, natOr, calm, clashes, Acc.clash, ressOf, resOf, frz, frz.frzs, DV.flat, DV.flat.flats, imms]
    subst hQ
    exact .inr ⟨nofun, .inr ⟨rfl, ⟨by simp [PT.get_put, g0], by simp [PT.get_put, g1], by simp [PT.get_put, g5], ⟨i6, by simp [PT.get_put, g6], by simp [PT.get_put, L6]⟩, by simp [PT.get_put, g21], by simp [PT.get_put, g22], by simp [PT.get_put, g23], by simp [PT.get_put, g35], by simp [PT.get_put, g36], by simp [PT.get_put, g37], rfl, hn⟩, al⟩⟩
structure IQ0 (p : Nat) (w : IV) (H : PT HB) (n0 k i : Nat) (st : St) : Prop where
  h0 : st.T.get 0 = some (.ptr p 0 0)
  h1 : st.T.get 1 = some (.imm w)
  h21 : st.T.get 21 = some (.imm w)
  h22 : st.T.get 22 = some (.imm (.int .i64 k))
  h23 : st.T.get 23 = some (.imm (.int .i64 i))
  hH : st.H = H
  hn : n0 ≤ st.n
/-- A route that may stand so, beside those ahead of it. -/
def Good (l : Lo) (qs : List Rst) (r : Nat) : Prop := RsOk l r (nth qs r) ∧ ∀ s, s < r → ¬ Bad l qs r s
theorem good_inv {l : Lo} {qs : List Rst} (hq : qs.length = l.rts.length) : (∀ r, r < l.rts.length → Good l qs r) ↔ INV l qs := by
  refine ⟨fun h => ⟨hq, fun r hr => (h r hr).1, fun i j hi hj hij mi mj hc => ?_⟩, fun h r hr => ⟨h.ro r hr, fun s hs hb => h.nc r s hr (by omega) (by omega) hb.1 hb.2.1 hb.2.2⟩⟩
  rcases Nat.lt_or_gt_of_ne hij with hlt | hlt
  · exact (h j hj).2 i hlt ⟨mj, mi, CF_sym hc⟩
  · exact (h i hi).2 j hlt ⟨mi, mj, hc⟩
theorem loopQ0 {d : Nat} (hd : 10 ≤ d) {H : PT HB} {p n0 : Nat} {own : List Nat} {l : Lo} {rs : List Rst} (ok : LoOk l) (is : ISL l) (lk : LkAt H p own l rs) {w : IV} {qs : List Rst} (hw : Sl 4 w (qs.map ivRS)) (hq : qs.length = l.rts.length) {ks : List Kf} {st : St} {Q : Ex → St → Prop} (h : IQ0 p w H n0 l.rts.length 0 st)
    (h1 : ∀ st', st'.T.get 4 = some (.imm (.bool false)) → st'.H = H → n0 ≤ st'.n → ¬ (∀ r, r < l.rts.length → Good l qs r) → Bk DG (K DG d) 0 .ret ks st' Q)
    (h2 : ∀ st', IQ0 p w H n0 l.rts.length l.rts.length st' → (∀ r, r < l.rts.length → Good l qs r) → Bk DG (K DG d) 0 (.exit 0) ks st' Q) : Wp DG (K DG d) 0 D.l41_0 ks st Q := by
  have hrb := rb3
  have lr := ok.lr
  obtain ⟨d, rfl⟩ : ∃ d', d = d' + 1 := ⟨d - 1, by omega⟩
  refine dw_loop (N := l.rts.length) (small lr) (fun i st => IQ0 p w H n0 l.rts.length i st ∧ ∀ r, r < i → Good l qs r) (fun e st' => (e = .ret ∧ st'.T.get 4 = some (.imm (.bool false)) ∧ st'.H = H ∧ n0 ≤ st'.n ∧ ¬ ∀ r, r < l.rts.length → Good l qs r) ∨ (e = .exit 0 ∧ IQ0 p w H n0 l.rts.length l.rts.length st' ∧ ∀ r, r < l.rts.length → Good l qs r)) (fun i st hle hI => ?_) ⟨h, fun s hs => absurd hs (by omega)⟩ (fun e s' h => by
    rcases h with ⟨rfl, a1, a2, a3, a4⟩ | ⟨rfl, a1, a2⟩
    · exact h1 s' a1 a2 a3 a4
    · exact h2 s' a1 a2)
  obtain ⟨⟨g0, g1, g21, g22, g23, hH, hn⟩, al⟩ := hI
  by_cases hi : i < l.rts.length
  · have hi1 : (i : Int) < l.rts.length := by omega
    have hi' := ilt_t hi1
    have hw8 : IntKind.i64.wrap ((i : Int) + 1) = (i : Int) + 1 := wr_succ hi lr
    have ix := fun {h : Nat → Option HB} {n : Nat} => idx_sl (h := h) (n := n) hw (by omega) (k := .i64) (z := (i : Int)) (by omega) (by omega)
    simp only [Int.toNat_natCast] at ix
    have sl := fun {h : Nat → Option HB} {n : Nat} => slc_to (h := h) (n := n) hw (i := i) (by omega)
    have vt := (takeV_sl hw i).len
    simp only [List.length_map, List.length_take, Nat.min_eq_left (show i ≤ qs.length by omega)] at vt
    obtain ⟨n2, e2, hn2⟩ := isState_run (d := d) ok is lk hi (nth qs i) (n := st.n + 1) (lo := st.n + 1)
    subst hH
    have loop := fun {ks st Q} => loopQ1 (d := d + 1) (n0 := n0) (k := l.rts.length) (ks := ks) (st := st) (Q := Q) (by omega) ok is lk hw hq hi
    have gd : RsOk l i (nth qs i) → (∀ s, s < i → ¬ Bad l qs i s) → ∀ r, r < i + 1 → Good l qs r := fun a b r hr => by
      by_cases e : r = i
      · subst e; exact ⟨a, b⟩
      · exact al r (by omega)
    have nb : (∃ s, s < i ∧ Bad l qs i s) → ¬ ∀ r, r < l.rts.length → Good l qs r := fun ⟨s, hs, hb⟩ h => (h i hi).2 s hs hb
    have ns : ¬ RsOk l i (nth qs i) → ¬ ∀ r, r < l.rts.length → Good l qs r := fun hs h => hs (h i hi).1
    generalize nth qs i = x at *
    generalize hQ : (fun (e : Ex) (s' : St) => _) = Q'
    simp only [D.l41_0b]
    by_cases ho : RsOk l i x
    · rw [dec_t ho] at e2
      simp [g0, g1, g21, g22, g23, hi', hw8, ix, sl, vt, e2, ivRS, evParts, lay, B6, undT, fnEnd, argsT, PT.get_put, keep, opRun, ev, evs, evO, give, giveI, binOf, isNilK, PM.flip, putT, putL, putH, loadOf, storeOf, cut, over, ofCells, asNat, natOr, calm, clashes, Acc.clash, ressOf, resOf, frz, frz.frzs, DV.flat, DV.flat.flats, imms]
      refine loop ⟨by simp [PT.get_put], by simp [PT.get_put], by simp [PT.get_put], ⟨st.n, by simp [PT.get_put], by simp [PT.get_put]⟩, by simp [PT.get_put], by simp [PT.get_put], by simp [PT.get_put], by simp [PT.get_put], by simp [PT.get_put], by simp [PT.get_put], rfl, by simp; omega⟩ (fun s2 f4 fH fn hb => ?_) (fun s2 f hb => ?_)
      · simp [f4, B6, undT, fnEnd, argsT, PT.get_put, keep, opRun, ev, evs, evO, give, giveI, binOf, isNilK, PM.flip, putT, putL, putH, loadOf, storeOf, cut, over, ofCells, asNat, natOr, calm, clashes, Acc.clash, ressOf, resOf, frz, frz.frzs, DV.flat, DV.flat.flats, imms]
        subst hQ
        exact .inr ⟨nofun, .inl ⟨rfl, f4, fH, fn, nb hb⟩⟩
      · obtain ⟨f0, f1, f5, ⟨j6, f6, M6⟩, f21, f22, f23, f35, f36, f37, fH, fn⟩ := f
        simp [f0, f1, f5, f6, M6, f21, f22, f23, hw8, B6, undT, fnEnd, argsT, PT.get_put, keep, opRun, ev, evs, evO, give, giveI, binOf, isNilK, PM.flip, putT, putL, putH, loadOf, storeOf, cut, over, ofCells, asNat, natOr, calm, clashes, Acc.clash, ressOf, resOf, frz, frz.frzs, DV.flat, DV.flat.flats, imms]
        subst hQ
        exact .inl ⟨rfl, hi, ⟨by simp [PT.get_put, f0], by simp [PT.get_put, f1], by simp [PT.get_put, f21], by simp [PT.get_put, f22], by simp [PT.get_put], fH, fn⟩, gd ho hb⟩
    · rw [dec_f ho] at e2
      simp [g0, g1, g21, g22, g23, hi', hw8, ix, sl, vt, e2, ivRS, evParts, lay, B6, undT, fnEnd, argsT, PT.get_put, keep, opRun, ev, evs, evO, give, giveI, binOf, isNilK, PM.flip, putT, putL, putH, loadOf, storeOf, cut, over, ofCells, asNat, natOr, calm, clashes, Acc.clash, ressOf, resOf, frz, frz.frzs, DV.flat, DV.flat.flats, imms]
      subst hQ
      exact .inr ⟨nofun, .inl ⟨rfl, by simp [PT.get_put], rfl, by simp; omega, ns ho⟩⟩
  · obtain rfl : i = l.rts.length := by omega
    generalize hQ : (fun (e : Ex) (s' : St) => _) = Q'
    simp only [D.l41_0b]
    simp [g0, g1, g21, g22, g23, hH, B6, undT, fnEnd, argsT, PT.get_put, keep, opRun, ev, evs, evO, give, giveI, binOf, isNilK, PM.flip, putT, putL, putH, loadOf, storeOf, cut, over, ofCells, asNat, natOr, calm, clashes, Acc.clash, ressOf, resOf, frz, frz.frzs, DV.flat, DV.flat.flats, imms]
    subst hQ
    exact .inr ⟨nofun, .inr ⟨rfl, ⟨by simp [PT.get_put, g0], by simp [PT.get_put, g1], by simp [PT.get_put, g21], by simp [PT.get_put, g22], by simp [PT.get_put, g23], rfl, hn⟩, al⟩⟩
/-- A copy of a row that nobody writes: in the heap. -/
theorem clone_q {d : Nat} {w : IV} {qs : List Rst} (hw : Sl 4 w (qs.map ivRS)) (hl : qs.length ≤ 1000) (H : PT HB) (n : Nat) :
    Fe (K DG (d + 1) 57 [.imm w] H n 0) (fun x H' n' => n ≤ n' ∧ ((qs = [] ∧ H' = H ∧ ∃ u, x = .imm u ∧ Sl 4 u []) ∨ (qs ≠ [] ∧ x = .sl n 0 qs.length qs.length ∧ H' = H.put n (some ⟨4, qs.map rowRS⟩) ∧ n' = n + 1))) := by
  have hes := map_rowRS qs
  have hel : (qs.map ivRS).length = qs.length := by simp
  have hq0 : qs.map ivRS = [] ↔ qs = [] := by simp
  rw [← hq0, hes, ← hel]
  rw [← hel] at hl
  generalize qs.map ivRS = es at *
  have hv0 := hw
  rw [D.k57]
  refine fn_dw rfl ?_
  rcases hw with ⟨rfl, rfl⟩ | ⟨f, rfl⟩
  · simp [B6, undT, fnEnd, argsT, PT.get_put, keep, opRun, ev, evs, evO, give, giveI, binOf, isNilK, PM.flip, putT, putL, putH, loadOf, storeOf, cut, over, ofCells, asNat, natOr, calm, clashes, Acc.clash, ressOf, resOf, frz, frz.frzs, DV.flat, DV.flat.flats, imms]
    exact .inl ⟨rfl, rfl⟩
  · by_cases he : es = []
    · have p1 := fun {h : Nat → Option HB} {n : Nat} {x : DV} hx => app_none (bytes := 32) (h := h) (n := n) (x := x) hx (he ▸ hv0)
      subst he
      simp [p1, evParts2, lay, unImms, unImm, mapO, rowsN, B6, undT, fnEnd, argsT, PT.get_put, keep, opRun, ev, evs, evO, give, giveI, binOf, isNilK, PM.flip, putT, putL, putH, loadOf, storeOf, cut, over, ofCells, asNat, natOr, calm, clashes, Acc.clash, ressOf, resOf, frz, frz.frzs, DV.flat, DV.flat.flats, imms]
      exact .inr ⟨_, rfl⟩
    · have p1 := fun {h : Nat → Option HB} {n : Nat} => app_new (bytes := 32) (h := h) (n := n) hv0 he (by omega) (by omega) (by omega)
      simp [p1, he, evParts2, lay, unImms, unImm, mapO, rowsN, B6, undT, fnEnd, argsT, PT.get_put, keep, opRun, ev, evs, evO, give, giveI, binOf, isNilK, PM.flip, putT, putL, putH, loadOf, storeOf, cut, over, ofCells, asNat, natOr, calm, clashes, Acc.clash, ressOf, resOf, frz, frz.frzs, DV.flat, DV.flat.flats, imms]
      exact fun e => he (hq0.2 e)
theorem Set_run {d : Nat} (hd : 10 ≤ d) {H : PT HB} {p : Nat} {own : List Nat} {l : Lo} {rs : List Rst} (ok : LoOk l) (is : ISL l) (lk : LkAt H p own l rs) {w : IV} {qs : List Rst} (hw : Sl 4 w (qs.map ivRS)) (hl : qs.length ≤ reachBytes) {n : Nat} (hpn : ∀ i ∈ p :: own, i < n) :
    Fe (K DG (d + 1) 41 [.ptr p 0 0, .imm w] H n 0) (fun v H' n' => n ≤ n' ∧ v = .imm (.bool (dec (INV l qs))) ∧ (∀ j, j ≠ p → j < n → H'.get j = H.get j) ∧
      ((INV l qs ∧ ∃ own', LkAt H' p own' l qs ∧ ∀ i ∈ own', n ≤ i ∧ i < n') ∨ (¬ INV l qs ∧ LkAt H' p own l rs))) := by
  have hrb := rb3
  have lk0 := lk
  obtain ⟨x, h1, h2, h3, h4⟩ := lk
  have xl := h2.len
  have wl := hw.len
  simp only [List.length_map] at wl
  have hp := hpn p (by simp)
  obtain ⟨d, rfl⟩ : ∃ d', d = d' + 1 := ⟨d - 1, by omega⟩
  rw [D.k41]
  refine fn_dw rfl ?_
  by_cases hq : qs.length = rs.length
  · have hq' : qs.length = l.rts.length := by omega
    rw [h4] at xl
    rw [hq'] at wl
    simp [h1, xl, wl, B6, undT, fnEnd, argsT, PT.get_put, keep, opRun, ev, evs, evO, give, giveI, binOf, isNilK, PM.flip, putT, putL, putH, loadOf, storeOf, cut, over, ofCells, asNat, natOr, calm, clashes, Acc.clash, ressOf, resOf, frz, frz.frzs, DV.flat, DV.flat.flats, imms]
    refine loopQ0 (n0 := n) (by omega) ok is lk0 hw hq' ⟨by simp [PT.get_put], by simp [PT.get_put], by simp [PT.get_put], by simp [PT.get_put], by simp [PT.get_put], rfl, by simp⟩ (fun s2 f4 fH fn hb => ?_) (fun s2 f hb => ?_)
    · rw [good_inv hq'] at hb
      simp [f4, B6, undT, fnEnd, argsT, PT.get_put, keep, opRun, ev, evs, evO, give, giveI, binOf, isNilK, PM.flip, putT, putL, putH, loadOf, storeOf, cut, over, ofCells, asNat, natOr, calm, clashes, Acc.clash, ressOf, resOf, frz, frz.frzs, DV.flat, DV.flat.flats, imms]
      exact ⟨fn, hb, fun j hj hjn => by rw [fH], .inr ⟨hb, by rw [fH]; exact lk0⟩⟩
    · rw [good_inv hq'] at hb
      obtain ⟨f0, f1, f21, f22, f23, fH, fn⟩ := f
      obtain ⟨v, H1, n1, e1, hn1, hc⟩ := clone_q (d := d) hw (by have := is.r2; omega) H s2.n
      subst fH
      rcases hc with ⟨rfl, rfl, u, rfl, hu⟩ | ⟨hne, rfl, rfl, rfl⟩
      · simp [f0, f1, e1, h1, hu.scal, B6, undT, fnEnd, argsT, PT.get_put, keep, opRun, ev, evs, evO, give, giveI, binOf, isNilK, PM.flip, putT, putL, putH, loadOf, storeOf, cut, over, ofCells, asNat, natOr, calm, clashes, Acc.clash, ressOf, resOf, frz, frz.frzs, DV.flat, DV.flat.flats, imms]
        exact ⟨by omega, hb, fun j hj hjn => by simp [PT.get_put, hj], .inl ⟨hb, [], ⟨_, by simp [PT.get_put], .inl ⟨rfl, rfl, u, rfl, hu⟩, by simp, hq'⟩, by simp⟩⟩
      · have hpn' : ¬ p = s2.n := by omega
        have hnp : ¬ s2.n = p := by omega
        simp [f0, f1, e1, h1, hpn', B6, undT, fnEnd, argsT, PT.get_put, keep, opRun, ev, evs, evO, give, giveI, binOf, isNilK, PM.flip, putT, putL, putH, loadOf, storeOf, cut, over, ofCells, asNat, natOr, calm, clashes, Acc.clash, ressOf, resOf, frz, frz.frzs, DV.flat, DV.flat.flats, imms]
        refine ⟨by omega, hb, fun j hj hjn => ?_, .inl ⟨hb, [s2.n], ⟨_, by simp [PT.get_put], .inr ⟨s2.n, rfl, rfl, by simp [PT.get_put, hnp]⟩, by simp; omega, hq'⟩, by simp; omega⟩⟩
        have : ¬ j = s2.n := by omega
        simp [PT.get_put, hj, this]
  · have hni : ¬ INV l qs := fun h => hq (by have := h.ln; omega)
    have hq2 : ¬ (qs.length : Int) = (rs.length : Int) := by omega
    simp [h1, xl, wl, hq2, B6, undT, fnEnd, argsT, PT.get_put, keep, opRun, ev, evs, evO, give, giveI, binOf, isNilK, PM.flip, putT, putL, putH, loadOf, storeOf, cut, over, ofCells, asNat, natOr, calm, clashes, Acc.clash, ressOf, resOf, frz, frz.frzs, DV.flat, DV.flat.flats, imms]
    exact ⟨hni, .inr ⟨hni, lk0⟩⟩
end Go.Proofs.YtnpcgejfkonfdaaDoor.D

set_option linter.unusedVariables false
set_option linter.unusedSimpArgs false
set_option maxHeartbeats 16000000
namespace Go.Proofs.YtnpcgejfkonfdaaDoor.D
open Go Go.PM Go.Lib
/-- A Lock in the heap that stands as it may. -/
def LkI (H : PT HB) (n p : Nat) (l : Lo) : Prop := ∃ own rs, LkAt H p own l rs ∧ INV l rs ∧ ∀ j ∈ p :: own, j < n
theorem LkI.mono {H H' : PT HB} {n n' p : Nat} {l : Lo} (h : LkI H n p l) (hn : n ≤ n') (hf : ∀ j, j < n → H'.get j = H.get j) : LkI H' n' p l := by
  obtain ⟨own, rs, lk, inv, ho⟩ := h
  exact ⟨own, rs, lk.mono fun i hi => hf i (ho i hi), inv, fun j hj => by have := ho j hj; omega⟩
end Go.Proofs.YtnpcgejfkonfdaaDoor.D

-- T9a
set_option linter.unusedVariables false
set_option linter.unusedSimpArgs false
set_option maxHeartbeats 16000000
namespace Go.Proofs.YtnpcgejfkonfdaaDoor.D
open Go Go.PM Go.Lib
theorem AtS.keep {sz : Nat} {x : DV} {H H' : PT HB} {n : Nat} {rows : List (List IV)} (h : AtS sz x H n rows) (hk : ∀ j, j < n → H'.get j = H.get j) : AtS sz x H' n rows := by
  rcases h with h | ⟨id, h1, h2, h3⟩
  · exact .inl h
  · exact .inr ⟨id, h1, h2, by rw [hk id h1]; exact h3⟩
end Go.Proofs.YtnpcgejfkonfdaaDoor.D

-- K24
set_option linter.unusedVariables false
set_option linter.unusedSimpArgs false
set_option maxHeartbeats 16000000
namespace Go.Proofs.YtnpcgejfkonfdaaDoor.D
open Go Go.PM Go.Lib
theorem RtEq.symm {r r' : Rt} (h : RtEq r r') : RtEq r' r := ⟨h.name.symm, h.fr.symm, h.to.symm, h.path.symm, h.pts.symm, h.flk.symm⟩
theorem LoEq.symm {l l' : Lo} (e : LoEq l l') : LoEq l' l := ⟨e.secs.symm, e.pts.symm, e.sigs.symm, e.len.symm, fun i hi => (e.rts i (by rw [← e.len]; exact hi)).symm⟩
/-- Two Locks in the heap, apart. -/
def Two (H : PT HB) (n p q : Nat) (l k : Lo) (rs qs : List Rst) : Prop := ∃ o o', LkAt H p o l rs ∧ LkAt H q o' k qs ∧ (∀ j ∈ p :: o, j < n) ∧ (∀ j ∈ q :: o', j < n) ∧ ∀ j ∈ p :: o, j ∉ q :: o'
theorem Two.symm {H : PT HB} {n p q : Nat} {l k : Lo} {rs qs : List Rst} (h : Two H n p q l k rs qs) : Two H n q p k l qs rs := by
  obtain ⟨o, o', a, b, c, d, e⟩ := h
  exact ⟨o', o, b, a, d, c, fun j h1 h2 => e j h2 h1⟩
theorem Two.mono {H H' : PT HB} {n n' p q : Nat} {l k : Lo} {rs qs : List Rst} (h : Two H n p q l k rs qs) (hn : n ≤ n') (hf : ∀ j, j < n → H'.get j = H.get j) : Two H' n' p q l k rs qs := by
  obtain ⟨o, o', a, b, c, d, e⟩ := h
  exact ⟨o, o', a.mono fun i hi => hf i (c i hi), b.mono fun i hi => hf i (d i hi), fun j hj => by have := c j hj; omega, fun j hj => by have := d j hj; omega, e⟩
end Go.Proofs.YtnpcgejfkonfdaaDoor.D

-- UL
set_option linter.unusedVariables false
set_option linter.unusedSimpArgs false
set_option maxHeartbeats 16000000
namespace Go.Proofs.YtnpcgejfkonfdaaDoor.D
open Go Go.PM Go.Lib

def rowL (e t : Int) (g : Bool) : HB := ⟨3, [[.imm (.int .i64 e), .imm (.int .i64 t), .imm (.bool g)]]⟩
theorem lease_new {d : Nat} {H : PT HB} {n lo : Nat} (hlo : lo ≤ n) : ∃ n' H', K DG (d + 1) 25 [] H n lo = some (.ptr n 0 0, H', n') ∧ n' = n + 1 ∧ H' = H.put n (some (rowL 0 0 false)) := by
  have key : Fe (K DG (d + 1) 25 [] H n lo) (fun v H' n' => v = .ptr n 0 0 ∧ n' = n + 1 ∧ H' = H.put n (some (rowL 0 0 false))) := by
    rw [D.k25]
    refine fn_dw rfl ?_
    simp [hlo, rowL, evParts, lay, unImms, unImm, mapO, B6, undT, fnEnd, argsT, PT.get_put, keep, opRun, ev, evs, evO, give, giveI, binOf, isNilK, PM.flip, putT, putL, putH, loadOf, storeOf, cut, over, ofCells, asNat, natOr, calm, clashes, Acc.clash, ressOf, resOf, frz, frz.frzs, DV.flat, DV.flat.flats, imms]
  obtain ⟨v, H', n', e, rfl, r⟩ := key
  exact ⟨n', H', e, r⟩
theorem lease_grant {d : Nat} {H : PT HB} {n q : Nat} {e t : Int} {g : Bool} (h : H.get q = some (rowL e t g)) (e' k : Int) (h0 : 0 ≤ k) (h1 : k ≤ 1000000) :
    ∃ v H', K DG (d + 1) 28 [.ptr q 0 0, .imm (.int .i64 e'), .imm (.int .i64 k)] H n 0 = some (v, H', n) ∧ H'.get q = some (rowL e' (k + 5) true) ∧ ∀ j, j ≠ q → H'.get j = H.get j := by
  have w1 : IntKind.i64.wrap (k + 8) = k + 8 := wr_id (by omega) (by omega)
  have w2 : IntKind.i64.wrap (k + 8 - 3) = k + 8 - 3 := wr_id (by omega) (by omega)
  have w3 : IntKind.i64.wrap (k + 5) = k + 5 := wr_id (by omega) (by omega)
  have key : Fe (K DG (d + 1) 28 [.ptr q 0 0, .imm (.int .i64 e'), .imm (.int .i64 k)] H n 0) (fun v H' n' => n' = n ∧ H'.get q = some (rowL e' (k + 5) true) ∧ ∀ j, j ≠ q → H'.get j = H.get j) := by
    unfold rowL at h
    rw [D.k28]
    refine fn_dw rfl ?_
    simp (config := {contextual := true}) [h, w1, w2, w3, rowL, B6, undT, fnEnd, argsT, PT.get_put, keep, opRun, ev, evs, evO, give, giveI, binOf, isNilK, PM.flip, putT, putL, putH, loadOf, storeOf, cut, over, ofCells, asNat, natOr, calm, clashes, Acc.clash, ressOf, resOf, frz, frz.frzs, DV.flat, DV.flat.flats, imms]
    omega
  obtain ⟨v, H', n', e, rfl, r⟩ := key
  exact ⟨v, H', e, r⟩
theorem ro_of {K : Go.PM.Callee} {f : FuncId} {args : List DV} {H : PT HB} {n lo : Nat} {v : IV} (ho : DV.out.outs args = true) (h : Fe (K f args H n n) (fun v' H' n' => n ≤ n' ∧ v' = .imm v)) :
    ∃ m, callM K .ro f args H n lo = some ⟨.imm v, H, m, [.rA]⟩ ∧ n ≤ m := by
  obtain ⟨v', H', n', e, h1, rfl⟩ := h
  exact ⟨n', by rw [callM_ro, if_pos ho, e]; rfl, h1⟩
theorem lease_epoch {d : Nat} {H : PT HB} {n lo q : Nat} {e t : Int} {g : Bool} (h : H.get q = some (rowL e t g)) :
    ∃ m, callM (K DG (d + 1)) .ro 27 [.ptr q 0 0] H n lo = some ⟨.imm (.int .i64 e), H, m, [.rA]⟩ ∧ n ≤ m := by
  refine ro_of rfl ?_
  unfold rowL at h
  rw [D.k27]
  refine fn_dw rfl ?_
  simp [h, B6, undT, fnEnd, argsT, PT.get_put, keep, opRun, ev, evs, evO, give, giveI, binOf, isNilK, PM.flip, putT, putL, putH, loadOf, storeOf, cut, over, ofCells, asNat, natOr, calm, clashes, Acc.clash, ressOf, resOf, frz, frz.frzs, DV.flat, DV.flat.flats, imms]
/-! ### A unit -/
structure US where
  rs : List Rst
  ep : Int
  en : Int
  gr : Bool
  cp : Option (Int × Int × List Rst)
  mode : Int
  tick : Int
  count : Int
  left : Int
def CpAt (Z : Nat → Prop) (H : PT HB) (n : Nat) (bad : List Nat) (x : DV) : Option (Int × Int × List Rst) → Prop
  | none => x = .imm .nilp
  | some (e, c, qs) => ∃ m w, x = .ptr m 0 0 ∧ (m ∉ bad ∧ m < n ∧ Z m) ∧ H.get m = some ⟨3, [[.imm (.int .i64 e), .imm (.int .i64 c), .imm w]]⟩ ∧ Sl 4 w (qs.map ivRS)
def rowU (p q : Nat) (x : DV) (mode tick count left : Int) : HB := ⟨7, [[.ptr p 0 0, .ptr q 0 0, x, .imm (.int .i64 mode), .imm (.int .i64 tick), .imm (.int .i64 count), .imm (.int .i64 left)]]⟩
structure UAt (Z : Nat → Prop) (l : Lo) (H : PT HB) (n a p q : Nat) (own : List Nat) (x : DV) (u : US) : Prop where
  blk : H.get a = some (rowU p q x u.mode u.tick u.count u.left)
  lk : LkAt H p own l u.rs
  le : H.get q = some (rowL u.ep u.en u.gr)
  cp : CpAt Z H n (a :: p :: q :: own) x u.cp
  ap : a ≠ p
  aq : a ≠ q
  pq : p ≠ q
  ao : a ∉ own
  qo : q ∉ own
  lt : ∀ j ∈ a :: p :: q :: own, j < n ∧ Z j
def UI (Z : Nat → Prop) (l : Lo) (H : PT HB) (n a : Nat) (u : US) : Prop := ∃ p q own x, UAt Z l H n a p q own x u
theorem CpAt.mono {Z Z' : Nat → Prop} {H H' : PT HB} {n n' : Nat} {bad bad' : List Nat} {x : DV} {c : Option (Int × Int × List Rst)} (h : CpAt Z H n bad x c) (hn : n ≤ n') (hz : ∀ j, j < n → Z j → Z' j) (hb : ∀ j ∈ bad', j < n → j ∈ bad) (hf : ∀ j, j < n → Z j → j ∉ bad → H'.get j = H.get j) : CpAt Z' H' n' bad' x c := by
  rcases c with _ | ⟨e, c, qs⟩
  · exact h
  · obtain ⟨m, w, h1, ⟨h2, h3, h4⟩, h5, h6⟩ := h
    exact ⟨m, w, h1, ⟨fun h => h2 (hb m h h3), by omega, hz m h3 h4⟩, by rw [hf m h3 h4 h2]; exact h5, h6⟩
theorem UAt.mono {Z Z' : Nat → Prop} {l : Lo} {H H' : PT HB} {n n' a p q : Nat} {own : List Nat} {x : DV} {u : US} (h : UAt Z l H n a p q own x u) (hn : n ≤ n') (hz : ∀ j, j < n → Z j → Z' j) (hf : ∀ j, j < n → Z j → H'.get j = H.get j) : UAt Z' l H' n' a p q own x u := by
  obtain ⟨blk, lk, le, cp, ap, aq, pq, ao, qo, lt⟩ := h
  have hg : ∀ j ∈ a :: p :: q :: own, H'.get j = H.get j := fun j hj => hf j (lt j hj).1 (lt j hj).2
  refine ⟨by rw [hg a (by simp)]; exact blk, lk.mono fun i hi => hg i (by simp at hi ⊢; rcases hi with h | h <;> simp [h]), by rw [hg q (by simp)]; exact le, cp.mono hn hz (fun j hj _ => hj) (fun j h1 h2 _ => hf j h1 h2), ap, aq, pq, ao, qo, fun j hj => ⟨by have := (lt j hj).1; omega, hz j (lt j hj).1 (lt j hj).2⟩⟩
theorem UI.mono {Z Z' : Nat → Prop} {l : Lo} {H H' : PT HB} {n n' a : Nat} {u : US} (h : UI Z l H n a u) (hn : n ≤ n') (hz : ∀ j, j < n → Z j → Z' j) (hf : ∀ j, j < n → Z j → H'.get j = H.get j) : UI Z' l H' n' a u := by
  obtain ⟨p, q, own, x, h⟩ := h
  exact ⟨p, q, own, x, h.mono hn hz hf⟩
/-- the unit's block is written: another copy, other numbers -/
theorem UAt.upd {Z : Nat → Prop} {l : Lo} {H H' : PT HB} {n n' a p q : Nat} {own : List Nat} {x x' : DV} {u : US} (h : UAt Z l H n a p q own x u) (hn : n ≤ n') {c : Option (Int × Int × List Rst)} {m t k z : Int}
    (hb : H'.get a = some (rowU p q x' m t k z)) (hc : CpAt Z H' n' (a :: p :: q :: own) x' c) (hf : ∀ j, j ≠ a → j < n → H'.get j = H.get j) : UAt Z l H' n' a p q own x' ⟨u.rs, u.ep, u.en, u.gr, c, m, t, k, z⟩ := by
  obtain ⟨blk, lk, le, cp, ap, aq, pq, ao, qo, lt⟩ := h
  refine ⟨hb, lk.mono fun i hi => hf i ?_ ?_, by rw [hf q aq.symm (lt q (by simp)).1]; exact le, hc, ap, aq, pq, ao, qo, fun j hj => ⟨by have := (lt j hj).1; omega, (lt j hj).2⟩⟩
  · rcases List.mem_cons.1 hi with rfl | hi
    · exact ap.symm
    · exact fun e => ao (e ▸ hi)
  · exact (lt i (by simp at hi ⊢; rcases hi with h | h <;> simp [h])).1
/-- its lease is written -/
theorem UAt.updq {Z : Nat → Prop} {l : Lo} {H H' : PT HB} {n n' a p q : Nat} {own : List Nat} {x : DV} {u : US} (h : UAt Z l H n a p q own x u) (hn : n ≤ n') {e t : Int} {g : Bool}
    (hb : H'.get q = some (rowL e t g)) (hf : ∀ j, j ≠ q → j < n → H'.get j = H.get j) : UAt Z l H' n' a p q own x ⟨u.rs, e, t, g, u.cp, u.mode, u.tick, u.count, u.left⟩ := by
  obtain ⟨blk, lk, le, cp, ap, aq, pq, ao, qo, lt⟩ := h
  refine ⟨by rw [hf a aq (lt a (by simp)).1]; exact blk, lk.mono fun i hi => hf i ?_ ?_, hb, cp.mono hn (fun j _ h => h) (fun j hj _ => hj) (fun j h1 h2 h3 => hf j (fun e => h3 (by simp [e])) h1), ap, aq, pq, ao, qo, fun j hj => ⟨by have := (lt j hj).1; omega, (lt j hj).2⟩⟩
  · rcases List.mem_cons.1 hi with rfl | hi
    · exact pq
    · exact fun e => qo (e ▸ hi)
  · exact (lt i (by simp at hi ⊢; rcases hi with h | h <;> simp [h])).1
/-- its Lock stands otherwise -/
theorem UAt.lock {Z : Nat → Prop} {l : Lo} {H H' : PT HB} {n n' a p q : Nat} {own own' : List Nat} {x : DV} {u : US} (h : UAt Z l H n a p q own x u) (hz : ∀ j, n ≤ j → Z j) (hn : n ≤ n') {qs : List Rst}
    (hl : LkAt H' p own' l qs) (ho : ∀ j ∈ own', j ∈ own ∨ (n ≤ j ∧ j < n')) (hf : ∀ j, j ≠ p → j ∉ own → j < n → H'.get j = H.get j) : UAt Z l H' n' a p q own' x ⟨qs, u.ep, u.en, u.gr, u.cp, u.mode, u.tick, u.count, u.left⟩ := by
  obtain ⟨blk, lk, le, cp, ap, aq, pq, ao, qo, lt⟩ := h
  have la := (lt a (by simp)).1
  have lq := (lt q (by simp)).1
  refine ⟨by rw [hf a ap ao la]; exact blk, hl, by rw [hf q pq.symm qo lq]; exact le, cp.mono hn (fun j _ h => h) (fun j hj hlt => ?_) (fun j h1 h2 h3 => hf j (fun e => h3 (by simp [e])) (fun e => h3 (by simp [e])) h1), ap, aq, pq, fun e => ?_, fun e => ?_, fun j hj => ?_⟩
  · simp at hj ⊢
    rcases hj with h | h | h | h
    · simp [h]
    · simp [h]
    · simp [h]
    · rcases ho j h with h | h
      · simp [h]
      · omega
  · rcases ho a e with h | h
    · exact ao h
    · omega
  · rcases ho q e with h | h
    · exact qo h
    · omega
  · simp at hj
    rcases hj with rfl | rfl | rfl | hj
    · exact ⟨by have := (lt j (by simp)).1; omega, (lt j (by simp)).2⟩
    · exact ⟨by have := (lt j (by simp)).1; omega, (lt j (by simp)).2⟩
    · exact ⟨by have := (lt j (by simp)).1; omega, (lt j (by simp)).2⟩
    · rcases ho j hj with h | h
      · exact ⟨by have := (lt j (by simp [h])).1; omega, (lt j (by simp [h])).2⟩
      · exact ⟨by omega, hz _ h.1⟩
/-- what a call on a unit leaves -/
def UR (Z : Nat → Prop) (l : Lo) (H : PT HB) (n a : Nat) (u : US) (H' : PT HB) (n' : Nat) : Prop := n ≤ n' ∧ UI Z l H' n' a u ∧ ∀ j, j < n → ¬ Z j → H'.get j = H.get j
end Go.Proofs.YtnpcgejfkonfdaaDoor.D

-- UN
set_option linter.unusedVariables false
set_option linter.unusedSimpArgs false
set_option maxHeartbeats 16000000
namespace Go.Proofs.YtnpcgejfkonfdaaDoor.D
open Go Go.PM Go.Lib

theorem u_mode {Z : Nat → Prop} {l : Lo} {H : PT HB} {n a p q : Nat} {own : List Nat} {x : DV} {u : US} (h : UAt Z l H n a p q own x u) {d m lo : Nat} :
    ∃ k, callM (K DG (d + 1)) .ro 12 [.ptr a 0 0] H m lo = some ⟨.imm (.int .i64 u.mode), H, k, [.rA]⟩ ∧ m ≤ k := by
  have hb := h.blk
  unfold rowU at hb
  refine ro_of rfl ?_
  rw [D.k12]
  refine fn_dw rfl ?_
  simp [hb, B6, undT, fnEnd, argsT, PT.get_put, keep, opRun, ev, evs, evO, give, giveI, binOf, isNilK, PM.flip, putT, putL, putH, loadOf, storeOf, cut, over, ofCells, asNat, natOr, calm, clashes, Acc.clash, ressOf, resOf, frz, frz.frzs, DV.flat, DV.flat.flats, imms]
theorem u_count {Z : Nat → Prop} {l : Lo} {H : PT HB} {n a p q : Nat} {own : List Nat} {x : DV} {u : US} (h : UAt Z l H n a p q own x u) {d m lo : Nat} :
    ∃ k, callM (K DG (d + 1)) .ro 13 [.ptr a 0 0] H m lo = some ⟨.imm (.int .i64 u.count), H, k, [.rA]⟩ ∧ m ≤ k := by
  have hb := h.blk
  unfold rowU at hb
  refine ro_of rfl ?_
  rw [D.k13]
  refine fn_dw rfl ?_
  simp [hb, B6, undT, fnEnd, argsT, PT.get_put, keep, opRun, ev, evs, evO, give, giveI, binOf, isNilK, PM.flip, putT, putL, putH, loadOf, storeOf, cut, over, ofCells, asNat, natOr, calm, clashes, Acc.clash, ressOf, resOf, frz, frz.frzs, DV.flat, DV.flat.flats, imms]
def Wk (u : US) : Prop := u.mode = 3 ∨ u.mode = 4
theorem u_works {Z : Nat → Prop} {l : Lo} {H : PT HB} {n a p q : Nat} {own : List Nat} {x : DV} {u : US} (h : UAt Z l H n a p q own x u) {d m lo : Nat} :
    ∃ k, callM (K DG (d + 1)) .ro 26 [.ptr a 0 0] H m lo = some ⟨.imm (.bool (dec (Wk u))), H, k, [.rA]⟩ ∧ m ≤ k := by
  have hb := h.blk
  unfold rowU at hb
  refine ro_of rfl ?_
  rw [D.k26]
  refine fn_dw rfl ?_
  unfold Wk
  by_cases h3 : u.mode = 3
  · have e : dec (u.mode = 3 ∨ u.mode = 4) = true := dec_t (.inl h3)
    rw [e]
    rw [h3] at hb
    simp [hb, B6, undT, fnEnd, argsT, PT.get_put, keep, opRun, ev, evs, evO, give, giveI, binOf, isNilK, PM.flip, putT, putL, putH, loadOf, storeOf, cut, over, ofCells, asNat, natOr, calm, clashes, Acc.clash, ressOf, resOf, frz, frz.frzs, DV.flat, DV.flat.flats, imms]
  · by_cases h4 : u.mode = 4
    · have e : dec (u.mode = 3 ∨ u.mode = 4) = true := dec_t (.inr h4)
      rw [e]
      rw [h4] at hb
      simp [hb, B6, undT, fnEnd, argsT, PT.get_put, keep, opRun, ev, evs, evO, give, giveI, binOf, isNilK, PM.flip, putT, putL, putH, loadOf, storeOf, cut, over, ofCells, asNat, natOr, calm, clashes, Acc.clash, ressOf, resOf, frz, frz.frzs, DV.flat, DV.flat.flats, imms]
    · have e : dec (u.mode = 3 ∨ u.mode = 4) = false := dec_f (by simp [h3, h4])
      rw [e]
      simp [hb, h3, h4, B6, undT, fnEnd, argsT, PT.get_put, keep, opRun, ev, evs, evO, give, giveI, binOf, isNilK, PM.flip, putT, putL, putH, loadOf, storeOf, cut, over, ofCells, asNat, natOr, calm, clashes, Acc.clash, ressOf, resOf, frz, frz.frzs, DV.flat, DV.flat.flats, imms]
theorem UAt.set {d : Nat} (hd : 10 ≤ d) {Z : Nat → Prop} {l : Lo} {H : PT HB} {n a p q : Nat} {own : List Nat} {x : DV} {u : US} (ok : LoOk l) (is : ISL l) (h : UAt Z l H n a p q own x u) (hz : ∀ j, n ≤ j → Z j) {w : IV} {qs : List Rst} (hw : Sl 4 w (qs.map ivRS)) (hl : qs.length ≤ reachBytes) {m : Nat} (hm : n ≤ m) :
    ∃ H' n' own', K DG (d + 1) 41 [.ptr p 0 0, .imm w] H m 0 = some (.imm (.bool (dec (INV l qs))), H', n') ∧ m ≤ n' ∧ UAt Z l H' n' a p q own' x ⟨bif dec (INV l qs) then qs else u.rs, u.ep, u.en, u.gr, u.cp, u.mode, u.tick, u.count, u.left⟩ ∧ (∀ j, j ≠ p → j < m → H'.get j = H.get j) ∧ ∀ j ∈ own', j ∈ own ∨ m ≤ j := by
  have lt := h.lt
  have hp := lt p (by simp)
  obtain ⟨v, H', n', e, hn, rfl, fr, hc⟩ := Set_run hd ok is h.lk hw hl (n := m) (fun i hi => by
    have := (lt i (by simp at hi ⊢; rcases hi with h | h <;> simp [h])).1
    omega)
  rcases hc with ⟨iq, own', lk', ho⟩ | ⟨niq, lk'⟩
  · refine ⟨H', n', own', e, hn, ?_, fr, fun j hj => .inr (ho j hj).1⟩
    rw [dec_t iq]
    exact h.lock hz (by omega) lk' (fun j hj => .inr ⟨by have := ho j hj; omega, (ho j hj).2⟩) (fun j h1 h2 h3 => fr j h1 (by omega))
  · refine ⟨H', n', own, e, hn, ?_, fr, fun j hj => .inl hj⟩
    rw [dec_f niq]
    exact h.lock hz (by omega) lk' (fun j hj => .inl hj) (fun j h1 h2 h3 => fr j h1 (by omega))
/-- all routes idle -/
def rep0 (l : Lo) : List Rst := List.replicate l.rts.length rs0
theorem resets_fn {d : Nat} (hd : 10 ≤ d) {Z : Nat → Prop} {l : Lo} {H : PT HB} {n a p q : Nat} {own : List Nat} {x : DV} {u : US} (ok : LoOk l) (is : ISL l) (h : UAt Z l H n a p q own x u) (hz : ∀ j, n ≤ j → Z j) :
    ∃ v H' n' own', K DG (d + 2) 30 [.ptr a 0 0] H n 0 = some (v, H', n') ∧ n ≤ n' ∧ UAt Z l H' n' a p q own' x ⟨rep0 l, u.ep, u.en, u.gr, u.cp, u.mode, u.tick, u.count, u.left⟩ ∧ ∀ j, j ≠ p → j < n → H'.get j = H.get j := by
  have hb := h.blk
  unfold rowU at hb
  have hrl : u.rs.length = l.rts.length := by obtain ⟨_, _, _, _, h⟩ := h.lk; exact h
  have r6 := is.r2
  obtain ⟨w, k, e1, hk, hw⟩ := Routes_ro (d := d) (by omega) (by omega) h.lk (n := n) (lo := 0)
  have wl := hw.len
  simp only [List.length_map, hrl] at wl
  have ws := hw.scal
  have a1 : l.rts.length ≤ appMax := by unfold appMax; omega
  have a2 : l.rts.length * 32 ≤ appMax := by unfold appMax; omega
  obtain ⟨H', n', own', e2, hn, hu, fz, _⟩ := UAt.set (d := d) (by omega) ok is h hz (w := .lst true 4 (List.replicate l.rts.length [.int .i64 0, .int .i64 0, .int .i64 0, .bool false])) (qs := rep0 l) (.inr ⟨true, by simp [rep0, ivRS]⟩) (by simp [rep0]; have := rb3; omega) hk
  rw [dec_t (show INV l (rep0 l) from INV.new)] at hu e2
  have key : Fe (K DG (d + 1 + 1) 30 [.ptr a 0 0] H n 0) (fun v H2 n2 => H2 = H' ∧ n2 = n') := by
    rw [D.k30]
    refine fn_dw rfl ?_
    simp [hb, e1, wl, ws, a1, a2, e2, B6, undT, fnEnd, argsT, PT.get_put, keep, opRun, ev, evs, evO, give, giveI, binOf, isNilK, PM.flip, putT, putL, putH, loadOf, storeOf, cut, over, ofCells, asNat, natOr, calm, clashes, Acc.clash, ressOf, resOf, frz, frz.frzs, DV.flat, DV.flat.flats, imms]
  obtain ⟨v, H2, n2, e, h1, h2⟩ := key
  rw [h1, h2] at e
  exact ⟨v, H', n', own', e, by omega, hu, fun j h1 h2 => fz j h1 (by omega)⟩
end Go.Proofs.YtnpcgejfkonfdaaDoor.D

-- UT
set_option linter.unusedVariables false
set_option linter.unusedSimpArgs false
set_option maxHeartbeats 16000000
namespace Go.Proofs.YtnpcgejfkonfdaaDoor.D
open Go Go.PM Go.Lib

theorem UAt.xs {Z : Nat → Prop} {l : Lo} {H : PT HB} {n a p q : Nat} {own : List Nat} {x : DV} {u : US} (h : UAt Z l H n a p q own x u) : x.scal = true ∧ x.out = true := by
  have := h.cp
  cases hc : u.cp with
  | none => rw [hc] at this; rw [show x = .imm .nilp from this]; exact ⟨rfl, rfl⟩
  | some c => rw [hc] at this; obtain ⟨m, w, rfl, _⟩ := this; exact ⟨rfl, rfl⟩
/-- the unit's block is written: other numbers -/
theorem UAt.num {Z : Nat → Prop} {l : Lo} {H : PT HB} {n a p q : Nat} {own : List Nat} {x : DV} {u : US} (h : UAt Z l H n a p q own x u) (m t k z : Int) :
    UAt Z l (H.put a (some ⟨7, [[.ptr p 0 0, .ptr q 0 0, x, .imm (.int .i64 m), .imm (.int .i64 t), .imm (.int .i64 k), .imm (.int .i64 z)]]⟩)) n a p q own x ⟨u.rs, u.ep, u.en, u.gr, u.cp, m, t, k, z⟩ := by
  have f : ∀ j, j ≠ a → (H.put a (some ⟨7, [[.ptr p 0 0, .ptr q 0 0, x, .imm (.int .i64 m), .imm (.int .i64 t), .imm (.int .i64 k), .imm (.int .i64 z)]]⟩)).get j = H.get j := fun j hj => by simp [PT.get_put, hj]
  exact h.upd (Nat.le_refl _) (by simp [PT.get_put, rowU]) (h.cp.mono (Nat.le_refl _) (fun _ _ h => h) (fun _ h _ => h) fun j _ _ hj => f j (fun e => hj (by simp [e]))) (fun j hj _ => f j hj)
noncomputable def begF (l : Lo) (u : US) (e k : Int) : US := match u.cp with
  | some (e', c, qs) => if u.mode = 2 ∧ e' = e - 1 ∧ k ≤ c then ⟨qs, u.ep, u.en, u.gr, u.cp, 3, u.tick, c, u.left⟩ else ⟨rep0 l, u.ep, u.en, u.gr, u.cp, 4, u.tick, k, 10⟩
  | none => ⟨rep0 l, u.ep, u.en, u.gr, u.cp, 4, u.tick, k, 10⟩
/-- the copy may stand so -/
def CpOk (l : Lo) (u : US) : Prop := ∀ e c qs, u.cp = some (e, c, qs) → INV l qs
theorem begins_fn {d : Nat} (hd : 10 ≤ d) {Z : Nat → Prop} {l : Lo} {H : PT HB} {n a p q : Nat} {own : List Nat} {x : DV} {u : US} (ok : LoOk l) (is : ISL l) (h : UAt Z l H n a p q own x u) (hz : ∀ j, n ≤ j → Z j) (co : CpOk l u) {e k : Int} (he : 0 ≤ e ∧ e ≤ 1099511627776) :
    ∃ v H' n' own', K DG (d + 3) 29 [.ptr a 0 0, .imm (.int .i64 e), .imm (.int .i64 k)] H n 0 = some (v, H', n') ∧ n ≤ n' ∧ UAt Z l H' n' a p q own' x (begF l u e k) ∧ ∀ j, j < n → ¬ Z j → H'.get j = H.get j := by
  have hb := h.blk
  have xs := h.xs.1
  have la := h.lt a (by simp)
  have lp := h.lt p (by simp)
  unfold rowU at hb
  have w1 : IntKind.i64.wrap (e - 1) = e - 1 := wr_id (by omega) (by omega)
  obtain ⟨v3, H3, n3, own3, e3, hn3, hu3, fz3⟩ := resets_fn (d := d) hd ok is h hz
  have hb3 := hu3.blk
  unfold rowU at hb3
  have hF := hu3.num 4 u.tick k 10
  have fF : ∀ j, j < n → ¬ Z j → (H3.put a (some ⟨7, [[.ptr p 0 0, .ptr q 0 0, x, .imm (.int .i64 4), .imm (.int .i64 u.tick), .imm (.int .i64 k), .imm (.int .i64 10)]]⟩)).get j = H.get j := fun j hj hzj => by
    have : ¬ j = a := fun e => hzj (e ▸ la.2)
    simp [PT.get_put, this]
    exact fz3 j (fun e => hzj (e ▸ lp.2)) hj
  have up : ∀ {H' n' own'} {w : US}, Fe (K DG (d + 2 + 1) 29 [.ptr a 0 0, .imm (.int .i64 e), .imm (.int .i64 k)] H n 0) (fun _ H2 n2 => n2 = n' ∧ ∀ j, H2.get j = H'.get j) → n ≤ n' → UAt Z l H' n' a p q own' x w → (∀ j, j < n → ¬ Z j → H'.get j = H.get j) → ∃ v H' n' own', K DG (d + 3) 29 [.ptr a 0 0, .imm (.int .i64 e), .imm (.int .i64 k)] H n 0 = some (v, H', n') ∧ n ≤ n' ∧ UAt Z l H' n' a p q own' x w ∧ ∀ j, j < n → ¬ Z j → H'.get j = H.get j := by
    rintro H' n' own' w ⟨v, H2, n2, e, rfl, r⟩ hn hu hf
    exact ⟨v, H2, n2, own', e, hn, hu.mono (Nat.le_refl _) (fun _ _ h => h) (fun j _ _ => r j), fun j h1 h2 => by rw [r j]; exact hf j h1 h2⟩
  have frc : begF l u e k = ⟨rep0 l, u.ep, u.en, u.gr, u.cp, 4, u.tick, k, 10⟩ → Fe (K DG (d + 2 + 1) 29 [.ptr a 0 0, .imm (.int .i64 e), .imm (.int .i64 k)] H n 0) (fun _ H2 n2 => n2 = n3 ∧ ∀ j, H2.get j = (H3.put a (some ⟨7, [[.ptr p 0 0, .ptr q 0 0, x, .imm (.int .i64 4), .imm (.int .i64 u.tick), .imm (.int .i64 k), .imm (.int .i64 10)]]⟩)).get j) → ∃ v H' n' own', K DG (d + 3) 29 [.ptr a 0 0, .imm (.int .i64 e), .imm (.int .i64 k)] H n 0 = some (v, H', n') ∧ n ≤ n' ∧ UAt Z l H' n' a p q own' x (begF l u e k) ∧ ∀ j, j < n → ¬ Z j → H'.get j = H.get j := fun h1 h2 => by
    rw [h1]
    exact up h2 hn3 hF fF
  rw [D.k29] at frc up
  by_cases h2 : u.mode = 2
  · cases hc : u.cp with
    | none =>
      have hx : x = .imm .nilp := by have := h.cp; rw [hc] at this; exact this
      refine frc (by unfold begF; rw [hc]) ?_
      refine fn_dw rfl ?_
      rw [h2] at hb
      rw [hx] at hb hb3 ⊢
      simp [hb, e3, hb3, PT.get_put, B6, undT, fnEnd, argsT, PT.get_put, keep, opRun, ev, evs, evO, give, giveI, binOf, isNilK, PM.flip, putT, putL, putH, loadOf, storeOf, cut, over, ofCells, asNat, natOr, calm, clashes, Acc.clash, ressOf, resOf, frz, frz.frzs, DV.flat, DV.flat.flats, imms]
      intro j
      by_cases hj : j = a <;> simp [hj]
    | some c =>
      obtain ⟨e', c, qs⟩ := c
      have hx := h.cp
      rw [hc] at hx
      obtain ⟨m, w, rfl, ⟨m1, m2, m3⟩, hm, hw⟩ := hx
      have iq := co e' c qs hc
      have hql := iq.ln
      have r6 := is.r2
      obtain ⟨H4, n4, own4, e4, hn4, hu4, fz4, _⟩ := UAt.set (d := d + 1) (by omega) ok is h hz hw (by have := rb3; omega) (Nat.le_refl _)
      rw [dec_t iq] at e4 hu4
      have hb4 := hu4.blk
      unfold rowU at hb4
      have ws := hw.scal
      have hma : ¬ m = a := fun e => m1 (by simp [e])
      have hm4 : H4.get m = H.get m := fz4 m (fun e => m1 (by simp [e])) m2
      rw [hm] at hm4
      have iv1 : ¬ c < k → ILt c k = False := fun h => ilt_f (by omega)
      by_cases h5 : e' = e - 1
      · by_cases h6 : k ≤ c
        · have i0 : ILt c k = False := ilt_f h6
          have hG := hu4.num 3 u.tick c u.left
          have e9 : begF l u e k = ⟨qs, u.ep, u.en, u.gr, u.cp, 3, u.tick, c, u.left⟩ := by unfold begF; rw [hc]; exact if_pos ⟨h2, h5, h6⟩
          have fG : ∀ j, j < n → ¬ Z j → (H4.put a (some ⟨7, [[.ptr p 0 0, .ptr q 0 0, .ptr m 0 0, .imm (.int .i64 3), .imm (.int .i64 u.tick), .imm (.int .i64 c), .imm (.int .i64 u.left)]]⟩)).get j = H.get j := fun j hj hzj => by
            have : ¬ j = a := fun e => hzj (e ▸ la.2)
            simp [PT.get_put, this]
            exact fz4 j (fun e => hzj (e ▸ lp.2)) hj
          have fin := up (H' := H4.put a (some ⟨7, [[.ptr p 0 0, .ptr q 0 0, .ptr m 0 0, .imm (.int .i64 3), .imm (.int .i64 u.tick), .imm (.int .i64 c), .imm (.int .i64 u.left)]]⟩)) (n' := n4) (own' := own4) (w := begF l u e k)
          rw [e9] at fin ⊢
          refine fin ?_ hn4 hG fG
          refine fn_dw rfl ?_
          rw [h2] at hb hb4
          simp [hb, hm, hm4, hma, w1, h5, i0, ws, e4, hb4, PT.get_put, B6, undT, fnEnd, argsT, PT.get_put, keep, opRun, ev, evs, evO, give, giveI, binOf, isNilK, PM.flip, putT, putL, putH, loadOf, storeOf, cut, over, ofCells, asNat, natOr, calm, clashes, Acc.clash, ressOf, resOf, frz, frz.frzs, DV.flat, DV.flat.flats, imms]
          intro j
          by_cases hj : j = a <;> simp [hj]
        · have i0 : ILt c k = True := ilt_t (by omega)
          refine frc (by unfold begF; rw [hc]; exact if_neg (fun h => h6 h.2.2)) ?_
          refine fn_dw rfl ?_
          rw [h2] at hb hb3
          simp [hb, hm, hma, w1, h5, i0, ws, e3, hb3, PT.get_put, B6, undT, fnEnd, argsT, PT.get_put, keep, opRun, ev, evs, evO, give, giveI, binOf, isNilK, PM.flip, putT, putL, putH, loadOf, storeOf, cut, over, ofCells, asNat, natOr, calm, clashes, Acc.clash, ressOf, resOf, frz, frz.frzs, DV.flat, DV.flat.flats, imms]
          intro j
          by_cases hj : j = a <;> simp [hj]
      · refine frc (by unfold begF; rw [hc]; exact if_neg (fun h => h5 h.2.1)) ?_
        refine fn_dw rfl ?_
        rw [h2] at hb hb3
        simp [hb, hm, hma, w1, h5, ws, e3, hb3, PT.get_put, B6, undT, fnEnd, argsT, PT.get_put, keep, opRun, ev, evs, evO, give, giveI, binOf, isNilK, PM.flip, putT, putL, putH, loadOf, storeOf, cut, over, ofCells, asNat, natOr, calm, clashes, Acc.clash, ressOf, resOf, frz, frz.frzs, DV.flat, DV.flat.flats, imms]
        intro j
        by_cases hj : j = a <;> simp [hj]
  · refine frc (by unfold begF; split <;> simp [h2]) ?_
    refine fn_dw rfl ?_
    simp [hb, xs, h2, e3, hb3, PT.get_put, B6, undT, fnEnd, argsT, PT.get_put, keep, opRun, ev, evs, evO, give, giveI, binOf, isNilK, PM.flip, putT, putL, putH, loadOf, storeOf, cut, over, ofCells, asNat, natOr, calm, clashes, Acc.clash, ressOf, resOf, frz, frz.frzs, DV.flat, DV.flat.flats, imms]
    intro j
    by_cases hj : j = a <;> simp [hj]
def granted (u : US) (e : Int) : US := ⟨u.rs, e, u.tick + 5, true, u.cp, u.mode, u.tick, u.count, u.left⟩
def noCp (w : US) : US := ⟨w.rs, w.ep, w.en, w.gr, none, w.mode, w.tick, w.count, w.left⟩
open Classical in
noncomputable def grantF (l : Lo) (u : US) (e k : Int) : US :=
  if Wk u ∧ u.ep = e then granted u e
  else if Wk u ∨ u.mode = 2 then noCp (begF l (granted u e) e k)
  else u
end Go.Proofs.YtnpcgejfkonfdaaDoor.D

-- UG
set_option linter.unusedVariables false
set_option linter.unusedSimpArgs false
set_option maxHeartbeats 16000000
namespace Go.Proofs.YtnpcgejfkonfdaaDoor.D
open Go Go.PM Go.Lib

theorem grant_u {d : Nat} {Z : Nat → Prop} {l : Lo} {H : PT HB} {n a p q : Nat} {own : List Nat} {x : DV} {u : US} (h : UAt Z l H n a p q own x u) (t0 : 0 ≤ u.tick) (t1 : u.tick ≤ 1000000) (e : Int) {m : Nat} (hm : n ≤ m) :
    ∃ v H', K DG (d + 1) 28 [.ptr q 0 0, .imm (.int .i64 e), .imm (.int .i64 u.tick)] H m 0 = some (v, H', m) ∧ UAt Z l H' m a p q own x (granted u e) ∧ ∀ j, j < n → ¬ Z j → H'.get j = H.get j := by
  obtain ⟨v, H', e1, g, f⟩ := lease_grant (d := d) (n := m) h.le e u.tick t0 t1
  exact ⟨v, H', e1, h.updq hm g (fun j hj _ => f j hj), fun j _ hz => f j (fun e => hz (e ▸ (h.lt q (by simp)).2))⟩
theorem Granted_fn {d : Nat} (hd : 10 ≤ d) {Z : Nat → Prop} {l : Lo} {H : PT HB} {n a : Nat} {u : US} (ok : LoOk l) (is : ISL l) (h : UI Z l H n a u) (hz : ∀ j, n ≤ j → Z j) (co : CpOk l u) {e k : Int} (he : 0 ≤ e ∧ e ≤ 1099511627776) (t0 : 0 ≤ u.tick) (t1 : u.tick ≤ 1000000) :
    ∃ v H' n', K DG (d + 4) 10 [.ptr a 0 0, .imm (.int .i64 e), .imm (.int .i64 k)] H n 0 = some (v, H', n') ∧ UR Z l H n a (grantF l u e k) H' n' := by
  obtain ⟨p, q, own, x, h⟩ := h
  have hb := h.blk
  have xs := h.xs.1
  have la := h.lt a (by simp)
  simp only [rowU] at hb
  refine (fun (hq : Fe (K DG (d + 3 + 1) 10 [.ptr a 0 0, .imm (.int .i64 e), .imm (.int .i64 k)] H n 0) fun _ H' n' => UR Z l H n a (grantF l u e k) H' n') => by
    obtain ⟨v', H', n', e, r⟩ := hq
    exact ⟨v', H', n', e, r⟩) ?_
  -- a grant, and then begins
  have both : ∀ m, n ≤ m → ∃ v1 H1, K DG (d + 3) 28 [.ptr q 0 0, .imm (.int .i64 e), .imm (.int .i64 u.tick)] H m 0 = some (v1, H1, m) ∧ ∃ v2 H2 n2, K DG (d + 3) 29 [.ptr a 0 0, .imm (.int .i64 e), .imm (.int .i64 k)] H1 m 0 = some (v2, H2, n2) ∧
      ∃ x2 own2, H2.get a = some (rowU p q x2 (begF l (granted u e) e k).mode (begF l (granted u e) e k).tick (begF l (granted u e) e k).count (begF l (granted u e) e k).left) ∧ x2.scal = true ∧
      UR Z l H n a (noCp (begF l (granted u e) e k)) (H2.put a (some (rowU p q (.imm .nilp) (begF l (granted u e) e k).mode (begF l (granted u e) e k).tick (begF l (granted u e) e k).count (begF l (granted u e) e k).left))) n2 := fun m hm => by
    obtain ⟨v1, H1, e1, h1, f1⟩ := grant_u (d := d + 2) h t0 t1 e hm
    obtain ⟨v2, H2, n2, own2, e2, hn2, h2, f2⟩ := begins_fn (d := d) hd ok is h1 (fun j hj => hz j (by omega)) co he (k := k)
    refine ⟨v1, H1, e1, v2, H2, n2, e2, x, own2, h2.blk, xs, by omega, ⟨p, q, own2, .imm .nilp, ?_⟩, fun j hj hzj => ?_⟩
    · generalize begF l (granted u e) e k = w at *
      have := h2.upd (Nat.le_refl _) (H' := H2.put a (some (rowU p q (.imm .nilp) w.mode w.tick w.count w.left))) (c := none) (x' := .imm .nilp) (m := w.mode) (t := w.tick) (k := w.count) (z := w.left) (by simp [PT.get_put]) rfl (fun j hj _ => by simp [PT.get_put, hj])
      exact this
    · have : ¬ j = a := fun e => hzj (e ▸ la.2)
      simp [PT.get_put, this]
      rw [f2 j (by omega) hzj, f1 j hj hzj]
  rw [D.k10]
  refine fn_dw rfl ?_
  unfold grantF
  obtain ⟨k1, e1, hk1⟩ := u_works h (d := d + 2) (m := n) (lo := 0)
  by_cases wk : Wk u
  · rw [dec_t wk] at e1
    obtain ⟨k2, e2, hk2⟩ := lease_epoch h.le (d := d + 2) (n := k1) (lo := 0)
    by_cases hp : u.ep = e
    · rw [if_pos ⟨wk, hp⟩]
      obtain ⟨v3, H3, e3, h3, f3⟩ := grant_u (d := d + 2) h t0 t1 e (m := k2) (by omega)
      simp [hb, xs, e1, e2, hp, e3, B6, undT, fnEnd, argsT, PT.get_put, keep, opRun, ev, evs, evO, give, giveI, binOf, isNilK, PM.flip, putT, putL, putH, loadOf, storeOf, cut, over, ofCells, asNat, natOr, calm, clashes, Acc.clash, ressOf, resOf, frz, frz.frzs, DV.flat, DV.flat.flats, imms]
      exact ⟨by omega, ⟨p, q, own, x, h3⟩, f3⟩
    · rw [if_neg (fun h => hp h.2), if_pos (.inl wk)]
      obtain ⟨k3, e3, hk3⟩ := u_works h (d := d + 2) (m := k2) (lo := 0)
      rw [dec_t wk] at e3
      obtain ⟨v4, H4, e4, v5, H5, n5, e5, x5, own5, b5, s5, fin⟩ := both k3 (by omega)
      generalize begF l (granted u e) e k = w at *
      simp only [rowU] at b5 fin
      simp [hb, xs, e1, e2, hp, e3, e4, e5, b5, s5, B6, undT, fnEnd, argsT, PT.get_put, keep, opRun, ev, evs, evO, give, giveI, binOf, isNilK, PM.flip, putT, putL, putH, loadOf, storeOf, cut, over, ofCells, asNat, natOr, calm, clashes, Acc.clash, ressOf, resOf, frz, frz.frzs, DV.flat, DV.flat.flats, imms]
      exact fin
  · rw [dec_f wk] at e1
    rw [if_neg (fun h => wk h.1)]
    obtain ⟨k3, e3, hk3⟩ := u_works h (d := d + 2) (m := k1) (lo := 0)
    rw [dec_f wk] at e3
    by_cases h2 : u.mode = 2
    · rw [if_pos (.inr h2)]
      obtain ⟨v4, H4, e4, v5, H5, n5, e5, x5, own5, b5, s5, fin⟩ := both k3 (by omega)
      generalize begF l (granted u e) e k = w at *
      simp only [rowU] at b5 fin
      simp [hb, xs, e1, e3, h2, e4, e5, b5, s5, B6, undT, fnEnd, argsT, PT.get_put, keep, opRun, ev, evs, evO, give, giveI, binOf, isNilK, PM.flip, putT, putL, putH, loadOf, storeOf, cut, over, ofCells, asNat, natOr, calm, clashes, Acc.clash, ressOf, resOf, frz, frz.frzs, DV.flat, DV.flat.flats, imms]
      exact fin
    · rw [if_neg (by simp [wk, h2])]
      simp [hb, xs, e1, e3, h2, B6, undT, fnEnd, argsT, PT.get_put, keep, opRun, ev, evs, evO, give, giveI, binOf, isNilK, PM.flip, putT, putL, putH, loadOf, storeOf, cut, over, ofCells, asNat, natOr, calm, clashes, Acc.clash, ressOf, resOf, frz, frz.frzs, DV.flat, DV.flat.flats, imms]
      exact ⟨by omega, ⟨p, q, own, x, h.mono (by omega) (fun _ _ h => h) fun _ _ _ => rfl⟩, fun _ _ _ => rfl⟩
def OldP (u : US) (e c : Int) : Prop := ∃ e' c' qs, u.cp = some (e', c', qs) ∧ (e < e' ∨ (e = e' ∧ c ≤ c'))
theorem isOld_ro {Z : Nat → Prop} {l : Lo} {H : PT HB} {n a p q : Nat} {own : List Nat} {x : DV} {u : US} (h : UAt Z l H n a p q own x u) (e c : Int) {w : IV} (hw : (DV.imm w).scal = true) {d m lo : Nat} (hm : n ≤ m) :
    ∃ k, callM (K DG (d + 1)) .ro 39 [.ptr a 0 0, .agg [.imm (.int .i64 e), .imm (.int .i64 c), .imm w]] H m lo = some ⟨.imm (.bool (dec (OldP u e c))), H, k, [.rA]⟩ ∧ m ≤ k := by
  have hb := h.blk
  simp only [rowU] at hb
  refine ro_of rfl ?_
  rw [D.k39]
  refine fn_dw rfl ?_
  have hx := h.cp
  cases hc : u.cp with
  | none =>
    rw [hc] at hx
    rw [show x = .imm .nilp from hx] at hb
    have e1 : dec (OldP u e c) = false := dec_f (fun ⟨_, _, _, h, _⟩ => by rw [hc] at h; cases h)
    rw [e1]
    simp [hb, hw, B6, undT, fnEnd, argsT, PT.get_put, keep, opRun, ev, evs, evO, give, giveI, binOf, isNilK, PM.flip, putT, putL, putH, loadOf, storeOf, cut, over, ofCells, asNat, natOr, calm, clashes, Acc.clash, ressOf, resOf, frz, frz.frzs, DV.flat, DV.flat.flats, imms]
  | some y =>
    obtain ⟨e', c', qs⟩ := y
    rw [hc] at hx
    obtain ⟨k, w', rfl, ⟨m1, m2, m3⟩, hk, hw'⟩ := hx
    by_cases h1 : e < e'
    · have e1 : dec (OldP u e c) = true := dec_t ⟨e', c', qs, hc, .inl h1⟩
      rw [e1]
      simp [hb, hw, hk, ilt_t h1, B6, undT, fnEnd, argsT, PT.get_put, keep, opRun, ev, evs, evO, give, giveI, binOf, isNilK, PM.flip, putT, putL, putH, loadOf, storeOf, cut, over, ofCells, asNat, natOr, calm, clashes, Acc.clash, ressOf, resOf, frz, frz.frzs, DV.flat, DV.flat.flats, imms]
    · by_cases h2 : e = e'
      · by_cases h3 : c ≤ c'
        · have e1 : dec (OldP u e c) = true := dec_t ⟨e', c', qs, hc, .inr ⟨h2, h3⟩⟩
          rw [e1]
          subst h2
          simp [hb, hw, hk, ilt_f (Int.not_lt.1 h1), ilt_f h3, B6, undT, fnEnd, argsT, PT.get_put, keep, opRun, ev, evs, evO, give, giveI, binOf, isNilK, PM.flip, putT, putL, putH, loadOf, storeOf, cut, over, ofCells, asNat, natOr, calm, clashes, Acc.clash, ressOf, resOf, frz, frz.frzs, DV.flat, DV.flat.flats, imms]
        · have e1 : dec (OldP u e c) = false := dec_f (fun ⟨_, _, _, h, h'⟩ => by rw [hc] at h; cases h; omega)
          rw [e1]
          subst h2
          simp [hb, hw, hk, ilt_f (Int.not_lt.1 h1), ilt_t (show c' < c by omega), B6, undT, fnEnd, argsT, PT.get_put, keep, opRun, ev, evs, evO, give, giveI, binOf, isNilK, PM.flip, putT, putL, putH, loadOf, storeOf, cut, over, ofCells, asNat, natOr, calm, clashes, Acc.clash, ressOf, resOf, frz, frz.frzs, DV.flat, DV.flat.flats, imms]
      · have e1 : dec (OldP u e c) = false := dec_f (fun ⟨_, _, _, h, h'⟩ => by rw [hc] at h; cases h; omega)
        rw [e1]
        simp [hb, hw, hk, ilt_f (Int.not_lt.1 h1), h2, B6, undT, fnEnd, argsT, PT.get_put, keep, opRun, ev, evs, evO, give, giveI, binOf, isNilK, PM.flip, putT, putL, putH, loadOf, storeOf, cut, over, ofCells, asNat, natOr, calm, clashes, Acc.clash, ressOf, resOf, frz, frz.frzs, DV.flat, DV.flat.flats, imms]
end Go.Proofs.YtnpcgejfkonfdaaDoor.D

-- UH
set_option linter.unusedVariables false
set_option linter.unusedSimpArgs false
set_option maxHeartbeats 16000000
namespace Go.Proofs.YtnpcgejfkonfdaaDoor.D
open Go Go.PM Go.Lib

def newU (l : Lo) : US := ⟨rep0 l, 0, 0, false, none, 2, 0, 0, 0⟩
theorem New_of {d : Nat} (hd : 2 ≤ d) {Z : Nat → Prop} {l : Lo} (ok : LoOk l) (is : ISL l) (e0 : bl (K DG d) 46 [l.dv] = some (.imm (.bool true))) (H : PT HB) (n : Nat) (hz : ∀ j, n ≤ j → Z j) :
    ∃ a l' H' n', K DG (d + 2) 8 [l.dv] H n 0 = some (.tup [.ptr a 0 0, .imm (.int .i64 0)], H', n') ∧ n ≤ n' ∧ LoOk l' ∧ LoEq l l' ∧ UI Z l' H' n' a (newU l') ∧ (n ≤ a ∧ a < n') ∧ ∀ j, j < n → H'.get j = H.get j := by
  obtain ⟨v1, H1, n1, e1, p, own, l', rfl, ok', eq, lk, ho, f1⟩ := LockNew_of (d := d) hd ok is e0 H (n + 1)
  obtain ⟨n2, H2, e2, rfl, f2⟩ := lease_new (d := d) (H := H1) (n := n1) (lo := 0) (by omega)
  have hp := ho p (by simp)
  have hn1 : n + 1 ≤ n1 := by omega
  have key : Fe (K DG (d + 1 + 1) 8 [l.dv] H n 0) (fun v H' n' => v = .tup [.ptr (n1 + 1) 0 0, .imm (.int .i64 0)] ∧ n' = n1 + 2 ∧ H' = H2.put (n1 + 1) (some (rowU p n1 (.imm .nilp) 2 0 0 0))) := by
    rw [D.k8]
    refine fn_dw rfl ?_
    simp [ok.s.scal, ok.p.scal, ok.g.scal, ok.r.scal, e1, e2, rowU, evParts, lay, unImms, unImm, mapO, B6, undT, fnEnd, argsT, PT.get_put, keep, opRun, ev, evs, evO, give, giveI, binOf, isNilK, PM.flip, putT, putL, putH, loadOf, storeOf, cut, over, ofCells, asNat, natOr, calm, clashes, Acc.clash, ressOf, resOf, frz, frz.frzs, DV.flat, DV.flat.flats, imms]
  obtain ⟨v, H', n', e, rfl, rfl, rfl⟩ := key
  refine ⟨n1 + 1, l', _, _, e, by omega, ok', eq, ⟨p, n1, own, .imm .nilp, ?_⟩, by omega, fun j hj => ?_⟩
  · have hl : rep0 l' = List.replicate l.rts.length rs0 := by unfold rep0; rw [eq.len]
    have hg : ∀ j, j < n1 → (H2.put (n1 + 1) (some (rowU p n1 (.imm .nilp) 2 0 0 0))).get j = H1.get j := fun j hj => by
      have b1 : ¬ j = n1 := by omega
      have b2 : ¬ j = n1 + 1 := by omega
      rw [f2]
      simp [PT.get_put, b1, b2]
    refine ⟨by simp [PT.get_put, newU], ?_, by rw [f2]; simp [PT.get_put, newU], rfl, by omega, by omega, by omega, fun h => by have := ho (n1 + 1) (by simp [h]); omega, fun h => by have := ho n1 (by simp [h]); omega, fun j hj => ?_⟩
    · show LkAt _ p own l' (rep0 l')
      rw [hl]
      exact lk.mono fun i hi => hg i (ho i hi).2
    · simp at hj
      rcases hj with rfl | rfl | rfl | hj
      · exact ⟨by omega, hz _ (by omega)⟩
      · exact ⟨by omega, hz _ (by omega)⟩
      · exact ⟨by omega, hz _ (by omega)⟩
      · have := ho j (by simp [hj])
        exact ⟨by omega, hz _ (by omega)⟩
  · have b1 : ¬ j = n1 := by omega
    have b2 : ¬ j = n1 + 1 := by omega
    rw [f2]
    simp [PT.get_put, b1, b2]
    exact f1 j (by omega)
theorem layT_ok (e c : Int) {rs : List Rst} (hl : rs.length ≤ 20) : (layT e c rs).length ≤ 100 ∧ (∀ t ∈ layT e c rs, (thB t).length ≤ 300) ∧ (∀ t ∈ layT e c rs, thOk t = true) ∧ (bodyT (layT e c rs)).length ≤ 4000 := by
  have h1 : (layT e c rs).length ≤ 100 := by simp [layT, ofF_len]; omega
  have h2 : ∀ t ∈ layT e c rs, (thB t).length ≤ 9 := fun t ht => by
    simp only [layT, List.mem_cons, List.mem_map] at ht
    rcases ht with rfl | ⟨z, _, rfl⟩
    · decide
    · simp [thB, numY_len]
  refine ⟨h1, fun t ht => by have := h2 t ht; omega, fun t ht => ?_, ?_⟩
  · simp only [layT, List.mem_cons, List.mem_map] at ht
    rcases ht with rfl | ⟨z, _, rfl⟩ <;> rfl
  · have : (thsB (layT e c rs)).length ≤ 9 * (layT e c rs).length := by
      generalize layT e c rs = ts at h2
      clear h1
      induction ts with
      | nil => simp [thsB]
      | cons t ts ih =>
        have q1 := h2 t (by simp)
        have q2 := ih fun u hu => h2 u (by simp [hu])
        simp only [thsB, List.flatMap_cons, List.length_append, List.length_cons] at *
        omega
    simp only [bodyT, List.length_cons]
    omega
open Classical in
/-- a telegram that was heard -/
noncomputable def hearF (l : Lo) (u : US) (bs : List UInt8) : US := if u.mode ≠ 2 then u else match unF bs with
  | none => u
  | some ts => match readF ts with
    | none => u
    | some (e, c, qs) => if OldP u e c then u else if INV l qs then ⟨u.rs, u.ep, u.en, u.gr, some (e, c, qs), u.mode, u.tick, u.count, u.left⟩ else u
theorem Unpack_any {d : Nat} {H : PT HB} {n lo : Nat} {w : IV} {bs : List UInt8} (hlo : lo ≤ n) (hw : Sl 1 w (bs.map ivY)) (hb : bs.length ≤ 100000) :
    Fe (K DG (d + 6) 37 [.imm w] H n lo) (UnP H n bs) := by
  rcases hw with ⟨rfl, h⟩ | ⟨f, rfl⟩
  · obtain rfl : bs = [] := by simpa using h
    exact Unpack_nil
  · exact Unpack_fn hlo hb
theorem Hear_fn {d : Nat} {Z : Nat → Prop} {l : Lo} {H : PT HB} {n a : Nat} {u : US} (ok : LoOk l) (is : ISL l) (h : UI Z l H n a u) (hz : ∀ j, n ≤ j → Z j) (inv : INV l u.rs) {w : IV} {bs : List UInt8} (hw : Sl 1 w (bs.map ivY)) (hbl : bs.length ≤ 100000) :
    ∃ v H' n', K DG (d + 12) 18 [.ptr a 0 0, .imm w] H n 0 = some (v, H', n') ∧ UR Z l H n a (hearF l u bs) H' n' := by
  obtain ⟨p, q, own, x, h⟩ := h
  have hb := h.blk
  have xs := h.xs.1
  have ws := hw.scal
  have la := h.lt a (by simp)
  have lp := h.lt p (by simp)
  have r6 := is.r2
  have hrl := inv.ln
  simp only [rowU] at hb
  refine (fun (hq : Fe (K DG (d + 11 + 1) 18 [.ptr a 0 0, .imm w] H n 0) fun _ H' n' => UR Z l H n a (hearF l u bs) H' n') => by
    obtain ⟨v', H', n', e, r⟩ := hq
    exact ⟨v', H', n', e, r⟩) ?_
  rw [D.k18]
  refine fn_dw rfl ?_
  unfold hearF
  by_cases h2 : u.mode = 2
  · rw [if_neg (by simp [h2])]
    obtain ⟨v1, H1, n1, e1, hn1, f1, hv1⟩ := Unpack_any (d := d + 5) (H := H) (n := n) (lo := 0) (by omega) hw hbl
    have keep : ∀ H' n', n ≤ n' → (∀ j, j < n → H'.get j = H.get j) → UR Z l H n a u H' n' := fun H' n' hn hf => ⟨hn, ⟨p, q, own, x, h.mono hn (fun _ _ h => h) fun j hj _ => hf j hj⟩, fun j hj _ => hf j hj⟩
    have hb' := hb
    rw [h2] at hb
    rcases hv1 with ⟨hu, er, her, rfl⟩ | ⟨ts, c1, hu, rfl, hcr⟩
    · rw [hu]
      simp [hb, xs, ws, e1, her, B6, undT, fnEnd, argsT, PT.get_put, keep, opRun, ev, evs, evO, give, giveI, binOf, isNilK, PM.flip, putT, putL, putH, loadOf, storeOf, cut, over, ofCells, asNat, natOr, calm, clashes, Acc.clash, ressOf, resOf, frz, frz.frzs, DV.flat, DV.flat.flats, imms]
      exact keep _ _ (by omega) f1
    · rw [hu]
      simp only
      obtain ⟨tl, _⟩ := unF_can hu
      have hcr0 : CrAt H1 0 n1 c1 ts := by
        obtain ⟨⟨q1, q2⟩, q3⟩ := hcr
        refine ⟨⟨Nat.zero_le _, q2⟩, ?_⟩
        rcases q3 with q3 | ⟨b, ⟨p1, p2⟩, p3⟩
        · exact .inl q3
        · exact .inr ⟨b, ⟨Nat.zero_le _, p2⟩, p3⟩
      obtain ⟨v2, m, e2, hm, hv2⟩ := Read_ro (d := d + 7) (lo := 0) hcr0 tl
      rcases hv2 with ⟨hr, rfl⟩ | ⟨ep, ct, qs, lw, hr, rfl, hlw⟩
      · rw [hr]
        simp [hb, xs, ws, e1, e2, evParts, lay, unImms, unImm, mapO, B6, undT, fnEnd, argsT, PT.get_put, keep, opRun, ev, evs, evO, give, giveI, binOf, isNilK, PM.flip, putT, putL, putH, loadOf, storeOf, cut, over, ofCells, asNat, natOr, calm, clashes, Acc.clash, ressOf, resOf, frz, frz.frzs, DV.flat, DV.flat.flats, imms]
        exact keep _ _ (by omega) fun j hj => by
          have : ¬ j = m := by omega
          simp [PT.get_put, this]
          exact f1 j hj
      · rw [hr]
        simp only
        have lws := hlw.scal
        obtain ⟨HB, hHB⟩ : ∃ HB, HB = (H1.put m (some ⟨3, [[.imm (.int .i64 0), .imm (.int .i64 0), .imm .nils]]⟩)).put m (some ⟨3, [[.imm (.int .i64 ep), .imm (.int .i64 ct), .imm lw]]⟩) := ⟨_, rfl⟩
        have gm : HB.get m = some ⟨3, [[.imm (.int .i64 ep), .imm (.int .i64 ct), .imm lw]]⟩ := by rw [hHB]; simp [PT.get_put]
        have gB : ∀ j, j < n → HB.get j = H.get j := fun j hj => by
          have : ¬ j = m := by omega
          rw [hHB]
          simp [PT.get_put, this]
          exact f1 j hj
        have hB : UAt Z l HB (m + 1) a p q own x u := h.mono (by omega) (fun _ _ h => h) fun j hj _ => gB j hj
        have hbB := hB.blk
        simp only [rowU] at hbB
        rw [h2] at hbB
        obtain ⟨k3, e3, hk3⟩ := isOld_ro hB ep ct lws (d := d + 10) (m := m + 1) (lo := 0) (Nat.le_refl _)
        by_cases ho : OldP u ep ct
        · rw [if_pos ho]
          rw [dec_t ho] at e3
          simp [hb, xs, ws, lws, e1, e2, ← hHB, gm, hbB, e3, evParts, lay, unImms, unImm, mapO, B6, undT, fnEnd, argsT, PT.get_put, keep, opRun, ev, evs, evO, give, giveI, binOf, isNilK, PM.flip, putT, putL, putH, loadOf, storeOf, cut, over, ofCells, asNat, natOr, calm, clashes, Acc.clash, ressOf, resOf, frz, frz.frzs, DV.flat, DV.flat.flats, imms]
          exact keep _ _ (by omega) gB
        · rw [if_neg ho]
          rw [dec_f ho] at e3
          obtain ⟨w4, k4, e4, hk4, hw4⟩ := Routes_ro (d := d + 10) (by omega) (show u.rs.length ≤ 1000 by omega) hB.lk (n := k3) (lo := 0)
          have w4s := hw4.scal
          by_cases iq : INV l qs
          · rw [if_pos iq]
            have hql := iq.ln
            obtain ⟨H5, n5, own5, e5, hn5, hu5, f5, ho5⟩ := UAt.set (d := d + 10) (by omega) ok is hB (fun j hj => hz j (by omega)) hlw (by have := rb3; omega) (m := k4) (by omega)
            rw [dec_t iq] at e5 hu5
            have hb5 := hu5.blk
            simp only [rowU, cond_true] at hb5
            rw [h2] at hb5
            obtain ⟨H6, hH6⟩ : ∃ H6, H6 = H5.put a (some ⟨7, [[.ptr p 0 0, .ptr q 0 0, .ptr m 0 0, .imm (.int .i64 2), .imm (.int .i64 u.tick), .imm (.int .i64 u.count), .imm (.int .i64 u.left)]]⟩) := ⟨_, rfl⟩
            have ma : ¬ m = a := by omega
            have mp : ¬ m = p := by omega
            have mq : ¬ m = q := by have := h.lt q (by simp); omega
            have mo : m ∉ own5 := fun e => by
              rcases ho5 m e with h' | h'
              · have := (h.lt m (by simp [h'])).1; omega
              · omega
            have g6 : ∀ j, j ≠ a → H6.get j = H5.get j := fun j hj => by rw [hH6]; simp [PT.get_put, hj]
            have hu6 : UAt Z l H6 n5 a p q own5 (.ptr m 0 0) ⟨qs, u.ep, u.en, u.gr, some (ep, ct, qs), u.mode, u.tick, u.count, u.left⟩ := by
              have := hu5.upd (Nat.le_refl _) (H' := H6) (c := some (ep, ct, qs)) (x' := .ptr m 0 0) (m := u.mode) (t := u.tick) (k := u.count) (z := u.left) (by rw [hH6]; simp [PT.get_put, rowU, h2]) ⟨m, lw, rfl, ⟨by simp [ma, mp, mq, mo], by omega, hz m (by omega)⟩, by rw [g6 m ma, f5 m mp (by omega)]; exact gm, hlw⟩ (fun j hj _ => g6 j hj)
              exact this
            have hb6 := hu6.blk
            simp only [rowU] at hb6
            rw [h2] at hb6
            obtain ⟨H7, n7, own7, e7, hn7, hu7, f7, ho7⟩ := UAt.set (d := d + 10) (by omega) ok is hu6 (fun j hj => hz j (by omega)) hw4 (by have := rb3; omega) (m := n5) (Nat.le_refl _)
            rw [dec_t inv] at e7 hu7
            simp [hb, xs, ws, lws, w4s, e1, e2, ← hHB, gm, hbB, e3, e4, e5, hb5, ← hH6, hb6, e7, evParts, lay, unImms, unImm, mapO, B6, undT, fnEnd, argsT, PT.get_put, keep, opRun, ev, evs, evO, give, giveI, binOf, isNilK, PM.flip, putT, putL, putH, loadOf, storeOf, cut, over, ofCells, asNat, natOr, calm, clashes, Acc.clash, ressOf, resOf, frz, frz.frzs, DV.flat, DV.flat.flats, imms]
            exact ⟨by omega, ⟨p, q, own7, _, hu7⟩, fun j hj hzj => by
              have jp : j ≠ p := fun e => hzj (e ▸ lp.2)
              have ja : j ≠ a := fun e => hzj (e ▸ la.2)
              rw [f7 j jp (by omega), g6 j ja, f5 j jp (by omega), gB j hj]⟩
          · rw [if_neg iq]
            have hql : qs.length ≤ reachBytes := by
              have h9 : readF ts = some (ep, ct, qs) := hr
              unfold readF at h9
              split at h9
              · cases h9
              · rename_i zs hzs
                have z1 := intsF_len hzs
                split at h9
                · split at h9
                  · split at h9
                    · rename_i qs' hqs
                      split at h9
                      · cases h9
                        have z2 := tkF_len hqs
                        rw [List.length_drop] at z1 z2
                        have := rb3
                        omega
                      · cases h9
                    · cases h9
                  · cases h9
                · cases h9
            obtain ⟨H5, n5, own5, e5, hn5, hu5, f5, ho5⟩ := UAt.set (d := d + 10) (by omega) ok is hB (fun j hj => hz j (by omega)) hlw hql (m := k4) (by omega)
            rw [dec_f iq] at e5 hu5
            have hb5 := hu5.blk
            simp only [rowU, cond_false] at hb5
            rw [h2] at hb5
            obtain ⟨H7, n7, own7, e7, hn7, hu7, f7, ho7⟩ := UAt.set (d := d + 10) (by omega) ok is hu5 (fun j hj => hz j (by omega)) hw4 (by have := rb3; omega) (m := n5) (Nat.le_refl _)
            rw [dec_t inv] at e7 hu7
            simp [hb, xs, ws, lws, w4s, e1, e2, ← hHB, gm, hbB, e3, e4, e5, hb5, e7, evParts, lay, unImms, unImm, mapO, B6, undT, fnEnd, argsT, PT.get_put, keep, opRun, ev, evs, evO, give, giveI, binOf, isNilK, PM.flip, putT, putL, putH, loadOf, storeOf, cut, over, ofCells, asNat, natOr, calm, clashes, Acc.clash, ressOf, resOf, frz, frz.frzs, DV.flat, DV.flat.flats, imms]
            exact ⟨by omega, ⟨p, q, own7, _, hu7⟩, fun j hj hzj => by
              have jp : j ≠ p := fun e => hzj (e ▸ lp.2)
              rw [f7 j jp (by omega), f5 j jp (by omega), gB j hj]⟩
  · rw [if_pos h2]
    simp [hb, xs, ws, h2, B6, undT, fnEnd, argsT, PT.get_put, keep, opRun, ev, evs, evO, give, giveI, binOf, isNilK, PM.flip, putT, putL, putH, loadOf, storeOf, cut, over, ofCells, asNat, natOr, calm, clashes, Acc.clash, ressOf, resOf, frz, frz.frzs, DV.flat, DV.flat.flats, imms]
    exact ⟨Nat.le_refl _, ⟨p, q, own, x, h⟩, fun _ _ _ => rfl⟩
end Go.Proofs.YtnpcgejfkonfdaaDoor.D

-- RE
set_option linter.unusedVariables false
set_option linter.unusedSimpArgs false
set_option maxHeartbeats 16000000
namespace Go.Proofs.YtnpcgejfkonfdaaDoor.D
open Go Go.PM Go.Lib

theorem Pack8_ro {d : Nat} {H : PT HB} {n a lo : Nat} {ob : Option Nat} {ts : List Th} (hc : CrR H a ob ts) (ha : a < n) (hob : ∀ b, ob = some b → b < n) (hl : ts.length ≤ 100) (hts : ∀ t ∈ ts, (thB t).length ≤ 300) (hok : ∀ t ∈ ts, thOk t = true) (h4 : (bodyT ts).length ≤ 4000) :
    ∃ g m, callM (K DG (d + 3)) .ro 43 [.ptr a 0 0] H n lo = some ⟨.tup [.imm (.lst g 1 ((teleg (bodyT ts)).map ivY)), .imm (.int .i64 0)], H, m, [.rA]⟩ ∧ n ≤ m := by
  have key : Fe (K DG (d + 2 + 1) 43 [.ptr a 0 0] H n n) (fun v H' n' => n ≤ n' ∧ ∃ x, v = .tup [x, .imm (.int .i64 0)] ∧ Yw H' n n' x (teleg (bodyT ts))) := by
    obtain ⟨cx, hcx, hcl, hcs⟩ : ∃ cx, H.get a = some ⟨1, [[cx]]⟩ ∧ lenOf cx = some ts.length ∧ cx.scal = true := by
      rcases hc with ⟨h1, rfl, _⟩ | ⟨h1, _⟩ | ⟨b, hb, _, h1, h2⟩
      · exact ⟨_, h1, rfl, rfl⟩
      · exact ⟨_, h1, by simp [lenOf], rfl⟩
      · exact ⟨_, h1, by simp [lenOf], rfl⟩
    have w8 : IntKind.u8.wrap (ts.length : Int) = ((UInt8.ofNat ts.length).toNat : Int) := by
      rw [UInt8.toNat_ofNat']
      simp only [IntKind.wrap, IntKind.bits, IntKind.signed]
      simp
    rw [D.k43]
    refine fn_dw rfl ?_
    simp [hcx, hcl, hcs, w8, evParts2, lay, unImms, unImm, mapO, rowsN, B6, undT, fnEnd, argsT, PT.get_put, keep, opRun, ev, evs, evO, give, giveI, binOf, isNilK, PM.flip, putT, putL, putH, loadOf, storeOf, cut, over, ofCells, asNat, natOr, calm, clashes, Acc.clash, ressOf, resOf, frz, frz.frzs, DV.flat, DV.flat.flats, imms]
    refine loopPr (w := n) (H0 := H) (ts := ts) (Nat.le_refl _) hc ha hob hl hts hok ⟨by simp [PT.get_put], by simp [PT.get_put], ⟨.imm (.lst true 1 ((UInt8.ofNat ts.length :: thsB (ts.take 0)).map ivY)), by simp [PT.get_put]; exact ⟨rfl, rfl⟩, .inr (.inl rfl)⟩, fun _ _ => rfl, by simp⟩ (fun s' hI => ?_)
    obtain ⟨c0, c5, ⟨x, c4, hy⟩, fr, hn⟩ := hI
    rw [List.take_length] at hy
    have hbd : UInt8.ofNat ts.length :: thsB ts = bodyT ts := rfl
    rw [hbd] at hy
    have hbn : bodyT ts ≠ [] := by simp [bodyT]
    generalize bodyT ts = b at *
    have xs := hy.sc
    have xl := hy.len
    have i0 : ILt 4000 (b.length : Int) = False := ilt_f (by omega)
    have wl := wu64' (x := b.length) (by omega)
    have hcr := crcF_lt b
    have wc := wu64' (x := crcF b) (by omega)
    obtain ⟨y1, H1, n1, e1, hn1, hy1, ⟨i1, hi1, rfl⟩, f1⟩ := big_fn (d := d + 1) (H := s'.H) (n := s'.n) (lo := n) (w := n) (m := crcF b) (k := 4) (Nat.le_refl _) hn (by omega) (by omega) (by omega)
    have hi1' : i1 < n1 := by
      rcases hy1 with ⟨h, _⟩ | h | ⟨id, ⟨_, h2⟩, h, _⟩
      · cases h
      · cases h
      · cases h; exact h2
    obtain ⟨y2, H2, n2, e2, hn2, hy2, ⟨i2, hi2, rfl⟩, f2⟩ := big_fn (d := d + 1) (H := H1) (n := n1) (lo := n) (w := n) (m := b.length) (k := 2) (Nat.le_refl _) (by omega) (by omega) (by omega) (by omega)
    have e1' : K DG (d + 2) 62 [.imm (.int .u64 (crcF b : Int)), .imm (.int .i64 4)] s'.H s'.n n = some (.sl i1 0 4 4, H1, n1) := e1
    have e2' : K DG (d + 2) 62 [.imm (.int .u64 (b.length : Int)), .imm (.int .i64 2)] H1 n1 n = some (.sl i2 0 2 2, H2, n2) := e2
    have r2 : H2.get i2 = some ⟨1, (numY b.length 2).map rowY⟩ := by
      rcases hy2 with ⟨h, _⟩ | h | ⟨id, _, h, h2⟩
      · cases h
      · cases h
      · rw [numY_len] at h; cases h; exact h2
    have src2 := rows_y (id := i2) r2
    rw [numY_len] at src2
    have hy1' : Yw H2 n n2 (.sl i1 0 4 4) (numY (crcF b) 4) := by
      rcases hy1 with ⟨h, _⟩ | h | ⟨id, ⟨q1, q2⟩, h, h2⟩
      · cases h
      · cases h
      · exact .inr (.inr ⟨id, ⟨q1, by omega⟩, h, by rw [f2 id (by omega)]; exact h2⟩)
    obtain ⟨x3, hw3, n3, acc3, p1, p2, p3, p4, p5, p6, p7⟩ := app_y (H := H2) (n := n2) (lo := n) (w := n) (y := .sl i2 0 2 2) (cs := numY b.length 2) (Nat.le_refl _) (by omega) hy1' src2 (fun _ _ _ e => by cases e; simp; omega) (by simp [numY_len])
    have x3s := p3.sc
    rcases hy with ⟨rfl, h0⟩ | rfl | ⟨id, ⟨g1, g2⟩, rfl, g3⟩
    · exact absurd h0 hbn
    · have es := ref_bl (d := d + 1) (f := true) (bs := b) (by omega)
      obtain ⟨x4, hw4, n4, acc4, q1, q2, q3, q4, q5, q6, q7⟩ := app_y (H := putH H2 hw3) (n := n3) (lo := n) (w := n) (y := .imm (.lst true 1 (b.map ivY))) (cs := b) (Nat.le_refl _) (by omega) p3 (src := none) (by simp [srcOf, rowsOf, Function.comp_def, imms_ivY]) (fun _ _ _ => by simp) (by simp [numY_len]; omega)
      have x4s := q3.sc
      have x4o := q3.out
      generalize hes : b.map ivY = bes at *
      simp [c0, c4, c5, xs, xl, i0, es, wc, wl, e1', e2', p1, x3s, q1, x4s, x4o, B6, undT, fnEnd, argsT, PT.get_put, keep, opRun, ev, evs, evO, give, giveI, binOf, isNilK, PM.flip, putT, putL, putH, loadOf, storeOf, cut, over, ofCells, asNat, natOr, calm, clashes, Acc.clash, ressOf, resOf, frz, frz.frzs, DV.flat, DV.flat.flats, imms]
      exact ⟨by omega, by simpa [teleg] using q3⟩
    · have es := fun lo => call_ref (d := d + 1) (H := s'.H) (n := s'.n) (lo := lo) (id := id) (bs := b) (by omega) g3
      have f4 : (putH H2 hw3).get id = some ⟨1, b.map rowY⟩ := by
        rw [p5 id (by omega) (fun _ _ e => by cases e; omega), f2 id (by omega), f1 id (by omega)]
        exact g3
      have src4 := rows_y (id := id) f4
      obtain ⟨x4, hw4, n4, acc4, q1, q2, q3, q4, q5, q6, q7⟩ := app_y (H := putH H2 hw3) (n := n3) (lo := n) (w := n) (y := .sl id 0 b.length b.length) (cs := b) (Nat.le_refl _) (by omega) p3 src4 (fun jd _ _ e => by
        intro h
        cases h
        rcases p6 id _ _ e with ⟨h, _⟩ | h
        · cases h; omega
        · omega) (by simp [numY_len]; omega)
      have x4s := q3.sc
      have x4o := q3.out
      simp [c0, c4, c5, xs, xl, i0, es, wc, wl, e1', e2', p1, x3s, q1, x4s, x4o, B6, undT, fnEnd, argsT, PT.get_put, keep, opRun, ev, evs, evO, give, giveI, binOf, isNilK, PM.flip, putT, putL, putH, loadOf, storeOf, cut, over, ofCells, asNat, natOr, calm, clashes, Acc.clash, ressOf, resOf, frz, frz.frzs, DV.flat, DV.flat.flats, imms]
      exact ⟨by omega, by simpa [teleg] using q3⟩
  obtain ⟨v, H', n', e, hn, x, rfl, hx⟩ := key
  obtain ⟨g, hg⟩ := frz_y hx (teleg_ne _)
  refine ⟨g, n', ?_, hn⟩
  have e9 : frz H'.get n (.tup [x, .imm (.int .i64 0)]) = some (.tup [.imm (.lst g 1 ((teleg (bodyT ts)).map ivY)), .imm (.int .i64 0)]) := by
    simp [frz, frz.frzs, hg]
  rw [callM_ro, if_pos (by rfl), e]
  simp only [e9]
  rfl
/-- what a unit of that epoch, count and routes may tell -/
noncomputable def tel (e c : Int) (rs : List Rst) : List UInt8 := teleg (bodyT (layT e c rs))
end Go.Proofs.YtnpcgejfkonfdaaDoor.D

-- UC
set_option linter.unusedVariables false
set_option linter.unusedSimpArgs false
set_option maxHeartbeats 16000000
namespace Go.Proofs.YtnpcgejfkonfdaaDoor.D
open Go Go.PM Go.Lib

def OutAt (h : Nat → Option HB) (n0 n' : Nat) (x : DV) (es : List (List IV)) : Prop := (∃ w, x = .imm w ∧ Sl 1 w es) ∨ ∃ id, (n0 ≤ id ∧ id < n') ∧ x = .sl id 0 es.length es.length ∧ h id = some ⟨1, es.map imms⟩
theorem OutAt.scal {h : Nat → Option HB} {n0 n' : Nat} {x : DV} {es : List (List IV)} (a : OutAt h n0 n' x es) : x.scal = true ∧ x.out = true := by
  rcases a with ⟨w, rfl, hw⟩ | ⟨id, _, rfl, _⟩
  · exact ⟨hw.scal, rfl⟩
  · exact ⟨rfl, rfl⟩
noncomputable def cmdsF (l : Lo) (os : List Bool) (ls : List Int) (rs : List Rst) (cs : List (Int × Int)) : List Rst := cs.foldl (fun r c => (cmdF l r os ls c.1 c.2).2) rs
def setR (u : US) (rs : List Rst) : US := ⟨rs, u.ep, u.en, u.gr, u.cp, u.mode, u.tick, u.count, u.left⟩
structure ICm (Z : Nat → Prop) (l : Lo) (os : List Bool) (ls : List Int) (H0 : PT HB) (n0 a p q : Nat) (own : List Nat) (x : DV) (u : US) (ov lv cv : IV) (cs : List (Int × Int)) (i : Nat) (st : St) : Prop where
  c0 : st.T.get 0 = some (.ptr a 0 0)
  c2 : st.T.get 2 = some (.imm (.bool true))
  b5 : Box st 5 [ov, lv]
  b8 : Box st 8 [.nils, .nils]
  c13 : st.T.get 13 = some (.imm cv)
  c14 : st.T.get 14 = some (.imm (.int .i64 (cs.length : Int)))
  c15 : st.T.get 15 = some (.imm (.int .i64 (i : Int)))
  u : UAt Z l st.H st.n a p q own x (setR u (cmdsF l os ls u.rs (cs.take i)))
  fr : ∀ j, j < n0 → ¬ Z j → st.H.get j = H0.get j
  hn : n0 ≤ st.n
end Go.Proofs.YtnpcgejfkonfdaaDoor.D

-- OU
set_option linter.unusedVariables false
set_option linter.unusedSimpArgs false
set_option maxHeartbeats 16000000
set_option maxRecDepth 100000
namespace Go.Proofs.YtnpcgejfkonfdaaDoor.D
open Go Go.PM Go.Lib

def rtOne : Rt := ⟨[114], 0, 1, .lst true 1 [[.int .i64 0]], .nils, .nils, [0], [], []⟩
def loOne : Lo := ⟨.lst true 1 [[.str [97]]], .nils, .lst true 1 [[.str [115]], [.str [116]]], .lst true 6 [[.str [114], .int .i64 0, .int .i64 1, .lst true 1 [[.int .i64 0]], .nils, .nils]], [[97]], [], [[115], [116]], [rtOne]⟩
theorem layOne_bl {d : Nat} : bl (K DG (d + 1)) 9 [] = some loOne.dv := by
  have key : Fe (K DG (d + 1) 9 [] .lf 0 0) (fun v _ _ => v = loOne.dv) := by
    rw [D.k9]
    refine fn_dw rfl ?_
    simp [loOne, evParts, evParts2, lay, unImms, unImm, mapO, rowsN, imms, B6, undT, fnEnd, argsT, PT.get_put, keep, opRun, ev, evs, evO, give, giveI, binOf, isNilK, PM.flip, putT, putL, putH, loadOf, storeOf, cut, over, ofCells, asNat, natOr, calm, clashes, Acc.clash, ressOf, resOf, frz, frz.frzs, DV.flat, DV.flat.flats, imms]
  obtain ⟨v, H, n, e, rfl⟩ := key
  exact bl_of e rfl
theorem one_ok : LoOk loOne := by
  have hrb := rb3
  refine ⟨.inr ⟨true, rfl⟩, .inl ⟨rfl, rfl⟩, .inr ⟨true, rfl⟩, .inr ⟨true, rfl⟩, by simp [loOne]; omega, by simp [loOne], by simp [loOne]; omega, by simp [loOne]; omega, fun x hx => ?_, fun x hx => ?_, fun x hx => ?_, fun x hx => ?_⟩
  · simp [loOne] at hx; subst hx; simp; omega
  · simp [loOne] at hx
  · simp [loOne] at hx; rcases hx with rfl | rfl <;> simp <;> omega
  · simp [loOne] at hx
    subst hx
    exact ⟨.inr ⟨true, rfl⟩, .inl ⟨rfl, rfl⟩, .inl ⟨rfl, rfl⟩, by simp [rtOne]; omega, by simp [rtOne]; omega, by simp [rtOne], by simp [rtOne]⟩
theorem nm_a : nm3 [97] = true := by kernel_rfl
theorem nm_s : nm3 [115] = true := by kernel_rfl
theorem nm_t : nm3 [116] = true := by kernel_rfl
theorem nm_r : nm3 [114] = true := by kernel_rfl
theorem one_is : ISL loOne := by
  have ne : ∀ path w, NE [] [] path w := fun _ _ i hi => absurd hi (by simp)
  have one : ∀ s : List UInt8, nm3 s = true → NM [s] := fun s hs i x hi => by
    cases i with
    | zero => simp at hi; subst hi; exact ⟨hs, by simp⟩
    | succ i => simp at hi
  refine ⟨by simp [loOne], by simp [loOne], by simp [loOne], by simp [loOne], by simp [loOne], by simp [loOne], fun i hi => by simp [loOne] at hi, one _ nm_a, fun i x hi => ?_, NM_nil, one _ nm_r, fun i hi => ?_⟩
  · match i with
    | 0 => simp [loOne] at hi; subst hi; exact ⟨nm_s, by simp⟩
    | 1 => simp [loOne] at hi; subst hi; exact ⟨nm_t, by simp [loOne]⟩
    | i + 2 => simp [loOne] at hi
  · obtain rfl : i = 0 := by simp [loOne] at hi; omega
    exact ⟨⟨by simp [loOne, rtOne, nth], by simp [loOne, rtOne, nth]⟩, ⟨by simp [loOne, rtOne, nth], by simp [loOne, rtOne, nth]⟩, by simp [loOne, rtOne, nth], fun i z hz => by
      cases i with
      | zero => simp [loOne, rtOne, nth] at hz; subst hz; exact ⟨⟨by omega, by simp [loOne]⟩, by simp⟩
      | succ i => simp [loOne, rtOne, nth] at hz, by simp [loOne, rtOne, nth], by simp [loOne, rtOne, nth], ne _ _, ne _ _, rfl⟩
theorem is_run {D : Nat} (hD : D = 26 ∨ D = 27) : bl (K DG D) 46 [loOne.dv] = some (.imm (.bool true)) := by
  rcases hD with rfl | rfl
  · have h : ansT (dcallF (doorG 0 1) tab 26 46 [loOne.dv] .lf 0 0) = true := by kernel_rfl
    rw [show dcallF (doorG 0 1) tab 26 = K DG 26 from dcallF_eq _ _ _] at h
    obtain ⟨H', n', e⟩ := ansT_spec h
    exact bl_imm e
  · have h : ansT (dcallF (doorG 0 1) tab 27 46 [loOne.dv] .lf 0 0) = true := by kernel_rfl
    rw [show dcallF (doorG 0 1) tab 27 = K DG 27 from dcallF_eq _ _ _] at h
    obtain ⟨H', n', e⟩ := ansT_spec h
    exact bl_imm e
theorem known_bl : bl (K DG 29) 16 [] = some (.imm (.bool true)) := by
  have h : ansT (dcallF (doorG 0 1) tab 29 16 [] .lf 0 0) = true := by kernel_rfl
  rw [show dcallF (doorG 0 1) tab 29 = K DG 29 from dcallF_eq _ _ _] at h
  obtain ⟨H', n', e⟩ := ansT_spec h
  exact bl_imm e
/-- a layout as the one of one route -/
structure AsOne (l : Lo) : Prop where
  ok : LoOk l
  is : ISL l
  eq : LoEq loOne l
/-- a new unit -/
theorem newOne {D : Nat} (hD : D = 28 ∨ D = 29) {Z : Nat → Prop} (H : PT HB) (n : Nat) (hz : ∀ j, n ≤ j → Z j) :
    ∃ a l H' n', K DG D 8 [loOne.dv] H n 0 = some (.tup [.ptr a 0 0, .imm (.int .i64 0)], H', n') ∧ n ≤ n' ∧ AsOne l ∧ UI Z l H' n' a (newU l) ∧ (n ≤ a ∧ a < n') ∧ ∀ j, j < n → H'.get j = H.get j := by
  obtain ⟨d, rfl, hd⟩ : ∃ d, D = d + 2 ∧ (d = 26 ∨ d = 27) := ⟨D - 2, by omega, by omega⟩
  obtain ⟨a, l, H', n', e, hn, ok, eq, hu, ha, f⟩ := New_of (d := d) (by omega) one_ok one_is (is_run hd) H n hz
  exact ⟨a, l, H', n', e, hn, ⟨ok, eq.is one_is, eq⟩, hu, ha, f⟩
theorem one_len {l : Lo} (h : AsOne l) : l.rts.length = 1 := by rw [h.eq.len]; rfl
theorem one_rep {l : Lo} (h : AsOne l) : rep0 l = [rs0] := by unfold rep0; rw [one_len h]; rfl
theorem one_inv {l : Lo} (h : AsOne l) {x : Rst} (hx : RsOk l 0 x) : INV l [x] :=
  ⟨by rw [one_len h]; rfl, fun r hr => by
    obtain rfl : r = 0 := by rw [one_len h] at hr; omega
    exact hx, fun i j hi hj hij => by rw [one_len h] at hi hj; omega⟩
/-- what is heard of a telegram of a unit -/
theorem hear_tel {l : Lo} {u : US} {e c : Int} {qs : List Rst} (he : -9223372036854775808 ≤ e ∧ e ≤ 9223372036854775807) (hc : -9223372036854775808 ≤ c ∧ c ≤ 9223372036854775807) (hq : ∀ x ∈ qs, (-9223372036854775808 ≤ x.mode ∧ x.mode ≤ 9223372036854775807) ∧ (-9223372036854775808 ≤ x.timer ∧ x.timer ≤ 9223372036854775807) ∧ (-9223372036854775808 ≤ x.gone ∧ x.gone ≤ 9223372036854775807)) (hl : qs.length ≤ 20) (h2 : u.mode = 2) (ho : ¬ OldP u e c) (iq : INV l qs) :
    hearF l u (tel e c qs) = ⟨u.rs, u.ep, u.en, u.gr, some (e, c, qs), u.mode, u.tick, u.count, u.left⟩ := by
  obtain ⟨l1, l2, l3, l4⟩ := layT_ok e c hl
  have hcan : ∀ t ∈ layT e c qs, thCan t := fun t ht => by
    simp only [layT, List.mem_cons, List.mem_map] at ht
    rcases ht with rfl | ⟨z, hz, rfl⟩
    · show (5 : Nat) ≤ 200; omega
    · rcases hz with rfl | rfl | rfl | hz
      · exact he
      · exact hc
      · show _ ∧ _; omega
      · simp only [ofF, List.mem_flatMap] at hz
        obtain ⟨x, hx, hz⟩ := hz
        obtain ⟨q1, q2, q3⟩ := hq x hx
        simp only [of1, List.mem_cons, List.not_mem_nil, or_false] at hz
        rcases hz with rfl | rfl | rfl | rfl
        · exact q1
        · exact q2
        · exact q3
        · show _ ∧ _; unfold bi; split <;> omega
  unfold hearF tel
  rw [if_neg (by simp [h2]), unF_teleg hcan l1 l4]
  simp only [readF_lay]
  rw [if_neg ho, if_pos iq]
end Go.Proofs.YtnpcgejfkonfdaaDoor.D

-- RL
set_option linter.unusedVariables false
set_option linter.unusedSimpArgs false
set_option maxHeartbeats 16000000
namespace Go.Proofs.YtnpcgejfkonfdaaDoor.D
open Go Go.PM Go.Lib

theorem Lay9_fn {d : Nat} {H : PT HB} {n lo : Nat} {v : IV} {rs : List Rst} (hlo : lo ≤ n) (hv : Sl 4 v (rs.map ivRS)) (hl : rs.length ≤ 24) (e c : Int) :
    ∃ a ob H' n', K DG (d + 3) 42 [.imm (.int .i64 e), .imm (.int .i64 c), .imm v] H n lo = some (.ptr a 0 0, H', n') ∧ CrR H' a ob (layT e c rs) ∧ a < n' ∧ ∀ b, ob = some b → b < n' := by
  have vl := hv.len
  simp only [List.length_map] at vl
  have vs := hv.scal
  obtain ⟨w, ew, hw⟩ := Of9_bl (d := d) hv (by omega)
  obtain ⟨zs, hzs⟩ : ∃ zs : List Int, zs = e :: c :: (rs.length : Int) :: ofF rs := ⟨_, rfl⟩
  have hzl : zs.length = 3 + 4 * rs.length := by rw [hzs]; simp [ofF_len]; omega
  have key : Fe (K DG (d + 2 + 1) 42 [.imm (.int .i64 e), .imm (.int .i64 c), .imm v] H n lo) (fun v' H' n' => ∃ a ob, v' = .ptr a 0 0 ∧ CrR H' a ob (layT e c rs) ∧ a < n' ∧ ∀ b, ob = some b → b < n') := by
    rw [D.k42]
    refine fn_dw rfl ?_
    have hz3 : zs.map ivI = [[.int .i64 e], [.int .i64 c], [.int .i64 (rs.length : Int)]] ++ (ofF rs).map ivI := by rw [hzs]; simp [ivI]
    have fin : ∀ {a : Nat} (x : DV) (s' : St), ILr lo a x zs zs.length s' → ∃ ob, CrR s'.H a ob (layT e c rs) ∧ a < s'.n ∧ ∀ b, ob = some b → b < s'.n := fun {a} x s' hI => by
      obtain ⟨c7, c8, c9, ⟨ob, hob, cr, xb⟩, xa, ⟨anl, an⟩⟩ := hI
      rw [List.take_length] at cr
      have : layT e c rs = .text [115, 116, 97, 116, 101] :: zs.map .int := by rw [hzs]; rfl
      rw [this]
      exact ⟨ob, cr, an, fun b hb => (hob b hb).1⟩
    have ws := hw.scal
    by_cases hr : rs = []
    · have hw0 : Sl 1 w [] := by rw [hr] at hw; exact hw
      obtain ⟨sb, hsrc, _⟩ := src_sl hw0 H.get
      have ha : appOf H.get n lo 1 8 (.imm (.lst true 1 [[.int .i64 e], [.int .i64 c], [.int .i64 (rs.length : Int)]])) (.imm w) = some { v := .imm (.lst true 1 (zs.map ivI)), n' := n, acc := [] } := by
        rw [hz3, hr]
        simp [appOf, hsrc, raccOf, ofF]
      generalize hes : zs.map ivI = es at *
      simp [vl, vs, ws, ew, ha, hlo, evParts, evParts2, lay, unImms, unImm, mapO, rowsN, imms, B6, undT, fnEnd, argsT, PT.get_put, keep, opRun, ev, evs, evO, give, giveI, binOf, isNilK, PM.flip, putT, putL, putH, loadOf, storeOf, cut, over, ofCells, asNat, natOr, calm, clashes, Acc.clash, ressOf, resOf, frz, frz.frzs, DV.flat, DV.flat.flats, imms]
      refine loopLr (lo := lo) (a := n) (zs := zs) (x := .imm (.lst true 1 es)) (by omega) ⟨by simp [PT.get_put], by simp [PT.get_put], by simp [PT.get_put], ⟨none, by simp, by exact .inr (.inl ⟨by simp [PT.get_put, rowTh], rfl⟩), by simp⟩, .inl (by rw [hes]), by simp; omega⟩ (fun s' hI => ?_)
      obtain ⟨ob, g1, g2, g3⟩ := fin _ s' hI
      obtain ⟨c7, c8, c9, _, xa, an⟩ := hI
      simp [c7, c8, c9, B6, undT, fnEnd, argsT, PT.get_put, keep, opRun, ev, evs, evO, give, giveI, binOf, isNilK, PM.flip, putT, putL, putH, loadOf, storeOf, cut, over, ofCells, asNat, natOr, calm, clashes, Acc.clash, ressOf, resOf, frz, frz.frzs, DV.flat, DV.flat.flats, imms]
      exact ⟨ob, g1, g2, g3⟩
    · have hne : (ofF rs).map ivI ≠ [] := by
        intro h
        have := congrArg List.length h
        simp [ofF_len] at this
        exact hr (List.length_eq_zero_iff.1 (by omega))
      obtain ⟨sb, hsrc, hsb⟩ := src_sl hw H.get
      obtain rfl := hsb hne
      have am : 20000000 ≤ appMax := by unfold appMax; omega
      have hne3 : ¬ ofF rs = [] := fun h => hne (by rw [h]; rfl)
      have hll : 3 + (ofF rs).length = zs.length := by rw [hzl, ofF_len]
      have a1 : zs.length ≤ appMax := by omega
      have a2 : zs.length * 8 ≤ appMax := by omega
      have ha : appOf H.get n lo 1 8 (.imm (.lst true 1 [[.int .i64 e], [.int .i64 c], [.int .i64 (rs.length : Int)]])) (.imm w) = some { v := .sl n 0 zs.length zs.length, hw := [(n, some ⟨1, zs.map rowI⟩)], n' := n + 1, acc := [.wX n] } := by
        have hrow : zs.map rowI = (zs.map ivI).map imms := by rw [List.map_map]; rfl
        rw [hrow, hz3]
        simp [appOf, hsrc, raccOf, hne3, imms] 
        constructor
        · omega
        · omega
      generalize hes : zs.map rowI = es at *
      simp [vl, vs, ws, ew, ha, hlo, evParts, evParts2, lay, unImms, unImm, mapO, rowsN, imms, B6, undT, fnEnd, argsT, PT.get_put, keep, opRun, ev, evs, evO, give, giveI, binOf, isNilK, PM.flip, putT, putL, putH, loadOf, storeOf, cut, over, ofCells, asNat, natOr, calm, clashes, Acc.clash, ressOf, resOf, frz, frz.frzs, DV.flat, DV.flat.flats, imms]
      have hnb : ¬ n = n + 1 := by omega
      refine loopLr (lo := lo) (a := n + 1) (zs := zs) (x := .sl n 0 zs.length zs.length) (by omega) ⟨by simp [PT.get_put], by simp [PT.get_put], by simp [PT.get_put], ⟨none, by simp, by exact .inr (.inl ⟨by simp [PT.get_put, rowTh], rfl⟩), by simp⟩, .inr ⟨n, by simp; omega, rfl, by simp [PT.get_put, hes]⟩, by simp; omega⟩ (fun s' hI => ?_)
      obtain ⟨ob, g1, g2, g3⟩ := fin _ s' hI
      obtain ⟨c7, c8, c9, _, xa, an⟩ := hI
      simp [c7, c8, c9, B6, undT, fnEnd, argsT, PT.get_put, keep, opRun, ev, evs, evO, give, giveI, binOf, isNilK, PM.flip, putT, putL, putH, loadOf, storeOf, cut, over, ofCells, asNat, natOr, calm, clashes, Acc.clash, ressOf, resOf, frz, frz.frzs, DV.flat, DV.flat.flats, imms]
      exact ⟨ob, g1, g2, g3⟩
  obtain ⟨v', H', n', e, a, ob, rfl, r⟩ := key
  exact ⟨a, ob, H', n', e, r⟩
end Go.Proofs.YtnpcgejfkonfdaaDoor.D

-- RD
set_option linter.unusedVariables false
set_option linter.unusedSimpArgs false
set_option maxHeartbeats 16000000
namespace Go.Proofs.YtnpcgejfkonfdaaDoor.D
open Go Go.PM Go.Lib

theorem laid_bl {d : Nat} {k f rv b o l c : IV} {E N : Int} {rs : List Rst} (hk : (DV.imm k).scal = true ∧ (DV.imm f).scal = true ∧ (DV.imm b).scal = true ∧ (DV.imm o).scal = true ∧ (DV.imm l).scal = true ∧ (DV.imm c).scal = true) (hv : Sl 4 rv (rs.map ivRS)) (hl : rs.length ≤ 20) :
    ∃ g, bl (K DG (d + 4)) 19 [.agg [.imm k, .imm f, .imm (.int .i64 E), .imm (.int .i64 N), .imm rv, .imm b, .imm o, .imm l, .imm c]] = some (.imm (.lst g 1 ((tel E N rs).map ivY))) := by
  obtain ⟨a, ob, H1, n1, e1, hc, ha, hob⟩ := Lay9_fn (d := d) (H := .lf) (n := 1) (lo := 0) (by omega) hv (by omega) E N
  obtain ⟨l1, l2, l3, l4⟩ := layT_ok E N hl
  obtain ⟨g, m, e2, hm⟩ := Pack8_ro (d := d) (lo := 0) hc ha hob l1 l2 l3 l4
  have vs := hv.scal
  obtain ⟨k1, k2, k3, k4, k5, k6⟩ := hk
  refine ⟨g, bl_fe ?_⟩
  unfold tel
  generalize (teleg (bodyT (layT E N rs))).map ivY = es at *
  rw [D.k19]
  refine fn_dw rfl ?_
  simp [vs, k1, k2, k3, k4, k5, k6, e1, e2, imms, B6, undT, fnEnd, argsT, PT.get_put, keep, opRun, ev, evs, evO, give, giveI, binOf, isNilK, PM.flip, putT, putL, putH, loadOf, storeOf, cut, over, ofCells, asNat, natOr, calm, clashes, Acc.clash, ressOf, resOf, frz, frz.frzs, DV.flat, DV.flat.flats, imms]
end Go.Proofs.YtnpcgejfkonfdaaDoor.D

-- RU
set_option linter.unusedVariables false
set_option linter.unusedSimpArgs false
set_option maxHeartbeats 16000000
namespace Go.Proofs.YtnpcgejfkonfdaaDoor.D
open Go Go.PM Go.Lib

theorem valY_lt8 : ∀ (bs : List UInt8) (z k : Nat), z < 256 ^ k → valY bs z < 256 ^ (k + bs.length)
  | [], z, k, h => h
  | b :: bs, z, k, h => by
    have := valY_lt8 bs (z * 256 + b.toNat) (k + 1) (by have := b.toNat_lt; rw [Nat.pow_succ]; omega)
    rw [List.length_cons, show k + (bs.length + 1) = k + 1 + bs.length by omega]
    exact this
theorem valY_suc8 {bs : List UInt8} {i : Nat} (hi : i < bs.length) : valY (bs.take (i + 1)) 0 = valY (bs.take i) 0 * 256 + bs[i].toNat := by
  rw [List.take_add_one, List.getElem?_eq_getElem hi]
  unfold valY
  rw [List.foldl_append]
  rfl
theorem or64c {z c : Nat} (hz : z < 72057594037927936) (hc : c < 256) : binInt .or .u64 ((z : Int) * 256) (c : Int) = some (.int .u64 ((z * 256 + c : Nat) : Int)) := by
  have e : (BitVec.ofInt 64 ((z : Int) * 256) ||| BitVec.ofInt 64 (c : Int)).toNat = z * 256 + c := by
    rw [show ((z : Int) * 256) = ((z * 256 : Nat) : Int) by omega, BitVec.toNat_or, BitVec.ofInt_natCast, BitVec.ofInt_natCast, BitVec.toNat_ofNat, BitVec.toNat_ofNat, Nat.mod_eq_of_lt (by omega), Nat.mod_eq_of_lt (by omega)]
    have := Nat.shiftLeft_add_eq_or_of_lt (show c < 2 ^ 8 by omega) z
    rw [Nat.shiftLeft_eq] at this
    exact this.symm
  show some (IV.int .u64 (IntKind.u64.wrap ((BitVec.ofInt 64 ((z : Int) * 256) ||| BitVec.ofInt 64 (c : Int)).toNat : Nat))) = _
  rw [e, wu64' (by omega)]
structure INm (v : IV) (bs : List UInt8) (i : Nat) (st : St) : Prop where
  c0 : st.T.get 0 = some (.imm v)
  c3 : st.T.get 3 = some (.imm (.int .u64 (valY (bs.take i) 0 : Int)))
  c4 : st.T.get 4 = some (.imm (.int .i64 (i : Int)))
theorem num8_bl {d : Nat} {f : Bool} {bs : List UInt8} (hl : bs.length ≤ 8) : bl (K DG (d + 1)) 33 [.imm (.lst f 1 (bs.map ivY))] = some (.imm (.int .u64 (valY bs 0 : Int))) := by
  have hv : Sl 1 (.lst f 1 (bs.map ivY)) (bs.map ivY) := .inr ⟨f, rfl⟩
  refine bl_fe ?_
  rw [D.k33]
  refine fn_dw rfl ?_
  simp [B6, undT, fnEnd, argsT, PT.get_put, keep, opRun, ev, evs, evO, give, giveI, binOf, isNilK, PM.flip, putT, putL, putH, loadOf, storeOf, cut, over, ofCells, asNat, natOr, calm, clashes, Acc.clash, ressOf, resOf, frz, frz.frzs, DV.flat, DV.flat.flats, imms]
  refine dw_loop (N := bs.length) (small (by have := rb3; omega)) (fun i st => INm (.lst f 1 (bs.map ivY)) bs i st) (fun e s' => e = .exit 0 ∧ INm (.lst f 1 (bs.map ivY)) bs bs.length s') (fun i st hle hI => ?_) ⟨by simp [PT.get_put], by simp [PT.get_put, valY], by simp [PT.get_put]⟩ (fun e s' h => ?_)
  · obtain ⟨c0, c3, c4⟩ := hI
    by_cases hi : i < bs.length
    · have hi' : ILt (i : Int) (bs.length : Int) = True := ilt_t (by omega)
      have hw8 : IntKind.i64.wrap ((i : Int) + 1) = (i : Int) + 1 := wr_succ hi (by have := rb3; omega)
      have hz := valY_lt8 (bs.take i) 0 0 (by decide)
      have p7 : 256 ^ (0 + (bs.take i).length) ≤ 256 ^ 7 := Nat.pow_le_pow_right (by omega) (by simp; omega)
      have hz7 : valY (bs.take i) 0 < 72057594037927936 := by
        have e7 : 256 ^ 7 = 72057594037927936 := by decide
        rw [e7] at p7
        omega
      have hc := bs[i].toNat_lt
      have g3 := or64c hz7 hc
      rw [← valY_suc8 hi] at g3
      have g1 : IntKind.u64.wrap ((valY (bs.take i) 0 : Int) * 256) = (valY (bs.take i) 0 : Int) * 256 := by
        rw [show (valY (bs.take i) 0 : Int) * 256 = ((valY (bs.take i) 0 * 256 : Nat) : Int) by omega]
        exact wu64' (by omega)
      have g2 : IntKind.u64.wrap (bs[i].toNat : Int) = (bs[i].toNat : Int) := wu64' (by omega)
      have b64 : IntKind.u64.bits = 64 := rfl
      have ix : (bs.map ivY)[i]? = some (ivY bs[i]) := by
        rw [List.getElem?_map, List.getElem?_eq_getElem hi]; rfl
      have hml : (bs.map ivY).length = bs.length := by simp
      generalize bs.map ivY = es at *
      generalize hv1 : valY (bs.take i) 0 = vz at *
      generalize hv2 : valY (bs.take (i + 1)) 0 = vy at *
      generalize hQ : (fun (e : Ex) (s' : St) => _) = Q'
      simp only [D.l33_0b]
      simp [c0, c3, c4, hml, hi', hw8, idxE, ix, g1, g2, g3, b64, asNat, ivY, imms, B6, undT, fnEnd, argsT, PT.get_put, keep, opRun, ev, evs, evO, give, giveI, binOf, isNilK, PM.flip, putT, putL, putH, loadOf, storeOf, cut, over, ofCells, asNat, natOr, calm, clashes, Acc.clash, ressOf, resOf, frz, frz.frzs, DV.flat, DV.flat.flats, imms]
      subst hQ
      exact .inl ⟨rfl, hi, by simp [PT.get_put], by simp [PT.get_put, hv2], by simp [PT.get_put]⟩
    · obtain rfl : i = bs.length := by omega
      generalize hQ : (fun (e : Ex) (s' : St) => _) = Q'
      simp only [D.l33_0b]
      simp [c0, c3, c4, B6, undT, fnEnd, argsT, PT.get_put, keep, opRun, ev, evs, evO, give, giveI, binOf, isNilK, PM.flip, putT, putL, putH, loadOf, storeOf, cut, over, ofCells, asNat, natOr, calm, clashes, Acc.clash, ressOf, resOf, frz, frz.frzs, DV.flat, DV.flat.flats, imms]
      subst hQ
      exact .inr ⟨nofun, rfl, by simp [PT.get_put, c0], by simp [PT.get_put, c3], by simp [PT.get_put, c4]⟩
  · obtain ⟨rfl, c0, c3, c4⟩ := h
    rw [List.take_length] at c3
    simp [c0, c3, c4, B6, undT, fnEnd, argsT, PT.get_put, keep, opRun, ev, evs, evO, give, giveI, binOf, isNilK, PM.flip, putT, putL, putH, loadOf, storeOf, cut, over, ofCells, asNat, natOr, calm, clashes, Acc.clash, ressOf, resOf, frz, frz.frzs, DV.flat, DV.flat.flats, imms]
/-- what bytes begin with, and how many these are -/
def tk8 : List UInt8 → Option (Th × Nat)
  | [] => none
  | b :: r => if b.toNat = 1 then (if 8 ≤ r.length then some (.int (IntKind.i64.wrap (valY (r.take 8) 0 : Int)), 9) else none)
    else if b.toNat = 2 then (match r with
      | [] => none
      | l :: q => if l.toNat ≤ 200 ∧ l.toNat ≤ q.length then some (.text (q.take l.toNat), 2 + l.toNat) else none)
    else if b.toNat = 3 then (match r with
      | [] => none
      | v :: q => if v.toNat ≤ 1 then some (.bool (decide (v.toNat = 1)), 2) else none)
    else none
def rowNo : List IV := [.int .i64 0, .int .i64 0, .str [], .bool false]
theorem take8_bl {d : Nat} {f : Bool} {bs : List UInt8} (hl : bs.length ≤ 5000) : bl (K DG (d + 2)) 35 [.imm (.lst f 1 (bs.map ivY))] = some (match tk8 bs with
    | some (t, k) => .tup [.agg (imms (rowTh t)), .imm (.int .i64 (k : Int))]
    | none => .tup [.agg (imms rowNo), .imm (.int .i64 0)]) := by
  have key : Fe (K DG (d + 1 + 1) 35 [.imm (.lst f 1 (bs.map ivY))] .lf 0 0) (fun v _ _ => v = match tk8 bs with
    | some (t, k) => .tup [.agg (imms (rowTh t)), .imm (.int .i64 (k : Int))]
    | none => .tup [.agg (imms rowNo), .imm (.int .i64 0)]) := by
    rw [D.k35]
    refine fn_dw rfl ?_
    cases bs with
    | nil =>
      have i1 : ILt 0 9 = True := ilt_t (by omega)
      have i2 : ILt 0 2 = True := ilt_t (by omega)
      simp [i1, i2, tk8, rowNo, evParts, lay, unImms, unImm, mapO, imms, B6, undT, fnEnd, argsT, PT.get_put, keep, opRun, ev, evs, evO, give, giveI, binOf, isNilK, PM.flip, putT, putL, putH, loadOf, storeOf, cut, over, ofCells, asNat, natOr, calm, clashes, Acc.clash, ressOf, resOf, frz, frz.frzs, DV.flat, DV.flat.flats, imms]
    | cons b r =>
      have hbl := b.toNat_lt
      cases r with
      | nil =>
        have i1 : ILt 1 9 = True := ilt_t (by omega)
        have i2 : ILt 1 2 = True := ilt_t (by omega)
        have e : tk8 [b] = none := by
          show (if b.toNat = 1 then _ else _) = _
          split
          · rfl
          · split
            · rfl
            · split <;> rfl
        rw [e]
        simp [i1, i2, rowNo, evParts, lay, unImms, unImm, mapO, imms, B6, undT, fnEnd, argsT, PT.get_put, keep, opRun, ev, evs, evO, give, giveI, binOf, isNilK, PM.flip, putT, putL, putH, loadOf, storeOf, cut, over, ofCells, asNat, natOr, calm, clashes, Acc.clash, ressOf, resOf, frz, frz.frzs, DV.flat, DV.flat.flats, imms]
      | cons c q =>
        have hcl := c.toNat_lt
        have hq : q.length ≤ 5000 := by simp at hl; omega
        have i2 : ILt ((q.length : Int) + 1 + 1) 2 = False := ilt_f (by omega)
        have w9 : IntKind.i64.wrap (c.toNat : Int) = (c.toNat : Int) := wr_id (by omega) (by omega)
        have w10 : IntKind.i64.wrap (2 + (c.toNat : Int)) = 2 + (c.toNat : Int) := wr_id (by omega) (by omega)
        have none_of : ¬ b.toNat = 1 → ¬ b.toNat = 2 → ¬ b.toNat = 3 → tk8 (b :: c :: q) = none := fun h1 h2 h3 => by
          show (if b.toNat = 1 then _ else _) = _
          rw [if_neg h1, if_neg h2, if_neg h3]
        by_cases h1 : b.toNat = 1
        · have h2 : ¬ b.toNat = 2 := by omega
          have h3 : ¬ b.toNat = 3 := by omega
          by_cases h8 : 8 ≤ (c :: q).length
          · have i1 : ILt ((q.length : Int) + 1 + 1) 9 = False := ilt_f (by simp at h8; omega)
            have e : tk8 (b :: c :: q) = some (.int (IntKind.i64.wrap (valY ((c :: q).take 8) 0 : Int)), 9) := by
              show (if b.toNat = 1 then _ else _) = _
              rw [if_pos h1, if_pos h8]
            rw [e]
            have hlen : 9 ≤ ((b :: c :: q).map ivY).length := by simp at h8 ⊢; omega
            have sl : ∀ {h : Nat → Option HB} {n : Nat}, sliceOf h n 1 (.imm (.lst f 1 ((b :: c :: q).map ivY))) (some (.imm (.int .i64 1))) (some (.imm (.int .i64 9))) none = some { v := .imm (.lst (f && decide (9 = ((b :: c :: q).map ivY).length)) 1 (((c :: q).take 8).map ivY)), n' := n } := fun {h n} => by
              have e1 : asNat (.imm (.int .i64 1)) = some 1 := by simp [asNat]
              have e9 : asNat (.imm (.int .i64 9)) = some 9 := by simp [asNat]
              simp only [sliceOf, natOr, e1, e9, if_true]
              rw [if_pos ⟨by omega, hlen⟩]
              simp [List.map_take]
            have nb := num8_bl (d := d) (f := f && decide (9 = ((b :: c :: q).map ivY).length)) (bs := (c :: q).take 8) (by simp; omega)
            generalize ((c :: q).take 8).map ivY = es at *
            generalize (f && decide (9 = ((b :: c :: q).map ivY).length)) = g at *
            have hb1 : (b.toNat : Int) = 1 := by omega
            simp only [List.map_cons, ivY, hb1] at sl
            simp [i1, h1, sl, nb, idxE, asNat, ivY, rowTh, evParts, lay, unImms, unImm, mapO, imms, B6, undT, fnEnd, argsT, PT.get_put, keep, opRun, ev, evs, evO, give, giveI, binOf, isNilK, PM.flip, putT, putL, putH, loadOf, storeOf, cut, over, ofCells, asNat, natOr, calm, clashes, Acc.clash, ressOf, resOf, frz, frz.frzs, DV.flat, DV.flat.flats, imms]
          · have i1 : ILt ((q.length : Int) + 1 + 1) 9 = True := ilt_t (by simp at h8; omega)
            have e : tk8 (b :: c :: q) = none := by
              show (if b.toNat = 1 then _ else _) = _
              rw [if_pos h1, if_neg h8]
            rw [e]
            simp [i1, i2, h1, idxE, asNat, ivY, rowNo, evParts, lay, unImms, unImm, mapO, imms, B6, undT, fnEnd, argsT, PT.get_put, keep, opRun, ev, evs, evO, give, giveI, binOf, isNilK, PM.flip, putT, putL, putH, loadOf, storeOf, cut, over, ofCells, asNat, natOr, calm, clashes, Acc.clash, ressOf, resOf, frz, frz.frzs, DV.flat, DV.flat.flats, imms]
        · have key : ∀ P : Prop, (ILt ((q.length : Int) + 1 + 1) 9 = True → P) → (ILt ((q.length : Int) + 1 + 1) 9 = False → P) → P := fun P ht hf => by
            by_cases h9 : (q.length : Int) + 1 + 1 < 9
            · exact ht (ilt_t h9)
            · exact hf (ilt_f (by omega))
          have b1 : ¬ (b.toNat : Int) = 1 := by omega
          by_cases h2 : b.toNat = 2
          · by_cases h200 : c.toNat ≤ 200
            · have i3 : ILt 200 (c.toNat : Int) = False := ilt_f (by omega)
              by_cases hcq : c.toNat ≤ q.length
              · have i4 : ILt ((q.length : Int) + 1 + 1) (2 + (c.toNat : Int)) = False := ilt_f (by omega)
                have e : tk8 (b :: c :: q) = some (.text (q.take c.toNat), 2 + c.toNat) := by
                  show (if b.toNat = 1 then _ else _) = _
                  rw [if_neg h1, if_pos h2]
                  show (if c.toNat ≤ 200 ∧ c.toNat ≤ q.length then _ else _) = _
                  rw [if_pos ⟨h200, hcq⟩]
                rw [e]
                have hlen : 2 + c.toNat ≤ ((b :: c :: q).map ivY).length := by simp; omega
                have sl : ∀ {h : Nat → Option HB} {n : Nat}, sliceOf h n 1 (.imm (.lst f 1 ((b :: c :: q).map ivY))) (some (.imm (.int .i64 2))) (some (.imm (.int .i64 (2 + (c.toNat : Int))))) none = some { v := .imm (.lst (f && decide (2 + c.toNat = ((b :: c :: q).map ivY).length)) 1 ((q.take c.toNat).map ivY)), n' := n } := fun {h n} => by
                  have e1 : asNat (.imm (.int .i64 2)) = some 2 := by simp [asNat]
                  have e9 : asNat (.imm (.int .i64 (2 + (c.toNat : Int)))) = some (2 + c.toNat) := by
                    have : (0 : Int) ≤ 2 + (c.toNat : Int) := by omega
                    simp only [asNat, if_pos this]
                    congr 1
                  simp only [sliceOf, natOr, e1, e9, if_true]
                  rw [if_pos ⟨by omega, hlen⟩]
                  simp [List.map_take, List.drop_take]
                have mp := mapO_unI ((q.take c.toNat).map ivY)
                have by1 := bytes_y (q.take c.toNat)
                have hcast : ((2 + c.toNat : Nat) : Int) = 2 + (c.toNat : Int) := by omega
                generalize hqt : q.take c.toNat = qt at *
                generalize qt.map ivY = es at *
                generalize (f && decide (2 + c.toNat = ((b :: c :: q).map ivY).length)) = g at *
                have hb2 : (b.toNat : Int) = 2 := by omega
                simp only [List.map_cons, ivY, hb2] at sl
                refine key _ (fun i1 => ?_) (fun i1 => ?_)
                · simp [i1, i2, i3, i4, h2, w9, w10, sl, mp, by1, rowsOf, raccOf, idxE, asNat, ivY, rowTh, evParts, lay, unImms, unImm, mapO, imms, B6, undT, fnEnd, argsT, PT.get_put, keep, opRun, ev, evs, evO, give, giveI, binOf, isNilK, PM.flip, putT, putL, putH, loadOf, storeOf, cut, over, ofCells, asNat, natOr, calm, clashes, Acc.clash, ressOf, resOf, frz, frz.frzs, DV.flat, DV.flat.flats, imms]
                · simp [i1, i2, i3, i4, h2, w9, w10, sl, mp, by1, rowsOf, raccOf, idxE, asNat, ivY, rowTh, evParts, lay, unImms, unImm, mapO, imms, B6, undT, fnEnd, argsT, PT.get_put, keep, opRun, ev, evs, evO, give, giveI, binOf, isNilK, PM.flip, putT, putL, putH, loadOf, storeOf, cut, over, ofCells, asNat, natOr, calm, clashes, Acc.clash, ressOf, resOf, frz, frz.frzs, DV.flat, DV.flat.flats, imms]
              · have i4 : ILt ((q.length : Int) + 1 + 1) (2 + (c.toNat : Int)) = True := ilt_t (by omega)
                have e : tk8 (b :: c :: q) = none := by
                  show (if b.toNat = 1 then _ else _) = _
                  rw [if_neg h1, if_pos h2]
                  show (if c.toNat ≤ 200 ∧ c.toNat ≤ q.length then _ else _) = _
                  rw [if_neg (fun h => hcq h.2)]
                rw [e]
                refine key _ (fun i1 => ?_) (fun i1 => ?_)
                · simp [i1, i2, i3, i4, h2, w9, w10, idxE, asNat, ivY, rowNo, evParts, lay, unImms, unImm, mapO, imms, B6, undT, fnEnd, argsT, PT.get_put, keep, opRun, ev, evs, evO, give, giveI, binOf, isNilK, PM.flip, putT, putL, putH, loadOf, storeOf, cut, over, ofCells, asNat, natOr, calm, clashes, Acc.clash, ressOf, resOf, frz, frz.frzs, DV.flat, DV.flat.flats, imms]
                · simp [i1, i2, i3, i4, h2, w9, w10, idxE, asNat, ivY, rowNo, evParts, lay, unImms, unImm, mapO, imms, B6, undT, fnEnd, argsT, PT.get_put, keep, opRun, ev, evs, evO, give, giveI, binOf, isNilK, PM.flip, putT, putL, putH, loadOf, storeOf, cut, over, ofCells, asNat, natOr, calm, clashes, Acc.clash, ressOf, resOf, frz, frz.frzs, DV.flat, DV.flat.flats, imms]
            · have i3 : ILt 200 (c.toNat : Int) = True := ilt_t (by omega)
              have e : tk8 (b :: c :: q) = none := by
                show (if b.toNat = 1 then _ else _) = _
                rw [if_neg h1, if_pos h2]
                show (if c.toNat ≤ 200 ∧ c.toNat ≤ q.length then _ else _) = _
                rw [if_neg (fun h => h200 h.1)]
              rw [e]
              refine key _ (fun i1 => ?_) (fun i1 => ?_)
              · simp [i1, i2, i3, h2, w9, w10, idxE, asNat, ivY, rowNo, evParts, lay, unImms, unImm, mapO, imms, B6, undT, fnEnd, argsT, PT.get_put, keep, opRun, ev, evs, evO, give, giveI, binOf, isNilK, PM.flip, putT, putL, putH, loadOf, storeOf, cut, over, ofCells, asNat, natOr, calm, clashes, Acc.clash, ressOf, resOf, frz, frz.frzs, DV.flat, DV.flat.flats, imms]
              · simp [i1, i2, i3, h2, w9, w10, idxE, asNat, ivY, rowNo, evParts, lay, unImms, unImm, mapO, imms, B6, undT, fnEnd, argsT, PT.get_put, keep, opRun, ev, evs, evO, give, giveI, binOf, isNilK, PM.flip, putT, putL, putH, loadOf, storeOf, cut, over, ofCells, asNat, natOr, calm, clashes, Acc.clash, ressOf, resOf, frz, frz.frzs, DV.flat, DV.flat.flats, imms]
          · have b2 : ¬ (b.toNat : Int) = 2 := by omega
            by_cases h3 : b.toNat = 3
            · by_cases hc1 : c.toNat ≤ 1
              · have i3 : ILt 1 (c.toNat : Int) = False := ilt_f (by omega)
                have e : tk8 (b :: c :: q) = some (.bool (decide (c.toNat = 1)), 2) := by
                  show (if b.toNat = 1 then _ else _) = _
                  rw [if_neg h1, if_neg h2, if_pos h3]
                  show (if c.toNat ≤ 1 then _ else _) = _
                  rw [if_pos hc1]
                rw [e]
                have hc2 : c.toNat = 0 ∨ c.toNat = 1 := by omega
                have i3' : ILt 1 0 = False ∧ ILt 1 1 = False := ⟨ilt_f (by omega), ilt_f (by omega)⟩
                rcases hc2 with hc2 | hc2
                · refine key _ (fun i1 => ?_) (fun i1 => ?_)
                  · simp [i1, i2, i3', h3, hc2, idxE, asNat, ivY, rowTh, evParts, lay, unImms, unImm, mapO, imms, B6, undT, fnEnd, argsT, PT.get_put, keep, opRun, ev, evs, evO, give, giveI, binOf, isNilK, PM.flip, putT, putL, putH, loadOf, storeOf, cut, over, ofCells, asNat, natOr, calm, clashes, Acc.clash, ressOf, resOf, frz, frz.frzs, DV.flat, DV.flat.flats, imms]
                  · simp [i1, i2, i3', h3, hc2, idxE, asNat, ivY, rowTh, evParts, lay, unImms, unImm, mapO, imms, B6, undT, fnEnd, argsT, PT.get_put, keep, opRun, ev, evs, evO, give, giveI, binOf, isNilK, PM.flip, putT, putL, putH, loadOf, storeOf, cut, over, ofCells, asNat, natOr, calm, clashes, Acc.clash, ressOf, resOf, frz, frz.frzs, DV.flat, DV.flat.flats, imms]
                · refine key _ (fun i1 => ?_) (fun i1 => ?_)
                  · simp [i1, i2, i3', h3, hc2, idxE, asNat, ivY, rowTh, evParts, lay, unImms, unImm, mapO, imms, B6, undT, fnEnd, argsT, PT.get_put, keep, opRun, ev, evs, evO, give, giveI, binOf, isNilK, PM.flip, putT, putL, putH, loadOf, storeOf, cut, over, ofCells, asNat, natOr, calm, clashes, Acc.clash, ressOf, resOf, frz, frz.frzs, DV.flat, DV.flat.flats, imms]
                  · simp [i1, i2, i3', h3, hc2, idxE, asNat, ivY, rowTh, evParts, lay, unImms, unImm, mapO, imms, B6, undT, fnEnd, argsT, PT.get_put, keep, opRun, ev, evs, evO, give, giveI, binOf, isNilK, PM.flip, putT, putL, putH, loadOf, storeOf, cut, over, ofCells, asNat, natOr, calm, clashes, Acc.clash, ressOf, resOf, frz, frz.frzs, DV.flat, DV.flat.flats, imms]
              · have i3 : ILt 1 (c.toNat : Int) = True := ilt_t (by omega)
                have e : tk8 (b :: c :: q) = none := by
                  show (if b.toNat = 1 then _ else _) = _
                  rw [if_neg h1, if_neg h2, if_pos h3]
                  show (if c.toNat ≤ 1 then _ else _) = _
                  rw [if_neg hc1]
                rw [e]
                refine key _ (fun i1 => ?_) (fun i1 => ?_)
                · simp [i1, i2, i3, h3, idxE, asNat, ivY, rowNo, evParts, lay, unImms, unImm, mapO, imms, B6, undT, fnEnd, argsT, PT.get_put, keep, opRun, ev, evs, evO, give, giveI, binOf, isNilK, PM.flip, putT, putL, putH, loadOf, storeOf, cut, over, ofCells, asNat, natOr, calm, clashes, Acc.clash, ressOf, resOf, frz, frz.frzs, DV.flat, DV.flat.flats, imms]
                · simp [i1, i2, i3, h3, idxE, asNat, ivY, rowNo, evParts, lay, unImms, unImm, mapO, imms, B6, undT, fnEnd, argsT, PT.get_put, keep, opRun, ev, evs, evO, give, giveI, binOf, isNilK, PM.flip, putT, putL, putH, loadOf, storeOf, cut, over, ofCells, asNat, natOr, calm, clashes, Acc.clash, ressOf, resOf, frz, frz.frzs, DV.flat, DV.flat.flats, imms]
            · have b3 : ¬ (b.toNat : Int) = 3 := by omega
              rw [none_of h1 h2 h3]
              refine key _ (fun i1 => ?_) (fun i1 => ?_)
              · simp [i1, i2, b1, b2, b3, h1, h2, h3, idxE, asNat, ivY, rowNo, evParts, lay, unImms, unImm, mapO, imms, B6, undT, fnEnd, argsT, PT.get_put, keep, opRun, ev, evs, evO, give, giveI, binOf, isNilK, PM.flip, putT, putL, putH, loadOf, storeOf, cut, over, ofCells, asNat, natOr, calm, clashes, Acc.clash, ressOf, resOf, frz, frz.frzs, DV.flat, DV.flat.flats, imms]
              · simp [i1, i2, b1, b2, b3, h1, h2, h3, idxE, asNat, ivY, rowNo, evParts, lay, unImms, unImm, mapO, imms, B6, undT, fnEnd, argsT, PT.get_put, keep, opRun, ev, evs, evO, give, giveI, binOf, isNilK, PM.flip, putT, putL, putH, loadOf, storeOf, cut, over, ofCells, asNat, natOr, calm, clashes, Acc.clash, ressOf, resOf, frz, frz.frzs, DV.flat, DV.flat.flats, imms]
  obtain ⟨v, H, n, e, rfl⟩ := key
  refine bl_of e ?_
  cases tk8 bs with
  | none => rfl
  | some t => obtain ⟨t, k⟩ := t; cases t <;> rfl
end Go.Proofs.YtnpcgejfkonfdaaDoor.D

-- RV
set_option linter.unusedVariables false
set_option linter.unusedSimpArgs false
set_option maxHeartbeats 16000000
namespace Go.Proofs.YtnpcgejfkonfdaaDoor.D
open Go Go.PM Go.Lib

theorem tk8_pos {bs : List UInt8} {t : Th} {k : Nat} (h : tk8 bs = some (t, k)) : 1 ≤ k ∧ k ≤ bs.length := by
  unfold tk8 at h
  split at h
  · cases h
  · rename_i b r
    split at h
    · split at h
      · cases h; simp; omega
      · cases h
    · split at h
      · split at h
        · cases h
        · split at h
          · rename_i hh
            cases h; simp; omega
          · cases h
      · split at h
        · split at h
          · cases h
          · split at h
            · cases h; simp
            · cases h
        · cases h
theorem tk8_1 (q : List UInt8) : tk8 (1 :: q) = if 8 ≤ q.length then some (.int (IntKind.i64.wrap (valY (q.take 8) 0 : Int)), 9) else none := rfl
theorem tk8_thB {t : Th} (h : thCan t) (r : List UInt8) : tk8 (thB t ++ r) = some (t, (thB t).length) := by
  cases t with
  | int z =>
    have ha := addF_thB (t := .int z) h r
    have e0 : thB (.int z) ++ r = 1 :: (numY (z % 2 ^ 64).toNat 8 ++ r) := rfl
    have hl := numY_len (z % 2 ^ 64).toNat 8
    rw [e0] at ha ⊢
    rw [addF_1] at ha
    rw [tk8_1]
    have h8 : 8 ≤ (numY (z % 2 ^ 64).toNat 8 ++ r).length := by rw [List.length_append, hl]; omega
    rw [if_pos h8] at ha ⊢
    have := congrArg (fun x => x.map Prod.fst) ha
    simp only [Option.map_some, Option.some.injEq] at this
    rw [this]
    show some (Th.int z, 9) = some (Th.int z, (1 :: numY (z % 2 ^ 64).toNat 8).length)
    rw [List.length_cons, hl]
  | text s =>
    have hs : s.length ≤ 200 := h
    have hk : (UInt8.ofNat s.length).toNat = s.length := by rw [UInt8.toNat_ofNat']; exact Nat.mod_eq_of_lt (by omega)
    show tk8 (2 :: UInt8.ofNat s.length :: (s ++ r)) = _
    simp [tk8, hk, hs, thB]
    omega
  | bool b => cases b <;> simp [tk8, thB]
def it8 (bs : List UInt8) : Nat → Option (List Th × List UInt8)
  | 0 => some ([], bs)
  | i + 1 => match it8 bs i with
    | some (ts, r) => match tk8 r with
      | some (t, k) => if ts.length < 100 then some (ts ++ [t], r.drop k) else none
      | none => none
    | none => none
theorem it8_none {bs : List UInt8} {i : Nat} (h : it8 bs i = none) : ∀ k, it8 bs (i + k) = none
  | 0 => h
  | k + 1 => by rw [← Nat.add_assoc, it8, it8_none h k]
theorem it8_ths : ∀ {ts : List Th} (h : ∀ t ∈ ts, thCan t) (hl : ts.length ≤ 100) (k : Nat), k ≤ ts.length → it8 (thsB ts) k = some (ts.take k, thsB (ts.drop k))
  | ts, h, hl, 0, _ => by simp [it8]
  | ts, h, hl, k + 1, hk => by
    have e := it8_ths h hl k (by omega)
    have hk' : k < ts.length := by omega
    have e1 : thsB (ts.drop k) = thB ts[k] ++ thsB (ts.drop (k + 1)) := by
      have e0 := List.drop_eq_getElem_cons hk'
      rw [e0]
      simp only [thsB, List.flatMap_cons]
    have e2 : (ts.take k).length < 100 := by simp; omega
    simp only [it8, e, e1, tk8_thB (h _ (List.getElem_mem hk')), if_pos e2]
    rw [List.take_add_one, List.getElem?_eq_getElem hk', List.drop_left]
    rfl
structure IU8 (H0 : PT HB) (n0 a N : Nat) (bs : List UInt8) (i : Nat) (st : St) : Prop where
  c5 : st.T.get 5 = some (.ptr a 0 0)
  c6 : st.T.get 6 = some (.imm (.int .i64 (N : Int)))
  c7 : st.T.get 7 = some (.imm (.int .i64 (i : Int)))
  fr : ∀ j, j < n0 → st.H.get j = H0.get j
  an : n0 ≤ a ∧ a < st.n
  s : ∃ ts r f ob, it8 bs i = some (ts, r) ∧ ts.length ≤ 100 ∧ r.length ≤ 5000 ∧ st.T.get 4 = some (.imm (.lst f 1 (r.map ivY))) ∧ CrR st.H a ob ts ∧ ∀ b, ob = some b → b < st.n ∧ n0 ≤ b
theorem loopU8 {d : Nat} {H0 : PT HB} {n0 a N : Nat} {bs : List UInt8} (hN : N ≤ 255)
    {st : St} (h : IU8 H0 n0 a N bs 0 st) {ks : List Kf} {Q : Ex → St → Prop}
    (hk : ∀ s', IU8 H0 n0 a N bs N s' → Bk DG (K DG (d + 2)) 0 (.exit 0) ks s' Q)
    (hr : ∀ s', it8 bs N = none → s'.T.get 2 = some (.imm .nilp) → s'.T.get 3 = some (.imm (.int .i64 2)) → (∀ j, j < n0 → s'.H.get j = H0.get j) → n0 ≤ s'.n → Bk DG (K DG (d + 2)) 0 .ret ks s' Q) :
    Wp DG (K DG (d + 2)) 0 D.l17_0 ks st Q := by
  refine dw_loop (N := N) (small (by have := rb3; omega)) (fun i st => IU8 H0 n0 a N bs i st) (fun e s' => (e = .exit 0 ∧ IU8 H0 n0 a N bs N s') ∨ (e = .ret ∧ (∃ i, i < N ∧ it8 bs (i + 1) = none) ∧ s'.T.get 2 = some (.imm .nilp) ∧ s'.T.get 3 = some (.imm (.int .i64 2)) ∧ (∀ j, j < n0 → s'.H.get j = H0.get j) ∧ n0 ≤ s'.n)) (fun i st hle hI => ?_) h (fun e s' h => by
    rcases h with ⟨rfl, h⟩ | ⟨rfl, ⟨i, hi, h1⟩, h2, h3, h4, h5⟩
    · exact hk s' h
    · have e9 := it8_none h1 (N - i - 1)
      rw [show i + 1 + (N - i - 1) = N by omega] at e9
      exact hr s' e9 h2 h3 h4 h5)
  obtain ⟨c5, c6, c7, fr, ⟨an1, an2⟩, ts, r, f, ob, hit, htl, hrl, c4, cr, hob⟩ := hI
  by_cases hi : i < N
  · have hi' : ILt (i : Int) (N : Int) = True := ilt_t (by omega)
    have hw8 : IntKind.i64.wrap ((i : Int) + 1) = (i : Int) + 1 := wr_id (by omega) (by omega)
    have tb := take8_bl (d := d) (f := f) (bs := r) hrl
    cases htk : tk8 r with
    | none =>
      rw [htk] at tb
      simp only [rowNo, imms, List.map_cons, List.map_nil] at tb
      generalize r.map ivY = es at *
      generalize hQ : (fun (e : Ex) (s' : St) => _) = Q'
      simp only [D.l17_0b]
      simp [c4, c5, c6, c7, hi', hw8, tb, B6, undT, fnEnd, argsT, PT.get_put, keep, opRun, ev, evs, evO, give, giveI, binOf, isNilK, PM.flip, putT, putL, putH, loadOf, storeOf, cut, over, ofCells, asNat, natOr, calm, clashes, Acc.clash, ressOf, resOf, frz, frz.frzs, DV.flat, DV.flat.flats, imms]
      subst hQ
      exact .inr ⟨nofun, .inr ⟨rfl, ⟨i, hi, by simp only [it8, hit, htk]⟩, by simp [PT.get_put], by simp [PT.get_put], fr, by simp; omega⟩⟩
    | some tk =>
      obtain ⟨t, k⟩ := tk
      rw [htk] at tb
      simp only at tb
      obtain ⟨k1, k2⟩ := tk8_pos htk
      have hk0 : ¬ k = 0 := by omega
      obtain ⟨v, H', n', e, rfl, hn, hcr, p4⟩ := AddR (d := d + 1) (H := st.H) (n := st.n + 1) (lo := 0) (by omega) (by omega) (fun b hb => ⟨by have := (hob b hb).1; omega, Nat.zero_le _⟩) cr htl t
      obtain ⟨q1, q2, q3, q4, hrt, s1, s2, s3, s4⟩ := rowTh_sc t
      rw [hrt] at tb e
      simp only [imms, List.map_cons, List.map_nil] at tb e
      have fr2 : ∀ j, j < n0 → H'.get j = H0.get j := fun j hj => by rw [p4 j (by omega) (by omega) (fun e => by have := (hob j e).2; omega)]; exact fr j hj
      have sl : ∀ {h : Nat → Option HB} {n : Nat}, sliceOf h n 1 (.imm (.lst f 1 (r.map ivY))) (some (.imm (.int .i64 (k : Int)))) none none = some { v := .imm (.lst f 1 ((r.drop k).map ivY)), n' := n } := fun {h n} => by
        have e1 : asNat (.imm (.int .i64 (k : Int))) = some k := by simp [asNat]
        have e2 : (r.map ivY).take (r.map ivY).length = r.map ivY := List.take_length
        simp only [sliceOf, natOr, e1, if_true]
        rw [if_pos ⟨by simp; omega, Nat.le_refl _⟩, e2]
        simp [List.map_drop]
      by_cases h100 : ts.length < 100
      · obtain ⟨b', p1, p2, p3⟩ := hcr h100
        rw [decide_eq_true h100] at e
        have hit2 : it8 bs (i + 1) = some (ts ++ [t], r.drop k) := by simp only [it8, hit, htk, if_pos h100]
        generalize hes2 : (r.drop k).map ivY = es2 at *
        generalize r.map ivY = es at *
        generalize hQ : (fun (e : Ex) (s' : St) => _) = Q'
        simp only [D.l17_0b]
        simp [c4, c5, c6, c7, hi', hw8, tb, hk0, s1, s2, s3, s4, e, sl, B6, undT, fnEnd, argsT, PT.get_put, keep, opRun, ev, evs, evO, give, giveI, binOf, isNilK, PM.flip, putT, putL, putH, loadOf, storeOf, cut, over, ofCells, asNat, natOr, calm, clashes, Acc.clash, ressOf, resOf, frz, frz.frzs, DV.flat, DV.flat.flats, imms]
        subst hQ
        exact .inl ⟨rfl, hi, by simp [PT.get_put], by simp [PT.get_put], by simp [PT.get_put], fr2, by simp; omega, ts ++ [t], r.drop k, f, some b', hit2, by simp; omega, by simp; omega, by simp [PT.get_put, hes2], p3, fun b hb => by cases hb; simp; omega⟩
      · rw [decide_eq_false h100] at e
        generalize (r.drop k).map ivY = es2 at *
        generalize r.map ivY = es at *
        generalize hQ : (fun (e : Ex) (s' : St) => _) = Q'
        simp only [D.l17_0b]
        simp [c4, c5, c6, c7, hi', hw8, tb, hk0, s1, s2, s3, s4, e, B6, undT, fnEnd, argsT, PT.get_put, keep, opRun, ev, evs, evO, give, giveI, binOf, isNilK, PM.flip, putT, putL, putH, loadOf, storeOf, cut, over, ofCells, asNat, natOr, calm, clashes, Acc.clash, ressOf, resOf, frz, frz.frzs, DV.flat, DV.flat.flats, imms]
        subst hQ
        exact .inr ⟨nofun, .inr ⟨rfl, ⟨i, hi, by simp only [it8, hit, htk, if_neg h100]⟩, by simp [PT.get_put], by simp [PT.get_put], fr2, by simp; omega⟩⟩
  · obtain rfl : i = N := by omega
    generalize hQ : (fun (e : Ex) (s' : St) => _) = Q'
    simp only [D.l17_0b]
    simp [c4, c5, c6, c7, B6, undT, fnEnd, argsT, PT.get_put, keep, opRun, ev, evs, evO, give, giveI, binOf, isNilK, PM.flip, putT, putL, putH, loadOf, storeOf, cut, over, ofCells, asNat, natOr, calm, clashes, Acc.clash, ressOf, resOf, frz, frz.frzs, DV.flat, DV.flat.flats, imms]
    subst hQ
    exact .inr ⟨nofun, .inl ⟨rfl, by simp [PT.get_put, c5], by simp [PT.get_put, c6], by simp [PT.get_put, c7], fr, ⟨an1, an2⟩, ts, r, f, ob, hit, htl, hrl, by simp [PT.get_put, c4], cr, hob⟩⟩
theorem valY_numk {m k : Nat} (h : m < 256 ^ k) : valY (numY m k) 0 = m := by
  rw [valY_num, Nat.zero_mul, Nat.zero_add, Nat.mod_eq_of_lt h]
theorem Un8_fn {d : Nat} {H : PT HB} {n : Nat} {f : Bool} {bs : List UInt8} (hb : bs.length ≤ 4500) :
    Fe (K DG (d + 3) 17 [.imm (.lst f 1 (bs.map ivY))] H n 0) (fun v H' n' => n ≤ n' ∧ (∀ j, j < n → H'.get j = H.get j) ∧ ∃ x e, v = .tup [x, .imm (.int .i64 e)] ∧ x.scal = true ∧ (unF bs ≠ none → e = 0)) := by
  -- what is read well
  have good : unF bs ≠ none → ∃ ts, ts.length ≤ 100 ∧ (∀ t ∈ ts, thCan t) ∧ (bodyT ts).length ≤ 4000 ∧ teleg (bodyT ts) = bs := fun h => by
    cases hu : unF bs with
    | none => exact absurd hu h
    | some ts => obtain ⟨g1, g2, g3, g4⟩ := unF_can hu; exact ⟨ts, g1, g2, g3, g4⟩
  have tel_len : ∀ b : List UInt8, (teleg b).length = 6 + b.length := fun b => by simp [teleg, numY_len]; omega
  have tel4 : ∀ b : List UInt8, (teleg b).take 4 = numY (crcF b) 4 := fun b => by
    have : teleg b = numY (crcF b) 4 ++ (numY b.length 2 ++ b) := by simp [teleg]
    rw [this]
    have h4 := numY_len (crcF b) 4
    rw [← h4]
    simp [h4]
  have tel6 : ∀ b : List UInt8, (teleg b).drop 6 = b := fun b => by
    have h6 : (numY (crcF b) 4 ++ numY b.length 2).length = 6 := by simp [numY_len]
    show (numY (crcF b) 4 ++ numY b.length 2 ++ b).drop 6 = b
    rw [← h6]
    exact List.drop_left
  have tel46 : ∀ b : List UInt8, ((teleg b).take 6).drop 4 = numY b.length 2 := fun b => by
    have h6 : (numY (crcF b) 4 ++ numY b.length 2).length = 6 := by simp [numY_len]
    have h4 := numY_len (crcF b) 4
    have e1 : (teleg b).take 6 = numY (crcF b) 4 ++ numY b.length 2 := by
      show (numY (crcF b) 4 ++ numY b.length 2 ++ b).take 6 = _
      rw [← h6]
      exact List.take_left
    rw [e1, ← h4]
    simp [h4]
  rw [D.k17]
  refine fn_dw rfl ?_
  have wl6 : IntKind.i64.wrap ((bs.length : Int) - 6) = (bs.length : Int) - 6 := wr_id (by omega) (by omega)
  have hml : (bs.map ivY).length = bs.length := by simp
  by_cases h7 : bs.length < 7
  · have i0 : ILt (bs.length : Int) 7 = True := ilt_t (by omega)
    simp [i0, B6, undT, fnEnd, argsT, PT.get_put, keep, opRun, ev, evs, evO, give, giveI, binOf, isNilK, PM.flip, putT, putL, putH, loadOf, storeOf, cut, over, ofCells, asNat, natOr, calm, clashes, Acc.clash, ressOf, resOf, frz, frz.frzs, DV.flat, DV.flat.flats, imms]
    exact ⟨_, 2, ⟨rfl, rfl⟩, rfl, fun h => by obtain ⟨ts, _, _, _, g⟩ := good h; have := tel_len (bodyT ts); rw [g] at this; simp [bodyT] at this; omega⟩
  · have i0 : ILt (bs.length : Int) 7 = False := ilt_f (by omega)
    by_cases h4000 : (4000 : Int) < (bs.length : Int) - 6
    · have i1 : ILt 4000 ((bs.length : Int) - 6) = True := ilt_t h4000
      simp [i0, wl6, i1, B6, undT, fnEnd, argsT, PT.get_put, keep, opRun, ev, evs, evO, give, giveI, binOf, isNilK, PM.flip, putT, putL, putH, loadOf, storeOf, cut, over, ofCells, asNat, natOr, calm, clashes, Acc.clash, ressOf, resOf, frz, frz.frzs, DV.flat, DV.flat.flats, imms]
      exact ⟨_, 2, ⟨rfl, rfl⟩, rfl, fun h => by obtain ⟨ts, _, _, g3, g⟩ := good h; have := tel_len (bodyT ts); rw [g] at this; omega⟩
    · have i1 : ILt 4000 ((bs.length : Int) - 6) = False := ilt_f (by omega)
      obtain ⟨c, r, hd6⟩ : ∃ c r, bs.drop 6 = c :: r := ⟨_, _, List.drop_eq_getElem_cons (l := bs) (i := 6) (by omega)⟩
      have hrl : r.length + 7 = bs.length := by
        have := congrArg List.length hd6
        simp at this
        omega
      have hcl := c.toNat_lt
      have good2 : unF bs ≠ none → ∃ ts, ts.length ≤ 100 ∧ (∀ t ∈ ts, thCan t) ∧ c.toNat = ts.length ∧ r = thsB ts ∧ valY (bs.take 4) 0 = crcF (c :: r) ∧ valY ((bs.take 6).drop 4) 0 = r.length + 1 := fun h => by
        obtain ⟨ts, g1, g2, g3, g4⟩ := good h
        have e1 := tel6 (bodyT ts)
        rw [g4, hd6] at e1
        have e2 : c = UInt8.ofNat ts.length ∧ r = thsB ts := by
          have : bodyT ts = UInt8.ofNat ts.length :: thsB ts := rfl
          rw [this] at e1
          exact ⟨(List.cons.inj e1).1, (List.cons.inj e1).2⟩
        have e4 := tel4 (bodyT ts)
        have e46 := tel46 (bodyT ts)
        rw [g4] at e4 e46
        refine ⟨ts, g1, g2, ?_, e2.2, ?_, ?_⟩
        · rw [e2.1, UInt8.toNat_ofNat']
          exact Nat.mod_eq_of_lt (by omega)
        · rw [e4, valY_numk (by have := crcF_lt (bodyT ts); have : (256 : Nat) ^ 4 = 2 ^ 32 := by decide
                                omega), ← e1]
        · rw [e46, valY_numk (by have : (256 : Nat) ^ 2 = 65536 := by decide
                                 omega), ← e1]
          simp
      have sl6 : ∀ {h : Nat → Option HB} {n : Nat}, sliceOf h n 1 (.imm (.lst f 1 (bs.map ivY))) (some (.imm (.int .i64 6))) none none = some { v := .imm (.lst f 1 ((c :: r).map ivY)), n' := n } := fun {h n} => by
        have e1 : asNat (.imm (.int .i64 6)) = some 6 := by simp [asNat]
        have e2 : (bs.map ivY).take (bs.map ivY).length = bs.map ivY := List.take_length
        simp only [sliceOf, natOr, e1, if_true]
        rw [if_pos ⟨by simp; omega, Nat.le_refl _⟩, e2, ← List.map_drop, hd6]
        simp
      have sl4 : ∀ {h : Nat → Option HB} {n : Nat}, sliceOf h n 1 (.imm (.lst f 1 (bs.map ivY))) none (some (.imm (.int .i64 4))) none = some { v := .imm (.lst (f && decide (4 = (bs.map ivY).length)) 1 ((bs.take 4).map ivY)), n' := n } := fun {h n} => by
        have e1 : asNat (.imm (.int .i64 4)) = some 4 := by simp [asNat]
        simp only [sliceOf, natOr, e1, if_true]
        rw [if_pos ⟨by omega, by simp; omega⟩]
        simp [List.map_take]
      have sl46 : ∀ {h : Nat → Option HB} {n : Nat}, sliceOf h n 1 (.imm (.lst f 1 (bs.map ivY))) (some (.imm (.int .i64 4))) (some (.imm (.int .i64 6))) none = some { v := .imm (.lst (f && decide (6 = (bs.map ivY).length)) 1 (((bs.take 6).drop 4).map ivY)), n' := n } := fun {h n} => by
        have e1 : asNat (.imm (.int .i64 4)) = some 4 := by simp [asNat]
        have e2 : asNat (.imm (.int .i64 6)) = some 6 := by simp [asNat]
        simp only [sliceOf, natOr, e1, e2, if_true]
        rw [if_pos ⟨by omega, by simp; omega⟩]
        simp [List.map_take, List.map_drop]
      have n4 := num8_bl (d := d + 1) (f := f && decide (4 = (bs.map ivY).length)) (bs := bs.take 4) (by simp; omega)
      have n46 := num8_bl (d := d + 1) (f := f && decide (6 = (bs.map ivY).length)) (bs := (bs.take 6).drop 4) (by simp; omega)
      have rf := ref_bl (d := d + 1) (f := f) (bs := c :: r) (by simp; omega)
      have hcr := crcF_lt (c :: r)
      have wc := wu64' (x := crcF (c :: r)) (by omega)
      have wl : IntKind.u64.wrap ((r.length : Int) + 1) = ((r.length + 1 : Nat) : Int) := wu64' (x := r.length + 1) (by omega)
      have w9 : IntKind.i64.wrap (c.toNat : Int) = (c.toNat : Int) := wr_id (by omega) (by omega)
      generalize hP : valY (bs.take 4) 0 = P at *
      generalize hQ : valY ((bs.take 6).drop 4) 0 = Q at *
      generalize hC : crcF (c :: r) = C at *
      generalize ((bs.take 6).drop 4).map ivY = es46 at *
      generalize (bs.take 4).map ivY = es4 at *
      generalize (f && decide (4 = (bs.map ivY).length)) = g4 at *
      generalize (f && decide (6 = (bs.map ivY).length)) = g6 at *
      generalize bs.map ivY = es at *
      simp only [List.map_cons] at sl6 rf
      have sl1 : ∀ {h : Nat → Option HB} {n : Nat}, sliceOf h n 1 (.imm (.lst f 1 (ivY c :: r.map ivY))) (some (.imm (.int .i64 1))) none none = some { v := .imm (.lst f 1 (r.map ivY)), n' := n } := fun {h n} => by
        have e1 : asNat (.imm (.int .i64 1)) = some 1 := by simp [asNat]
        have e2 : (ivY c :: r.map ivY).take (ivY c :: r.map ivY).length = ivY c :: r.map ivY := List.take_length
        simp only [sliceOf, natOr, e1, if_true]
        rw [if_pos ⟨by simp, Nat.le_refl _⟩, e2]
        simp
      have hrm : (r.map ivY).length = r.length := by simp
      simp only [ivY] at sl6 rf sl1
      generalize hrs : r.map (fun b => [IV.int .u8 (b.toNat : Int)]) = rs at *
      have hrs' : r.map ivY = rs := hrs
      rw [hrs'] at hrm
      by_cases hPC : P = C
      · by_cases hQL : Q = r.length + 1
        · have hQI : (Q : Int) = (r.length : Int) + 1 := by omega
          simp [hml, i0, wl6, i1, sl6, sl4, sl46, n4, n46, rf, wc, wl, hPC, hQL, hrm, w9, idxE, asNat, sl1, evParts, lay, unImms, unImm, mapO, B6, undT, fnEnd, argsT, PT.get_put, keep, opRun, ev, evs, evO, give, giveI, binOf, isNilK, PM.flip, putT, putL, putH, loadOf, storeOf, cut, over, ofCells, asNat, natOr, calm, clashes, Acc.clash, ressOf, resOf, frz, frz.frzs, DV.flat, DV.flat.flats, imms]
          refine loopU8 (d := d) (n0 := n) (a := n) (N := c.toNat) (bs := r) (H0 := H) (by omega) ⟨by simp [PT.get_put], by simp [PT.get_put], by simp [PT.get_put], fun j hj => by
            have : ¬ j = n := by omega
            simp [PT.get_put, this], by simp, [], r, f, none, rfl, by simp, by omega, by simp [PT.get_put, hrs'], .inl ⟨by simp [PT.get_put], rfl, rfl⟩, fun b hb => by cases hb⟩ (fun s' hI => ?_) (fun s' hN f2 f3 fr fn => ?_)
          · obtain ⟨c5, c6, c7, fr, ⟨an1, an2⟩, ts, r', f', ob, hit, htl, hrl', c4, cr, hob⟩ := hI
            have hm2 : (r'.map ivY).length = r'.length := by simp
            generalize r'.map ivY = es' at *
            by_cases h0 : r'.length = 0
            · have il : ILt 0 (r'.length : Int) = False := ilt_f (by omega)
              have h0' : ILt 0 0 = False := ilt_f (by omega)
              rw [h0] at hm2
              simp [c4, c5, c6, c7, hm2, h0', B6, undT, fnEnd, argsT, PT.get_put, keep, opRun, ev, evs, evO, give, giveI, binOf, isNilK, PM.flip, putT, putL, putH, loadOf, storeOf, cut, over, ofCells, asNat, natOr, calm, clashes, Acc.clash, ressOf, resOf, frz, frz.frzs, DV.flat, DV.flat.flats, imms]
              exact ⟨by omega, fr, .ptr n 0 0, 0, ⟨rfl, rfl⟩, rfl, fun _ => rfl⟩
            · have il : ILt 0 (r'.length : Int) = True := ilt_t (by omega)
              simp [c4, c5, c6, c7, hm2, il, B6, undT, fnEnd, argsT, PT.get_put, keep, opRun, ev, evs, evO, give, giveI, binOf, isNilK, PM.flip, putT, putL, putH, loadOf, storeOf, cut, over, ofCells, asNat, natOr, calm, clashes, Acc.clash, ressOf, resOf, frz, frz.frzs, DV.flat, DV.flat.flats, imms]
              refine ⟨by omega, fr, _, 2, ⟨rfl, rfl⟩, rfl, fun h => ?_⟩
              obtain ⟨us, g1, g2, g3, g4', _⟩ := good2 h
              have := it8_ths g2 g1 us.length (Nat.le_refl _)
              rw [← g4', ← g3, hit] at this
              have e9 := (Prod.mk.inj (Option.some.inj this)).2
              rw [g3, List.drop_length] at e9
              rw [e9] at h0
              simp [thsB] at h0
          · simp [f2, f3, B6, undT, fnEnd, argsT, PT.get_put, keep, opRun, ev, evs, evO, give, giveI, binOf, isNilK, PM.flip, putT, putL, putH, loadOf, storeOf, cut, over, ofCells, asNat, natOr, calm, clashes, Acc.clash, ressOf, resOf, frz, frz.frzs, DV.flat, DV.flat.flats, imms]
            refine ⟨by omega, fr, _, 2, ⟨rfl, rfl⟩, rfl, fun h => ?_⟩
            obtain ⟨us, g1, g2, g3, g4', _⟩ := good2 h
            have := it8_ths g2 g1 us.length (Nat.le_refl _)
            rw [← g4', ← g3, hN] at this
            cases this
        · have hQI : ¬ (Q : Int) = (r.length : Int) + 1 := by omega
          simp [hml, i0, wl6, i1, sl6, sl4, sl46, n4, n46, rf, wc, wl, hPC, hQL, hQI, hrm, B6, undT, fnEnd, argsT, PT.get_put, keep, opRun, ev, evs, evO, give, giveI, binOf, isNilK, PM.flip, putT, putL, putH, loadOf, storeOf, cut, over, ofCells, asNat, natOr, calm, clashes, Acc.clash, ressOf, resOf, frz, frz.frzs, DV.flat, DV.flat.flats, imms]
          exact ⟨_, 2, ⟨rfl, rfl⟩, rfl, fun h => absurd (by obtain ⟨_, _, _, _, _, _, g⟩ := good2 h; exact g) hQL⟩
      · have hPI : ¬ (P : Int) = (C : Int) := by omega
        simp [hml, i0, wl6, i1, sl6, sl4, sl46, n4, n46, rf, wc, wl, hPC, hPI, hrm, B6, undT, fnEnd, argsT, PT.get_put, keep, opRun, ev, evs, evO, give, giveI, binOf, isNilK, PM.flip, putT, putL, putH, loadOf, storeOf, cut, over, ofCells, asNat, natOr, calm, clashes, Acc.clash, ressOf, resOf, frz, frz.frzs, DV.flat, DV.flat.flats, imms]
        exact ⟨_, 2, ⟨rfl, rfl⟩, rfl, fun h => absurd (by obtain ⟨_, _, _, _, _, g, _⟩ := good2 h; exact g) hPC⟩
theorem Un8_any {d : Nat} {H : PT HB} {n : Nat} {w : IV} {bs : List UInt8} (hw : Sl 1 w (bs.map ivY)) (hb : bs.length ≤ 4500) :
    Fe (K DG (d + 3) 17 [.imm w] H n 0) (fun v H' n' => n ≤ n' ∧ (∀ j, j < n → H'.get j = H.get j) ∧ ∃ x e, v = .tup [x, .imm (.int .i64 e)] ∧ x.scal = true ∧ (unF bs ≠ none → e = 0)) := by
  rcases hw with ⟨rfl, h⟩ | ⟨f, rfl⟩
  · obtain rfl : bs = [] := by simpa using h
    have i0 : ILt 0 7 = True := ilt_t (by omega)
    rw [D.k17]
    refine fn_dw rfl ?_
    simp [i0, B6, undT, fnEnd, argsT, PT.get_put, keep, opRun, ev, evs, evO, give, giveI, binOf, isNilK, PM.flip, putT, putL, putH, loadOf, storeOf, cut, over, ofCells, asNat, natOr, calm, clashes, Acc.clash, ressOf, resOf, frz, frz.frzs, DV.flat, DV.flat.flats, imms]
    exact ⟨_, 2, ⟨rfl, rfl⟩, rfl, fun h => absurd (by unfold unF; rw [if_pos (by simp)]) h⟩
  · exact Un8_fn hb
end Go.Proofs.YtnpcgejfkonfdaaDoor.D

-- PUnitHears
set_option linter.unusedVariables false
set_option linter.unusedSimpArgs false
set_option maxHeartbeats 16000000
namespace Go.Proofs.YtnpcgejfkonfdaaDoor.D
open Go Go.PM Go.Lib

def am (z m : Int) : Int := IntKind.i64.wrap (((BitVec.ofInt IntKind.i64.bits z &&& BitVec.ofInt IntKind.i64.bits m).toNat : Nat) : Int)
theorem bd_am {z m : Int} : binInt .and .i64 z m = some (.int .i64 (am z m)) := rfl
theorem am3_in (z : Int) : 0 ≤ am z 3 ∧ am z 3 < 4 := by
  have h : (BitVec.ofInt IntKind.i64.bits z &&& BitVec.ofInt IntKind.i64.bits 3).toNat < 4 := by
    have h3 : (BitVec.ofInt IntKind.i64.bits 3).toNat = 3 := rfl
    rw [BitVec.toNat_and, h3]
    have := Nat.and_lt_two_pow (x := (BitVec.ofInt IntKind.i64.bits z).toNat) (y := 3) (n := 2) (by omega)
    simpa using this
  unfold am
  rw [wr_id (by omega) (by omega)]
  omega
theorem am7_in (z : Int) : 0 ≤ am z 7 ∧ am z 7 < 8 := by
  have h : (BitVec.ofInt IntKind.i64.bits z &&& BitVec.ofInt IntKind.i64.bits 7).toNat < 8 := by
    have h3 : (BitVec.ofInt IntKind.i64.bits 7).toNat = 7 := rfl
    rw [BitVec.toNat_and, h3]
    have := Nat.and_lt_two_pow (x := (BitVec.ofInt IntKind.i64.bits z).toNat) (y := 7) (n := 3) (by omega)
    simpa using this
  unfold am
  rw [wr_id (by omega) (by omega)]
  omega
theorem wf_u8 {n : Int} (h : (Lit.int .u8 n).wf = true) : 0 ≤ n ∧ n < 256 := by
  simp only [Lit.wf, IntKind.min, IntKind.max, IntKind.signed, IntKind.bits] at h
  simp at h
  omega
theorem byte_row {z : Int} (h : 0 ≤ z ∧ z < 256) : ∃ b : UInt8, [IV.int .u8 z] = ivY b := by
  refine ⟨UInt8.ofNat z.toNat, ?_⟩
  show [IV.int .u8 z] = [IV.int .u8 ((UInt8.ofNat z.toNat).toNat : Int)]
  rw [UInt8.toNat_ofNat', Nat.mod_eq_of_lt (by omega)]
  congr 2
  omega
theorem bytes_of {iv : IV} (h : FitK (.sl [.i .u8]) iv) : ∃ bs : List UInt8, Sl 1 iv (bs.map ivY) ∧ bs.length ≤ reachBytes ∧ ∀ b ∈ bs, True :=
  rows_of h ivY _ fun e hl hk => by
    match e, hl with
    | [c], _ =>
      have f0 := hk 0 _ _ rfl rfl
      cases f0 with
      | i h =>
        obtain ⟨b, hb⟩ := byte_row (wf_u8 h)
        exact ⟨b, hb, trivial⟩
theorem sl_rs0 : Sl 4 (.lst true 4 [[.int .i64 0, .int .i64 0, .int .i64 0, .bool false]]) ([rs0].map ivRS) := .inr ⟨true, rfl⟩
theorem rs0_can : ∀ x ∈ [rs0], (-9223372036854775808 ≤ x.mode ∧ x.mode ≤ 9223372036854775807) ∧ (-9223372036854775808 ≤ x.timer ∧ x.timer ≤ 9223372036854775807) ∧ (-9223372036854775808 ≤ x.gone ∧ x.gone ≤ 9223372036854775807) := fun x hx => by
  simp at hx
  subst hx
  simp [rs0]
abbrev rs9 : Rst := ⟨9, 0, 0, false⟩
theorem sl_rs9 : Sl 4 (.lst true 4 [[.int .i64 9, .int .i64 0, .int .i64 0, .bool false]]) ([rs9].map ivRS) := .inr ⟨true, rfl⟩
def cpOf (e c : Int) : Option (Int × Int × List Rst) := if e < 0 then none else some (e, c, [rs0])
/-- a standby that has heard a telegram -/
def heU (e c : Int) : US := ⟨[rs0], 0, 0, false, cpOf e c, 2, 0, 0, 0⟩
/-- is it a newer one? -/
def Newer (e c a b : Int) : Prop := e < a ∨ (a = e ∧ c < b)
instance (e c a b : Int) : Decidable (Newer e c a b) := by unfold Newer; infer_instance
theorem he_good {l : Lo} (h : AsOne l) {e c a b : Int} (he : -1 ≤ e ∧ e ≤ 3) (hc : e < 0 → c = -1) (ha : 0 ≤ a ∧ a < 4) (hb : 0 ≤ b ∧ b < 8) :
    hearF l (heU e c) (tel a b [rs0]) = if Newer e c a b then heU a b else heU e c := by
  have iq : INV l [rs0] := one_inv h RsOk.idle
  by_cases hn : Newer e c a b
  · have ho : ¬ OldP (heU e c) a b := fun ⟨e', c', qs, h1, h2⟩ => by
      have h3 : cpOf e c = some (e', c', qs) := h1
      unfold cpOf at h3
      split at h3
      · cases h3
      · cases h3
        unfold Newer at hn
        omega
    rw [if_pos hn, hear_tel (by omega) (by omega) rs0_can (by simp) rfl ho iq]
    have : cpOf a b = some (a, b, [rs0]) := if_neg (by omega)
    simp only [heU, this]
  · rw [if_neg hn]
    have hce : ¬ e < 0 := fun h0 => hn (.inl (by omega))
    have ho : OldP (heU e c) a b := ⟨e, c, [rs0], if_neg hce, by unfold Newer at hn; omega⟩
    unfold hearF
    rw [if_neg (by simp [heU])]
    split
    · rfl
    · rename_i ts hts
      split
      · rfl
      · rename_i e2 c2 qs hr
        obtain ⟨l1, l2, l3, l4⟩ := layT_ok a b (rs := [rs0]) (by simp)
        have hu : unF (tel a b [rs0]) = some (layT a b [rs0]) := by
          refine unF_teleg (fun t ht => ?_) l1 l4
          simp only [layT, List.mem_cons, List.mem_map] at ht
          rcases ht with rfl | ⟨z, hz, rfl⟩
          · show (5 : Nat) ≤ 200; omega
          · show _ ∧ _
            rcases hz with rfl | rfl | rfl | hz
            · omega
            · omega
            · simp
            · simp [ofF, of1, bi] at hz; omega
        rw [hu] at hts
        cases hts
        rw [readF_lay] at hr
        cases hr
        rw [if_pos ho]
theorem he_bad {l : Lo} (h : AsOne l) {e c : Int} : hearF l (heU e c) (tel 9 9 [rs9]) = heU e c := by
  have hni : ¬ INV l [rs9] := fun h9 => by
    have := (h9.ro 0 (by rw [one_len h]; omega)).md
    simp [nth] at this
  unfold hearF
  rw [if_neg (by simp [heU])]
  split
  · rfl
  · rename_i ts hts
    split
    · rfl
    · rename_i e2 c2 qs hr
      obtain ⟨l1, l2, l3, l4⟩ := layT_ok 9 9 (rs := [rs9]) (by simp)
      have hu : unF (tel 9 9 [rs9]) = some (layT 9 9 [rs9]) := by
        refine unF_teleg (fun t ht => ?_) l1 l4
        simp only [layT, List.mem_cons, List.mem_map] at ht
        rcases ht with rfl | ⟨z, hz, rfl⟩
        · show (5 : Nat) ≤ 200; omega
        · show _ ∧ _
          rcases hz with rfl | rfl | rfl | hz
          · omega
          · omega
          · simp
          · simp [ofF, of1, bi] at hz; omega
      rw [hu] at hts
      cases hts
      rw [readF_lay] at hr
      cases hr
      split
      · rfl
      · first | rfl | exact if_neg hni
theorem he_junk {l : Lo} {u : US} {bs : List UInt8} (h : unF bs = none) : hearF l u bs = u := by
  unfold hearF
  rw [h]
  split <;> rfl
theorem tel_short (e c : Int) {rs : List Rst} (hl : rs.length ≤ 20) : (tel e c rs).length ≤ 100000 := by
  obtain ⟨_, _, _, h⟩ := layT_ok e c hl
  simp only [tel, teleg, List.length_append, numY_len]
  omega
theorem laid_w {E N : Int} {y : Rst} (v : IV) (hv : Sl 4 v ([y].map ivRS)) : ∃ g, bl (K DG 29) 19 [.agg [.imm (.int .i64 0), .imm (.bool false), .imm (.int .i64 E), .imm (.int .i64 N), .imm v, .imm .nils, .imm .nils, .imm .nils, .imm .nils]] = some (.imm (.lst g 1 ((tel E N [y]).map ivY))) :=
  laid_bl (d := 25) (k := .int .i64 0) (f := .bool false) (b := .nils) (o := .nils) (l := .nils) (c := .nils) (E := E) (N := N) ⟨rfl, rfl, rfl, rfl, rfl, rfl⟩ hv (by simp)
theorem hear_w {l : Lo} (ho : AsOne l) {H : PT HB} {n a : Nat} {e c : Int} (u : UI (fun _ => True) l H n a (heU e c)) {w : IV} {bs : List UInt8} (hw : Sl 1 w (bs.map ivY)) (hl : bs.length ≤ 100000) {e' c' : Int} (hh : hearF l (heU e c) bs = heU e' c') :
    ∃ v H' n', K DG 29 18 [.ptr a 0 0, .imm w] H n 0 = some (v, H', n') ∧ n ≤ n' ∧ UI (fun _ => True) l H' n' a (heU e' c') := by
  obtain ⟨v, H', n', e1, hn, u', _⟩ := Hear_fn (d := 17) ho.ok ho.is u (fun j hj => trivial) (one_inv ho RsOk.idle) hw hl
  rw [hh] at u'
  exact ⟨v, H', n', e1, hn, u'⟩
theorem three {l : Lo} (ho : AsOne l) {jv : IV} {bs : List UInt8} (hj : Sl 1 jv (bs.map ivY)) (hjl : bs.length ≤ 300) (hju : unF bs = none) {H : PT HB} {n a : Nat} {e c A B : Int} (he : -1 ≤ e ∧ e ≤ 3) (hec : e < 0 → c = -1) (hA : 0 ≤ A ∧ A < 4) (hB : 0 ≤ B ∧ B < 8) (u : UI (fun _ => True) l H n a (heU e c)) :
    ∃ w1 v2 H2 n2 v3 H3 n3 w4 v5 H5 n5 e' c', bl (K DG 29) 19 [.agg [.imm (.int .i64 0), .imm (.bool false), .imm (.int .i64 A), .imm (.int .i64 B), .imm (.lst true 4 [[.int .i64 0, .int .i64 0, .int .i64 0, .bool false]]), .imm .nils, .imm .nils, .imm .nils, .imm .nils]] = some (.imm w1) ∧ K DG 29 18 [.ptr a 0 0, .imm w1] H n 0 = some (v2, H2, n2) ∧ K DG 29 18 [.ptr a 0 0, .imm jv] H2 n2 0 = some (v3, H3, n3) ∧
      bl (K DG 29) 19 [.agg [.imm (.int .i64 0), .imm (.bool false), .imm (.int .i64 9), .imm (.int .i64 9), .imm (.lst true 4 [[.int .i64 9, .int .i64 0, .int .i64 0, .bool false]]), .imm .nils, .imm .nils, .imm .nils, .imm .nils]] = some (.imm w4) ∧ K DG 29 18 [.ptr a 0 0, .imm w4] H3 n3 0 = some (v5, H5, n5) ∧
      ((Newer e c A B ∧ e' = A ∧ c' = B) ∨ (¬ Newer e c A B ∧ e' = e ∧ c' = c)) ∧ UI (fun _ => True) l H5 n5 a (heU e' c') := by
  obtain ⟨g1, e1⟩ := laid_w (E := A) (N := B) _ sl_rs0
  obtain ⟨e', c', hE, hnw⟩ : ∃ e' c', (if Newer e c A B then heU A B else heU e c) = heU e' c' ∧ ((Newer e c A B ∧ e' = A ∧ c' = B) ∨ (¬ Newer e c A B ∧ e' = e ∧ c' = c)) := by
    by_cases hn : Newer e c A B
    · exact ⟨A, B, if_pos hn, .inl ⟨hn, rfl, rfl⟩⟩
    · exact ⟨e, c, if_neg hn, .inr ⟨hn, rfl, rfl⟩⟩
  obtain ⟨v2, H2, n2, e2, hn2, u2⟩ := hear_w ho u (w := .lst g1 1 ((tel A B [rs0]).map ivY)) (bs := tel A B [rs0]) (.inr ⟨g1, rfl⟩) (tel_short _ _ (by simp)) ((he_good ho he hec hA hB).trans hE)
  obtain ⟨v3, H3, n3, e3, hn3, u3⟩ := hear_w ho u2 hj (by omega) (he_junk hju)
  obtain ⟨g4, e4⟩ := laid_w (E := 9) (N := 9) _ sl_rs9
  have hb := fun {e c : Int} => he_bad ho (e := e) (c := c)
  have ts := tel_short 9 9 (rs := [rs9]) (by simp)
  generalize tel 9 9 [rs9] = t9 at *
  obtain ⟨v5, H5, n5, e5, hn5, u5⟩ := hear_w ho u3 (w := .lst g4 1 (t9.map ivY)) (bs := t9) (.inr ⟨g4, rfl⟩) ts hb
  exact ⟨_, v2, H2, n2, v3, H3, n3, _, v5, H5, n5, e', c', e1, e2, e3, e4, e5, hnw, u5⟩
structure IHe (l : Lo) (lv jv : IV) (zs : List Int) (a : Nat) (i : Nat) (st : St) : Prop where
  c0 : st.T.get 0 = some (.imm lv)
  c1 : st.T.get 1 = some (.imm jv)
  c7 : st.T.get 7 = some (.ptr a 0 0)
  c11 : st.T.get 11 = some (.imm (.int .i64 (i : Int)))
  u : ∃ e c, st.T.get 9 = some (.imm (.int .i64 e)) ∧ st.T.get 10 = some (.imm (.int .i64 c)) ∧ (-1 ≤ e ∧ e ≤ 3) ∧ (-1 ≤ c ∧ c ≤ 7) ∧ (e < 0 → c = -1) ∧ UI (fun _ => True) l st.H st.n a (heU e c)
theorem loopHe {l : Lo} (ho : AsOne l) {lv jv : IV} {zs : List Int} {bs : List UInt8} (hv : Sl 1 lv (zs.map ivI)) (hl : zs.length ≤ 20) (hj : Sl 1 jv (bs.map ivY)) (hjl : bs.length ≤ 300) (hju : unF bs = none) {a : Nat} {st : St} (h : IHe l lv jv zs a 0 st) {ks : List Kf} {Q : Ex → St → Prop}
    (hk : ∀ s', IHe l lv jv zs a zs.length s' → Bk DG (K DG 29) 0 (.exit 0) ks s' Q) : Wp DG (K DG 29) 0 D.l4_0 ks st Q := by
  refine dw_loop (N := zs.length) (small (by have := rb3; omega)) (fun i st => IHe l lv jv zs a i st) (fun e s' => e = .exit 0 ∧ IHe l lv jv zs a zs.length s') (fun i st hle hI => ?_) h (fun e s' h => by
    obtain ⟨rfl, h⟩ := h
    exact hk s' h)
  obtain ⟨c0, c1, c7, c11, e, c, c9, c10, he, hc, hec, u⟩ := hI
  have vs := hv.scal
  have js := hj.scal
  have vl := hv.len
  simp only [List.length_map] at vl
  by_cases hi : i < zs.length
  · have hi1 : (i : Int) < zs.length := by omega
    have hi' := ilt_t hi1
    have hw8 : IntKind.i64.wrap ((i : Int) + 1) = (i : Int) + 1 := wr_succ hi (by have := rb3; omega)
    have ix := fun {h : Nat → Option HB} {n : Nat} => idx_sl (h := h) (n := n) hv (by omega) (k := .i64) (z := (i : Int)) (by omega) hi1
    simp only [Int.toNat_natCast] at ix
    generalize nth zs i = z at *
    obtain ⟨A, b1, hA⟩ : ∃ A, binInt .and .i64 z 3 = some (.int .i64 A) ∧ (0 ≤ A ∧ A < 4) := ⟨_, bd_am, am3_in z⟩
    obtain ⟨B, b2, hB⟩ : ∃ B, binInt .and .i64 (z.fdiv 4) 7 = some (.int .i64 B) ∧ (0 ≤ B ∧ B < 8) := ⟨_, bd_am, am7_in (z.fdiv 4)⟩
    obtain ⟨w1, v2, H2, n2, v3, H3, n3, w4, v5, H5, n5, e', c', e1, e2, e3, e4, e5, hnw, u5⟩ := three ho hj hjl hju he hec hA hB u
    have m2 : (2 : Int) ^ min 2 IntKind.i64.bits = 4 := by decide
    rcases hnw with ⟨hn, rfl, rfl⟩ | ⟨hn, rfl, rfl⟩
    · rcases hn with hn | ⟨hn1, hn2'⟩
      · generalize hQ : (fun (e : Ex) (s' : St) => _) = Q'
        simp only [D.l4_0b]
        simp [c0, c1, c7, c9, c10, c11, vs, vl, js, hi', hw8, ix, m2, b1, b2, e1, e2, e3, e4, e5, ilt_t hn, ivI, evParts, evParts2, lay, unImms, unImm, mapO, rowsN, imms, B6, undT, fnEnd, argsT, PT.get_put, keep, opRun, ev, evs, evO, give, giveI, binOf, isNilK, PM.flip, putT, putL, putH, loadOf, storeOf, cut, over, ofCells, asNat, natOr, calm, clashes, Acc.clash, ressOf, resOf, frz, frz.frzs, DV.flat, DV.flat.flats, imms]
        subst hQ
        exact .inl ⟨rfl, hi, by simp [PT.get_put], by simp [PT.get_put], by simp [PT.get_put], by simp [PT.get_put], e', c', by simp [PT.get_put], by simp [PT.get_put], by omega, by omega, by omega, u5⟩
      · subst hn1
        generalize hQ : (fun (e : Ex) (s' : St) => _) = Q'
        simp only [D.l4_0b]
        simp [c0, c1, c7, c9, c10, c11, vs, vl, js, hi', hw8, ix, m2, b1, b2, e1, e2, e3, e4, e5, ilt_f (Int.le_refl e'), ilt_t hn2', ivI, evParts, evParts2, lay, unImms, unImm, mapO, rowsN, imms, B6, undT, fnEnd, argsT, PT.get_put, keep, opRun, ev, evs, evO, give, giveI, binOf, isNilK, PM.flip, putT, putL, putH, loadOf, storeOf, cut, over, ofCells, asNat, natOr, calm, clashes, Acc.clash, ressOf, resOf, frz, frz.frzs, DV.flat, DV.flat.flats, imms]
        subst hQ
        exact .inl ⟨rfl, hi, by simp [PT.get_put], by simp [PT.get_put], by simp [PT.get_put], by simp [PT.get_put], e', c', by simp [PT.get_put], by simp [PT.get_put], by omega, by omega, by omega, u5⟩
    · have hn1 : A ≤ e' := by unfold Newer at hn; omega
      by_cases hq : A = e'
      · have hn2' : B ≤ c' := by unfold Newer at hn; omega
        subst hq
        generalize hQ : (fun (e : Ex) (s' : St) => _) = Q'
        simp only [D.l4_0b]
        simp [c0, c1, c7, c9, c10, c11, vs, vl, js, hi', hw8, ix, m2, b1, b2, e1, e2, e3, e4, e5, ilt_f (Int.le_refl A), ilt_f hn2', ivI, evParts, evParts2, lay, unImms, unImm, mapO, rowsN, imms, B6, undT, fnEnd, argsT, PT.get_put, keep, opRun, ev, evs, evO, give, giveI, binOf, isNilK, PM.flip, putT, putL, putH, loadOf, storeOf, cut, over, ofCells, asNat, natOr, calm, clashes, Acc.clash, ressOf, resOf, frz, frz.frzs, DV.flat, DV.flat.flats, imms]
        subst hQ
        exact .inl ⟨rfl, hi, by simp [PT.get_put], by simp [PT.get_put], by simp [PT.get_put], by simp [PT.get_put], A, c', by simp [PT.get_put], by simp [PT.get_put], by omega, by omega, by omega, u5⟩
      · generalize hQ : (fun (e : Ex) (s' : St) => _) = Q'
        simp only [D.l4_0b]
        simp [c0, c1, c7, c9, c10, c11, vs, vl, js, hi', hw8, ix, m2, b1, b2, e1, e2, e3, e4, e5, ilt_f hn1, hq, ivI, evParts, evParts2, lay, unImms, unImm, mapO, rowsN, imms, B6, undT, fnEnd, argsT, PT.get_put, keep, opRun, ev, evs, evO, give, giveI, binOf, isNilK, PM.flip, putT, putL, putH, loadOf, storeOf, cut, over, ofCells, asNat, natOr, calm, clashes, Acc.clash, ressOf, resOf, frz, frz.frzs, DV.flat, DV.flat.flats, imms]
        subst hQ
        exact .inl ⟨rfl, hi, by simp [PT.get_put], by simp [PT.get_put], by simp [PT.get_put], by simp [PT.get_put], e', c', by simp [PT.get_put], by simp [PT.get_put], by omega, by omega, by omega, u5⟩
  · obtain rfl : i = zs.length := by omega
    generalize hQ : (fun (e : Ex) (s' : St) => _) = Q'
    simp only [D.l4_0b]
    simp [c0, c1, c7, c9, c10, c11, vs, vl, js, B6, undT, fnEnd, argsT, PT.get_put, keep, opRun, ev, evs, evO, give, giveI, binOf, isNilK, PM.flip, putT, putL, putH, loadOf, storeOf, cut, over, ofCells, asNat, natOr, calm, clashes, Acc.clash, ressOf, resOf, frz, frz.frzs, DV.flat, DV.flat.flats, imms]
    subst hQ
    exact .inr ⟨nofun, rfl, by simp [PT.get_put, c0], by simp [PT.get_put, c1], by simp [PT.get_put, c7], by simp [PT.get_put, c11], e, c, by simp [PT.get_put, c9], by simp [PT.get_put, c10], he, hc, hec, u⟩
def ss_UnitHears : List (Bool × List Kd) := [(false, [.sl [.i .i64]]), (false, [.sl [.i .u8]])]
theorem pure_UnitHears : ∀ cs, ArgsFit ss_UnitHears cs → ∃ H' n', K (doorG 0 1) 30 4 cs .lf 0 0 = some (.imm (.bool true), H', n') := fun cs h0 => by
  obtain ⟨d0, r0, rfl, g0, h1⟩ := fit_cons h0
  obtain ⟨lv, rfl, hlv⟩ := fit_s g0
  obtain ⟨zs, hv, hzl, _⟩ := ints_of hlv
  obtain ⟨d1, r1, rfl, g1, h2⟩ := fit_cons h1
  obtain ⟨jv, rfl, hjv⟩ := fit_s g1
  obtain ⟨bs, hj, hbl, _⟩ := bytes_of hjv
  cases fit0 (r := []) h2
  have vs := hv.scal
  have vl := hv.len
  have js := hj.scal
  have jl := hj.len
  simp only [List.length_map] at vl jl
  have key : Fe (K DG (29 + 1) 4 [.imm lv, .imm jv] .lf 0 0) (fun v _ _ => v = .imm (.bool true)) := by
    rw [D.k4]
    refine fn_dw rfl ?_
    by_cases c1 : (20 : Int) < zs.length
    · simp [vs, vl, js, jl, ilt_t c1, B6, undT, fnEnd, argsT, PT.get_put, keep, opRun, ev, evs, evO, give, giveI, binOf, isNilK, PM.flip, putT, putL, putH, loadOf, storeOf, cut, over, ofCells, asNat, natOr, calm, clashes, Acc.clash, ressOf, resOf, frz, frz.frzs, DV.flat, DV.flat.flats, imms]
    by_cases c2 : (300 : Int) < bs.length
    · simp [vs, vl, js, jl, ilt_f (Int.not_lt.1 c1), ilt_t c2, B6, undT, fnEnd, argsT, PT.get_put, keep, opRun, ev, evs, evO, give, giveI, binOf, isNilK, PM.flip, putT, putL, putH, loadOf, storeOf, cut, over, ofCells, asNat, natOr, calm, clashes, Acc.clash, ressOf, resOf, frz, frz.frzs, DV.flat, DV.flat.flats, imms]
    have i1 := ilt_f (Int.not_lt.1 c1)
    have i2 := ilt_f (Int.not_lt.1 c2)
    obtain ⟨vu, Hu, nu, e1, hnu, fu, xu, eu, rfl, xs, hun⟩ := Un8_any (d := 26) (H := .lf) (n := 0) hj (by omega)
    simp only [Nat.reduceAdd] at e1
    by_cases h0 : eu = 0
    · subst h0
      simp [vs, vl, js, jl, i1, i2, e1, xs, B6, undT, fnEnd, argsT, PT.get_put, keep, opRun, ev, evs, evO, give, giveI, binOf, isNilK, PM.flip, putT, putL, putH, loadOf, storeOf, cut, over, ofCells, asNat, natOr, calm, clashes, Acc.clash, ressOf, resOf, frz, frz.frzs, DV.flat, DV.flat.flats, imms]
    have hju : unF bs = none := Classical.byContradiction fun h => h0 (hun h)
    have e0 := layOne_bl (d := 28)
    obtain ⟨a, l, H2, n2, e2, hn2, ho, u2, ha, f2⟩ := newOne (D := 29) (.inr rfl) (Z := fun _ => True) Hu nu (fun _ _ => trivial)
    have hnew : newU l = heU (-1) (-1) := by simp only [newU, heU, one_rep ho]; rfl
    rw [hnew] at u2
    have e20 := known_bl
    simp only [Nat.reduceAdd] at e0
    simp [vs, vl, js, jl, i1, i2, e1, xs, h0, e0, e2, B6, undT, fnEnd, argsT, PT.get_put, keep, opRun, ev, evs, evO, give, giveI, binOf, isNilK, PM.flip, putT, putL, putH, loadOf, storeOf, cut, over, ofCells, asNat, natOr, calm, clashes, Acc.clash, ressOf, resOf, frz, frz.frzs, DV.flat, DV.flat.flats, imms]
    refine loopHe ho hv (by omega) hj (by omega) hju (a := a) ⟨by simp [PT.get_put], by simp [PT.get_put], by simp [PT.get_put], by simp [PT.get_put], -1, -1, by simp [PT.get_put], by simp [PT.get_put], by omega, by omega, by omega, u2.mono (by simp) (fun _ _ h => h) (fun _ _ _ => rfl)⟩ (fun s' hI => ?_)
    obtain ⟨c0, c1', c7, c11, e, c, c9, c10, he, hc, hec, u⟩ := hI
    by_cases hneg : e < 0
    · simp [c0, c1', c7, c9, c10, c11, ilt_t hneg, e20, B6, undT, fnEnd, argsT, PT.get_put, keep, opRun, ev, evs, evO, give, giveI, binOf, isNilK, PM.flip, putT, putL, putH, loadOf, storeOf, cut, over, ofCells, asNat, natOr, calm, clashes, Acc.clash, ressOf, resOf, frz, frz.frzs, DV.flat, DV.flat.flats, imms]
    · have i3 := ilt_f (Int.not_lt.1 hneg)
      have we : IntKind.i64.wrap (e + 1) = e + 1 := wr_id (by omega) (by omega)
      have hcp : cpOf e c = some (e, c, [rs0]) := if_neg hneg
      obtain ⟨v4, H4, n4, e4, hn4, u4, f4⟩ := Granted_fn (d := 25) (by omega) ho.ok ho.is u (fun j hj => trivial) (fun e' c' qs h => by
        have h3 : cpOf e c = some (e', c', qs) := h
        rw [hcp] at h3
        cases h3
        exact one_inv ho RsOk.idle) (e := e + 1) (k := c) (by omega) (by simp [heU]) (by simp [heU])
      have hg : grantF l (heU e c) (e + 1) c = ⟨[rs0], e + 1, 5, true, none, 3, 0, c, 0⟩ := by
        unfold grantF
        rw [if_neg (by simp [Wk, heU]), if_pos (.inr rfl)]
        simp [begF, granted, noCp, heU, hcp]
      rw [hg] at u4
      obtain ⟨p, q, own, x, h4⟩ := u4
      obtain ⟨k5, e5, hk5⟩ := u_mode h4 (d := 28) (m := n4) (lo := 0)
      obtain ⟨k6, e6, hk6⟩ := u_count h4 (d := 28) (m := k5) (lo := 0)
      simp only [Nat.reduceAdd] at e4 e5 e6
      simp [c0, c1', c7, c9, c10, c11, i3, we, e4, e5, e6, e20, B6, undT, fnEnd, argsT, PT.get_put, keep, opRun, ev, evs, evO, give, giveI, binOf, isNilK, PM.flip, putT, putL, putH, loadOf, storeOf, cut, over, ofCells, asNat, natOr, calm, clashes, Acc.clash, ressOf, resOf, frz, frz.frzs, DV.flat, DV.flat.flats, imms]
  obtain ⟨v, H', n', e, rfl⟩ := key
  exact ⟨H', n', e⟩
end Go.Proofs.YtnpcgejfkonfdaaDoor.D
