/-
  LockErrs over D.
-/
import Derived.Test.YtkgjgehffijepaaDoorT4
import Derived.Test.YtkgjgehffijepaaDoorK24
import Derived.Test.YtkgjgehffijepaaDoorK27
set_option linter.unusedVariables false
set_option linter.unusedSimpArgs false
set_option maxHeartbeats 16000000
namespace Go.Proofs.YtkgjgehffijepaaDoor.D
open Go Go.PM Go.Lib
def ss_LockErrs : List (Bool × List Kd) := [(true, kdL), (false, [.sl kdAc]), (true, kdAc)]
theorem Cycle5_all {d : Nat} (hd : 6 ≤ d) {H : PT HB} {p : Nat} {own : List Nat} {l : Lo} {rs : List Rst} (ok : LoOk l) (is : ISL l) (lk : LkAt H p own l rs) (inv : INV l rs) {ov lv : IV} {os : List Bool} {ls : List Int} (io : InOk ov lv os ls) {n : Nat} (hpn : ∀ i ∈ p :: own, i < n) :
    ∃ H' n', K DG (d + 1) 25 [.ptr p 0 0, inD ov lv] H n 0 = some (.agg [.sl (n + 2 + 1) 0 l.pts.length l.pts.length, .sl (n + 2 + 2) 0 l.sigs.length l.sigs.length], H', n') ∧ n + 5 ≤ n' ∧ (∀ j, j ∉ own → j < n → H'.get j = H.get j) ∧
      LkAt H' p own l (cycF l rs os ls).1 ∧ H'.get (n + 2 + 1) = some ⟨1, (cycF l rs os ls).2.1.map rowI⟩ ∧ H'.get (n + 2 + 2) = some ⟨1, (cycF l rs os ls).2.2.map rowB⟩ := by
  by_cases mi : MI l os ls
  · obtain ⟨v, H', n', e, rfl, hn, fr, qs, lk', hq, h1, h2⟩ := Cycle5_fn hd ok is lk inv.ro io mi hpn
    obtain rfl := stpF_eq (by obtain ⟨_, _, _, _, h⟩ := lk'; exact h) hq
    refine ⟨H', n', e, hn, fr, ?_⟩
    unfold cycF
    rw [dec_t mi]
    exact ⟨lk', h1, h2⟩
  · obtain ⟨v, H', n', e, rfl, hn, hH⟩ := Cycle5_err (d := d) (by omega) ok is.p2 is.g2 lk io mi hpn
    have hf : ∀ j, j < n → H'.get j = H.get j := fun j hj => by
      have b1 : ¬ j = n + 2 + 1 := by omega
      have b2 : ¬ j = n + 2 + 2 := by omega
      rw [hH]; simp [PT.get_put, b1, b2]
    refine ⟨H', n', e, by omega, fun j _ hj => hf j hj, ?_⟩
    unfold cycF
    rw [dec_f mi]
    refine ⟨lk.mono fun i hi => hf i (hpn i hi), ?_, ?_⟩
    · have : ¬ n + 2 + 1 = n + 2 + 2 := by omega
      rw [hH]; simp [PT.get_put, this, rowI, imms]
    · rw [hH]; simp [PT.get_put, rowB, imms]
theorem Two.cmd5 {d : Nat} (hd : 5 ≤ d) {H : PT HB} {n p q : Nat} {l k : Lo} {rs qs : List Rst} (h : Two H n p q l k rs qs) (ok : LoOk k) (is : ISL k) (inv : INV k qs) {ov lv : IV} {os : List Bool} {ls : List Int} (io : InOk ov lv os ls) (c r : Int) :
    ∃ v H1 n1, K DG (d + 1) 24 [.ptr q 0 0, inD ov lv, .agg [.imm (.int .i64 c), .imm (.int .i64 r)]] H n 0 = some (v, H1, n1) ∧ n ≤ n1 ∧ Two H1 n1 p q l k rs (cmdF k qs os ls c r).2 := by
  obtain ⟨o, o', a, b, hc, hd', e⟩ := h
  obtain ⟨H1, n1, e1, lk1, hn1, fr1⟩ := Command5_run hd ok is b (go_of inv.ro) io c r (n := n)
  exact ⟨_, H1, n1, e1, hn1, o, o', a.mono fun i hi => fr1 i fun hi' => e i hi (by simp [hi']), lk1, fun j hj => by have := hc j hj; omega, fun j hj => by have := hd' j hj; omega, e⟩
theorem Two.cyc5 {d : Nat} (hd : 6 ≤ d) {H : PT HB} {n p q : Nat} {l k : Lo} {rs qs : List Rst} (h : Two H n p q l k rs qs) (ok : LoOk k) (is : ISL k) (inv : INV k qs) {ov lv : IV} {os : List Bool} {ls : List Int} (io : InOk ov lv os ls) :
    ∃ v H1 n1, K DG (d + 1) 25 [.ptr q 0 0, inD ov lv] H n 0 = some (v, H1, n1) ∧ n ≤ n1 ∧ Two H1 n1 p q l k rs (cycF k qs os ls).1 := by
  obtain ⟨o, o', a, b, hc, hd', e⟩ := h
  obtain ⟨H1, n1, e1, hn1, fr1, lk1, h1, h2⟩ := Cycle5_all hd ok is b inv io hd'
  exact ⟨_, H1, n1, e1, by omega, o, o', a.mono fun i hi => fr1 i (fun hi' => e i hi (by simp [hi'])) (hc i hi), lk1, fun j hj => by have := hc j hj; omega, fun j hj => by have := hd' j hj; omega, e⟩
theorem Safe5_ro {d : Nat} {H : PT HB} {p : Nat} {own : List Nat} {l : Lo} {rs : List Rst} (ok : LoOk l) (p5 : l.pts.length ≤ 5) (g6 : l.sigs.length ≤ 6) (lk : LkAt H p own l rs) {n lo : Nat} (hpn : p < n) :
    callM (K DG (d + 1)) .ro 49 [.ptr p 0 0] H n lo = some ⟨safeV l, H, n + 3, [.rA]⟩ := by
  obtain ⟨v, H1, n1, e, rfl, rfl, rfl⟩ := Safe5_run (d := d) ok p5 g6 lk (n := n) (lo := n) hpn
  have z1 := zeros_sl (n := n) (lo := n) (id := n + 1) (k := l.pts.length) (sz := 1) (r := [.int .i64 0]) (H := (H.put (n + 1) (some ⟨1, List.replicate l.pts.length (imms [.int .i64 0])⟩)).put (n + 2) (some ⟨1, List.replicate l.sigs.length (imms [.bool false])⟩)) (by
    have : ¬ n + 1 = n + 2 := by omega
    simp [PT.get_put, this]) (by omega)
  have z2 := zeros_sl (n := n) (lo := n) (id := n + 2) (k := l.sigs.length) (sz := 1) (r := [.bool false]) (H := (H.put (n + 1) (some ⟨1, List.replicate l.pts.length (imms [.int .i64 0])⟩)).put (n + 2) (some ⟨1, List.replicate l.sigs.length (imms [.bool false])⟩)) (by
    simp [PT.get_put]) (by omega)
  have ho : DV.out.outs [DV.ptr p 0 0] = true := rfl
  rw [callM_ro, if_pos ho, e]
  simp only
  show ((frz.frzs _ n _).map DV.agg).map _ = _
  simp only [frz.frzs, z1, z2]
  rfl
theorem alike_run {d : Nat} (hd : 4 ≤ d) {H : PT HB} {n lo p q : Nat} {l k : Lo} (eq : LoEq k l) {rs : List Rst} (h : Two H n p q l k rs rs) (ok : LoOk l) (is : ISL l) (okk : LoOk k) (isk : ISL k) (inv : INV l rs) :
    ∃ H1 n1, K DG (d + 1) 26 [.ptr p 0 0, .ptr q 0 0] H n lo = some (.imm (.bool true), H1, n1) := by
  have hrb := rb3
  obtain ⟨o, o', a, b, hc, hd', hdis⟩ := h
  have b0 := b
  have ivk : INV k rs := eq.inv inv
  have sl := okk.s.len
  simp only [List.length_map] at sl
  have ls := okk.ls
  have hrl : rs.length ≤ 1000 := by have := is.r2; have := inv.ln; omega
  have s10 := isk.s2
  have hp := hc p (by simp)
  have hq := hd' q (by simp)
  obtain ⟨d, rfl⟩ : ∃ d', d = d' + 1 := ⟨d - 1, by omega⟩
  obtain ⟨w, m, er, hm, hw⟩ := Routes_ro (d := d) (by omega) hrl a (n := n) (lo := lo)
  have sf := Safe_ro (d := d) ok is.p2 is.g2 a (n := m) (lo := lo) (by omega)
  have sf5 := Safe5_ro (d := d) okk isk.p2 isk.g2 b (n := m + 3) (lo := lo) (by omega)
  have cp : l.pts.length = k.pts.length := by rw [eq.pts]
  have cs : l.sigs.length = k.sigs.length := by rw [eq.sigs]
  have so := SameOut_same (D := d + 1) (by omega) (a := .lst false 1 (List.replicate k.pts.length [.int .i64 0])) (a' := .lst false 1 (List.replicate k.pts.length [.int .i64 0])) (b := .lst false 1 (List.replicate k.sigs.length [.bool false])) (b' := .lst false 1 (List.replicate k.sigs.length [.bool false]))
    (ds := List.replicate k.pts.length 0) (ps := List.replicate k.sigs.length false) (.inr ⟨false, by simp [ivI]⟩) (.inr ⟨false, by simp [ivI]⟩) (.inr ⟨false, by simp [ivB1]⟩) (.inr ⟨false, by simp [ivB1]⟩) (by have := isk.p2; simp; omega) (by have := isk.g2; simp; omega)
  simp only [safeV, cp, cs] at sf sf5
  suffices key : Fe (K DG (d + 1 + 1) 26 [.ptr p 0 0, .ptr q 0 0] H n lo) (fun v H' n' => v = .imm (.bool true)) by
    obtain ⟨v, H', n', e, rfl⟩ := key
    exact ⟨H', n', e⟩
  obtain ⟨x, h1, h2, h3, h4⟩ := b
  -- the loop over the sections
  have loop : ∀ {ks : List Kf} {st : St} {Q : Ex → St → Prop}, st.T.get 0 = some (.ptr p 0 0) → st.T.get 1 = some (.ptr q 0 0) → st.T.get 5 = some (.imm (.int .i64 (-1))) → st.H = H → n ≤ st.n → (∀ st', Bk DG (K DG (d + 1)) lo (.exit 0) ks st' Q) → Wp DG (K DG (d + 1)) lo D.l26_0 ks st Q := by
    intro ks st Q e0 e1 e5 eH en hk
    refine dw_loop (N := k.secs.length + 2) (small (by omega)) (fun i st => st.T.get 0 = some (.ptr p 0 0) ∧ st.T.get 1 = some (.ptr q 0 0) ∧ st.T.get 5 = some (.imm (.int .i64 ((i : Int) - 1))) ∧ st.H = H ∧ n ≤ st.n) (fun e st' => e = .exit 0) (fun i st hle hI => ?_) ⟨e0, e1, by simpa using e5, eH, en⟩ (fun e s' h => by subst h; exact hk s')
    obtain ⟨g0, g1, g5, hH, hn⟩ := hI
    by_cases hi : i < k.secs.length + 2
    · have j1 := ilt_f (show ((i : Int) - 1) ≤ k.secs.length by omega)
      have hw8 : IntKind.i64.wrap ((i : Int) - 1 + 1) = ((i + 1 : Nat) : Int) - 1 := by rw [wr_id (by omega) (by omega)]; omega
      obtain ⟨n1, e1, hn1⟩ := Holder_run (d := d) (by omega) ok a (go_of inv.ro) is.p5 ((i : Int) - 1) (n := st.n) (lo := st.n)
      obtain ⟨n2, e2, hn2⟩ := Holder5_run (d := d) (by omega) okk isk b0 (go_of ivk.ro) ((i : Int) - 1) (n := n1) (lo := n1)
      rw [eq.hol] at e1
      generalize (i : Int) - 1 = z at *
      generalize hQ : (fun (e : Ex) (s' : St) => _) = Q'
      simp only [D.l26_0b]
      simp [g0, g1, g5, hH, h1, sl, j1, hw8, e1, e2, B6, undT, fnEnd, argsT, PT.get_put, keep, opRun, ev, evs, evO, give, giveI, binOf, isNilK, PM.flip, putT, putL, putH, loadOf, storeOf, cut, over, ofCells, asNat, natOr, calm, clashes, Acc.clash, ressOf, resOf, frz, frz.frzs, DV.flat, DV.flat.flats, imms]
      subst hQ
      exact .inl ⟨rfl, hi, by simp [PT.get_put], by simp [PT.get_put], by simp [PT.get_put], rfl, by simp; omega⟩
    · have j1 := ilt_t (show (k.secs.length : Int) < ((i : Int) - 1) by omega)
      generalize (i : Int) - 1 = z at *
      generalize hQ : (fun (e : Ex) (s' : St) => _) = Q'
      simp only [D.l26_0b]
      simp [g0, g1, g5, hH, h1, sl, j1, B6, undT, fnEnd, argsT, PT.get_put, keep, opRun, ev, evs, evO, give, giveI, binOf, isNilK, PM.flip, putT, putL, putH, loadOf, storeOf, cut, over, ofCells, asNat, natOr, calm, clashes, Acc.clash, ressOf, resOf, frz, frz.frzs, DV.flat, DV.flat.flats, imms]
      subst hQ
      exact .inr ⟨nofun, rfl⟩
  rw [D.k26]
  refine fn_dw rfl ?_
  rcases h2 with ⟨rfl, rfl, v, rfl, hv⟩ | ⟨id, rfl, rfl, hh⟩
  · have sm := Same_same (D := d + 1) (by omega) hw (show Sl 4 v (([] : List Rst).map ivRS) from hv) (by simp)
    simp [h1, er, sf, sf5, so, sm, hw.scal, hv.scal, B6, undT, fnEnd, argsT, PT.get_put, keep, opRun, ev, evs, evO, give, giveI, binOf, isNilK, PM.flip, putT, putL, putH, loadOf, storeOf, cut, over, ofCells, asNat, natOr, calm, clashes, Acc.clash, ressOf, resOf, frz, frz.frzs, DV.flat, DV.flat.flats, imms]
    refine loop (by simp [PT.get_put]) (by simp [PT.get_put]) (by simp [PT.get_put]) rfl (by simp; omega) fun st' => ?_
    simp [B6, undT, fnEnd, argsT, PT.get_put, keep, opRun, ev, evs, evO, give, giveI, binOf, isNilK, PM.flip, putT, putL, putH, loadOf, storeOf, cut, over, ofCells, asNat, natOr, calm, clashes, Acc.clash, ressOf, resOf, frz, frz.frzs, DV.flat, DV.flat.flats, imms]
  · have sm := Same_same (D := d + 1) (by omega) hw (w' := .lst false 4 (rs.map ivRS)) (.inr ⟨_, rfl⟩) (by omega)
    rw [map_rowRS] at hh
    have sn : snap.snaps H.get [.imm w, .sl id 0 rs.length rs.length] = some [.imm w, .imm (.lst false 4 (rs.map ivRS))] := by
      have y1 := snap_row hh (k := rs.length) (by simp)
      have y2 : snap H.get (.imm w) = some (.imm w) := rfl
      simp only [snap.snaps, y1, y2]
    have sc := fun m => call_snap (m := m) (lo := lo) (K := K DG (d + 1)) (by rfl) sn sm
    simp [h1, er, sf, sf5, so, sc, hw.scal, B6, undT, fnEnd, argsT, PT.get_put, keep, opRun, ev, evs, evO, give, giveI, binOf, isNilK, PM.flip, putT, putL, putH, loadOf, storeOf, cut, over, ofCells, asNat, natOr, calm, clashes, Acc.clash, ressOf, resOf, frz, frz.frzs, DV.flat, DV.flat.flats, imms]
    refine loop (by simp [PT.get_put]) (by simp [PT.get_put]) (by simp [PT.get_put]) rfl (by simp; omega) fun st' => ?_
    simp [B6, undT, fnEnd, argsT, PT.get_put, keep, opRun, ev, evs, evO, give, giveI, binOf, isNilK, PM.flip, putT, putL, putH, loadOf, storeOf, cut, over, ofCells, asNat, natOr, calm, clashes, Acc.clash, ressOf, resOf, frz, frz.frzs, DV.flat, DV.flat.flats, imms]
theorem cmdF_err {l : Lo} {rs : List Rst} {os : List Bool} {ls : List Int} {c r : Int} (h : ¬ (cmdF l rs os ls c r).1 = 0) : (cmdF l rs os ls c r).2 = rs := by
  revert h
  unfold cmdF
  cases dec (¬ MI l os ls ∨ (c ≠ 1 ∧ c ≠ 2)) with
  | true => exact fun _ => rfl
  | false =>
    cases dec (InR r l.rts.length) with
    | false => exact fun _ => rfl
    | true =>
      cases dec (c = 1) with
      | true =>
        show ¬ (callF l rs os ls r.toNat).1 = 0 → (callF l rs os ls r.toNat).2 = rs
        unfold callF
        cases dec ((nth rs r.toNat).mode = 0) with
        | false => exact fun _ => rfl
        | true =>
          cases dec (FRE l rs os ls r.toNat) with
          | true => exact fun h => absurd rfl h
          | false => exact fun _ => rfl
      | false =>
        show ¬ (cancelF rs r.toNat).1 = 0 → (cancelF rs r.toNat).2 = rs
        unfold cancelF
        cases dec ((nth rs r.toNat).mode = 1) with
        | true => exact fun h => absurd rfl h
        | false =>
          cases dec ((nth rs r.toNat).mode = 2) with
          | true => exact fun h => absurd rfl h
          | false => exact fun _ => rfl
structure IE (l' l : Lo) (p q : Nat) (v : IV) (a : List IV) (i : Nat) (st : St) : Prop where
  h1 : st.T.get 1 = some (.imm v)
  b5 : Box st 5 a
  h7 : st.T.get 7 = some (.ptr p 0 0)
  h9 : st.T.get 9 = some (.ptr q 0 0)
  h11 : st.T.get 11 = some (.imm (.int .i64 i))
  lk : ∃ rs, Two st.H st.n p q l' l rs rs ∧ INV l' rs
theorem loopE {l' l : Lo} (eq : LoEq l l') (ok : LoOk l') (is : ISL l') (okl : LoOk l) (isl : ISL l) {p q : Nat} {v : IV} {a : List IV} {xs : List Acv} (hv : Sl 6 v (xs.map ivAc)) (hl : xs.length ≤ reachBytes) (hx : ∀ x ∈ xs, AcOk x) {ks : List Kf} {st : St} {Q : Ex → St → Prop} (h : IE l' l p q v a 0 st)
    (hk : ∀ st' i, IE l' l p q v a i st' → Bk DG (K DG 29) 0 (.exit 0) ks st' Q) : Wp DG (K DG 29) 0 D.l4_0 ks st Q := by
  have hrb := rb3
  have vl := hv.len
  simp only [List.length_map] at vl
  refine dw_loop (N := xs.length) (small hl) (IE l' l p q v a) (fun e st' => e = .exit 0 ∧ ∃ i, IE l' l p q v a i st') (fun i st hle hI => ?_) h (fun e s' h => by obtain ⟨rfl, i, h⟩ := h; exact hk s' i h)
  obtain ⟨h1, ⟨i5, h5, L5⟩, h7, h9, h11, rs, two, inv⟩ := hI
  have ivl : INV l rs := eq.inv inv
  by_cases hi : i < xs.length
  · have hi1 : (i : Int) < xs.length := by omega
    have hi' := ilt_t hi1
    have hw8 : IntKind.i64.wrap ((i : Int) + 1) = (i : Int) + 1 := wr_succ hi hl
    by_cases h60 : (i : Int) < 60
    · have j60 := ilt_t h60
      have ac := hx _ (nth_mem hi)
      have ix := fun {h : Nat → Option HB} {n : Nat} => idx_sl (h := h) (n := n) hv (by omega) (k := .i64) (z := (i : Int)) (by omega) hi1
      simp only [Int.toNat_natCast] at ix
      generalize nth xs i = x at *
      have io := ac.io
      generalize hQ : (fun (e : Ex) (s' : St) => _) = Q'
      simp only [D.l4_0b]
      by_cases hk1 : x.kind = 1
      · obtain ⟨H1, n1, e1, hn1, two1⟩ := two.cmd (d := 28) (by omega) ok is inv io x.c x.r
        obtain ⟨u, H2, n2, e2, hn2, two2⟩ := two1.cmd5 (d := 28) (by omega) okl isl ivl io x.c x.r
        rw [eq.cmd] at two2
        have inv2 := inv.cmd (os := x.os) (ls := x.ls) (c := x.c) (r := x.r)
        rw [eq.cmd] at inv2
        simp [h1, h5, L5, h7, h9, h11, vl, hi', hw8, j60, ix, ivAc, hk1, e1, e2, io.o.scal, io.l.scal, evParts, lay, imms, B6, undT, fnEnd, argsT, PT.get_put, keep, opRun, ev, evs, evO, give, giveI, binOf, isNilK, PM.flip, putT, putL, putH, loadOf, storeOf, cut, over, ofCells, asNat, natOr, calm, clashes, Acc.clash, ressOf, resOf, frz, frz.frzs, DV.flat, DV.flat.flats, imms]
        subst hQ
        exact .inl ⟨rfl, hi, by simp [PT.get_put], ⟨i5, by simp [PT.get_put], by simp [PT.get_put, imms]⟩, by simp [PT.get_put], by simp [PT.get_put], by simp [PT.get_put], _, two2, inv2⟩
      · obtain ⟨u, H1, n1, e1, hn1, two1⟩ := two.cyc (d := 28) (by omega) ok is inv io
        obtain ⟨u2, H2, n2, e2, hn2, two2⟩ := two1.cyc5 (d := 28) (by omega) okl isl ivl io
        rw [eq.cyc] at two2
        have inv2 := inv.cyc is (os := x.os) (ls := x.ls)
        rw [eq.cyc] at inv2
        simp [h1, h5, L5, h7, h9, h11, vl, hi', hw8, j60, ix, ivAc, hk1, e1, e2, io.o.scal, io.l.scal, evParts, lay, imms, B6, undT, fnEnd, argsT, PT.get_put, keep, opRun, ev, evs, evO, give, giveI, binOf, isNilK, PM.flip, putT, putL, putH, loadOf, storeOf, cut, over, ofCells, asNat, natOr, calm, clashes, Acc.clash, ressOf, resOf, frz, frz.frzs, DV.flat, DV.flat.flats, imms]
        subst hQ
        exact .inl ⟨rfl, hi, by simp [PT.get_put], ⟨i5, by simp [PT.get_put], by simp [PT.get_put, imms]⟩, by simp [PT.get_put], by simp [PT.get_put], by simp [PT.get_put], _, two2, inv2⟩
    · have j60 := ilt_f (show (60 : Int) ≤ i by omega)
      generalize hQ : (fun (e : Ex) (s' : St) => _) = Q'
      simp only [D.l4_0b]
      simp [h1, h5, L5, h7, h9, h11, vl, hi', j60, imms, B6, undT, fnEnd, argsT, PT.get_put, keep, opRun, ev, evs, evO, give, giveI, binOf, isNilK, PM.flip, putT, putL, putH, loadOf, storeOf, cut, over, ofCells, asNat, natOr, calm, clashes, Acc.clash, ressOf, resOf, frz, frz.frzs, DV.flat, DV.flat.flats, imms]
      subst hQ
      exact .inr ⟨nofun, rfl, i, by simp [PT.get_put, h1], ⟨i5, by simp [PT.get_put, h5], by simp [PT.get_put, L5, imms]⟩, by simp [PT.get_put, h7], by simp [PT.get_put, h9], by simp [PT.get_put, h11], rs, two, inv⟩
  · obtain rfl : i = xs.length := by omega
    generalize hQ : (fun (e : Ex) (s' : St) => _) = Q'
    simp only [D.l4_0b]
    simp [h1, h5, L5, h7, h9, h11, vl, imms, B6, undT, fnEnd, argsT, PT.get_put, keep, opRun, ev, evs, evO, give, giveI, binOf, isNilK, PM.flip, putT, putL, putH, loadOf, storeOf, cut, over, ofCells, asNat, natOr, calm, clashes, Acc.clash, ressOf, resOf, frz, frz.frzs, DV.flat, DV.flat.flats, imms]
    subst hQ
    exact .inr ⟨nofun, rfl, xs.length, by simp [PT.get_put, h1], ⟨i5, by simp [PT.get_put, h5], by simp [PT.get_put, L5, imms]⟩, by simp [PT.get_put, h7], by simp [PT.get_put, h9], by simp [PT.get_put, h11], rs, two, inv⟩
theorem run_LockErrs {l : Lo} (ok : LoOk l) {v : IV} {xs : List Acv} (hv : Sl 6 v (xs.map ivAc)) (hl : xs.length ≤ reachBytes) (hx : ∀ x ∈ xs, AcOk x) {y : Acv} (hy : AcOk y) : Fe (K DG 30 4 [l.dv, .imm v, .agg (imms (ivAc y))] .lf 0 0) (fun v _ _ => v = .imm (.bool true)) := by
  have hrb := rb3
  obtain ⟨m, hm, hs⟩ := size_bl (D := 29) (by omega) ok
  obtain ⟨b, hlg⟩ := long_bl (D := 29) (by omega) hv hl hx
  obtain ⟨b2, hlg2⟩ := long_bl (D := 29) (by omega) (v := .lst true 6 [ivAc y]) (xs := [y]) (.inr ⟨true, rfl⟩) (by simp; omega) (fun x hx => by simp at hx; subst hx; exact hy)
  have hkn := known_bl
  have io := hy.io
  simp only [ivAc] at hlg2
  simp only [ivAc, imms, List.map_cons, List.map_nil]
  rw [D.k4]
  refine fn_dw rfl ?_
  by_cases hm3 : m < 3000
  · have hj3 : ILt (m : Int) 3000 = True := ilt_t (by omega)
    have e2 := Is4_bl (D := 29) (by omega) ok (hs hm3).sm
    have e4 := Is4_bl (D := 28) (by omega) ok (hs hm3).sm
    cases b with
    | true => simp [ok.s.scal, ok.p.scal, ok.g.scal, ok.r.scal, hv.scal, hm, hj3, hlg, io.o.scal, io.l.scal, hy.rv.scal, B6, undT, fnEnd, argsT, PT.get_put, keep, opRun, ev, evs, evO, give, giveI, binOf, isNilK, PM.flip, putT, putL, putH, loadOf, storeOf, cut, over, ofCells, asNat, natOr, calm, clashes, Acc.clash, ressOf, resOf, frz, frz.frzs, DV.flat, DV.flat.flats, imms]
    | false =>
      cases b2 with
      | true => simp [ok.s.scal, ok.p.scal, ok.g.scal, ok.r.scal, hv.scal, hm, hj3, hlg, hlg2, io.o.scal, io.l.scal, hy.rv.scal, evParts2, lay, unImms, unImm, mapO, rowsN, B6, undT, fnEnd, argsT, PT.get_put, keep, opRun, ev, evs, evO, give, giveI, binOf, isNilK, PM.flip, putT, putL, putH, loadOf, storeOf, cut, over, ofCells, asNat, natOr, calm, clashes, Acc.clash, ressOf, resOf, frz, frz.frzs, DV.flat, DV.flat.flats, imms]
      | false =>
        by_cases is : ISL l
        · rw [dec_t is] at e2 e4
          obtain ⟨v1, H1, n1, e1, p, own, l1, rfl, ok1, eq1, lk1, hown, _⟩ := LockNew_run (d := 28) (by omega) ok is .lf 2
          obtain ⟨w1, H2, n2, e3, q, own2, rfl, lk2, hown2, fr2⟩ := New5_run (d := 28) ok is e4 H1 n1
          have two : Two H2 n2 p q l1 l (List.replicate l.rts.length rs0) (List.replicate l.rts.length rs0) := by
            have hn : n1 ≤ n2 := by have := hown2 q (by simp); omega
            exact ⟨own, own2, lk1.mono fun i hi => fr2 i (hown i hi).2, lk2, fun j hj => by have := (hown j hj).2; omega, fun j hj => (hown2 j hj).2, fun j hj hj' => by have := (hown j hj).2; have := (hown2 j hj').1; omega⟩
          simp [ok.s.scal, ok.p.scal, ok.g.scal, ok.r.scal, hv.scal, hm, hj3, hlg, hlg2, e2, e1, e3, io.o.scal, io.l.scal, hy.rv.scal, evParts2, lay, unImms, unImm, mapO, rowsN, B6, undT, fnEnd, argsT, PT.get_put, keep, opRun, ev, evs, evO, give, giveI, binOf, isNilK, PM.flip, putT, putL, putH, loadOf, storeOf, cut, over, ofCells, asNat, natOr, calm, clashes, Acc.clash, ressOf, resOf, frz, frz.frzs, DV.flat, DV.flat.flats, imms]
          refine loopE (a := ivAc y) eq1 ok1 (eq1.is is) ok is hv hl hx ⟨by simp [PT.get_put], ⟨1, by simp [PT.get_put], by simp [PT.get_put, imms, ivAc]⟩, by simp [PT.get_put], by simp [PT.get_put], by simp [PT.get_put], _, two, by rw [← eq1.len]; exact INV.new⟩ ?_
          rintro s2 i ⟨f1, ⟨i5, f5, M5⟩, f7, f9, f11, rs, tw, inv⟩
          obtain ⟨H3, n3, e5, hn3, tw3⟩ := tw.cmd (d := 28) (by omega) ok1 (eq1.is is) inv io y.c y.r
          by_cases h0 : (cmdF l1 rs y.os y.ls y.c y.r).1 = 0
          · rw [h0] at e5
            simp [f1, f5, M5, f7, f9, e5, hkn, imms, ivAc, B6, undT, fnEnd, argsT, PT.get_put, keep, opRun, ev, evs, evO, give, giveI, binOf, isNilK, PM.flip, putT, putL, putH, loadOf, storeOf, cut, over, ofCells, asNat, natOr, calm, clashes, Acc.clash, ressOf, resOf, frz, frz.frzs, DV.flat, DV.flat.flats, imms]
          · rw [cmdF_err h0] at tw3
            obtain ⟨H4, n4, e6⟩ := alike_run (d := 28) (lo := n3) (by omega) eq1 tw3 ok1 (eq1.is is) ok is inv
            simp [f1, f5, M5, f7, f9, e5, h0, e6, hkn, imms, ivAc, B6, undT, fnEnd, argsT, PT.get_put, keep, opRun, ev, evs, evO, give, giveI, binOf, isNilK, PM.flip, putT, putL, putH, loadOf, storeOf, cut, over, ofCells, asNat, natOr, calm, clashes, Acc.clash, ressOf, resOf, frz, frz.frzs, DV.flat, DV.flat.flats, imms]
        · rw [dec_f is] at e2
          simp [ok.s.scal, ok.p.scal, ok.g.scal, ok.r.scal, hv.scal, hm, hj3, hlg, hlg2, e2, io.o.scal, io.l.scal, hy.rv.scal, evParts2, lay, unImms, unImm, mapO, rowsN, B6, undT, fnEnd, argsT, PT.get_put, keep, opRun, ev, evs, evO, give, giveI, binOf, isNilK, PM.flip, putT, putL, putH, loadOf, storeOf, cut, over, ofCells, asNat, natOr, calm, clashes, Acc.clash, ressOf, resOf, frz, frz.frzs, DV.flat, DV.flat.flats, imms]
  · have hj3 : ILt (m : Int) 3000 = False := ilt_f (by omega)
    simp [ok.s.scal, ok.p.scal, ok.g.scal, ok.r.scal, hv.scal, hm, hj3, io.o.scal, io.l.scal, hy.rv.scal, B6, undT, fnEnd, argsT, PT.get_put, keep, opRun, ev, evs, evO, give, giveI, binOf, isNilK, PM.flip, putT, putL, putH, loadOf, storeOf, cut, over, ofCells, asNat, natOr, calm, clashes, Acc.clash, ressOf, resOf, frz, frz.frzs, DV.flat, DV.flat.flats, imms]
theorem act_of {d : DV} (h : ArgFit true kdAc d) : ∃ x : Acv, d = .agg (imms (ivAc x)) ∧ AcOk x := by
  obtain ⟨ivs, rfl, hl, hfit⟩ := h
  match ivs, hl with
  | [c0, c1, c2, c3, c4, c5], _ =>
    have f0 := hfit 0 _ _ rfl rfl
    have f1 := hfit 1 _ _ rfl rfl
    have f2 := hfit 2 _ _ rfl rfl
    have f3 := hfit 3 _ _ rfl rfl
    have f4 := hfit 4 _ _ rfl rfl
    have f5 := hfit 5 _ _ rfl rfl
    obtain ⟨os, o1, o2, _⟩ := bools_of f1
    obtain ⟨ls, l1, l2, _⟩ := ints_of f2
    obtain ⟨rs, r1, r2, _⟩ := sts_of f5
    cases f0; cases f3; cases f4
    exact ⟨⟨_, _, _, _, _, _, os, ls, rs⟩, rfl, ⟨o1, l1, o2, l2⟩, r1, r2⟩
theorem pure_LockErrs : ∀ cs, ArgsFit ss_LockErrs cs → ∃ H' n', K (doorG 0 1) 30 4 cs .lf 0 0 = some (.imm (.bool true), H', n') := fun cs h => by
  obtain ⟨d, ds, rfl, h1, h2⟩ := fit_cons h
  obtain ⟨l, rfl, ok⟩ := lay_of h1
  obtain ⟨d1, r1, rfl, g1, h3⟩ := fit_cons h2
  obtain ⟨k, iv, hk, rfl, hf⟩ := g1
  cases hk
  obtain ⟨xs, hv, hl, hx⟩ := acts_of hf
  obtain ⟨d2, r2, rfl, g2, h4⟩ := fit_cons h3
  obtain ⟨y, rfl, hy⟩ := act_of g2
  cases fit0 (r := []) h4
  obtain ⟨v, H, n, e, rfl⟩ := run_LockErrs ok hv hl hx hy
  exact ⟨H, n, e⟩
end Go.Proofs.YtkgjgehffijepaaDoor.D
