/-
  LockSetsBack over D.
-/
import Derived.Test.YtkgjgehffijepabDoorT4
import Derived.Test.YtkgjgehffijepabDoorK24
set_option linter.unusedVariables false
set_option linter.unusedSimpArgs false
set_option maxHeartbeats 16000000
namespace Go.Proofs.YtkgjgehffijepabDoor.D
open Go Go.PM Go.Lib
def ss_LockSetsBack : List (Bool × List Kd) := [(true, kdL), (false, [.sl kdAc]), (false, [.sl kdAc])]
theorem Two.set {d : Nat} (hd : 10 ≤ d) {H : PT HB} {n p q : Nat} {l k : Lo} {rs qs ws : List Rst} (h : Two H n p q l k rs qs) (ok : LoOk k) (is : ISL k) (inv : INV k ws) {w : IV} (hw : Sl 4 w (ws.map ivRS)) :
    ∃ H1 n1, K DG (d + 1) 23 [.ptr q 0 0, .imm w] H n 0 = some (.imm (.bool true), H1, n1) ∧ n ≤ n1 ∧ Two H1 n1 p q l k rs ws := by
  have hrb := rb3
  obtain ⟨o, o', a, b, hc, hd', e⟩ := h
  obtain ⟨v, H1, n1, e1, hn, rfl, fr, hh⟩ := Set_run hd ok is b hw (by have := inv.ln; have := is.r2; omega) hd'
  rw [dec_t inv] at e1
  have hq := hd' q (by simp)
  rcases hh with ⟨_, own, lk, ho⟩ | ⟨ni, _⟩
  · refine ⟨H1, n1, e1, hn, o, own, a.mono fun i hi => fr i (fun e' => e i hi (by simp [e'])) (hc i hi), lk, fun j hj => by have := hc j hj; omega, fun j hj => ?_, fun j hj hj' => ?_⟩
    · rcases List.mem_cons.1 hj with rfl | hj
      · omega
      · exact (ho j hj).2
    · have := hc j hj
      rcases List.mem_cons.1 hj' with rfl | hj'
      · exact e _ hj (by simp)
      · have := (ho j hj').1; omega
  · exact absurd inv ni
structure IB0 (l k : Lo) (p q : Nat) (v v2 : IV) (qs : List Rst) (i : Nat) (st : St) : Prop where
  h1 : st.T.get 1 = some (.imm v)
  h2 : st.T.get 2 = some (.imm v2)
  h7 : st.T.get 7 = some (.ptr p 0 0)
  h9 : st.T.get 9 = some (.ptr q 0 0)
  h11 : st.T.get 11 = some (.imm (.int .i64 i))
  lk : ∃ rs, Two st.H st.n p q l k rs qs ∧ INV l rs
theorem loopB0 {l k : Lo} (ok : LoOk l) (is : ISL l) {p q : Nat} {v v2 : IV} {qs : List Rst} {xs : List Acv} (hv : Sl 6 v (xs.map ivAc)) (hl : xs.length ≤ reachBytes) (hx : ∀ x ∈ xs, AcOk x) {ks : List Kf} {st : St} {Q : Ex → St → Prop} (h : IB0 l k p q v v2 qs 0 st)
    (hk : ∀ st' i, IB0 l k p q v v2 qs i st' → Bk DG (K DG 29) 0 (.exit 0) ks st' Q) : Wp DG (K DG 29) 0 D.l7_0 ks st Q := by
  have hrb := rb3
  have vl := hv.len
  simp only [List.length_map] at vl
  refine dw_loop (N := xs.length) (small hl) (IB0 l k p q v v2 qs) (fun e st' => e = .exit 0 ∧ ∃ i, IB0 l k p q v v2 qs i st') (fun i st hle hI => ?_) h (fun e s' h => by obtain ⟨rfl, i, h⟩ := h; exact hk s' i h)
  obtain ⟨h1, h2, h7, h9, h11, rs, two, inv⟩ := hI
  by_cases hi : i < xs.length
  · have hi1 : (i : Int) < xs.length := by omega
    have hi' := ilt_t hi1
    have hw8 : IntKind.i64.wrap ((i : Int) + 1) = (i : Int) + 1 := wr_succ hi hl
    by_cases h60 : (i : Int) < 60
    · have j60 := ilt_t h60
      have ac := hx _ (nth_mem hi)
      have ix := fun {h : Nat → Option HB} {n : Nat} => idx_sl (h := h) (n := n) hv (by omega) (k := .i64) (z := (i : Int)) (by omega) hi1
      simp only [Int.toNat_natCast] at ix
      generalize nth xs i = x at *
      have io := ac.io
      generalize hQ : (fun (e : Ex) (s' : St) => _) = Q'
      simp only [D.l7_0b]
      by_cases hk1 : x.kind = 1
      · obtain ⟨H1, n1, e1, hn1, two1⟩ := two.cmd (d := 28) (by omega) ok is inv io x.c x.r
        simp [h1, h2, h7, h9, h11, vl, hi', hw8, j60, ix, ivAc, hk1, e1, io.o.scal, io.l.scal, evParts, lay, imms, B6, undT, fnEnd, argsT, PT.get_put, keep, opRun, ev, evs, evO, give, giveI, binOf, isNilK, PM.flip, putT, putL, putH, loadOf, storeOf, cut, over, ofCells, asNat, natOr, calm, clashes, Acc.clash, ressOf, resOf, frz, frz.frzs, DV.flat, DV.flat.flats, imms]
        subst hQ
        exact .inl ⟨rfl, hi, by simp [PT.get_put], by simp [PT.get_put], by simp [PT.get_put], by simp [PT.get_put], by simp [PT.get_put], _, two1, inv.cmd⟩
      · obtain ⟨u, H1, n1, e1, hn1, two1⟩ := two.cyc (d := 28) (by omega) ok is inv io
        simp [h1, h2, h7, h9, h11, vl, hi', hw8, j60, ix, ivAc, hk1, e1, io.o.scal, io.l.scal, evParts, lay, imms, B6, undT, fnEnd, argsT, PT.get_put, keep, opRun, ev, evs, evO, give, giveI, binOf, isNilK, PM.flip, putT, putL, putH, loadOf, storeOf, cut, over, ofCells, asNat, natOr, calm, clashes, Acc.clash, ressOf, resOf, frz, frz.frzs, DV.flat, DV.flat.flats, imms]
        subst hQ
        exact .inl ⟨rfl, hi, by simp [PT.get_put], by simp [PT.get_put], by simp [PT.get_put], by simp [PT.get_put], by simp [PT.get_put], _, two1, inv.cyc is⟩
    · have j60 := ilt_f (show (60 : Int) ≤ i by omega)
      generalize hQ : (fun (e : Ex) (s' : St) => _) = Q'
      simp only [D.l7_0b]
      simp [h1, h2, h7, h9, h11, vl, hi', j60, B6, undT, fnEnd, argsT, PT.get_put, keep, opRun, ev, evs, evO, give, giveI, binOf, isNilK, PM.flip, putT, putL, putH, loadOf, storeOf, cut, over, ofCells, asNat, natOr, calm, clashes, Acc.clash, ressOf, resOf, frz, frz.frzs, DV.flat, DV.flat.flats, imms]
      subst hQ
      exact .inr ⟨nofun, rfl, i, by simp [PT.get_put, h1], by simp [PT.get_put, h2], by simp [PT.get_put, h7], by simp [PT.get_put, h9], by simp [PT.get_put, h11], rs, two, inv⟩
  · obtain rfl : i = xs.length := by omega
    generalize hQ : (fun (e : Ex) (s' : St) => _) = Q'
    simp only [D.l7_0b]
    simp [h1, h2, h7, h9, h11, vl, B6, undT, fnEnd, argsT, PT.get_put, keep, opRun, ev, evs, evO, give, giveI, binOf, isNilK, PM.flip, putT, putL, putH, loadOf, storeOf, cut, over, ofCells, asNat, natOr, calm, clashes, Acc.clash, ressOf, resOf, frz, frz.frzs, DV.flat, DV.flat.flats, imms]
    subst hQ
    exact .inr ⟨nofun, rfl, xs.length, by simp [PT.get_put, h1], by simp [PT.get_put, h2], by simp [PT.get_put, h7], by simp [PT.get_put, h9], by simp [PT.get_put, h11], rs, two, inv⟩
structure IB1 (l k : Lo) (p q : Nat) (v2 : IV) (i : Nat) (st : St) : Prop where
  h2 : st.T.get 2 = some (.imm v2)
  h7 : st.T.get 7 = some (.ptr p 0 0)
  h9 : st.T.get 9 = some (.ptr q 0 0)
  h12 : st.T.get 12 = some (.imm (.int .i64 i))
  lk : ∃ rs, Two st.H st.n p q l k rs rs ∧ INV l rs
theorem loopB1 {l0 l k : Lo} (eq : LoEq l0 l) (eq' : LoEq l0 k) (ok : LoOk l) (is : ISL l) (ok' : LoOk k) (is' : ISL k) {p q : Nat} {v2 : IV} {xs : List Acv} (hv : Sl 6 v2 (xs.map ivAc)) (hl : xs.length ≤ reachBytes) (hx : ∀ x ∈ xs, AcOk x) {ks : List Kf} {st : St} {Q : Ex → St → Prop} (h : IB1 l k p q v2 0 st)
    (hk : ∀ st' i, IB1 l k p q v2 i st' → Bk DG (K DG 29) 0 (.exit 2) ks st' Q) : Wp DG (K DG 29) 0 D.l7_1 ks st Q := by
  have hrb := rb3
  have vl := hv.len
  simp only [List.length_map] at vl
  have iv : ∀ rs, INV l rs → INV k rs := fun rs h => eq'.inv' (eq.inv h)
  have p2 := is.p2
  have g2 := is.g2
  have cp : k.pts.length = l.pts.length := by rw [eq.pts, eq'.pts]
  have cs : k.sigs.length = l.sigs.length := by rw [eq.sigs, eq'.sigs]
  refine dw_loop (N := xs.length) (small hl) (IB1 l k p q v2) (fun e st' => e = .exit 2 ∧ ∃ i, IB1 l k p q v2 i st') (fun i st hle hI => ?_) h (fun e s' h => by obtain ⟨rfl, i, h⟩ := h; exact hk s' i h)
  obtain ⟨h2, h7, h9, h12, rs, two, inv⟩ := hI
  by_cases hi : i < xs.length
  · have hi1 : (i : Int) < xs.length := by omega
    have hi' := ilt_t hi1
    have hw8 : IntKind.i64.wrap ((i : Int) + 1) = (i : Int) + 1 := wr_succ hi hl
    by_cases h60 : (i : Int) < 60
    · have j60 := ilt_t h60
      have ac := hx _ (nth_mem hi)
      have ix := fun {h : Nat → Option HB} {n : Nat} => idx_sl (h := h) (n := n) hv (by omega) (k := .i64) (z := (i : Int)) (by omega) hi1
      simp only [Int.toNat_natCast] at ix
      generalize nth xs i = x at *
      have io := ac.io
      generalize hQ : (fun (e : Ex) (s' : St) => _) = Q'
      simp only [D.l7_1b]
      by_cases hk1 : x.kind = 1
      · obtain ⟨H1, n1, e1, hn1, two1⟩ := two.cmd (d := 28) (by omega) ok is inv io x.c x.r
        obtain ⟨H2, n2, e2, hn2, two2⟩ := two1.symm.cmd (d := 28) (by omega) ok' is' (iv _ inv) io x.c x.r
        have ec : cmdF k rs x.os x.ls x.c x.r = cmdF l rs x.os x.ls x.c x.r := by rw [eq.cmd, eq'.cmd]
        rw [ec] at e2 two2
        simp [h2, h7, h9, h12, vl, hi', hw8, j60, ix, ivAc, hk1, e1, e2, io.o.scal, io.l.scal, evParts, lay, imms, B6, undT, fnEnd, argsT, PT.get_put, keep, opRun, ev, evs, evO, give, giveI, binOf, isNilK, PM.flip, putT, putL, putH, loadOf, storeOf, cut, over, ofCells, asNat, natOr, calm, clashes, Acc.clash, ressOf, resOf, frz, frz.frzs, DV.flat, DV.flat.flats, imms]
        subst hQ
        exact .inl ⟨rfl, hi, by simp [PT.get_put], by simp [PT.get_put], by simp [PT.get_put], by simp [PT.get_put], _, two2.symm, inv.cmd⟩
      · obtain ⟨H1, n1, H2, n2, e1, e2, hn1, hn2, two2, r1, r2, r3, r4, y1, y2, y3, y4⟩ := two.cyc2 (d := 28) (by omega) ok is inv ok' is' (iv _ inv) io
        have ec : cycF k rs x.os x.ls = cycF l rs x.os x.ls := by rw [eq.cyc, eq'.cyc]
        have inv2 := inv.cyc is (os := x.os) (ls := x.ls)
        rw [ec] at two2 r3 r4 y3 y4
        generalize cycF l rs x.os x.ls = cc at *
        obtain ⟨ws, zs, bs⟩ := cc
        simp only at *
        rw [rowI_map] at r1 r3
        rw [rowB_map] at r2 r4
        have s1 := snap_row r1 (k := l.pts.length) (by simp [y1])
        have s2 := snap_row r2 (k := l.sigs.length) (by simp [y2])
        have s3 := snap_row r3 (k := k.pts.length) (by simp [y3])
        have s4 := snap_row r4 (k := k.sigs.length) (by simp [y4])
        have so := SameOut_same (D := 29) (by omega) (a := .lst false 1 (zs.map ivI)) (a' := .lst false 1 (zs.map ivI)) (b := .lst false 1 (bs.map ivB1)) (b' := .lst false 1 (bs.map ivB1)) (ds := zs) (ps := bs) (.inr ⟨false, rfl⟩) (.inr ⟨false, rfl⟩) (.inr ⟨false, rfl⟩) (.inr ⟨false, rfl⟩) (by omega) (by omega)
        have sn : snap.snaps H2.get [.agg [.sl (st.n + 2 + 1) 0 l.pts.length l.pts.length, .sl (st.n + 2 + 2) 0 l.sigs.length l.sigs.length], .agg [.sl (n1 + 2 + 1) 0 k.pts.length k.pts.length, .sl (n1 + 2 + 2) 0 k.sigs.length k.sigs.length]] = some [.agg [.imm (.lst false 1 (zs.map ivI)), .imm (.lst false 1 (bs.map ivB1))], .agg [.imm (.lst false 1 (zs.map ivI)), .imm (.lst false 1 (bs.map ivB1))]] := by
          have z1 : snap H2.get (.agg [.sl (st.n + 2 + 1) 0 l.pts.length l.pts.length, .sl (st.n + 2 + 2) 0 l.sigs.length l.sigs.length]) = some (.agg [.imm (.lst false 1 (zs.map ivI)), .imm (.lst false 1 (bs.map ivB1))]) := by
            show (snap.snaps H2.get [.sl (st.n + 2 + 1) 0 l.pts.length l.pts.length, .sl (st.n + 2 + 2) 0 l.sigs.length l.sigs.length]).map DV.agg = _
            simp only [snap.snaps, s1, s2]
            rfl
          have z2 : snap H2.get (.agg [.sl (n1 + 2 + 1) 0 k.pts.length k.pts.length, .sl (n1 + 2 + 2) 0 k.sigs.length k.sigs.length]) = some (.agg [.imm (.lst false 1 (zs.map ivI)), .imm (.lst false 1 (bs.map ivB1))]) := by
            show (snap.snaps H2.get [.sl (n1 + 2 + 1) 0 k.pts.length k.pts.length, .sl (n1 + 2 + 2) 0 k.sigs.length k.sigs.length]).map DV.agg = _
            simp only [snap.snaps, s3, s4]
            rfl
          simp only [snap.snaps, z1, z2]
        have cs := fun m => call_snap (m := m) (lo := 0) (K := K DG 29) (by rfl) sn so
        simp [h2, h7, h9, h12, vl, hi', hw8, j60, ix, ivAc, hk1, e1, e2, cs, io.o.scal, io.l.scal, evParts, lay, imms, B6, undT, fnEnd, argsT, PT.get_put, keep, opRun, ev, evs, evO, give, giveI, binOf, isNilK, PM.flip, putT, putL, putH, loadOf, storeOf, cut, over, ofCells, asNat, natOr, calm, clashes, Acc.clash, ressOf, resOf, frz, frz.frzs, DV.flat, DV.flat.flats, imms]
        subst hQ
        exact .inl ⟨rfl, hi, by simp [PT.get_put], by simp [PT.get_put], by simp [PT.get_put], by simp [PT.get_put], _, two2, inv2⟩
    · have j60 := ilt_f (show (60 : Int) ≤ i by omega)
      generalize hQ : (fun (e : Ex) (s' : St) => _) = Q'
      simp only [D.l7_1b]
      simp [h2, h7, h9, h12, vl, hi', j60, B6, undT, fnEnd, argsT, PT.get_put, keep, opRun, ev, evs, evO, give, giveI, binOf, isNilK, PM.flip, putT, putL, putH, loadOf, storeOf, cut, over, ofCells, asNat, natOr, calm, clashes, Acc.clash, ressOf, resOf, frz, frz.frzs, DV.flat, DV.flat.flats, imms]
      subst hQ
      exact .inr ⟨nofun, rfl, i, by simp [PT.get_put, h2], by simp [PT.get_put, h7], by simp [PT.get_put, h9], by simp [PT.get_put, h12], rs, two, inv⟩
  · obtain rfl : i = xs.length := by omega
    generalize hQ : (fun (e : Ex) (s' : St) => _) = Q'
    simp only [D.l7_1b]
    simp [h2, h7, h9, h12, vl, B6, undT, fnEnd, argsT, PT.get_put, keep, opRun, ev, evs, evO, give, giveI, binOf, isNilK, PM.flip, putT, putL, putH, loadOf, storeOf, cut, over, ofCells, asNat, natOr, calm, clashes, Acc.clash, ressOf, resOf, frz, frz.frzs, DV.flat, DV.flat.flats, imms]
    subst hQ
    exact .inr ⟨nofun, rfl, xs.length, by simp [PT.get_put, h2], by simp [PT.get_put, h7], by simp [PT.get_put, h9], by simp [PT.get_put, h12], rs, two, inv⟩
theorem run_LockSetsBack {l : Lo} (ok : LoOk l) {v v2 : IV} {xs ys : List Acv} (hv : Sl 6 v (xs.map ivAc)) (hl : xs.length ≤ reachBytes) (hx : ∀ x ∈ xs, AcOk x) (hv2 : Sl 6 v2 (ys.map ivAc)) (hl2 : ys.length ≤ reachBytes) (hx2 : ∀ x ∈ ys, AcOk x) : Fe (K DG 30 7 [l.dv, .imm v, .imm v2] .lf 0 0) (fun v _ _ => v = .imm (.bool true)) := by
  have hrb := rb3
  obtain ⟨m, hm, hs⟩ := size_bl (D := 29) (by omega) ok
  obtain ⟨b, hlg⟩ := long_bl (D := 29) (by omega) hv hl hx
  obtain ⟨b2, hlg2⟩ := long_bl (D := 29) (by omega) hv2 hl2 hx2
  have hkn := known_bl
  rw [D.k7]
  refine fn_dw rfl ?_
  by_cases hm3 : m < 3000
  · have hj3 : ILt (m : Int) 3000 = True := ilt_t (by omega)
    have e2 := Is4_bl (D := 29) (by omega) ok (hs hm3).sm
    cases b with
    | true => simp [ok.s.scal, ok.p.scal, ok.g.scal, ok.r.scal, hv.scal, hv2.scal, hm, hj3, hlg, B6, undT, fnEnd, argsT, PT.get_put, keep, opRun, ev, evs, evO, give, giveI, binOf, isNilK, PM.flip, putT, putL, putH, loadOf, storeOf, cut, over, ofCells, asNat, natOr, calm, clashes, Acc.clash, ressOf, resOf, frz, frz.frzs, DV.flat, DV.flat.flats, imms]
    | false =>
      cases b2 with
      | true => simp [ok.s.scal, ok.p.scal, ok.g.scal, ok.r.scal, hv.scal, hv2.scal, hm, hj3, hlg, hlg2, B6, undT, fnEnd, argsT, PT.get_put, keep, opRun, ev, evs, evO, give, giveI, binOf, isNilK, PM.flip, putT, putL, putH, loadOf, storeOf, cut, over, ofCells, asNat, natOr, calm, clashes, Acc.clash, ressOf, resOf, frz, frz.frzs, DV.flat, DV.flat.flats, imms]
      | false =>
        by_cases is : ISL l
        · rw [dec_t is] at e2
          obtain ⟨v1, H1, n1, e1, p, own, l1, rfl, ok1, eq1, lk1, hown, _⟩ := LockNew_run (d := 28) (by omega) ok is .lf 1
          obtain ⟨w1, H2, n2, e3, q, own2, k1, rfl, ok2, eq2, lk2, hown2, fr2⟩ := LockNew_run (d := 28) (by omega) ok is H1 n1
          have two : Two H2 n2 p q l1 k1 (List.replicate l.rts.length rs0) (List.replicate l.rts.length rs0) := by
            have hn : n1 ≤ n2 := by have := hown2 q (by simp); omega
            refine ⟨own, own2, lk1.mono fun i hi => fr2 i (hown i hi).2, lk2, fun j hj => by have := (hown j hj).2; omega, fun j hj => (hown2 j hj).2, fun j hj hj' => by have := (hown j hj).2; have := (hown2 j hj').1; omega⟩
          simp [ok.s.scal, ok.p.scal, ok.g.scal, ok.r.scal, hv.scal, hv2.scal, hm, hj3, hlg, hlg2, e2, e1, e3, B6, undT, fnEnd, argsT, PT.get_put, keep, opRun, ev, evs, evO, give, giveI, binOf, isNilK, PM.flip, putT, putL, putH, loadOf, storeOf, cut, over, ofCells, asNat, natOr, calm, clashes, Acc.clash, ressOf, resOf, frz, frz.frzs, DV.flat, DV.flat.flats, imms]
          refine loopB0 (v2 := v2) ok1 (eq1.is is) hv hl hx ⟨by simp [PT.get_put], by simp [PT.get_put], by simp [PT.get_put], by simp [PT.get_put], by simp [PT.get_put], _, two, by rw [← eq1.len]; exact INV.new⟩ ?_
          rintro s2 i ⟨f1, f2, f7, f9, f11, rs, tw, inv⟩
          have iv0 : INV k1 rs := eq2.inv' (eq1.inv inv)
          obtain ⟨o, o', a, b, hc, hd', hdis⟩ := tw
          obtain ⟨w, m2, er, hm2, hw⟩ := Routes_ro (d := 28) (by omega) (by have := is.r2; have := inv.ln; have := eq1.len; omega) a (n := s2.n) (lo := 0)
          have tw2 : Two s2.H m2 p q l1 k1 rs (List.replicate l.rts.length rs0) := Two.mono ⟨o, o', a, b, hc, hd', hdis⟩ hm2 fun j hj => rfl
          obtain ⟨H3, n3, e4, hn3, two3⟩ := tw2.set (d := 28) (by omega) ok2 (eq2.is is) iv0 hw
          simp [f1, f2, f7, f9, er, e4, hw.scal, B6, undT, fnEnd, argsT, PT.get_put, keep, opRun, ev, evs, evO, give, giveI, binOf, isNilK, PM.flip, putT, putL, putH, loadOf, storeOf, cut, over, ofCells, asNat, natOr, calm, clashes, Acc.clash, ressOf, resOf, frz, frz.frzs, DV.flat, DV.flat.flats, imms]
          refine loopB1 eq1 eq2 ok1 (eq1.is is) ok2 (eq2.is is) hv2 hl2 hx2 ⟨by simp [PT.get_put, f2], by simp [PT.get_put, f7], by simp [PT.get_put, f9], by simp [PT.get_put], rs, two3, inv⟩ ?_
          rintro s4 i4 ⟨t2, t7, t9, t12, qs, tw4, inv4⟩
          obtain ⟨o, o', a, b, hc, hd', hdis⟩ := tw4
          have ql : qs.length ≤ 1000 := by have := is.r2; have := inv4.ln; have := eq1.len; omega
          obtain ⟨w1, m1, er1, hm1, hw1⟩ := Routes_ro (d := 28) (by omega) ql a (n := s4.n) (lo := 0)
          obtain ⟨w2, m2, er2, hm2, hw2⟩ := Routes_ro (d := 28) (by omega) ql b (n := m1) (lo := 0)
          have sm := Same_same (D := 29) (by omega) hw1 hw2 (by omega)
          simp [t2, t7, t9, er1, er2, sm, hw1.scal, hw2.scal, hkn, B6, undT, fnEnd, argsT, PT.get_put, keep, opRun, ev, evs, evO, give, giveI, binOf, isNilK, PM.flip, putT, putL, putH, loadOf, storeOf, cut, over, ofCells, asNat, natOr, calm, clashes, Acc.clash, ressOf, resOf, frz, frz.frzs, DV.flat, DV.flat.flats, imms]
        · rw [dec_f is] at e2
          simp [ok.s.scal, ok.p.scal, ok.g.scal, ok.r.scal, hv.scal, hv2.scal, hm, hj3, hlg, hlg2, e2, B6, undT, fnEnd, argsT, PT.get_put, keep, opRun, ev, evs, evO, give, giveI, binOf, isNilK, PM.flip, putT, putL, putH, loadOf, storeOf, cut, over, ofCells, asNat, natOr, calm, clashes, Acc.clash, ressOf, resOf, frz, frz.frzs, DV.flat, DV.flat.flats, imms]
  · have hj3 : ILt (m : Int) 3000 = False := ilt_f (by omega)
    simp [ok.s.scal, ok.p.scal, ok.g.scal, ok.r.scal, hv.scal, hv2.scal, hm, hj3, B6, undT, fnEnd, argsT, PT.get_put, keep, opRun, ev, evs, evO, give, giveI, binOf, isNilK, PM.flip, putT, putL, putH, loadOf, storeOf, cut, over, ofCells, asNat, natOr, calm, clashes, Acc.clash, ressOf, resOf, frz, frz.frzs, DV.flat, DV.flat.flats, imms]
theorem pure_LockSetsBack : ∀ cs, ArgsFit ss_LockSetsBack cs → ∃ H' n', K (doorG 0 1) 30 7 cs .lf 0 0 = some (.imm (.bool true), H', n') := fun cs h => by
  obtain ⟨d, ds, rfl, h1, h2⟩ := fit_cons h
  obtain ⟨l, rfl, ok⟩ := lay_of h1
  obtain ⟨d1, r1, rfl, g1, h3⟩ := fit_cons h2
  obtain ⟨k, iv, hk, rfl, hf⟩ := g1
  cases hk
  obtain ⟨xs, hv, hl, hx⟩ := acts_of hf
  obtain ⟨d2, r2, rfl, g2, h4⟩ := fit_cons h3
  obtain ⟨k, iv2, hk, rfl, hf⟩ := g2
  cases hk
  obtain ⟨ys, hv2, hl2, hx2⟩ := acts_of hf
  cases fit0 (r := []) h4
  obtain ⟨v, H, n, e, rfl⟩ := run_LockSetsBack ok hv hl hx hv2 hl2 hx2
  exact ⟨H, n, e⟩
end Go.Proofs.YtkgjgehffijepabDoor.D
