/-
  LockApart over D.
-/
import Derived.Test.YtkgjgehffijepabDoorT4
import Derived.Test.YtkgjgehffijepabDoorK22
set_option linter.unusedVariables false
set_option linter.unusedSimpArgs false
set_option maxHeartbeats 16000000
namespace Go.Proofs.YtkgjgehffijepabDoor.D
open Go Go.PM Go.Lib
def ss_LockApart : List (Bool × List Kd) := [(true, kdL), (false, [.sl kdAc])]
/-- The frame that all loops keep. -/
structure FA (l : Lo) (p : Nat) (v w : IV) (H : PT HB) (n0 i : Nat) (st : St) : Prop where
  h1 : st.T.get 1 = some (.imm v)
  b2 : Box st 2 l.ivs
  h5 : st.T.get 5 = some (.ptr p 0 0)
  h7 : st.T.get 7 = some (.imm (.int .i64 i))
  h8 : st.T.get 8 = some (.imm w)
  hH : st.H = H
  hn : n0 ≤ st.n
/-- How many hold a section, so far. -/
def Cnt (l : Lo) (rs : List Rst) (s j c : Nat) : Prop := (c = 0 ∧ ∀ r, r < j → (s : Int) ∉ hld l rs r) ∨ (c = 1 ∧ ∃ r, r < j ∧ (s : Int) ∈ hld l rs r)
theorem loopA2 {l : Lo} (ok : LoOk l) (is : ISL l) {rs : List Rst} (inv : INV l rs) {p : Nat} {v w : IV} (hw : Sl 4 w (rs.map ivRS)) {H : PT HB} {n0 i s : Nat} {ks : List Kf} {st : St} {Q : Ex → St → Prop} (h : FA l p v w H n0 i st) (h9 : st.T.get 9 = some (.imm (.int .i64 s))) (h10 : st.T.get 10 = some (.imm (.int .i64 (0 : Nat)))) (h11 : st.T.get 11 = some (.imm (.int .i64 (0 : Nat))))
    (hk : ∀ st' c, FA l p v w H n0 i st' → st'.T.get 9 = some (.imm (.int .i64 s)) → st'.T.get 10 = some (.imm (.int .i64 (c : Nat))) → Cnt l rs s l.rts.length c → Bk DG (K DG 29) 0 (.exit 5) ks st' Q) : Wp DG (K DG 29) 0 D.l5_2 ks st Q := by
  have hrb := rb3
  have lr := ok.lr
  have hrl := inv.ln
  have wl := hw.len
  simp only [List.length_map] at wl
  refine dw_loop (N := l.rts.length) (small lr) (fun j st => FA l p v w H n0 i st ∧ st.T.get 9 = some (.imm (.int .i64 s)) ∧ st.T.get 11 = some (.imm (.int .i64 j)) ∧ ∃ c : Nat, st.T.get 10 = some (.imm (.int .i64 c)) ∧ Cnt l rs s j c) (fun e st' => e = .exit 5 ∧ FA l p v w H n0 i st' ∧ st'.T.get 9 = some (.imm (.int .i64 s)) ∧ ∃ c : Nat, st'.T.get 10 = some (.imm (.int .i64 c)) ∧ Cnt l rs s l.rts.length c) (fun j st hle hI => ?_) ⟨h, h9, h11, 0, h10, .inl ⟨rfl, fun r hr => absurd hr (by omega)⟩⟩ (fun e s' h => by
    obtain ⟨rfl, a, b, c, e1, e2⟩ := h
    exact hk s' c a b e1 e2)
  obtain ⟨⟨g1, ⟨i2, g2, L2⟩, g5, g7, g8, hH, hn⟩, g9, g11, c, g10, hc⟩ := hI
  by_cases hj : j < l.rts.length
  · have hj1 : (j : Int) < l.rts.length := by omega
    have hj' := ilt_t hj1
    have hw8 : IntKind.i64.wrap ((j : Int) + 1) = (j : Int) + 1 := wr_succ hj lr
    have hb := Holds_bl (D := 29) (by omega) ok is (go_of inv.ro) hj (s : Int)
    have ix := fun {h : Nat → Option HB} {n : Nat} => idx_sl (h := h) (n := n) hw (by omega) (k := .i64) (z := (j : Int)) (by omega) (by omega)
    simp only [Int.toNat_natCast] at ix
    generalize nth rs j = y at *
    generalize hQ : (fun (e : Ex) (s' : St) => _) = Q'
    simp only [D.l5_2b]
    by_cases hm : (s : Int) ∈ hld l rs j
    · have c0 : c = 0 := by
        rcases hc with ⟨h, _⟩ | ⟨_, r, hr, hrm⟩
        · exact h
        · exact absurd (inv.apart (by omega) hj hrm hm) (by omega)
      subst c0
      have hw1 : IntKind.i64.wrap 1 = 1 := wr_id (by omega) (by omega)
      simp [hm] at hb
      simp [g1, g2, L2, g5, g7, g8, g9, g10, g11, hj', hw8, hw1, ix, hb, wl, hrl, ivRS, ok.s.scal, ok.p.scal, ok.g.scal, ok.r.scal, evParts, lay, imms, B6, undT, fnEnd, argsT, PT.get_put, keep, opRun, ev, evs, evO, give, giveI, binOf, isNilK, PM.flip, putT, putL, putH, loadOf, storeOf, cut, over, ofCells, asNat, natOr, calm, clashes, Acc.clash, ressOf, resOf, frz, frz.frzs, DV.flat, DV.flat.flats, imms]
      subst hQ
      exact .inl ⟨rfl, hj, ⟨by simp [PT.get_put], ⟨i2, by simp [PT.get_put], by simp [PT.get_put, imms]⟩, by simp [PT.get_put], by simp [PT.get_put], by simp [PT.get_put], hH, by simp; omega⟩, by simp [PT.get_put], by simp [PT.get_put], 1, by simp [PT.get_put], .inr ⟨rfl, j, by omega, hm⟩⟩
    · simp [hm] at hb
      simp [g1, g2, L2, g5, g7, g8, g9, g10, g11, hj', hw8, ix, hb, wl, hrl, ivRS, ok.s.scal, ok.p.scal, ok.g.scal, ok.r.scal, evParts, lay, imms, B6, undT, fnEnd, argsT, PT.get_put, keep, opRun, ev, evs, evO, give, giveI, binOf, isNilK, PM.flip, putT, putL, putH, loadOf, storeOf, cut, over, ofCells, asNat, natOr, calm, clashes, Acc.clash, ressOf, resOf, frz, frz.frzs, DV.flat, DV.flat.flats, imms]
      subst hQ
      refine .inl ⟨rfl, hj, ⟨by simp [PT.get_put], ⟨i2, by simp [PT.get_put], by simp [PT.get_put, imms]⟩, by simp [PT.get_put], by simp [PT.get_put], by simp [PT.get_put], hH, by simp; omega⟩, by simp [PT.get_put], by simp [PT.get_put], c, by simp [PT.get_put], ?_⟩
      rcases hc with ⟨rfl, h⟩ | ⟨rfl, r, hr, hrm⟩
      · refine .inl ⟨rfl, fun r hr => ?_⟩
        by_cases e : r = j
        · subst e; exact hm
        · exact h r (by omega)
      · exact .inr ⟨rfl, r, by omega, hrm⟩
  · obtain rfl : j = l.rts.length := by omega
    generalize hQ : (fun (e : Ex) (s' : St) => _) = Q'
    simp only [D.l5_2b]
    simp [g1, g2, L2, g5, g7, g8, g9, g10, g11, wl, hrl, B6, undT, fnEnd, argsT, PT.get_put, keep, opRun, ev, evs, evO, give, giveI, binOf, isNilK, PM.flip, putT, putL, putH, loadOf, storeOf, cut, over, ofCells, asNat, natOr, calm, clashes, Acc.clash, ressOf, resOf, frz, frz.frzs, DV.flat, DV.flat.flats, imms]
    subst hQ
    exact .inr ⟨nofun, rfl, ⟨by simp [PT.get_put, g1], ⟨i2, by simp [PT.get_put, g2], by simp [PT.get_put, L2, imms]⟩, by simp [PT.get_put, g5], by simp [PT.get_put, g7], by simp [PT.get_put, g8], hH, hn⟩, by simp [PT.get_put, g9], c, by simp [PT.get_put, g10], hc⟩
theorem loopA1 {l l' : Lo} (ok : LoOk l) (is : ISL l) (ok' : LoOk l') (eq : LoEq l l') {rs : List Rst} (inv : INV l rs) {p : Nat} {own : List Nat} {v w : IV} (hw : Sl 4 w (rs.map ivRS)) {H : PT HB} (lk : LkAt H p own l' rs) {n0 i : Nat} {ks : List Kf} {st : St} {Q : Ex → St → Prop} (h : FA l p v w H n0 i st) (h9 : st.T.get 9 = some (.imm (.int .i64 (0 : Nat))))
    (hk : ∀ st', FA l p v w H n0 i st' → Bk DG (K DG 29) 0 (.exit 3) ks st' Q) : Wp DG (K DG 29) 0 D.l5_1 ks st Q := by
  have hrb := rb3
  have sl := ok.s.len
  simp only [List.length_map] at sl
  have is' := eq.is is
  have ls := ok.ls
  have go' : GoneOk l' rs := fun r hr hm => by
    have := (go_of inv.ro) r (by rw [← eq.len]; exact hr) hm
    rw [(eq.rts r (by rw [← eq.len]; exact hr)).path]; exact this
  refine dw_loop (N := l.secs.length) (small ls) (fun s st => FA l p v w H n0 i st ∧ st.T.get 9 = some (.imm (.int .i64 s))) (fun e st' => e = .exit 3 ∧ FA l p v w H n0 i st') (fun s st hle hI => ?_) ⟨h, h9⟩ (fun e s' h => by rw [h.1]; exact hk s' h.2)
  obtain ⟨⟨g1, ⟨i2, g2, L2⟩, g5, g7, g8, hH, hn⟩, g9⟩ := hI
  by_cases hs : s < l.secs.length
  · have hs1 : (s : Int) < l.secs.length := by omega
    have hs' := ilt_t hs1
    have hw8 : IntKind.i64.wrap ((s : Int) + 1) = (s : Int) + 1 := wr_succ hs ls
    have ho := fun n lo => Holder_run (d := 28) (by omega) ok' lk go' is'.p5 (s : Int) (n := n) (lo := lo)
    rw [eq.hol] at ho
    generalize hQ : (fun (e : Ex) (s' : St) => _) = Q'
    simp only [D.l5_1b]
    simp [g1, g2, L2, g5, g7, g8, g9, sl, hs', hw8, imms, B6, undT, fnEnd, argsT, PT.get_put, keep, opRun, ev, evs, evO, give, giveI, binOf, isNilK, PM.flip, putT, putL, putH, loadOf, storeOf, cut, over, ofCells, asNat, natOr, calm, clashes, Acc.clash, ressOf, resOf, frz, frz.frzs, DV.flat, DV.flat.flats, imms]
    refine loopA2 ok is inv hw (H := H) (p := p) (v := v) (n0 := n0) (i := i) (s := s) ⟨by simp [PT.get_put], ⟨i2, by simp [PT.get_put], by simp [PT.get_put, imms]⟩, by simp [PT.get_put], by simp [PT.get_put], by simp [PT.get_put], hH, hn⟩ (by simp [PT.get_put]) (by simp [PT.get_put]) (by simp [PT.get_put]) ?_
    rintro s2 c ⟨f1, ⟨j2, f2, M2⟩, f5, f7, f8, fH, fn⟩ f9 f10 hc
    obtain ⟨n2, e2, hn2⟩ := ho s2.n s2.n
    have j10 : ILt 1 0 = False := ilt_f (by omega)
    rcases hc with ⟨rfl, hc⟩ | ⟨rfl, r, hr, hrm⟩
    · have hneg : hol l rs s < 0 := hol_neg.2 hc
      have hj := ilt_t hneg
      simp [f1, f2, M2, f5, f7, f8, f9, f10, fH, e2, hj, j10, hw8, B6, undT, fnEnd, argsT, PT.get_put, keep, opRun, ev, evs, evO, give, giveI, binOf, isNilK, PM.flip, putT, putL, putH, loadOf, storeOf, cut, over, ofCells, asNat, natOr, calm, clashes, Acc.clash, ressOf, resOf, frz, frz.frzs, DV.flat, DV.flat.flats, imms]
      subst hQ
      exact .inl ⟨rfl, hs, ⟨by simp [PT.get_put, f1], ⟨j2, by simp [PT.get_put, f2], by simp [PT.get_put, M2]⟩, by simp [PT.get_put, f5], by simp [PT.get_put, f7], by simp [PT.get_put, f8], by simp [fH], by simp; omega⟩, by simp [PT.get_put]⟩
    · have hneg : ¬ hol l rs s < 0 := fun h => hol_neg.1 h r hr hrm
      have hj := ilt_f (show (0 : Int) ≤ hol l rs s by omega)
      simp [f1, f2, M2, f5, f7, f8, f9, f10, fH, e2, hj, j10, hw8, B6, undT, fnEnd, argsT, PT.get_put, keep, opRun, ev, evs, evO, give, giveI, binOf, isNilK, PM.flip, putT, putL, putH, loadOf, storeOf, cut, over, ofCells, asNat, natOr, calm, clashes, Acc.clash, ressOf, resOf, frz, frz.frzs, DV.flat, DV.flat.flats, imms]
      subst hQ
      exact .inl ⟨rfl, hs, ⟨by simp [PT.get_put, f1], ⟨j2, by simp [PT.get_put, f2], by simp [PT.get_put, M2]⟩, by simp [PT.get_put, f5], by simp [PT.get_put, f7], by simp [PT.get_put, f8], by simp [fH], by simp; omega⟩, by simp [PT.get_put]⟩
  · obtain rfl : s = l.secs.length := by omega
    generalize hQ : (fun (e : Ex) (s' : St) => _) = Q'
    simp only [D.l5_1b]
    simp [g1, g2, L2, g5, g7, g8, g9, sl, imms, B6, undT, fnEnd, argsT, PT.get_put, keep, opRun, ev, evs, evO, give, giveI, binOf, isNilK, PM.flip, putT, putL, putH, loadOf, storeOf, cut, over, ofCells, asNat, natOr, calm, clashes, Acc.clash, ressOf, resOf, frz, frz.frzs, DV.flat, DV.flat.flats, imms]
    subst hQ
    exact .inr ⟨nofun, rfl, by simp [PT.get_put, g1], ⟨i2, by simp [PT.get_put, g2], by simp [PT.get_put, L2, imms]⟩, by simp [PT.get_put, g5], by simp [PT.get_put, g7], by simp [PT.get_put, g8], hH, hn⟩
structure IAp (l l' : Lo) (p : Nat) (v : IV) (i : Nat) (st : St) : Prop where
  h1 : st.T.get 1 = some (.imm v)
  b2 : Box st 2 l.ivs
  h5 : st.T.get 5 = some (.ptr p 0 0)
  h7 : st.T.get 7 = some (.imm (.int .i64 i))
  lk : LkI st.H st.n p l'
theorem loopA0 {l l' : Lo} (ok : LoOk l) (is : ISL l) (ok' : LoOk l') (eq : LoEq l l') {p : Nat} {v : IV} {xs : List Acv} (hv : Sl 6 v (xs.map ivAc)) (hl : xs.length ≤ reachBytes) (hx : ∀ x ∈ xs, AcOk x) {ks : List Kf} {st : St} {Q : Ex → St → Prop} (h : IAp l l' p v 0 st)
    (hk : ∀ st', Bk DG (K DG 29) 0 (.exit 0) ks st' Q) : Wp DG (K DG 29) 0 D.l5_0 ks st Q := by
  have hrb := rb3
  have vl := hv.len
  simp only [List.length_map] at vl
  have is' := eq.is is
  refine dw_loop (N := xs.length) (small hl) (IAp l l' p v) (fun e st' => e = .exit 0) (fun i st hle hI => ?_) h (fun e s' h => by subst h; exact hk s')
  obtain ⟨h1, ⟨i2, h2, L2⟩, h5, h7, lk⟩ := hI
  by_cases hi : i < xs.length
  · have hi1 : (i : Int) < xs.length := by omega
    have hi' := ilt_t hi1
    have hw8 : IntKind.i64.wrap ((i : Int) + 1) = (i : Int) + 1 := wr_succ hi hl
    by_cases h60 : (i : Int) < 60
    · have j60 := ilt_t h60
      have ac := hx _ (nth_mem hi)
      have ix := fun {h : Nat → Option HB} {n : Nat} => idx_sl (h := h) (n := n) hv (by omega) (k := .i64) (z := (i : Int)) (by omega) hi1
      simp only [Int.toNat_natCast] at ix
      generalize nth xs i = x at *
      have io := ac.io
      generalize hQ : (fun (e : Ex) (s' : St) => _) = Q'
      -- what is behind the act
      have rest : ∀ (H1 : PT HB) (n1 : Nat), LkI H1 n1 p l' → ∃ w m, callM (K DG 29) .ro 24 [.ptr p 0 0] H1 n1 0 = some ⟨.imm w, H1, m, [.rA]⟩ ∧ n1 ≤ m ∧ bl (K DG 29) 25 [l.dv, .imm w] = some (.imm (.bool true)) ∧ (DV.imm w).scal = true ∧
          ∀ {ks : List Kf} {st : St} {Q : Ex → St → Prop}, FA l p v w H1 m i st → st.T.get 9 = some (.imm (.int .i64 (0 : Nat))) → (∀ st', FA l p v w H1 m i st' → Bk DG (K DG 29) 0 (.exit 3) ks st' Q) → Wp DG (K DG 29) 0 D.l5_1 ks st Q := by
        intro H1 n1 lk1
        obtain ⟨own, rs, lk1, inv', ho⟩ := lk1
        obtain ⟨w, m, er, hm, hw⟩ := Routes_ro (d := 28) (by omega) (by have := is'.r2; have := inv'.ln; omega) lk1 (n := n1) (lo := 0)
        have iv := eq.inv inv'
        have em := May_bl (D := 29) (by omega) ok is iv.ro iv.nc iv.ln hw
        exact ⟨w, m, er, hm, em, hw.scal, fun h h9 hk => loopA1 ok is ok' eq iv hw lk1 h h9 hk⟩
      by_cases hk1 : x.kind = 1
      · obtain ⟨u, H1, n1, e1, lk1, hn1⟩ := cmd_any (d := 28) (by omega) ok' is' lk io x.c x.r
        obtain ⟨w, m, er, hm, em, wsc, loop⟩ := rest H1 n1 lk1
        simp only [D.l5_0b]
        simp [h1, h2, L2, h5, h7, vl, hi', hw8, j60, ix, ivAc, hk1, e1, er, em, wsc, ok.s.scal, ok.p.scal, ok.g.scal, ok.r.scal, io.o.scal, io.l.scal, evParts, lay, imms, B6, undT, fnEnd, argsT, PT.get_put, keep, opRun, ev, evs, evO, give, giveI, binOf, isNilK, PM.flip, putT, putL, putH, loadOf, storeOf, cut, over, ofCells, asNat, natOr, calm, clashes, Acc.clash, ressOf, resOf, frz, frz.frzs, DV.flat, DV.flat.flats, imms]
        refine loop ⟨by simp [PT.get_put], ⟨i2, by simp [PT.get_put], by simp [PT.get_put, imms]⟩, by simp [PT.get_put], by simp [PT.get_put], by simp [PT.get_put], rfl, by simp⟩ (by simp [PT.get_put]) ?_
        rintro s2 ⟨f1, ⟨j2, f2, M2⟩, f5, f7, f8, fH, fn⟩
        simp [f1, f2, M2, f5, f7, f8, hw8, B6, undT, fnEnd, argsT, PT.get_put, keep, opRun, ev, evs, evO, give, giveI, binOf, isNilK, PM.flip, putT, putL, putH, loadOf, storeOf, cut, over, ofCells, asNat, natOr, calm, clashes, Acc.clash, ressOf, resOf, frz, frz.frzs, DV.flat, DV.flat.flats, imms]
        subst hQ
        exact .inl ⟨rfl, hi, by simp [PT.get_put, f1], ⟨j2, by simp [PT.get_put, f2], by simp [PT.get_put, M2]⟩, by simp [PT.get_put, f5], by simp [PT.get_put], by rw [fH]; exact lk1.mono (by simp; omega) fun j hj => rfl⟩
      · by_cases hk2 : x.kind = 2
        · obtain ⟨u, H1, n1, e1, lk1, hn1⟩ := cyc_any (d := 28) (by omega) ok' is' lk io
          obtain ⟨w, m, er, hm, em, wsc, loop⟩ := rest H1 n1 lk1
          simp only [D.l5_0b]
          simp [h1, h2, L2, h5, h7, vl, hi', hw8, j60, ix, ivAc, hk1, hk2, e1, er, em, wsc, ok.s.scal, ok.p.scal, ok.g.scal, ok.r.scal, io.o.scal, io.l.scal, evParts, lay, imms, B6, undT, fnEnd, argsT, PT.get_put, keep, opRun, ev, evs, evO, give, giveI, binOf, isNilK, PM.flip, putT, putL, putH, loadOf, storeOf, cut, over, ofCells, asNat, natOr, calm, clashes, Acc.clash, ressOf, resOf, frz, frz.frzs, DV.flat, DV.flat.flats, imms]
          refine loop ⟨by simp [PT.get_put], ⟨i2, by simp [PT.get_put], by simp [PT.get_put, imms]⟩, by simp [PT.get_put], by simp [PT.get_put], by simp [PT.get_put], rfl, by simp⟩ (by simp [PT.get_put]) ?_
          rintro s2 ⟨f1, ⟨j2, f2, M2⟩, f5, f7, f8, fH, fn⟩
          simp [f1, f2, M2, f5, f7, f8, hw8, B6, undT, fnEnd, argsT, PT.get_put, keep, opRun, ev, evs, evO, give, giveI, binOf, isNilK, PM.flip, putT, putL, putH, loadOf, storeOf, cut, over, ofCells, asNat, natOr, calm, clashes, Acc.clash, ressOf, resOf, frz, frz.frzs, DV.flat, DV.flat.flats, imms]
          subst hQ
          exact .inl ⟨rfl, hi, by simp [PT.get_put, f1], ⟨j2, by simp [PT.get_put, f2], by simp [PT.get_put, M2]⟩, by simp [PT.get_put, f5], by simp [PT.get_put], by rw [fH]; exact lk1.mono (by simp; omega) fun j hj => rfl⟩
        · obtain ⟨u, H1, n1, e1, lk1, hn1⟩ := set_any (d := 28) (by omega) ok' is' lk ac.rv ac.lr
          obtain ⟨w, m, er, hm, em, wsc, loop⟩ := rest H1 n1 lk1
          simp only [D.l5_0b]
          simp [h1, h2, L2, h5, h7, vl, hi', hw8, j60, ix, ivAc, hk1, hk2, e1, er, em, wsc, ac.rv.scal, ok.s.scal, ok.p.scal, ok.g.scal, ok.r.scal, io.o.scal, io.l.scal, evParts, lay, imms, B6, undT, fnEnd, argsT, PT.get_put, keep, opRun, ev, evs, evO, give, giveI, binOf, isNilK, PM.flip, putT, putL, putH, loadOf, storeOf, cut, over, ofCells, asNat, natOr, calm, clashes, Acc.clash, ressOf, resOf, frz, frz.frzs, DV.flat, DV.flat.flats, imms]
          refine loop ⟨by simp [PT.get_put], ⟨i2, by simp [PT.get_put], by simp [PT.get_put, imms]⟩, by simp [PT.get_put], by simp [PT.get_put], by simp [PT.get_put], rfl, by simp⟩ (by simp [PT.get_put]) ?_
          rintro s2 ⟨f1, ⟨j2, f2, M2⟩, f5, f7, f8, fH, fn⟩
          simp [f1, f2, M2, f5, f7, f8, hw8, B6, undT, fnEnd, argsT, PT.get_put, keep, opRun, ev, evs, evO, give, giveI, binOf, isNilK, PM.flip, putT, putL, putH, loadOf, storeOf, cut, over, ofCells, asNat, natOr, calm, clashes, Acc.clash, ressOf, resOf, frz, frz.frzs, DV.flat, DV.flat.flats, imms]
          subst hQ
          exact .inl ⟨rfl, hi, by simp [PT.get_put, f1], ⟨j2, by simp [PT.get_put, f2], by simp [PT.get_put, M2]⟩, by simp [PT.get_put, f5], by simp [PT.get_put], by rw [fH]; exact lk1.mono (by simp; omega) fun j hj => rfl⟩
    · have j60 := ilt_f (show (60 : Int) ≤ i by omega)
      generalize hQ : (fun (e : Ex) (s' : St) => _) = Q'
      simp only [D.l5_0b]
      simp [h1, h2, L2, h5, h7, vl, hi', j60, B6, undT, fnEnd, argsT, PT.get_put, keep, opRun, ev, evs, evO, give, giveI, binOf, isNilK, PM.flip, putT, putL, putH, loadOf, storeOf, cut, over, ofCells, asNat, natOr, calm, clashes, Acc.clash, ressOf, resOf, frz, frz.frzs, DV.flat, DV.flat.flats, imms]
      subst hQ
      exact .inr ⟨nofun, rfl⟩
  · obtain rfl : i = xs.length := by omega
    generalize hQ : (fun (e : Ex) (s' : St) => _) = Q'
    simp only [D.l5_0b]
    simp [h1, h2, L2, h5, h7, vl, B6, undT, fnEnd, argsT, PT.get_put, keep, opRun, ev, evs, evO, give, giveI, binOf, isNilK, PM.flip, putT, putL, putH, loadOf, storeOf, cut, over, ofCells, asNat, natOr, calm, clashes, Acc.clash, ressOf, resOf, frz, frz.frzs, DV.flat, DV.flat.flats, imms]
    subst hQ
    exact .inr ⟨nofun, rfl⟩
theorem run_LockApart {l : Lo} (ok : LoOk l) {v : IV} {xs : List Acv} (hv : Sl 6 v (xs.map ivAc)) (hl : xs.length ≤ reachBytes) (hx : ∀ x ∈ xs, AcOk x) : Fe (K DG 30 5 [l.dv, .imm v] .lf 0 0) (fun v _ _ => v = .imm (.bool true)) := by
  have hrb := rb3
  obtain ⟨m, hm, hs⟩ := size_bl (D := 29) (by omega) ok
  obtain ⟨b, hlg⟩ := long_bl (D := 29) (by omega) hv hl hx
  have hkn := known_bl
  rw [D.k5]
  refine fn_dw rfl ?_
  by_cases hm3 : m < 3000
  · have hj3 : ILt (m : Int) 3000 = True := ilt_t (by omega)
    have e2 := Is4_bl (D := 29) (by omega) ok (hs hm3).sm
    cases b with
    | true => simp [ok.s.scal, ok.p.scal, ok.g.scal, ok.r.scal, hv.scal, hm, hj3, hlg, B6, undT, fnEnd, argsT, PT.get_put, keep, opRun, ev, evs, evO, give, giveI, binOf, isNilK, PM.flip, putT, putL, putH, loadOf, storeOf, cut, over, ofCells, asNat, natOr, calm, clashes, Acc.clash, ressOf, resOf, frz, frz.frzs, DV.flat, DV.flat.flats, imms]
    | false =>
      by_cases is : ISL l
      · rw [dec_t is] at e2
        obtain ⟨v1, H1, n1, e1, p, own, l', rfl, ok', eq, lk, hown, _⟩ := LockNew_run (d := 28) (by omega) ok is .lf 1
        simp [ok.s.scal, ok.p.scal, ok.g.scal, ok.r.scal, hv.scal, hm, hj3, hlg, e2, e1, B6, undT, fnEnd, argsT, PT.get_put, keep, opRun, ev, evs, evO, give, giveI, binOf, isNilK, PM.flip, putT, putL, putH, loadOf, storeOf, cut, over, ofCells, asNat, natOr, calm, clashes, Acc.clash, ressOf, resOf, frz, frz.frzs, DV.flat, DV.flat.flats, imms]
        refine loopA0 ok is ok' eq hv hl hx ⟨by simp [PT.get_put], ⟨0, by simp [PT.get_put], by simp [PT.get_put, imms]⟩, by simp [PT.get_put], by simp [PT.get_put], ⟨own, _, lk, by rw [← eq.len]; exact INV.new, fun j hj => (hown j hj).2⟩⟩ ?_
        intro st'
        simp [hkn, B6, undT, fnEnd, argsT, PT.get_put, keep, opRun, ev, evs, evO, give, giveI, binOf, isNilK, PM.flip, putT, putL, putH, loadOf, storeOf, cut, over, ofCells, asNat, natOr, calm, clashes, Acc.clash, ressOf, resOf, frz, frz.frzs, DV.flat, DV.flat.flats, imms]
      · rw [dec_f is] at e2
        simp [ok.s.scal, ok.p.scal, ok.g.scal, ok.r.scal, hv.scal, hm, hj3, hlg, e2, B6, undT, fnEnd, argsT, PT.get_put, keep, opRun, ev, evs, evO, give, giveI, binOf, isNilK, PM.flip, putT, putL, putH, loadOf, storeOf, cut, over, ofCells, asNat, natOr, calm, clashes, Acc.clash, ressOf, resOf, frz, frz.frzs, DV.flat, DV.flat.flats, imms]
  · have hj3 : ILt (m : Int) 3000 = False := ilt_f (by omega)
    simp [ok.s.scal, ok.p.scal, ok.g.scal, ok.r.scal, hv.scal, hm, hj3, B6, undT, fnEnd, argsT, PT.get_put, keep, opRun, ev, evs, evO, give, giveI, binOf, isNilK, PM.flip, putT, putL, putH, loadOf, storeOf, cut, over, ofCells, asNat, natOr, calm, clashes, Acc.clash, ressOf, resOf, frz, frz.frzs, DV.flat, DV.flat.flats, imms]
theorem pure_LockApart : ∀ cs, ArgsFit ss_LockApart cs → ∃ H' n', K (doorG 0 1) 30 5 cs .lf 0 0 = some (.imm (.bool true), H', n') := fun cs h => by
  obtain ⟨d, ds, rfl, h1, h2⟩ := fit_cons h
  obtain ⟨l, rfl, ok⟩ := lay_of h1
  obtain ⟨d1, r1, rfl, g1, h3⟩ := fit_cons h2
  obtain ⟨k, iv, hk, rfl, hf⟩ := g1
  cases hk
  obtain ⟨xs, hv, hl, hx⟩ := acts_of hf
  cases fit0 (r := []) h3
  obtain ⟨v, H, n, e, rfl⟩ := run_LockApart ok hv hl hx
  exact ⟨H, n, e⟩
end Go.Proofs.YtkgjgehffijepabDoor.D
