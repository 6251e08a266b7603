/-
  LockIn over D.
-/
import Derived.Test.YtkgjgehffijepabDoorT4
import Derived.Test.YtkgjgehffijepabDoorT9a
import Derived.Test.YtkgjgehffijepabDoorK4
set_option linter.unusedVariables false
set_option linter.unusedSimpArgs false
set_option maxHeartbeats 16000000
namespace Go.Proofs.YtkgjgehffijepabDoor.D
open Go Go.PM Go.Lib
def ss_LockIn : List (Bool × List Kd) := [(true, kdL), (true, [.sl [.b], .sl [.i .i64]])]
theorem in_of {d : DV} (h : ArgFit true [.sl [.b], .sl [.i .i64]] d) : ∃ ov lv os ls, d = inD ov lv ∧ InOk ov lv os ls := by
  obtain ⟨ivs, rfl, hl, hfit⟩ := h
  match ivs, hl with
  | [a, b], _ =>
    obtain ⟨os, o1, o2, _⟩ := bools_of (hfit 0 _ _ rfl rfl)
    obtain ⟨ls, l1, l2, _⟩ := ints_of (hfit 1 _ _ rfl rfl)
    exact ⟨a, b, os, ls, rfl, ⟨o1, l1, o2, l2⟩⟩
theorem LoEq.mi {l l' : Lo} (e : LoEq l l') {os : List Bool} {ls : List Int} : MI l' os ls ↔ MI l os ls := by simp only [MI, e.secs, e.pts]
theorem wide_bl {D : Nat} (hD : 1 ≤ D) {ov lv : IV} {os : List Bool} {ls : List Int} (io : InOk ov lv os ls) : ∃ b : Bool, bl (K DG D) 16 [inD ov lv] = some (.imm (.bool b)) := by
  obtain ⟨d, rfl⟩ : ∃ d, D = d + 1 := ⟨D - 1, by omega⟩
  have ol := io.o.len
  have il := io.l.len
  simp only [List.length_map] at ol il
  have key : Fe (K DG (d + 1) 16 [inD ov lv] .lf 0 0) (fun v _ _ => ∃ b : Bool, v = .imm (.bool b)) := by
    rw [D.k16]
    refine fn_dw rfl ?_
    generalize hQ : Fin _ _ = Q
    simp (config := {contextual := true}) [io.o.scal, io.l.scal, ol, il, B6, undT, fnEnd, argsT, PT.get_put, keep, opRun, ev, evs, evO, give, giveI, binOf, isNilK, PM.flip, putT, putL, putH, loadOf, storeOf, cut, over, ofCells, asNat, natOr, calm, clashes, Acc.clash, ressOf, resOf, frz, frz.frzs, DV.flat, DV.flat.flats, imms]
    subst hQ
    simp (config := {contextual := true}) [B6, undT, fnEnd, argsT, PT.get_put, keep, opRun, ev, evs, evO, give, giveI, binOf, isNilK, PM.flip, putT, putL, putH, loadOf, storeOf, cut, over, ofCells, asNat, natOr, calm, clashes, Acc.clash, ressOf, resOf, frz, frz.frzs, DV.flat, DV.flat.flats, imms]
    exact fun _ => (Classical.em _).symm
  obtain ⟨v, H, n, e, b, rfl⟩ := key
  exact ⟨b, bl_imm e⟩
theorem zeros_I {sz k id : Nat} {H : PT HB} {r : List IV} (h : H.get id = some ⟨sz, List.replicate k (imms r)⟩) : snap H.get (.sl id 0 k k) = some (.imm (.lst false sz (List.replicate k r))) := by
  have hf : frzI H.get 0 frzDepth (.sl id 0 k k) = some (.lst false sz (List.replicate k r)) := by
    show (if 0 ≤ id then _ else _) = _
    rw [if_pos (Nat.zero_le _)]
    simp only [h]
    rw [if_pos (by simp)]
    simp only [List.drop_zero]
    rw [List.take_of_length_le (by simp), show List.replicate k (imms r) = (List.replicate k r).map imms by simp, mapO_frz2]
    rfl
  show (frzI H.get 0 frzDepth (.sl id 0 k k)).map DV.imm = _
  rw [hf]
  rfl
theorem run_LockIn {l : Lo} (ok : LoOk l) {ov lv : IV} {os : List Bool} {ls : List Int} (io : InOk ov lv os ls) : Fe (K DG 30 4 [l.dv, inD ov lv] .lf 0 0) (fun v _ _ => v = .imm (.bool true)) := by
  have hrb := rb3
  obtain ⟨m, hm, hs⟩ := size_bl (D := 29) (by omega) ok
  obtain ⟨b, hwd⟩ := wide_bl (D := 29) (by omega) io
  have hkn := known_bl
  have pl := ok.p.len
  have gl := ok.g.len
  simp only [List.length_map] at pl gl
  rw [D.k4]
  refine fn_dw rfl ?_
  by_cases hm3 : m < 3000
  · have hj3 : ILt (m : Int) 3000 = True := ilt_t (by omega)
    have e2 := Is4_bl (D := 29) (by omega) ok (hs hm3).sm
    cases b with
    | true => simp [ok.s.scal, ok.p.scal, ok.g.scal, ok.r.scal, io.o.scal, io.l.scal, hm, hj3, hwd, B6, undT, fnEnd, argsT, PT.get_put, keep, opRun, ev, evs, evO, give, giveI, binOf, isNilK, PM.flip, putT, putL, putH, loadOf, storeOf, cut, over, ofCells, asNat, natOr, calm, clashes, Acc.clash, ressOf, resOf, frz, frz.frzs, DV.flat, DV.flat.flats, imms]
    | false =>
      by_cases is : ISL l
      · rw [dec_t is] at e2
        obtain ⟨v1, H1, n1, e1, p, own, l', rfl, ok', eq, lk, hown, _⟩ := LockNew_run (d := 28) (by omega) ok is .lf 2
        have is' := eq.is is
        have k1 := MayIn5_bl (D := 29) (by omega) ok io
        have k2 := MayIn_bl (D := 29) (by omega) ok io
        have hp := hown p (by simp)
        by_cases hMI : MI l os ls
        · rw [dec_t hMI] at k1 k2
          have s1 := fun n (hn : p < n) => Safe_ro (d := 28) ok' is'.p2 is'.g2 lk (n := n) (lo := 0) hn
          have s2 := s1 n1 (by omega)
          have s3 := s1 (n1 + 3) (by omega)
          have c1 : l'.pts.length = l.pts.length := by rw [eq.pts]
          have c2 : l'.sigs.length = l.sigs.length := by rw [eq.sigs]
          simp [ok.s.scal, ok.p.scal, ok.g.scal, ok.r.scal, io.o.scal, io.l.scal, hm, hj3, hwd, e2, e1, k1, k2, s2, s3, pl, gl, c1, c2, hkn, B6, undT, fnEnd, argsT, PT.get_put, keep, opRun, ev, evs, evO, give, giveI, binOf, isNilK, PM.flip, putT, putL, putH, loadOf, storeOf, cut, over, ofCells, asNat, natOr, calm, clashes, Acc.clash, ressOf, resOf, frz, frz.frzs, DV.flat, DV.flat.flats, imms]
        · have hm' : ¬ MI l' os ls := fun h => hMI (eq.mi.1 h)
          rw [dec_f hMI] at k1 k2
          obtain ⟨n2, c1, hn2⟩ := Command_err (d := 28) (by omega) ok' lk io hm' (n := n1) (by omega) 1 0
          obtain ⟨v3, H3, n3, c3, rfl, rfl, h3⟩ := Cycle_err (d := 28) (by omega) ok' is'.p2 is'.g2 lk io hm' (n := n2) (fun i hi => by have := hown i hi; omega)
          have g1 : H3.get (n2 + 2 + 1) = some ⟨1, List.replicate l'.pts.length (imms [.int .i64 0])⟩ := by
            have : ¬ n2 + 2 + 1 = n2 + 2 + 2 := by omega
            rw [h3]; simp [PT.get_put, this]
          have g2 : H3.get (n2 + 2 + 2) = some ⟨1, List.replicate l'.sigs.length (imms [.bool false])⟩ := by rw [h3]; simp [PT.get_put]
          have lk3 : LkAt H3 p own l' _ := lk.mono fun i hi => by
            have := hown i hi
            have a1 : ¬ i = n2 + 2 + 1 := by omega
            have a2 : ¬ i = n2 + 2 + 2 := by omega
            rw [h3]; simp [PT.get_put, a1, a2]
          have s1 := Safe_ro (d := 28) ok' is'.p2 is'.g2 lk3 (n := n2 + 2 + 3 + 1) (lo := 0) (by omega)
          have q := SameOut_same (D := 29) (by omega) (a := .lst false 1 (List.replicate l'.pts.length [.int .i64 0])) (a' := .lst false 1 (List.replicate l'.pts.length [.int .i64 0])) (b := .lst false 1 (List.replicate l'.sigs.length [.bool false])) (b' := .lst false 1 (List.replicate l'.sigs.length [.bool false]))
            (ds := List.replicate l'.pts.length 0) (ps := List.replicate l'.sigs.length false) (.inr ⟨false, by simp [ivI]⟩) (.inr ⟨false, by simp [ivI]⟩) (.inr ⟨false, by simp [ivB1]⟩) (.inr ⟨false, by simp [ivB1]⟩) (by have := is'.p2; simp; omega) (by have := is'.g2; simp; omega)
          have z1 := zeros_I g1
          have z2 := zeros_I g2
          have sn : snap.snaps H3.get [.agg [.sl (n2 + 2 + 1) 0 l'.pts.length l'.pts.length, .sl (n2 + 2 + 2) 0 l'.sigs.length l'.sigs.length], safeV l'] = some [safeV l', safeV l'] := by
            have y1 : snap H3.get (.agg [.sl (n2 + 2 + 1) 0 l'.pts.length l'.pts.length, .sl (n2 + 2 + 2) 0 l'.sigs.length l'.sigs.length]) = some (safeV l') := by
              show (snap.snaps H3.get [.sl (n2 + 2 + 1) 0 l'.pts.length l'.pts.length, .sl (n2 + 2 + 2) 0 l'.sigs.length l'.sigs.length]).map DV.agg = _
              simp only [snap.snaps, z1, z2]
              rfl
            have y2 : snap H3.get (safeV l') = some (safeV l') := rfl
            simp only [snap.snaps, y1, y2]
          have w := fun m => call_snap (m := m) (lo := 0) (by rfl) sn q
          simp [ok.s.scal, ok.p.scal, ok.g.scal, ok.r.scal, io.o.scal, io.l.scal, hm, hj3, hwd, e2, e1, k1, k2, c1, c3, s1, w, hkn, evParts, lay, B6, undT, fnEnd, argsT, PT.get_put, keep, opRun, ev, evs, evO, give, giveI, binOf, isNilK, PM.flip, putT, putL, putH, loadOf, storeOf, cut, over, ofCells, asNat, natOr, calm, clashes, Acc.clash, ressOf, resOf, frz, frz.frzs, DV.flat, DV.flat.flats, imms]
      · rw [dec_f is] at e2
        simp [ok.s.scal, ok.p.scal, ok.g.scal, ok.r.scal, io.o.scal, io.l.scal, hm, hj3, hwd, e2, B6, undT, fnEnd, argsT, PT.get_put, keep, opRun, ev, evs, evO, give, giveI, binOf, isNilK, PM.flip, putT, putL, putH, loadOf, storeOf, cut, over, ofCells, asNat, natOr, calm, clashes, Acc.clash, ressOf, resOf, frz, frz.frzs, DV.flat, DV.flat.flats, imms]
  · have hj3 : ILt (m : Int) 3000 = False := ilt_f (by omega)
    simp [ok.s.scal, ok.p.scal, ok.g.scal, ok.r.scal, io.o.scal, io.l.scal, hm, hj3, B6, undT, fnEnd, argsT, PT.get_put, keep, opRun, ev, evs, evO, give, giveI, binOf, isNilK, PM.flip, putT, putL, putH, loadOf, storeOf, cut, over, ofCells, asNat, natOr, calm, clashes, Acc.clash, ressOf, resOf, frz, frz.frzs, DV.flat, DV.flat.flats, imms]
theorem pure_LockIn : ∀ cs, ArgsFit ss_LockIn cs → ∃ H' n', K (doorG 0 1) 30 4 cs .lf 0 0 = some (.imm (.bool true), H', n') := fun cs h => by
  obtain ⟨d, ds, rfl, h1, h2⟩ := fit_cons h
  obtain ⟨l, rfl, ok⟩ := lay_of h1
  obtain ⟨d1, r1, rfl, g1, h3⟩ := fit_cons h2
  obtain ⟨ov, lv, os, ls, rfl, io⟩ := in_of g1
  cases fit0 (r := []) h3
  obtain ⟨v, H, n, e, rfl⟩ := run_LockIn ok io
  exact ⟨H, n, e⟩
end Go.Proofs.YtkgjgehffijepabDoor.D
