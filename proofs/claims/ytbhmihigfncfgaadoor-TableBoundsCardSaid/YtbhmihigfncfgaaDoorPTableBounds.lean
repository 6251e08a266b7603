/-
  TableBounds over D.
-/
import Derived.Test.YtbhmihigfncfgaaDoorB2
import Derived.Test.YtbhmihigfncfgaaDoorT9a
set_option linter.unusedVariables false
set_option linter.unusedSimpArgs false
set_option maxHeartbeats 16000000
namespace Go.Proofs.YtbhmihigfncfgaaDoor.D
open Go Go.PM Go.Lib
def ss_TableBounds : List (Bool × List Kd) := [(false, [.i .i64]), (false, [.i .i64]), (false, [.i .i64]), (false, [.i .i64])]
theorem mapO_map {α β γ : Type} {f : β → Option γ} {g : α → β} {h : α → γ} : ∀ l : List α, (∀ x ∈ l, f (g x) = some (h x)) → mapO f (l.map g) = some (l.map h)
  | [], _ => rfl
  | x :: l, hx => by
    simp only [List.map_cons, mapO, hx x (by simp), mapO_map l fun y hy => hx y (by simp [hy])]
theorem AtS.snap {sz : Nat} {x : DV} {H : PT HB} {n : Nat} {rows : List (List IV)} (h : AtS sz x H n rows) : ∃ v, PM.snap H.get x = some (.imm v) ∧ Sl sz v rows := by
  obtain ⟨v, e, hv⟩ := row_frz (d := 3) h
  refine ⟨v, ?_, hv⟩
  rcases h with ⟨rfl, _⟩ | ⟨id, _, rfl, _⟩
  · cases e; rfl
  · show (frzI H.get 0 frzDepth (.sl id 0 rows.length rows.length)).map DV.imm = _
    rw [show frzDepth = 3 + 1 from rfl, e]; rfl
theorem RtAt.snap {H : PT HB} {n k P : Nat} {rv : DV} (h : RtAt H n k P rv) : ∃ (v : IV) (q : Nat → IV), PM.snap H.get rv = some (.imm v) ∧ Sl 6 v ((List.range k).map fun i => ivRt (rtB q P i)) ∧ ∀ i, i < k → Sl 2 (q i) (ndR P) := by
  obtain ⟨qs, h1, h2⟩ := h
  have hq : ∀ i, ∃ v, i < k → frzI H.get 0 3 (qs i) = some v ∧ Sl 2 v (ndR P) := fun i => by
    by_cases hi : i < k
    · obtain ⟨v, e, hv⟩ := row_frz (d := 2) (h2 i hi).1
      exact ⟨v, fun _ => ⟨e, hv⟩⟩
    · exact ⟨.nils, fun h => absurd h hi⟩
  obtain ⟨q, hq⟩ := Classical.axiomOfChoice hq
  rcases h1 with ⟨rfl, rfl⟩ | ⟨id, _, rfl, _, hg⟩
  · exact ⟨.nils, q, rfl, .inl ⟨rfl, rfl⟩, fun i hi => absurd hi (by omega)⟩
  · refine ⟨.lst false 6 ((List.range k).map fun i => ivRt (rtB q P i)), q, ?_, .inr ⟨_, rfl⟩, fun i hi => (hq i hi).2⟩
    have hm : mapO (mapO (frzI H.get 0 3)) ((List.range k).map fun i => rtRow i (qs i)) = some ((List.range k).map fun i => ivRt (rtB q P i)) := mapO_map _ fun i hi => by
      have e := (hq i (List.mem_range.1 hi)).1
      simp only [rtRow, mapO, frzI, e]
      rfl
    have : frzI H.get 0 frzDepth (.sl id 0 k k) = some (.lst false 6 ((List.range k).map fun i => ivRt (rtB q P i))) := by
      show (if 0 ≤ id then _ else _) = _
      rw [if_pos (Nat.zero_le _)]
      simp only [hg]
      rw [if_pos (by simp)]
      simp only [List.drop_zero]
      rw [List.take_of_length_le (by simp), hm]
      rfl
    show (frzI H.get 0 frzDepth (.sl id 0 k k)).map DV.imm = _
    rw [this]; rfl
theorem loB_ok {sv pv gv rv : IV} {q : Nat → IV} {S G P R : Nat} (hS : S ≤ 15) (hG : G ≤ 15) (hP : P ≤ 15) (hR : R ≤ 15) (h1 : Sl 1 sv (secR S)) (h2 : Sl 2 pv (ptR P)) (h3 : Sl 1 gv (sigR G)) (h4 : Sl 6 rv ((List.range R).map fun i => ivRt (rtB q P i))) (h5 : ∀ i, i < R → Sl 2 (q i) (ndR P)) : LoOk (loB sv pv gv rv q S G P R) := by
  have hrb := rb3
  refine ⟨?_, ?_, ?_, ?_, by simp [loB]; omega, by simp [loB]; omega, by simp [loB]; omega, by simp [loB]; omega, fun x hx => ?_, fun x hx => ?_, fun x hx => ?_, fun x hx => ?_⟩
  · show Sl 1 sv (((List.range S).map (nmb 97)).map ivS)
    rw [List.map_map]; exact h1
  · show Sl 2 pv (((List.range P).map fun i => (⟨nmb 99 i, 0⟩ : Pt)).map ivP)
    rw [List.map_map]; exact h2
  · show Sl 1 gv (((List.range G).map (nmb 98)).map ivS)
    rw [List.map_map]; exact h3
  · show Sl 6 rv (((List.range R).map (rtB q P)).map ivRt)
    rw [List.map_map]; exact h4
  · obtain ⟨i, _, rfl⟩ := List.mem_map.1 (show x ∈ (List.range S).map (nmb 97) from hx)
    simp [nmb]; omega
  · obtain ⟨i, _, rfl⟩ := List.mem_map.1 (show x ∈ (List.range P).map fun i => (⟨nmb 99 i, 0⟩ : Pt) from hx)
    simp [nmb]; omega
  · obtain ⟨i, _, rfl⟩ := List.mem_map.1 (show x ∈ (List.range G).map (nmb 98) from hx)
    simp [nmb]; omega
  · obtain ⟨i, hi, rfl⟩ := List.mem_map.1 (show x ∈ (List.range R).map (rtB q P) from hx)
    refine ⟨.inr ⟨_, rfl⟩, ?_, .inl ⟨rfl, rfl⟩, by simp [rtB, nmb]; omega, by simp [rtB]; omega, by simp [rtB, needL]; omega, by simp [rtB]⟩
    show Sl 2 (q i) ((needL P).map ivN)
    unfold needL
    rw [List.map_map]
    exact h5 i (List.mem_range.1 hi)
theorem at_imm {sz : Nat} {x : DV} {H : PT HB} {n : Nat} {rows : List (List IV)} (h : AtS sz x H n rows) (hp : x.pure = true) : x = .imm .nils := by
  rcases h with ⟨rfl, _⟩ | ⟨id, _, rfl, _⟩
  · rfl
  · cases hp
theorem rt_imm {H : PT HB} {n k P : Nat} {rv : DV} (h : RtAt H n k P rv) (hp : rv.pure = true) : rv = .imm .nils := by
  obtain ⟨_, ⟨rfl, _⟩ | ⟨_, _, rfl, _⟩, _⟩ := h
  · rfl
  · cases hp
/-- Whether the layout that lies in the heap may be, told by table.Is. -/
theorem is_call {H : PT HB} {n S G P R : Nat} {sv pv gv rv : DV} (hS : S ≤ 15) (hG : G ≤ 15) (hP : P ≤ 15) (hR : R ≤ 15) (h1 : AtS 1 sv H n (secR S)) (h2 : AtS 2 pv H n (ptR P)) (h3 : AtS 1 gv H n (sigR G)) (h4 : RtAt H n R P rv) :
    ∃ acc, ∀ m, callM (K DG 29) .blind 13 [.agg [sv, pv, gv, rv]] H m 0 = some ⟨.imm (.bool (dec (1 ≤ S ∧ S ≤ 10 ∧ 1 ≤ G ∧ G ≤ 6 ∧ P ≤ 5 ∧ R ≤ 6 ∧ (R = 0 ∨ 2 ≤ G)))), H, m, acc⟩ := by
  obtain ⟨a, ea, ha⟩ := h1.snap
  obtain ⟨b, eb, hb⟩ := h2.snap
  obtain ⟨c, ec, hc⟩ := h3.snap
  obtain ⟨e, q, ee, he, hq⟩ := h4.snap
  have ok := loB_ok hS hG hP hR ha hb hc he hq
  have is := Is_bl (D := 29) (by omega) ok
  rw [dec_congr isl_iff] at is
  have sn : snap.snaps H.get [.agg [sv, pv, gv, rv]] = some [(loB a b c e q S G P R).dv] := by
    have : PM.snap H.get (.agg [sv, pv, gv, rv]) = some (loB a b c e q S G P R).dv := by
      show (snap.snaps H.get [sv, pv, gv, rv]).map DV.agg = _
      simp only [snap.snaps, ea, eb, ec, ee]
      rfl
    simp only [snap.snaps, this]
  by_cases hp : DV.pure.pures [.agg [sv, pv, gv, rv]] = true
  · have hp' : sv.pure = true ∧ pv.pure = true ∧ gv.pure = true ∧ rv.pure = true := by
      simpa [DV.pure, DV.pure.pures] using hp
    obtain ⟨p1, p2, p3, p4⟩ := hp'
    obtain rfl := at_imm h1 p1
    obtain rfl := at_imm h2 p2
    obtain rfl := at_imm h3 p3
    obtain rfl := rt_imm h4 p4
    have e1 : PM.snap H.get (.imm .nils) = some (.imm .nils) := rfl
    rw [e1] at ea eb ec ee
    cases ea; cases eb; cases ec; cases ee
    refine ⟨[], fun m => ?_⟩
    rw [callM_bl (by simp [pures_cons, pures_nil, pure_imm, pure_agg])]
    have is' : bl (K DG 29) 13 [.agg [.imm .nils, .imm .nils, .imm .nils, .imm .nils]] = _ := is
    rw [is']
    rfl
  · exact ⟨[.rA], fun m => call_snap (by simpa using hp) sn is⟩
theorem run_TableBounds {S G P R : Nat} (hS : S ≤ 15) (hG : G ≤ 10) (hP : P ≤ 8) (hR : R ≤ 8) : Fe (K DG 30 9 [.imm (.int .i64 S), .imm (.int .i64 G), .imm (.int .i64 P), .imm (.int .i64 R)] .lf 0 0) (fun v _ _ => v = .imm (.bool true)) := by
  have hkn := known_bl
  have a1 : ILt 15 (S : Int) = False := ilt_f (by omega)
  have a2 : ILt 10 (G : Int) = False := ilt_f (by omega)
  have a3 : ILt 8 (P : Int) = False := ilt_f (by omega)
  have a4 : ILt 8 (R : Int) = False := ilt_f (by omega)
  rw [D.k9]
  refine fn_dw rfl ?_
  simp [a1, a2, a3, a4, evParts, lay, imms, B6, undT, fnEnd, argsT, PT.get_put, keep, opRun, ev, evs, evO, give, giveI, binOf, isNilK, PM.flip, putT, putL, putH, loadOf, storeOf, cut, over, ofCells, asNat, natOr, calm, clashes, Acc.clash, ressOf, resOf, frz, frz.frzs, DV.flat, DV.flat.flats, imms]
  refine loop0 (S := S) (G := G) (P := P) (R := R) hS ⟨⟨by simp [PT.get_put], by simp [PT.get_put], by simp [PT.get_put], by simp [PT.get_put]⟩, by simp [PT.get_put], .imm .nils, ⟨0, by simp [PT.get_put], by simp [PT.get_put]⟩, .inl ⟨rfl, rfl⟩⟩ ?_
  rintro s1 ⟨⟨h0, h1, h2, h3⟩, h10, sv, ⟨i9, h9, L9⟩, hs⟩
  simp [h0, h1, h2, h3, h9, L9, B6, undT, fnEnd, argsT, PT.get_put, keep, opRun, ev, evs, evO, give, giveI, binOf, isNilK, PM.flip, putT, putL, putH, loadOf, storeOf, cut, over, ofCells, asNat, natOr, calm, clashes, Acc.clash, ressOf, resOf, frz, frz.frzs, DV.flat, DV.flat.flats, imms]
  refine loop1 (S := S) (G := G) (P := P) (R := R) (by omega) ⟨⟨by simp [PT.get_put, h0], by simp [PT.get_put, h1], by simp [PT.get_put, h2], by simp [PT.get_put, h3]⟩, by simp [PT.get_put], sv, .imm .nils, ⟨i9, by simp [PT.get_put, h9], by simp [PT.get_put, L9]⟩, hs, .inl ⟨rfl, rfl⟩, DJ.nil⟩ ?_
  clear h0 h1 h2 h3 h10 h9 L9 hs
  rintro s2 ⟨⟨h0, h1, h2, h3⟩, h11, sv, gv, ⟨i9, h9, L9⟩, hs, hg, dj⟩
  simp [h0, h1, h2, h3, h9, L9, B6, undT, fnEnd, argsT, PT.get_put, keep, opRun, ev, evs, evO, give, giveI, binOf, isNilK, PM.flip, putT, putL, putH, loadOf, storeOf, cut, over, ofCells, asNat, natOr, calm, clashes, Acc.clash, ressOf, resOf, frz, frz.frzs, DV.flat, DV.flat.flats, imms]
  refine loop2 (S := S) (G := G) (P := P) (R := R) (by omega) ⟨⟨by simp [PT.get_put, h0], by simp [PT.get_put, h1], by simp [PT.get_put, h2], by simp [PT.get_put, h3]⟩, by simp [PT.get_put], sv, .imm .nils, gv, ⟨i9, by simp [PT.get_put, h9], by simp [PT.get_put, L9]⟩, hs, .inl ⟨rfl, rfl⟩, hg, DJ.nil, DJ.nil⟩ ?_
  clear h0 h1 h2 h3 h11 h9 L9 hs hg dj
  rintro s3 ⟨⟨h0, h1, h2, h3⟩, h12, sv, pv, gv, ⟨i9, h9, L9⟩, hs, hp, hg, d1, d2⟩
  simp [h0, h1, h2, h3, h9, L9, B6, undT, fnEnd, argsT, PT.get_put, keep, opRun, ev, evs, evO, give, giveI, binOf, isNilK, PM.flip, putT, putL, putH, loadOf, storeOf, cut, over, ofCells, asNat, natOr, calm, clashes, Acc.clash, ressOf, resOf, frz, frz.frzs, DV.flat, DV.flat.flats, imms]
  refine loop3 (S := S) (G := G) (P := P) (R := R) (by omega) (by omega) ⟨⟨by simp [PT.get_put, h0], by simp [PT.get_put, h1], by simp [PT.get_put, h2], by simp [PT.get_put, h3]⟩, by simp [PT.get_put], sv, pv, gv, .imm .nils, ⟨i9, by simp [PT.get_put, h9], by simp [PT.get_put, L9]⟩, hs, hp, hg, ⟨fun _ => .imm .nils, .inl ⟨rfl, rfl⟩, fun i hi => absurd hi (by omega)⟩, DJ.nil, DJ.nil, DJ.nil⟩ ?_
  clear h0 h1 h2 h3 h12 h9 L9 hs hp hg d1 d2
  rintro s4 ⟨⟨h0, h1, h2, h3⟩, h13, sv, pv, gv, rv, ⟨i9, h9, L9⟩, hs, hp, hg, hr, d1, d2, d3⟩
  obtain ⟨acc, ei⟩ := is_call hS (by omega) (by omega) (by omega) hs hp hg hr
  by_cases c0 : 1 ≤ S
  · have j0 : ILt (S : Int) 1 = False := ilt_f (by omega)
    by_cases c1 : S ≤ 10
    · have j1 : ILt 10 (S : Int) = False := ilt_f (by omega)
      by_cases c2 : 1 ≤ G
      · have j2 : ILt (G : Int) 1 = False := ilt_f (by omega)
        by_cases c3 : G ≤ 6
        · have j3 : ILt 6 (G : Int) = False := ilt_f (by omega)
          by_cases c4 : P ≤ 5
          · have j4 : ILt 5 (P : Int) = False := ilt_f (by omega)
            by_cases c5 : R ≤ 6
            · have j5 : ILt 6 (R : Int) = False := ilt_f (by omega)
              by_cases c6 : R = 0
              · have r0 : (R : Int) = 0 := by omega
                have j60 : ILt 6 0 = False := ilt_f (by omega)
                rw [dec_t ⟨c0, c1, c2, c3, c4, c5, .inl c6⟩] at ei
                simp [h0, h1, h2, h3, h9, L9, j0, j1, j2, j3, j4, j5, j60, r0, ei, hkn, B6, undT, fnEnd, argsT, PT.get_put, keep, opRun, ev, evs, evO, give, giveI, binOf, isNilK, PM.flip, putT, putL, putH, loadOf, storeOf, cut, over, ofCells, asNat, natOr, calm, clashes, Acc.clash, ressOf, resOf, frz, frz.frzs, DV.flat, DV.flat.flats, imms]
              · have r0 : ¬ (R : Int) = 0 := by omega
                by_cases c7 : 2 ≤ G
                · have j7 : ILt (G : Int) 2 = False := ilt_f (by omega)
                  rw [dec_t ⟨c0, c1, c2, c3, c4, c5, .inr c7⟩] at ei
                  simp [h0, h1, h2, h3, h9, L9, j0, j1, j2, j3, j4, j5, r0, c6, j7, ei, hkn, B6, undT, fnEnd, argsT, PT.get_put, keep, opRun, ev, evs, evO, give, giveI, binOf, isNilK, PM.flip, putT, putL, putH, loadOf, storeOf, cut, over, ofCells, asNat, natOr, calm, clashes, Acc.clash, ressOf, resOf, frz, frz.frzs, DV.flat, DV.flat.flats, imms]
                · have j7 : ILt (G : Int) 2 = True := ilt_t (by omega)
                  rw [dec_f fun h => by rcases h.2.2.2.2.2.2 with h | h <;> omega] at ei
                  simp [h0, h1, h2, h3, h9, L9, j0, j1, j2, j3, j4, j5, r0, c6, j7, ei, hkn, B6, undT, fnEnd, argsT, PT.get_put, keep, opRun, ev, evs, evO, give, giveI, binOf, isNilK, PM.flip, putT, putL, putH, loadOf, storeOf, cut, over, ofCells, asNat, natOr, calm, clashes, Acc.clash, ressOf, resOf, frz, frz.frzs, DV.flat, DV.flat.flats, imms]
            · have j5 : ILt 6 (R : Int) = True := ilt_t (by omega)
              rw [dec_f fun h => c5 h.2.2.2.2.2.1] at ei
              simp [h0, h1, h2, h3, h9, L9, j0, j1, j2, j3, j4, j5, ei, hkn, B6, undT, fnEnd, argsT, PT.get_put, keep, opRun, ev, evs, evO, give, giveI, binOf, isNilK, PM.flip, putT, putL, putH, loadOf, storeOf, cut, over, ofCells, asNat, natOr, calm, clashes, Acc.clash, ressOf, resOf, frz, frz.frzs, DV.flat, DV.flat.flats, imms]
          · have j4 : ILt 5 (P : Int) = True := ilt_t (by omega)
            rw [dec_f fun h => c4 h.2.2.2.2.1] at ei
            simp [h0, h1, h2, h3, h9, L9, j0, j1, j2, j3, j4, ei, hkn, B6, undT, fnEnd, argsT, PT.get_put, keep, opRun, ev, evs, evO, give, giveI, binOf, isNilK, PM.flip, putT, putL, putH, loadOf, storeOf, cut, over, ofCells, asNat, natOr, calm, clashes, Acc.clash, ressOf, resOf, frz, frz.frzs, DV.flat, DV.flat.flats, imms]
        · have j3 : ILt 6 (G : Int) = True := ilt_t (by omega)
          rw [dec_f fun h => c3 h.2.2.2.1] at ei
          simp [h0, h1, h2, h3, h9, L9, j0, j1, j2, j3, ei, hkn, B6, undT, fnEnd, argsT, PT.get_put, keep, opRun, ev, evs, evO, give, giveI, binOf, isNilK, PM.flip, putT, putL, putH, loadOf, storeOf, cut, over, ofCells, asNat, natOr, calm, clashes, Acc.clash, ressOf, resOf, frz, frz.frzs, DV.flat, DV.flat.flats, imms]
      · have j2 : ILt (G : Int) 1 = True := ilt_t (by omega)
        rw [dec_f fun h => c2 h.2.2.1] at ei
        simp [h0, h1, h2, h3, h9, L9, j0, j1, j2, ei, hkn, B6, undT, fnEnd, argsT, PT.get_put, keep, opRun, ev, evs, evO, give, giveI, binOf, isNilK, PM.flip, putT, putL, putH, loadOf, storeOf, cut, over, ofCells, asNat, natOr, calm, clashes, Acc.clash, ressOf, resOf, frz, frz.frzs, DV.flat, DV.flat.flats, imms]
    · have j1 : ILt 10 (S : Int) = True := ilt_t (by omega)
      rw [dec_f fun h => c1 h.2.1] at ei
      simp [h0, h1, h2, h3, h9, L9, j0, j1, ei, hkn, B6, undT, fnEnd, argsT, PT.get_put, keep, opRun, ev, evs, evO, give, giveI, binOf, isNilK, PM.flip, putT, putL, putH, loadOf, storeOf, cut, over, ofCells, asNat, natOr, calm, clashes, Acc.clash, ressOf, resOf, frz, frz.frzs, DV.flat, DV.flat.flats, imms]
  · have j0 : ILt (S : Int) 1 = True := ilt_t (by omega)
    rw [dec_f fun h => c0 h.1] at ei
    simp [h0, h1, h2, h3, h9, L9, j0, ei, hkn, B6, undT, fnEnd, argsT, PT.get_put, keep, opRun, ev, evs, evO, give, giveI, binOf, isNilK, PM.flip, putT, putL, putH, loadOf, storeOf, cut, over, ofCells, asNat, natOr, calm, clashes, Acc.clash, ressOf, resOf, frz, frz.frzs, DV.flat, DV.flat.flats, imms]
theorem out_TableBounds (s g p r : Int) (h : ¬ ((0 ≤ s ∧ s ≤ 15) ∧ (0 ≤ g ∧ g ≤ 10) ∧ (0 ≤ p ∧ p ≤ 8) ∧ (0 ≤ r ∧ r ≤ 8))) : Fe (K DG 30 9 [.imm (.int .i64 s), .imm (.int .i64 g), .imm (.int .i64 p), .imm (.int .i64 r)] .lf 0 0) (fun v _ _ => v = .imm (.bool true)) := by
  rw [D.k9]
  refine fn_dw rfl ?_
  by_cases b0 : s < 0
  · have j0 : ILt s 0 = True := ilt_t b0
    simp [j0, B6, undT, fnEnd, argsT, PT.get_put, keep, opRun, ev, evs, evO, give, giveI, binOf, isNilK, PM.flip, putT, putL, putH, loadOf, storeOf, cut, over, ofCells, asNat, natOr, calm, clashes, Acc.clash, ressOf, resOf, frz, frz.frzs, DV.flat, DV.flat.flats, imms]
  have j0 : ILt s 0 = False := ilt_f (by omega)
  by_cases b1 : 15 < s
  · have j1 : ILt 15 s = True := ilt_t b1
    simp [j0, j1, B6, undT, fnEnd, argsT, PT.get_put, keep, opRun, ev, evs, evO, give, giveI, binOf, isNilK, PM.flip, putT, putL, putH, loadOf, storeOf, cut, over, ofCells, asNat, natOr, calm, clashes, Acc.clash, ressOf, resOf, frz, frz.frzs, DV.flat, DV.flat.flats, imms]
  have j1 : ILt 15 s = False := ilt_f (by omega)
  by_cases b2 : g < 0
  · have j2 : ILt g 0 = True := ilt_t b2
    simp [j0, j1, j2, B6, undT, fnEnd, argsT, PT.get_put, keep, opRun, ev, evs, evO, give, giveI, binOf, isNilK, PM.flip, putT, putL, putH, loadOf, storeOf, cut, over, ofCells, asNat, natOr, calm, clashes, Acc.clash, ressOf, resOf, frz, frz.frzs, DV.flat, DV.flat.flats, imms]
  have j2 : ILt g 0 = False := ilt_f (by omega)
  by_cases b3 : 10 < g
  · have j3 : ILt 10 g = True := ilt_t b3
    simp [j0, j1, j2, j3, B6, undT, fnEnd, argsT, PT.get_put, keep, opRun, ev, evs, evO, give, giveI, binOf, isNilK, PM.flip, putT, putL, putH, loadOf, storeOf, cut, over, ofCells, asNat, natOr, calm, clashes, Acc.clash, ressOf, resOf, frz, frz.frzs, DV.flat, DV.flat.flats, imms]
  have j3 : ILt 10 g = False := ilt_f (by omega)
  by_cases b4 : p < 0
  · have j4 : ILt p 0 = True := ilt_t b4
    simp [j0, j1, j2, j3, j4, B6, undT, fnEnd, argsT, PT.get_put, keep, opRun, ev, evs, evO, give, giveI, binOf, isNilK, PM.flip, putT, putL, putH, loadOf, storeOf, cut, over, ofCells, asNat, natOr, calm, clashes, Acc.clash, ressOf, resOf, frz, frz.frzs, DV.flat, DV.flat.flats, imms]
  have j4 : ILt p 0 = False := ilt_f (by omega)
  by_cases b5 : 8 < p
  · have j5 : ILt 8 p = True := ilt_t b5
    simp [j0, j1, j2, j3, j4, j5, B6, undT, fnEnd, argsT, PT.get_put, keep, opRun, ev, evs, evO, give, giveI, binOf, isNilK, PM.flip, putT, putL, putH, loadOf, storeOf, cut, over, ofCells, asNat, natOr, calm, clashes, Acc.clash, ressOf, resOf, frz, frz.frzs, DV.flat, DV.flat.flats, imms]
  have j5 : ILt 8 p = False := ilt_f (by omega)
  by_cases b6 : r < 0
  · have j6 : ILt r 0 = True := ilt_t b6
    simp [j0, j1, j2, j3, j4, j5, j6, B6, undT, fnEnd, argsT, PT.get_put, keep, opRun, ev, evs, evO, give, giveI, binOf, isNilK, PM.flip, putT, putL, putH, loadOf, storeOf, cut, over, ofCells, asNat, natOr, calm, clashes, Acc.clash, ressOf, resOf, frz, frz.frzs, DV.flat, DV.flat.flats, imms]
  have j6 : ILt r 0 = False := ilt_f (by omega)
  by_cases b7 : 8 < r
  · have j7 : ILt 8 r = True := ilt_t b7
    simp [j0, j1, j2, j3, j4, j5, j6, j7, B6, undT, fnEnd, argsT, PT.get_put, keep, opRun, ev, evs, evO, give, giveI, binOf, isNilK, PM.flip, putT, putL, putH, loadOf, storeOf, cut, over, ofCells, asNat, natOr, calm, clashes, Acc.clash, ressOf, resOf, frz, frz.frzs, DV.flat, DV.flat.flats, imms]
  have j7 : ILt 8 r = False := ilt_f (by omega)
  exact absurd ⟨⟨by omega, by omega⟩, ⟨by omega, by omega⟩, ⟨by omega, by omega⟩, by omega, by omega⟩ h
theorem pure_TableBounds : ∀ cs, ArgsFit ss_TableBounds cs → ∃ H' n', K (doorG 0 1) 30 9 cs .lf 0 0 = some (.imm (.bool true), H', n') := fun cs h0 => by
  obtain ⟨d0, r0, rfl, g0, h1⟩ := fit_cons h0
  obtain ⟨s, rfl, _⟩ := fit_i g0
  obtain ⟨d1, r1, rfl, g1, h2⟩ := fit_cons h1
  obtain ⟨g, rfl, _⟩ := fit_i g1
  obtain ⟨d2, r2, rfl, g2, h3⟩ := fit_cons h2
  obtain ⟨p, rfl, _⟩ := fit_i g2
  obtain ⟨d3, r3, rfl, g3, h4⟩ := fit_cons h3
  obtain ⟨r, rfl, _⟩ := fit_i g3
  cases fit0 (r := []) h4
  by_cases hb : (0 ≤ s ∧ s ≤ 15) ∧ (0 ≤ g ∧ g ≤ 10) ∧ (0 ≤ p ∧ p ≤ 8) ∧ (0 ≤ r ∧ r ≤ 8)
  · obtain ⟨⟨k0, _⟩, ⟨k1, _⟩, ⟨k2, _⟩, k3, _⟩ := hb
    obtain ⟨S, rfl⟩ := Int.eq_ofNat_of_zero_le k0
    obtain ⟨G, rfl⟩ := Int.eq_ofNat_of_zero_le k1
    obtain ⟨P, rfl⟩ := Int.eq_ofNat_of_zero_le k2
    obtain ⟨R, rfl⟩ := Int.eq_ofNat_of_zero_le k3
    obtain ⟨v, H, n, e, rfl⟩ := run_TableBounds (S := S) (G := G) (P := P) (R := R) (by omega) (by omega) (by omega) (by omega)
    exact ⟨H, n, e⟩
  · obtain ⟨v, H, n, e, rfl⟩ := out_TableBounds s g p r hb
    exact ⟨H, n, e⟩
end Go.Proofs.YtbhmihigfncfgaaDoor.D
