/-
  What a Lock does is told by what the layout says alone; two Locks beside one another. Over D.
-/
import Derived.Test.YtkgjgehffijepaaDoorK21
import Derived.Test.YtkgjgehffijepaaDoorT9a
set_option linter.unusedVariables false
set_option linter.unusedSimpArgs false
set_option maxHeartbeats 16000000
namespace Go.Proofs.YtkgjgehffijepaaDoor.D
open Go Go.PM Go.Lib
theorem RtEq.symm {r r' : Rt} (h : RtEq r r') : RtEq r' r := ⟨h.name.symm, h.fr.symm, h.to.symm, h.path.symm, h.pts.symm, h.flk.symm⟩
theorem LoEq.symm {l l' : Lo} (e : LoEq l l') : LoEq l' l := ⟨e.secs.symm, e.pts.symm, e.sigs.symm, e.len.symm, fun i hi => (e.rts i (by rw [← e.len]; exact hi)).symm⟩
theorem LoEq.fre {l l' : Lo} (e : LoEq l l') {rs : List Rst} {os : List Bool} {ls : List Int} {r : Nat} (hr : r < l.rts.length) (h : FRE l rs os ls r) : FRE l' rs os ls r := by
  refine ⟨fun s hs hm => ?_, fun i hi => ?_, ?_⟩
  · have hs' : s < l.rts.length := by rw [← e.len]; exact hs
    rw [e.cf hr hs']; exact h.cf s hs' hm
  · rw [e.nd hr] at hi ⊢
    have := h.nf i hi
    unfold NFree secOf at *
    rw [e.pts, e.hol]; exact this
  · rw [(e.rts r hr).path]; exact h.oc
theorem LoEq.cmd {l l' : Lo} (e : LoEq l l') {rs : List Rst} {os : List Bool} {ls : List Int} {c r : Int} : cmdF l' rs os ls c r = cmdF l rs os ls c r := by
  unfold cmdF
  rw [dec_congr (show (¬ MI l' os ls ∨ (c ≠ 1 ∧ c ≠ 2)) ↔ (¬ MI l os ls ∨ (c ≠ 1 ∧ c ≠ 2)) by rw [e.mi']), e.len]
  by_cases hr : InR r l.rts.length
  · have hn : r.toNat < l.rts.length := by have := hr.1; have := hr.2; omega
    have : callF l' rs os ls r.toNat = callF l rs os ls r.toNat := by
      unfold callF
      rw [dec_congr (show FRE l' rs os ls r.toNat ↔ FRE l rs os ls r.toNat from ⟨fun h => e.symm.fre (by rw [e.len]; exact hn) h, fun h => e.fre hn h⟩)]
    rw [this]
  · rw [dec_f hr]; rfl
theorem LoEq.stp {l l' : Lo} (e : LoEq l l') {os : List Bool} {ls : List Int} {r : Nat} (hr : r < l.rts.length) {x : Rst} : stepF l' os ls r x = stepF l os ls r x := by
  unfold stepF usedF
  rw [dec_congr (e.lie hr), (e.rts r hr).path]
theorem LoEq.drF {l l' : Lo} (e : LoEq l l') {rs : List Rst} {os : List Bool} {ls : List Int} : D.drF l' rs os ls = D.drF l rs os ls := by
  unfold D.drF
  rw [e.len, e.pts]
  refine it_congr _ fun r x hr => ?_
  unfold drR
  rw [e.nd hr]
  congr 1
  refine it_congr _ fun i y hi => ?_
  unfold drN drC
  rw [e.nd hr, e.pts, e.hol]
theorem LoEq.prF {l l' : Lo} (e : LoEq l l') {rs : List Rst} {os : List Bool} {ls : List Int} : D.prF l' rs os ls = D.prF l rs os ls := by
  unfold D.prF
  rw [e.len, e.sigs]
  refine it_congr _ fun r x hr => ?_
  unfold prR
  rw [dec_congr (show prC l' rs os ls r ↔ prC l rs os ls r by unfold prC; rw [(e.rts r hr).path, e.lie hr]), (e.rts r hr).fr]
theorem LoEq.inv' {l l' : Lo} (e : LoEq l l') {rs : List Rst} (h : INV l rs) : INV l' rs := e.symm.inv h
/-- How all routes stand next. -/
noncomputable def stpF (l : Lo) (os : List Bool) (ls : List Int) (rs : List Rst) : List Rst := (List.range l.rts.length).map fun r => stepF l os ls r (nth rs r)
theorem stpF_eq {l : Lo} {os : List Bool} {ls : List Int} {rs qs : List Rst} (hl : qs.length = l.rts.length) (hq : ∀ j, j < l.rts.length → nth qs j = stepF l os ls j (nth rs j)) : qs = stpF l os ls rs := by
  refine List.ext_getElem (by simp [stpF, hl]) fun i h1 h2 => ?_
  have hi : i < l.rts.length := by omega
  have := hq i hi
  simp only [nth, List.getD, List.getElem?_eq_getElem h1, Option.getD_some] at this
  rw [this]
  simp [stpF, nth]
theorem LoEq.stpF {l l' : Lo} (e : LoEq l l') {os : List Bool} {ls : List Int} {rs : List Rst} : D.stpF l' os ls rs = D.stpF l os ls rs := by
  unfold D.stpF
  rw [e.len]
  refine List.map_congr_left fun r hr => ?_
  exact e.stp (List.mem_range.1 hr)
theorem INV.stp {l : Lo} (is : ISL l) {rs : List Rst} (h : INV l rs) {os : List Bool} {ls : List Int} : INV l (stpF l os ls rs) :=
  h.step is (os := os) (ls := ls) (by simp [stpF]) fun j hj => by simp [stpF, nth, hj]
/-- A cycle: how routes stand, what is driven, what proceeds. -/
noncomputable def cycF (l : Lo) (rs : List Rst) (os : List Bool) (ls : List Int) : List Rst × List Int × List Bool :=
  bif dec (MI l os ls) then (stpF l os ls rs, drF l (stpF l os ls rs) os ls, prF l (stpF l os ls rs) os ls) else (rs, List.replicate l.pts.length 0, List.replicate l.sigs.length false)
theorem LoEq.cyc {l l' : Lo} (e : LoEq l l') {rs : List Rst} {os : List Bool} {ls : List Int} : cycF l' rs os ls = cycF l rs os ls := by
  unfold cycF
  rw [dec_congr e.mi', e.stpF, e.drF, e.prF, e.pts, e.sigs]
theorem INV.cyc {l : Lo} (is : ISL l) {rs : List Rst} (h : INV l rs) {os : List Bool} {ls : List Int} : INV l (cycF l rs os ls).1 := by
  unfold cycF
  cases dec (MI l os ls) with
  | true => exact h.stp is
  | false => exact h
theorem drF_len {l : Lo} (is : ISL l) {rs : List Rst} {os : List Bool} {ls : List Int} : (drF l rs os ls).length = l.pts.length := (drF_ok is).1
theorem prF_len {l : Lo} (is : ISL l) {rs : List Rst} {os : List Bool} {ls : List Int} : (prF l rs os ls).length = l.sigs.length := (prF_ok is).1
theorem Cycle_all {d : Nat} (hd : 11 ≤ d) {H : PT HB} {p : Nat} {own : List Nat} {l : Lo} {rs : List Rst} (ok : LoOk l) (is : ISL l) (lk : LkAt H p own l rs) (inv : INV l rs) {ov lv : IV} {os : List Bool} {ls : List Int} (io : InOk ov lv os ls) {n : Nat} (hpn : ∀ i ∈ p :: own, i < n) :
    ∃ H' n', K DG (d + 1) 15 [.ptr p 0 0, inD ov lv] H n 0 = some (.agg [.sl (n + 2 + 1) 0 l.pts.length l.pts.length, .sl (n + 2 + 2) 0 l.sigs.length l.sigs.length], H', n') ∧ n + 5 ≤ n' ∧ (∀ j, j ∉ own → j < n → H'.get j = H.get j) ∧
      LkAt H' p own l (cycF l rs os ls).1 ∧ H'.get (n + 2 + 1) = some ⟨1, (cycF l rs os ls).2.1.map rowI⟩ ∧ H'.get (n + 2 + 2) = some ⟨1, (cycF l rs os ls).2.2.map rowB⟩ ∧ (cycF l rs os ls).2.1.length = l.pts.length ∧ (cycF l rs os ls).2.2.length = l.sigs.length := by
  by_cases mi : MI l os ls
  · obtain ⟨v, H', n', e, rfl, hn, fr, qs, lk', hq, h1, h2⟩ := Cycle_fn hd ok is lk inv.ro io mi hpn
    obtain rfl := stpF_eq (by obtain ⟨_, _, _, _, h⟩ := lk'; exact h) hq
    refine ⟨H', n', e, hn, fr, ?_⟩
    unfold cycF
    rw [dec_t mi]
    exact ⟨lk', h1, h2, drF_len is, prF_len is⟩
  · obtain ⟨v, H', n', e, rfl, hn, hH⟩ := Cycle_err (d := d) (by omega) ok is.p2 is.g2 lk io mi hpn
    have hf : ∀ j, j < n → H'.get j = H.get j := fun j hj => by
      have b1 : ¬ j = n + 2 + 1 := by omega
      have b2 : ¬ j = n + 2 + 2 := by omega
      rw [hH]; simp [PT.get_put, b1, b2]
    refine ⟨H', n', e, by omega, fun j _ hj => hf j hj, ?_⟩
    unfold cycF
    rw [dec_f mi]
    refine ⟨lk.mono fun i hi => hf i (hpn i hi), ?_, ?_, by simp, by simp⟩
    · have : ¬ n + 2 + 1 = n + 2 + 2 := by omega
      rw [hH]; simp [PT.get_put, this, rowI, imms]
    · rw [hH]; simp [PT.get_put, rowB, imms]
/-- Two Locks in the heap, apart. -/
def Two (H : PT HB) (n p q : Nat) (l k : Lo) (rs qs : List Rst) : Prop := ∃ o o', LkAt H p o l rs ∧ LkAt H q o' k qs ∧ (∀ j ∈ p :: o, j < n) ∧ (∀ j ∈ q :: o', j < n) ∧ ∀ j ∈ p :: o, j ∉ q :: o'
theorem Two.symm {H : PT HB} {n p q : Nat} {l k : Lo} {rs qs : List Rst} (h : Two H n p q l k rs qs) : Two H n q p k l qs rs := by
  obtain ⟨o, o', a, b, c, d, e⟩ := h
  exact ⟨o', o, b, a, d, c, fun j h1 h2 => e j h2 h1⟩
theorem Two.mono {H H' : PT HB} {n n' p q : Nat} {l k : Lo} {rs qs : List Rst} (h : Two H n p q l k rs qs) (hn : n ≤ n') (hf : ∀ j, j < n → H'.get j = H.get j) : Two H' n' p q l k rs qs := by
  obtain ⟨o, o', a, b, c, d, e⟩ := h
  exact ⟨o, o', a.mono fun i hi => hf i (c i hi), b.mono fun i hi => hf i (d i hi), fun j hj => by have := c j hj; omega, fun j hj => by have := d j hj; omega, e⟩
theorem Two.cmd {d : Nat} (hd : 11 ≤ d) {H : PT HB} {n p q : Nat} {l k : Lo} {rs qs : List Rst} (h : Two H n p q l k rs qs) (ok : LoOk l) (is : ISL l) (inv : INV l rs) {ov lv : IV} {os : List Bool} {ls : List Int} (io : InOk ov lv os ls) (c r : Int) :
    ∃ H1 n1, K DG (d + 1) 14 [.ptr p 0 0, inD ov lv, .agg [.imm (.int .i64 c), .imm (.int .i64 r)]] H n 0 = some (.imm (.int .i64 (cmdF l rs os ls c r).1), H1, n1) ∧ n ≤ n1 ∧ Two H1 n1 p q l k (cmdF l rs os ls c r).2 qs := by
  obtain ⟨o, o', a, b, hc, hd', e⟩ := h
  obtain ⟨H1, n1, e1, lk1, hn1, fr1⟩ := Command_run hd ok is a (go_of inv.ro) io c r (n := n)
  exact ⟨H1, n1, e1, hn1, o, o', lk1, b.mono fun i hi => fr1 i fun hi' => e i (by simp [hi']) hi, fun j hj => by have := hc j hj; omega, fun j hj => by have := hd' j hj; omega, e⟩
theorem Two.cyc {d : Nat} (hd : 11 ≤ d) {H : PT HB} {n p q : Nat} {l k : Lo} {rs qs : List Rst} (h : Two H n p q l k rs qs) (ok : LoOk l) (is : ISL l) (inv : INV l rs) {ov lv : IV} {os : List Bool} {ls : List Int} (io : InOk ov lv os ls) :
    ∃ v H1 n1, K DG (d + 1) 15 [.ptr p 0 0, inD ov lv] H n 0 = some (v, H1, n1) ∧ n ≤ n1 ∧ Two H1 n1 p q l k (cycF l rs os ls).1 qs := by
  obtain ⟨o, o', a, b, hc, hd', e⟩ := h
  obtain ⟨H1, n1, e1, hn1, fr1, lk1, h1, h2, h3, h4⟩ := Cycle_all hd ok is a inv io hc
  exact ⟨_, H1, n1, e1, by omega, o, o', lk1, b.mono fun i hi => fr1 i (fun hi' => e i (by simp [hi']) hi) (hd' i hi), fun j hj => by have := hc j hj; omega, fun j hj => by have := hd' j hj; omega, e⟩
/-- A cycle of both, on the same. -/
theorem Two.cyc2 {d : Nat} (hd : 11 ≤ d) {H : PT HB} {n p q : Nat} {l k : Lo} {rs qs : List Rst} (h : Two H n p q l k rs qs) (ok : LoOk l) (is : ISL l) (inv : INV l rs) (ok' : LoOk k) (is' : ISL k) (inv' : INV k qs) {ov lv : IV} {os : List Bool} {ls : List Int} (io : InOk ov lv os ls) :
    ∃ H1 n1 H2 n2, K DG (d + 1) 15 [.ptr p 0 0, inD ov lv] H n 0 = some (.agg [.sl (n + 2 + 1) 0 l.pts.length l.pts.length, .sl (n + 2 + 2) 0 l.sigs.length l.sigs.length], H1, n1) ∧
      K DG (d + 1) 15 [.ptr q 0 0, inD ov lv] H1 n1 0 = some (.agg [.sl (n1 + 2 + 1) 0 k.pts.length k.pts.length, .sl (n1 + 2 + 2) 0 k.sigs.length k.sigs.length], H2, n2) ∧ n ≤ n1 ∧ n1 ≤ n2 ∧ Two H2 n2 p q l k (cycF l rs os ls).1 (cycF k qs os ls).1 ∧
      H2.get (n + 2 + 1) = some ⟨1, (cycF l rs os ls).2.1.map rowI⟩ ∧ H2.get (n + 2 + 2) = some ⟨1, (cycF l rs os ls).2.2.map rowB⟩ ∧ H2.get (n1 + 2 + 1) = some ⟨1, (cycF k qs os ls).2.1.map rowI⟩ ∧ H2.get (n1 + 2 + 2) = some ⟨1, (cycF k qs os ls).2.2.map rowB⟩ ∧
      (cycF l rs os ls).2.1.length = l.pts.length ∧ (cycF l rs os ls).2.2.length = l.sigs.length ∧ (cycF k qs os ls).2.1.length = k.pts.length ∧ (cycF k qs os ls).2.2.length = k.sigs.length := by
  obtain ⟨o, o', a, b, hc, hd', e⟩ := h
  obtain ⟨H1, n1, e1, hn1, fr1, lk1, h1, h2, h3, h4⟩ := Cycle_all hd ok is a inv io hc
  have b1 : LkAt H1 q o' k qs := b.mono fun i hi => fr1 i (fun hi' => e i (by simp [hi']) hi) (hd' i hi)
  have hd1 : ∀ j ∈ q :: o', j < n1 := fun j hj => by have := hd' j hj; omega
  obtain ⟨H2, n2, e2, hn2, fr2, lk2, g1, g2, g3, g4⟩ := Cycle_all hd ok' is' b1 inv' io hd1
  have a2 : LkAt H2 p o l (cycF l rs os ls).1 := lk1.mono fun i hi => fr2 i (fun hi' => e i hi (by simp [hi'])) (by have := hc i hi; omega)
  refine ⟨H1, n1, H2, n2, e1, e2, by omega, by omega, ⟨o, o', a2, lk2, fun j hj => by have := hc j hj; omega, fun j hj => by have := hd' j hj; omega, e⟩, ?_, ?_, g1, g2, h3, h4, g3, g4⟩
  · rw [fr2 _ (fun hi => by have := hd' _ (List.mem_cons_of_mem q hi); omega) (by omega)]; exact h1
  · rw [fr2 _ (fun hi => by have := hd' _ (List.mem_cons_of_mem q hi); omega) (by omega)]; exact h2
/-- Two rows of states that are one. -/
theorem Same_same {D : Nat} (hD : 1 ≤ D) {w w' : IV} {rs : List Rst} (hw : Sl 4 w (rs.map ivRS)) (hw' : Sl 4 w' (rs.map ivRS)) (hl : rs.length ≤ reachBytes) : bl (K DG D) 54 [.imm w, .imm w'] = some (.imm (.bool true)) := by
  obtain ⟨d, rfl⟩ : ∃ d, D = d + 1 := ⟨D - 1, by omega⟩
  have wl := hw.len
  have wl' := hw'.len
  simp only [List.length_map] at wl wl'
  refine bl_fe ?_
  rw [D.k54]
  refine fn_dw rfl ?_
  simp [hw.scal, hw'.scal, wl, wl', B6, undT, fnEnd, argsT, PT.get_put, keep, opRun, ev, evs, evO, give, giveI, binOf, isNilK, PM.flip, putT, putL, putH, loadOf, storeOf, cut, over, ofCells, asNat, natOr, calm, clashes, Acc.clash, ressOf, resOf, frz, frz.frzs, DV.flat, DV.flat.flats, imms]
  refine dw_loop (N := rs.length) (small hl) (fun i st => st.T.get 0 = some (.imm w) ∧ st.T.get 1 = some (.imm w') ∧ st.T.get 5 = some (.imm (.int .i64 i))) (fun e st' => e = .exit 0) (fun i st hle hI => ?_) ⟨by simp [PT.get_put], by simp [PT.get_put], by simp [PT.get_put]⟩ (fun e s' h => by subst h; simp [B6, undT, fnEnd, argsT, PT.get_put, keep, opRun, ev, evs, evO, give, giveI, binOf, isNilK, PM.flip, putT, putL, putH, loadOf, storeOf, cut, over, ofCells, asNat, natOr, calm, clashes, Acc.clash, ressOf, resOf, frz, frz.frzs, DV.flat, DV.flat.flats, imms])
  obtain ⟨h0, h1, h5⟩ := hI
  by_cases hi : i < rs.length
  · have hi1 : (i : Int) < rs.length := by omega
    have hi' := ilt_t hi1
    have hw8 : IntKind.i64.wrap ((i : Int) + 1) = (i : Int) + 1 := wr_succ hi hl
    have ix := fun {h : Nat → Option HB} {n : Nat} => idx_sl (h := h) (n := n) hw (by omega) (k := .i64) (z := (i : Int)) (by omega) hi1
    have iy := fun {h : Nat → Option HB} {n : Nat} => idx_sl (h := h) (n := n) hw' (by omega) (k := .i64) (z := (i : Int)) (by omega) hi1
    generalize hQ : (fun (e : Ex) (s' : St) => _) = Q'
    simp only [D.l54_0b]
    simp [h0, h1, h5, wl, hi', hw8, ix, iy, ivRS, eqSt_rs, B6, undT, fnEnd, argsT, PT.get_put, keep, opRun, ev, evs, evO, give, giveI, binOf, isNilK, PM.flip, putT, putL, putH, loadOf, storeOf, cut, over, ofCells, asNat, natOr, calm, clashes, Acc.clash, ressOf, resOf, frz, frz.frzs, DV.flat, DV.flat.flats, imms]
    subst hQ
    exact .inl ⟨rfl, hi, by simp [PT.get_put], by simp [PT.get_put], by simp [PT.get_put]⟩
  · obtain rfl : i = rs.length := by omega
    generalize hQ : (fun (e : Ex) (s' : St) => _) = Q'
    simp only [D.l54_0b]
    simp [h0, h1, h5, wl, B6, undT, fnEnd, argsT, PT.get_put, keep, opRun, ev, evs, evO, give, giveI, binOf, isNilK, PM.flip, putT, putL, putH, loadOf, storeOf, cut, over, ofCells, asNat, natOr, calm, clashes, Acc.clash, ressOf, resOf, frz, frz.frzs, DV.flat, DV.flat.flats, imms]
    subst hQ
    simp
end Go.Proofs.YtkgjgehffijepaaDoor.D
