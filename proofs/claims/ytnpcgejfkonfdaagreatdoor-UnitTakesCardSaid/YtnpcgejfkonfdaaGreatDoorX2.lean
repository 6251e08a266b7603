/-
  UnitTakes: what its functions compute, and the law (part 2).
-/
import Derived.Test.YtnpcgejfkonfdaaGreatDoorX1
import Derived.Test.YtnpcgejfkonfdaaGreatDoorFast
-- RE
set_option linter.unusedVariables false
set_option linter.unusedSimpArgs false
set_option maxHeartbeats 16000000
namespace Go.Proofs.YtnpcgejfkonfdaaGreatDoor.D
open Go Go.PM Go.Lib

theorem Pack8_ro {d : Nat} {H : PT HB} {n a lo : Nat} {ob : Option Nat} {ts : List Th} (hc : CrR H a ob ts) (ha : a < n) (hob : ∀ b, ob = some b → b < n) (hl : ts.length ≤ 100) (hts : ∀ t ∈ ts, (thB t).length ≤ 300) (hok : ∀ t ∈ ts, thOk t = true) (h4 : (bodyT ts).length ≤ 4000) :
    ∃ g m, callM (K DG (d + 3)) .ro 23 [.ptr a 0 0] H n lo = some ⟨.tup [.imm (.lst g 1 ((teleg (bodyT ts)).map ivY)), .imm (.int .i64 0)], H, m, [.rA]⟩ ∧ n ≤ m := by
  have key : Fe (K DG (d + 2 + 1) 23 [.ptr a 0 0] H n n) (fun v H' n' => n ≤ n' ∧ ∃ x, v = .tup [x, .imm (.int .i64 0)] ∧ Yw H' n n' x (teleg (bodyT ts))) := by
    obtain ⟨cx, hcx, hcl, hcs⟩ : ∃ cx, H.get a = some ⟨1, [[cx]]⟩ ∧ lenOf cx = some ts.length ∧ cx.scal = true := by
      rcases hc with ⟨h1, rfl, _⟩ | ⟨h1, _⟩ | ⟨b, hb, _, h1, h2⟩
      · exact ⟨_, h1, rfl, rfl⟩
      · exact ⟨_, h1, by simp [lenOf], rfl⟩
      · exact ⟨_, h1, by simp [lenOf], rfl⟩
    have w8 : IntKind.u8.wrap (ts.length : Int) = ((UInt8.ofNat ts.length).toNat : Int) := by
      rw [UInt8.toNat_ofNat']
      simp only [IntKind.wrap, IntKind.bits, IntKind.signed]
      simp
    rw [D.k23]
    refine fn_dw rfl ?_
    simp [hcx, hcl, hcs, w8, evParts2, lay, unImms, unImm, mapO, rowsN, B6, undT, fnEnd, argsT, PT.get_put, keep, opRun, ev, evs, evO, give, giveI, binOf, isNilK, PM.flip, putT, putL, putH, loadOf, storeOf, cut, over, ofCells, asNat, natOr, calm, clashes, Acc.clash, ressOf, resOf, frz, frz.frzs, DV.flat, DV.flat.flats, imms]
    refine loopPr (w := n) (H0 := H) (ts := ts) (Nat.le_refl _) hc ha hob hl hts hok ⟨by simp [PT.get_put], by simp [PT.get_put], ⟨.imm (.lst true 1 ((UInt8.ofNat ts.length :: thsB (ts.take 0)).map ivY)), by simp [PT.get_put]; exact ⟨rfl, rfl⟩, .inr (.inl rfl)⟩, fun _ _ => rfl, by simp⟩ (fun s' hI => ?_)
    obtain ⟨c0, c5, ⟨x, c4, hy⟩, fr, hn⟩ := hI
    rw [List.take_length] at hy
    have hbd : UInt8.ofNat ts.length :: thsB ts = bodyT ts := rfl
    rw [hbd] at hy
    have hbn : bodyT ts ≠ [] := by simp [bodyT]
    generalize bodyT ts = b at *
    have xs := hy.sc
    have xl := hy.len
    have i0 : ILt 4000 (b.length : Int) = False := ilt_f (by omega)
    have wl := wu64' (x := b.length) (by omega)
    have hcr := crcF_lt b
    have wc := wu64' (x := crcF b) (by omega)
    obtain ⟨y1, H1, n1, e1, hn1, hy1, ⟨i1, hi1, rfl⟩, f1⟩ := big_fn (d := d + 1) (H := s'.H) (n := s'.n) (lo := n) (w := n) (m := crcF b) (k := 4) (Nat.le_refl _) hn (by omega) (by omega) (by omega)
    have hi1' : i1 < n1 := by
      rcases hy1 with ⟨h, _⟩ | h | ⟨id, ⟨_, h2⟩, h, _⟩
      · cases h
      · cases h
      · cases h; exact h2
    obtain ⟨y2, H2, n2, e2, hn2, hy2, ⟨i2, hi2, rfl⟩, f2⟩ := big_fn (d := d + 1) (H := H1) (n := n1) (lo := n) (w := n) (m := b.length) (k := 2) (Nat.le_refl _) (by omega) (by omega) (by omega) (by omega)
    have e1' : K DG (d + 2) 45 [.imm (.int .u64 (crcF b : Int)), .imm (.int .i64 4)] s'.H s'.n n = some (.sl i1 0 4 4, H1, n1) := e1
    have e2' : K DG (d + 2) 45 [.imm (.int .u64 (b.length : Int)), .imm (.int .i64 2)] H1 n1 n = some (.sl i2 0 2 2, H2, n2) := e2
    have r2 : H2.get i2 = some ⟨1, (numY b.length 2).map rowY⟩ := by
      rcases hy2 with ⟨h, _⟩ | h | ⟨id, _, h, h2⟩
      · cases h
      · cases h
      · rw [numY_len] at h; cases h; exact h2
    have src2 := rows_y (id := i2) r2
    rw [numY_len] at src2
    have hy1' : Yw H2 n n2 (.sl i1 0 4 4) (numY (crcF b) 4) := by
      rcases hy1 with ⟨h, _⟩ | h | ⟨id, ⟨q1, q2⟩, h, h2⟩
      · cases h
      · cases h
      · exact .inr (.inr ⟨id, ⟨q1, by omega⟩, h, by rw [f2 id (by omega)]; exact h2⟩)
    obtain ⟨x3, hw3, n3, acc3, p1, p2, p3, p4, p5, p6, p7⟩ := app_y (H := H2) (n := n2) (lo := n) (w := n) (y := .sl i2 0 2 2) (cs := numY b.length 2) (Nat.le_refl _) (by omega) hy1' src2 (fun _ _ _ e => by cases e; simp; omega) (by simp [numY_len])
    have x3s := p3.sc
    rcases hy with ⟨rfl, h0⟩ | rfl | ⟨id, ⟨g1, g2⟩, rfl, g3⟩
    · exact absurd h0 hbn
    · have es := ref_bl (d := d + 1) (f := true) (bs := b) (by omega)
      obtain ⟨x4, hw4, n4, acc4, q1, q2, q3, q4, q5, q6, q7⟩ := app_y (H := putH H2 hw3) (n := n3) (lo := n) (w := n) (y := .imm (.lst true 1 (b.map ivY))) (cs := b) (Nat.le_refl _) (by omega) p3 (src := none) (by simp [srcOf, rowsOf, Function.comp_def, imms_ivY]) (fun _ _ _ => by simp) (by simp [numY_len]; omega)
      have x4s := q3.sc
      have x4o := q3.out
      generalize hes : b.map ivY = bes at *
      simp [c0, c4, c5, xs, xl, i0, es, wc, wl, e1', e2', p1, x3s, q1, x4s, x4o, B6, undT, fnEnd, argsT, PT.get_put, keep, opRun, ev, evs, evO, give, giveI, binOf, isNilK, PM.flip, putT, putL, putH, loadOf, storeOf, cut, over, ofCells, asNat, natOr, calm, clashes, Acc.clash, ressOf, resOf, frz, frz.frzs, DV.flat, DV.flat.flats, imms]
      exact ⟨by omega, by simpa [teleg] using q3⟩
    · have es := fun lo => call_ref (d := d + 1) (H := s'.H) (n := s'.n) (lo := lo) (id := id) (bs := b) (by omega) g3
      have f4 : (putH H2 hw3).get id = some ⟨1, b.map rowY⟩ := by
        rw [p5 id (by omega) (fun _ _ e => by cases e; omega), f2 id (by omega), f1 id (by omega)]
        exact g3
      have src4 := rows_y (id := id) f4
      obtain ⟨x4, hw4, n4, acc4, q1, q2, q3, q4, q5, q6, q7⟩ := app_y (H := putH H2 hw3) (n := n3) (lo := n) (w := n) (y := .sl id 0 b.length b.length) (cs := b) (Nat.le_refl _) (by omega) p3 src4 (fun jd _ _ e => by
        intro h
        cases h
        rcases p6 id _ _ e with ⟨h, _⟩ | h
        · cases h; omega
        · omega) (by simp [numY_len]; omega)
      have x4s := q3.sc
      have x4o := q3.out
      simp [c0, c4, c5, xs, xl, i0, es, wc, wl, e1', e2', p1, x3s, q1, x4s, x4o, B6, undT, fnEnd, argsT, PT.get_put, keep, opRun, ev, evs, evO, give, giveI, binOf, isNilK, PM.flip, putT, putL, putH, loadOf, storeOf, cut, over, ofCells, asNat, natOr, calm, clashes, Acc.clash, ressOf, resOf, frz, frz.frzs, DV.flat, DV.flat.flats, imms]
      exact ⟨by omega, by simpa [teleg] using q3⟩
  obtain ⟨v, H', n', e, hn, x, rfl, hx⟩ := key
  obtain ⟨g, hg⟩ := frz_y hx (teleg_ne _)
  refine ⟨g, n', ?_, hn⟩
  have e9 : frz H'.get n (.tup [x, .imm (.int .i64 0)]) = some (.tup [.imm (.lst g 1 ((teleg (bodyT ts)).map ivY)), .imm (.int .i64 0)]) := by
    simp [frz, frz.frzs, hg]
  rw [callM_ro, if_pos (by rfl), e]
  simp only [e9]
  rfl
/-- what a unit of that epoch, count and routes may tell -/
noncomputable def tel (e c : Int) (rs : List Rst) : List UInt8 := teleg (bodyT (layT e c rs))
end Go.Proofs.YtnpcgejfkonfdaaGreatDoor.D

-- UC
set_option linter.unusedVariables false
set_option linter.unusedSimpArgs false
set_option maxHeartbeats 16000000
namespace Go.Proofs.YtnpcgejfkonfdaaGreatDoor.D
open Go Go.PM Go.Lib

theorem UAt.cmd {d : Nat} (hd : 11 ≤ d) {Z : Nat → Prop} {l : Lo} {H : PT HB} {n a p q : Nat} {own : List Nat} {x : DV} {u : US} (ok : LoOk l) (is : ISL l) (h : UAt Z l H n a p q own x u) (hz : ∀ j, n ≤ j → Z j) (inv : INV l u.rs) {ov lv : IV} {os : List Bool} {ls : List Int} (io : InOk ov lv os ls) (c r : Int) {m : Nat} (hm : n ≤ m) :
    ∃ v H' n', K DG (d + 1) 67 [.ptr p 0 0, inD ov lv, .agg [.imm (.int .i64 c), .imm (.int .i64 r)]] H m 0 = some (v, H', n') ∧ m ≤ n' ∧ UAt Z l H' n' a p q own x ⟨(cmdF l u.rs os ls c r).2, u.ep, u.en, u.gr, u.cp, u.mode, u.tick, u.count, u.left⟩ ∧ ∀ j, j < n → ¬ Z j → H'.get j = H.get j := by
  obtain ⟨H', n', e, lk, hn, fr⟩ := Command_run hd ok is h.lk (go_of inv.ro) io c r (n := m)
  exact ⟨_, H', n', e, hn, h.lock hz (by omega) lk (fun j hj => .inl hj) (fun j _ h2 _ => fr j h2), fun j _ hzj => fr j (fun e => hzj ((h.lt j (by simp [e])).2))⟩
def OutAt (h : Nat → Option HB) (n0 n' : Nat) (x : DV) (es : List (List IV)) : Prop := (∃ w, x = .imm w ∧ Sl 1 w es) ∨ ∃ id, (n0 ≤ id ∧ id < n') ∧ x = .sl id 0 es.length es.length ∧ h id = some ⟨1, es.map imms⟩
def OutD (h : Nat → Option HB) (n0 n' : Nat) (v : DV) (ds : List Int) (ps : List Bool) : Prop := ∃ x y, v = .agg [x, y] ∧ OutAt h n0 n' x (ds.map ivI) ∧ OutAt h n0 n' y (ps.map ivB1)
theorem OutAt.scal {h : Nat → Option HB} {n0 n' : Nat} {x : DV} {es : List (List IV)} (a : OutAt h n0 n' x es) : x.scal = true ∧ x.out = true := by
  rcases a with ⟨w, rfl, hw⟩ | ⟨id, _, rfl, _⟩
  · exact ⟨hw.scal, rfl⟩
  · exact ⟨rfl, rfl⟩
def ivC (c : Int × Int) : List IV := [.int .i64 c.1, .int .i64 c.2]
noncomputable def cmdsF (l : Lo) (os : List Bool) (ls : List Int) (rs : List Rst) (cs : List (Int × Int)) : List Rst := cs.foldl (fun r c => (cmdF l r os ls c.1 c.2).2) rs
theorem cmdsF_succ {l : Lo} {os : List Bool} {ls : List Int} {rs : List Rst} {cs : List (Int × Int)} {i : Nat} (hi : i < cs.length) : cmdsF l os ls rs (cs.take (i + 1)) = (cmdF l (cmdsF l os ls rs (cs.take i)) os ls (nth cs i).1 (nth cs i).2).2 := by
  rw [List.take_add_one, List.getElem?_eq_getElem hi]
  unfold cmdsF
  rw [List.foldl_append]
  simp [nth, List.getD_eq_getElem?_getD, List.getElem?_eq_getElem hi]
theorem INV.cmds {l : Lo} {os : List Bool} {ls : List Int} : ∀ (cs : List (Int × Int)) {rs : List Rst}, INV l rs → INV l (cmdsF l os ls rs cs)
  | [], rs, h => h
  | c :: cs, rs, h => INV.cmds cs (rs := (cmdF l rs os ls c.1 c.2).2) h.cmd
def setR (u : US) (rs : List Rst) : US := ⟨rs, u.ep, u.en, u.gr, u.cp, u.mode, u.tick, u.count, u.left⟩
structure ICm (Z : Nat → Prop) (l : Lo) (os : List Bool) (ls : List Int) (H0 : PT HB) (n0 a p q : Nat) (own : List Nat) (x : DV) (u : US) (ov lv cv : IV) (cs : List (Int × Int)) (i : Nat) (st : St) : Prop where
  c0 : st.T.get 0 = some (.ptr a 0 0)
  c2 : st.T.get 2 = some (.imm (.bool true))
  b5 : Box st 5 [ov, lv]
  b8 : Box st 8 [.nils, .nils]
  c13 : st.T.get 13 = some (.imm cv)
  c14 : st.T.get 14 = some (.imm (.int .i64 (cs.length : Int)))
  c15 : st.T.get 15 = some (.imm (.int .i64 (i : Int)))
  u : UAt Z l st.H st.n a p q own x (setR u (cmdsF l os ls u.rs (cs.take i)))
  fr : ∀ j, j < n0 → ¬ Z j → st.H.get j = H0.get j
  hn : n0 ≤ st.n
theorem loopCm {d : Nat} (hd : 11 ≤ d) {Z : Nat → Prop} {l : Lo} {os : List Bool} {ls : List Int} {H0 : PT HB} {n0 a p q : Nat} {own : List Nat} {x : DV} {u : US} (ok : LoOk l) (is : ISL l) (hz : ∀ j, n0 ≤ j → Z j) (inv : INV l u.rs) {ov lv cv : IV} (io : InOk ov lv os ls) {cs : List (Int × Int)} (hc : Sl 2 cv (cs.map ivC)) (hcl : cs.length ≤ reachBytes)
    {st : St} (h : ICm Z l os ls H0 n0 a p q own x u ov lv cv cs 0 st) {ks : List Kf} {Q : Ex → St → Prop}
    (hk : ∀ s', ICm Z l os ls H0 n0 a p q own x u ov lv cv cs cs.length s' → Bk DG (K DG (d + 1)) 0 (.exit 0) ks s' Q) :
    Wp DG (K DG (d + 1)) 0 D.l41_0 ks st Q := by
  refine dw_loop (N := cs.length) (small hcl) (fun i st => ICm Z l os ls H0 n0 a p q own x u ov lv cv cs i st) (fun e s' => e = .exit 0 ∧ ICm Z l os ls H0 n0 a p q own x u ov lv cv cs cs.length s') (fun i st hle hI => ?_) h (fun e s' h => by
    obtain ⟨rfl, h⟩ := h
    exact hk s' h)
  obtain ⟨c0, c2, ⟨i5, b5, L5⟩, ⟨i8, b8, L8⟩, c13, c14, c15, hu, fr, hn⟩ := hI
  have hb := hu.blk
  simp only [rowU] at hb
  have cvs := hc.scal
  by_cases hi : i < cs.length
  · have hi1 : (i : Int) < cs.length := by omega
    have hi' := ilt_t hi1
    have hw8 : IntKind.i64.wrap ((i : Int) + 1) = (i : Int) + 1 := wr_succ hi hcl
    have ix := fun {h : Nat → Option HB} {n : Nat} => idx_sl (h := h) (n := n) hc (by omega) (k := .i64) (z := (i : Int)) (by omega) hi1
    simp only [Int.toNat_natCast] at ix
    obtain ⟨v, H', n', e, hn', hu', f'⟩ := hu.cmd hd ok is (fun j hj => hz j (by omega)) (INV.cmds _ inv) io (nth cs i).1 (nth cs i).2 (m := st.n + 1) (by omega)
    have hu2 : UAt Z l H' n' a p q own x (setR u (cmdsF l os ls u.rs (cs.take (i + 1)))) := by
      rw [cmdsF_succ hi]
      exact hu'
    have ovs := io.o.scal
    have lvs := io.l.scal
    generalize nth cs i = y at *
    obtain ⟨y1, y2⟩ := y
    simp only at e
    generalize hQ : (fun (e : Ex) (s' : St) => _) = Q'
    simp only [D.l41_0b]
    simp [c0, c2, b5, L5, b8, L8, c13, c14, c15, cvs, hi', hw8, ix, hb, e, ovs, lvs, ivC, imms, B6, undT, fnEnd, argsT, PT.get_put, keep, opRun, ev, evs, evO, give, giveI, binOf, isNilK, PM.flip, putT, putL, putH, loadOf, storeOf, cut, over, ofCells, asNat, natOr, calm, clashes, Acc.clash, ressOf, resOf, frz, frz.frzs, DV.flat, DV.flat.flats, imms]
    subst hQ
    exact .inl ⟨rfl, hi, by simp [PT.get_put], by simp [PT.get_put], ⟨i5, by simp [PT.get_put], by simp [PT.get_put, imms]⟩, ⟨i8, by simp [PT.get_put], by simp [PT.get_put, imms]⟩, by simp [PT.get_put], by simp [PT.get_put], by simp [PT.get_put], hu2, fun j hj hzj => (f' j (by omega) hzj).trans (fr j hj hzj), by simp; omega⟩
  · obtain rfl : i = cs.length := by omega
    generalize hQ : (fun (e : Ex) (s' : St) => _) = Q'
    simp only [D.l41_0b]
    simp [c0, c2, b5, L5, b8, L8, c13, c14, c15, cvs, B6, undT, fnEnd, argsT, PT.get_put, keep, opRun, ev, evs, evO, give, giveI, binOf, isNilK, PM.flip, putT, putL, putH, loadOf, storeOf, cut, over, ofCells, asNat, natOr, calm, clashes, Acc.clash, ressOf, resOf, frz, frz.frzs, DV.flat, DV.flat.flats, imms]
    subst hQ
    exact .inr ⟨nofun, rfl, by simp [PT.get_put, c0], by simp [PT.get_put, c2], ⟨i5, by simp [PT.get_put, b5], by simp [PT.get_put, L5, imms]⟩, ⟨i8, by simp [PT.get_put, b8], by simp [PT.get_put, L8, imms]⟩, by simp [PT.get_put, c13], by simp [PT.get_put, c14], by simp [PT.get_put, c15], hu, fr, hn⟩
noncomputable def cyF (l : Lo) (u : US) (os : List Bool) (ls : List Int) (conn : Bool) (cs : List (Int × Int)) : US × List Int × List Bool :=
  let r := cycF l (if conn then cmdsF l os ls u.rs cs else u.rs) os ls
  (setR u r.1, if conn then r.2.1 else List.replicate l.pts.length 0, if conn then r.2.2 else List.replicate l.sigs.length false)
theorem out_safe {h : Nat → Option HB} {n0 n' : Nat} (l : Lo) : OutD h n0 n' (safeV l) (List.replicate l.pts.length 0) (List.replicate l.sigs.length false) :=
  ⟨_, _, rfl, .inl ⟨_, rfl, .inr ⟨false, by simp [ivI]⟩⟩, .inl ⟨_, rfl, .inr ⟨false, by simp [ivB1]⟩⟩⟩
def CyP (Z : Nat → Prop) (l : Lo) (H : PT HB) (n a p q : Nat) (own : List Nat) (x : DV) (r : US × List Int × List Bool) (v : DV) (H' : PT HB) (n' : Nat) : Prop := n ≤ n' ∧ UAt Z l H' n' a p q own x r.1 ∧ (∀ j, j < n → ¬ Z j → H'.get j = H.get j) ∧ OutD H'.get n n' v r.2.1 r.2.2
theorem cycle_fn {d : Nat} (hd : 11 ≤ d) {Z : Nat → Prop} {l : Lo} {os : List Bool} {ls : List Int} {H : PT HB} {n a p q : Nat} {own : List Nat} {x : DV} {u : US} (ok : LoOk l) (is : ISL l) (h : UAt Z l H n a p q own x u) (hz : ∀ j, n ≤ j → Z j) (inv : INV l u.rs) {ov lv cv : IV} (io : InOk ov lv os ls) {cs : List (Int × Int)} (hc : Sl 2 cv (cs.map ivC)) (hcl : cs.length ≤ reachBytes) (conn : Bool) :
    Fe (K DG (d + 2) 41 [.ptr a 0 0, inD ov lv, .imm (.bool conn), .imm cv] H n 0) (CyP Z l H n a p q own x (cyF l u os ls conn cs)) := by
  rw [D.k41]
  refine fn_dw rfl ?_
  have ovs := io.o.scal
  have lvs := io.l.scal
  have cvs := hc.scal
  have cl := hc.len
  simp only [List.length_map] at cl
  have hp := h.lt p (by simp)
  -- the Lock's Cycle, from any state
  have cyc : ∀ {H1 : PT HB} {m1 m : Nat} {w : US}, UAt Z l H1 m1 a p q own x w → INV l w.rs → n ≤ m1 → m1 ≤ m → ∃ H' n', K DG (d + 1) 68 [.ptr p 0 0, inD ov lv] H1 m 0 = some (.agg [.sl (m + 2 + 1) 0 l.pts.length l.pts.length, .sl (m + 2 + 2) 0 l.sigs.length l.sigs.length], H', n') ∧ m + 5 ≤ n' ∧ (∀ j, j < m1 → ¬ Z j → H'.get j = H1.get j) ∧
      UAt Z l H' n' a p q own x (setR w (cycF l w.rs os ls).1) ∧ H'.get (m + 2 + 1) = some ⟨1, (cycF l w.rs os ls).2.1.map rowI⟩ ∧ H'.get (m + 2 + 2) = some ⟨1, (cycF l w.rs os ls).2.2.map rowB⟩ ∧ (cycF l w.rs os ls).2.1.length = l.pts.length ∧ (cycF l w.rs os ls).2.2.length = l.sigs.length := fun {H1 m1 m w} hw iw h1 h2 => by
    obtain ⟨H', n', e, hn, fr, lk, g1, g2, g3, g4⟩ := Cycle_all hd ok is hw.lk iw io (n := m) (fun i hi => by have := (hw.lt i (by simp at hi ⊢; rcases hi with h | h <;> simp [h])).1; omega)
    exact ⟨H', n', e, hn, fun j hj hzj => fr j (fun e => hzj ((hw.lt j (by simp [e])).2)) (by omega), hw.lock (fun j hj => hz j (by omega)) (by omega) lk (fun j hj => .inl hj) (fun j _ h2' h3 => fr j h2' (by omega)), g1, g2, g3, g4⟩
  cases conn with
  | false =>
    have hb := h.blk
    simp only [rowU] at hb
    obtain ⟨H', n', e, hn, fr, hu, g1, g2, g3, g4⟩ := cyc h inv (Nat.le_refl _) (m := n + 2) (by omega)
    have hb' := hu.blk
    simp only [rowU, setR] at hb'
    have es := Safe_ro (d := d) ok is.p2 is.g2 hu.lk (n := n' + 1) (lo := 0) (by have := (hu.lt p (by simp)).1; omega)
    simp [cvs, ovs, lvs, hb, e, hb', es, B6, undT, fnEnd, argsT, PT.get_put, keep, opRun, ev, evs, evO, give, giveI, binOf, isNilK, PM.flip, putT, putL, putH, loadOf, storeOf, cut, over, ofCells, asNat, natOr, calm, clashes, Acc.clash, ressOf, resOf, frz, frz.frzs, DV.flat, DV.flat.flats, imms]
    exact ⟨by omega, hu.mono (by omega) (fun _ _ h => h) (fun _ _ _ => rfl), fr, out_safe l⟩
  | true =>
    simp [cvs, ovs, lvs, cl, B6, undT, fnEnd, argsT, PT.get_put, keep, opRun, ev, evs, evO, give, giveI, binOf, isNilK, PM.flip, putT, putL, putH, loadOf, storeOf, cut, over, ofCells, asNat, natOr, calm, clashes, Acc.clash, ressOf, resOf, frz, frz.frzs, DV.flat, DV.flat.flats, imms]
    refine loopCm (H0 := H) (n0 := n) (u := u) hd ok is hz inv io hc hcl ⟨by simp [PT.get_put], by simp [PT.get_put], ⟨n, by simp [PT.get_put], by simp [PT.get_put, imms]⟩, ⟨n + 1, by simp [PT.get_put], by simp [PT.get_put, imms]⟩, by simp [PT.get_put], by simp [PT.get_put], by simp [PT.get_put], h.mono (by simp; omega) (fun _ _ h => h) (fun _ _ _ => rfl), fun _ _ _ => rfl, by simp; omega⟩ (fun s' hI => ?_)
    obtain ⟨c0, c2, ⟨i5, b5, L5⟩, ⟨i8, b8, L8⟩, c13, c14, c15, hu, fr, hn⟩ := hI
    rw [List.take_length] at hu
    have hb := hu.blk
    simp only [rowU, setR] at hb
    obtain ⟨H', n', e, hn', fr', hu', g1, g2, g3, g4⟩ := cyc hu (INV.cmds cs inv) hn (m := s'.n) (Nat.le_refl _)
    simp [c0, c2, b5, L5, b8, L8, ovs, lvs, hb, e, imms, B6, undT, fnEnd, argsT, PT.get_put, keep, opRun, ev, evs, evO, give, giveI, binOf, isNilK, PM.flip, putT, putL, putH, loadOf, storeOf, cut, over, ofCells, asNat, natOr, calm, clashes, Acc.clash, ressOf, resOf, frz, frz.frzs, DV.flat, DV.flat.flats, imms]
    refine ⟨by omega, hu'.mono (by omega) (fun _ _ h => h) (fun _ _ _ => rfl), fun j hj hzj => (fr' j (by omega) hzj).trans (fr j hj hzj), _, _, rfl, .inr ⟨s'.n + 2 + 1, by omega, ?_, ?_⟩, .inr ⟨s'.n + 2 + 2, by omega, ?_, ?_⟩⟩
    · simp [cyF, setR] at g3 ⊢
      rw [g3]
    · rw [g1, rowI_imms]
      rfl
    · simp [cyF, setR] at g4 ⊢
      rw [g4]
    · rw [g2, List.map_map]
      rfl
def setC (u : US) (k : Int) : US := ⟨u.rs, u.ep, u.en, u.gr, u.cp, u.mode, u.tick, k, u.left⟩
def incC (k : Int) : Int := if k < 9223372036854775807 then k + 1 else k
def forcedF (u : US) : US := ⟨u.rs, u.ep, u.en, u.gr, u.cp, if u.left - 1 ≤ 0 then 3 else u.mode, u.tick, u.count, u.left - 1⟩
theorem forced_t {w : US} (h : w.left - 1 ≤ 0) : forcedF w = ⟨w.rs, w.ep, w.en, w.gr, w.cp, 3, w.tick, w.count, w.left - 1⟩ := by
  unfold forcedF
  rw [if_pos h]
theorem forced_f {w : US} (h : ¬ w.left - 1 ≤ 0) : forcedF w = ⟨w.rs, w.ep, w.en, w.gr, w.cp, w.mode, w.tick, w.count, w.left - 1⟩ := by
  unfold forcedF
  rw [if_neg h]
open Classical in
noncomputable def cycleF (l : Lo) (u : US) (os : List Bool) (ls : List Int) (conn : Bool) (cs : List (Int × Int)) : US × List Int × List Bool :=
  if Wk u ∧ (u.gr = true ∧ u.tick < u.en) then
    if u.mode = 3 then cyF l (setC u (incC u.count)) os ls conn cs
    else (forcedF (setC u (incC u.count)), List.replicate l.pts.length 0, List.replicate l.sigs.length false)
  else (u, List.replicate l.pts.length 0, List.replicate l.sigs.length false)
def CyR (Z : Nat → Prop) (l : Lo) (H : PT HB) (n a : Nat) (r : US × List Int × List Bool) (v : DV) (H' : PT HB) (n' : Nat) : Prop := UR Z l H n a r.1 H' n' ∧ OutD H'.get n n' v r.2.1 r.2.2
theorem OutD.low {h : Nat → Option HB} {n0 m n' : Nat} {v : DV} {ds : List Int} {ps : List Bool} (o : OutD h m n' v ds ps) (hm : n0 ≤ m) : OutD h n0 n' v ds ps := by
  obtain ⟨x, y, rfl, a, b⟩ := o
  refine ⟨x, y, rfl, ?_, ?_⟩
  · rcases a with a | ⟨id, ⟨p1, p2⟩, p3⟩
    · exact .inl a
    · exact .inr ⟨id, ⟨by omega, p2⟩, p3⟩
  · rcases b with a | ⟨id, ⟨p1, p2⟩, p3⟩
    · exact .inl a
    · exact .inr ⟨id, ⟨by omega, p2⟩, p3⟩
theorem Cycle_fnU {d : Nat} (hd : 11 ≤ d) {Z : Nat → Prop} {l : Lo} {os : List Bool} {ls : List Int} {H : PT HB} {n a : Nat} {u : US} (ok : LoOk l) (is : ISL l) (h : UI Z l H n a u) (hz : ∀ j, n ≤ j → Z j) (inv : INV l u.rs) (c0 : -9223372036854775808 ≤ u.count ∧ u.count ≤ 9223372036854775807) (l0 : -1000 ≤ u.left ∧ u.left ≤ 1000)
    {ov lv cv : IV} (io : InOk ov lv os ls) {cs : List (Int × Int)} (hc : Sl 2 cv (cs.map ivC)) (hcl : cs.length ≤ reachBytes) (conn : Bool) :
    Fe (K DG (d + 3) 21 [.ptr a 0 0, inD ov lv, .imm (.bool conn), .imm cv] H n 0) (CyR Z l H n a (cycleF l u os ls conn cs)) := by
  obtain ⟨p, q, own, x, h⟩ := h
  have hb := h.blk
  have xs := h.xs.1
  have la := h.lt a (by simp)
  have lp := h.lt p (by simp)
  simp only [rowU] at hb
  have ovs := io.o.scal
  have lvs := io.l.scal
  have cvs := hc.scal
  obtain ⟨k1, e1, hk1⟩ := u_works h (d := d + 1) (m := n + 2) (lo := 0)
  obtain ⟨k2, e2, hk2⟩ := lease_live h.le u.tick (d := d + 1) (n := k1) (lo := 0)
  have safe : ∀ (m : Nat) {H1 : PT HB} {m1 : Nat} {w : US}, UAt Z l H1 m1 a p q own x w → m1 ≤ m → callM (K DG (d + 2)) .ro 40 [.ptr p 0 0] H1 m 0 = some ⟨safeV l, H1, m + 3, [.rA]⟩ := fun m {H1 m1 w} hw h1 => Safe_ro (d := d + 1) ok is.p2 is.g2 hw.lk (by have := (hw.lt p (by simp)).1; omega)
  rw [D.k21]
  refine fn_dw rfl ?_
  unfold cycleF
  by_cases wk : Wk u
  · rw [dec_t wk] at e1
    by_cases lv' : u.gr = true ∧ u.tick < u.en
    · rw [if_pos ⟨wk, lv'⟩]
      rw [dec_t lv'] at e2
      -- the count
      have cnt : ∃ H1, UAt Z l H1 n a p q own x (setC u (incC u.count)) ∧ (∀ j, j < n → ¬ Z j → H1.get j = H.get j) ∧ ((u.count < 9223372036854775807 ∧ H1 = H.put a (some ⟨7, [[.ptr p 0 0, .ptr q 0 0, x, .imm (.int .i64 u.mode), .imm (.int .i64 u.tick), .imm (.int .i64 (u.count + 1)), .imm (.int .i64 u.left)]]⟩)) ∨ (¬ u.count < 9223372036854775807 ∧ H1 = H)) := by
        by_cases hlt : u.count < 9223372036854775807
        · refine ⟨_, ?_, fun j hj hzj => ?_, .inl ⟨hlt, rfl⟩⟩
          · have := h.num u.mode u.tick (u.count + 1) u.left
            unfold incC
            rw [if_pos hlt]
            exact this
          · have : ¬ j = a := fun e => hzj (e ▸ la.2)
            simp [PT.get_put, this]
        · refine ⟨H, ?_, fun _ _ _ => rfl, .inr ⟨hlt, rfl⟩⟩
          unfold incC
          rw [if_neg hlt]
          exact h
      obtain ⟨H1, h1, f1, hH1⟩ := cnt
      have w1 : u.count < 9223372036854775807 → IntKind.i64.wrap (u.count + 1) = u.count + 1 := fun hh => wr_id (by omega) (by omega)
      have hb1 := h1.blk
      simp only [rowU, setC] at hb1
      by_cases h3 : u.mode = 3
      · rw [if_pos h3]
        obtain ⟨v5, H5, n5, e5, hn5, hu5, f5, o5⟩ := cycle_fn (d := d) hd (H := H1) (n := k2) ok is (h1.mono (by omega) (fun _ _ h => h) (fun _ _ _ => rfl)) (fun j hj => hz j (by omega)) inv io hc hcl conn
        have fin : CyR Z l H n a (cyF l (setC u (incC u.count)) os ls conn cs) v5 H5 n5 := ⟨⟨by omega, ⟨p, q, own, x, hu5⟩, fun j hj hzj => (f5 j (by omega) hzj).trans (f1 j hj hzj)⟩, o5.low (by omega)⟩
        obtain ⟨y1, y2, rfl, oy1, oy2⟩ := o5
        have s1 := oy1.scal
        have s2 := oy2.scal
        rw [h3] at hb hb1
        rcases hH1 with ⟨hlt, hH1⟩ | ⟨hlt, rfl⟩
        · rw [h3] at hH1
          simp [cvs, ovs, lvs, xs, hb, e1, e2, ilt_t hlt, w1 hlt, ← hH1, hb1, e5, s1.1, s2.1, s1.2, s2.2, B6, undT, fnEnd, argsT, PT.get_put, keep, opRun, ev, evs, evO, give, giveI, binOf, isNilK, PM.flip, putT, putL, putH, loadOf, storeOf, cut, over, ofCells, asNat, natOr, calm, clashes, Acc.clash, ressOf, resOf, frz, frz.frzs, DV.flat, DV.flat.flats, imms]
          exact fin
        · simp [cvs, ovs, lvs, xs, hb, e1, e2, ilt_f (Int.not_lt.1 hlt), hb1, e5, s1.1, s2.1, s1.2, s2.2, B6, undT, fnEnd, argsT, PT.get_put, keep, opRun, ev, evs, evO, give, giveI, binOf, isNilK, PM.flip, putT, putL, putH, loadOf, storeOf, cut, over, ofCells, asNat, natOr, calm, clashes, Acc.clash, ressOf, resOf, frz, frz.frzs, DV.flat, DV.flat.flats, imms]
          exact fin
      · rw [if_neg h3]
        have h4 : u.mode = 4 := wk.resolve_left h3
        have w2 : IntKind.i64.wrap (u.left - 1) = u.left - 1 := wr_id (by omega) (by omega)
        have h2 := h1.num u.mode u.tick (incC u.count) (u.left - 1)
        obtain ⟨H2, hH2⟩ : ∃ H2, H2 = H1.put a (some ⟨7, [[.ptr p 0 0, .ptr q 0 0, x, .imm (.int .i64 u.mode), .imm (.int .i64 u.tick), .imm (.int .i64 (incC u.count)), .imm (.int .i64 (u.left - 1))]]⟩) := ⟨_, rfl⟩
        rw [← hH2] at h2
        have f2 : ∀ j, j < n → ¬ Z j → H2.get j = H.get j := fun j hj hzj => by
          have : ¬ j = a := fun e => hzj (e ▸ la.2)
          rw [hH2]
          simp [PT.get_put, this]
          exact f1 j hj hzj
        have hb2 := h2.blk
        simp only [rowU] at hb2
        by_cases h0 : u.left - 1 ≤ 0
        · have h5 := h2.num 3 u.tick (incC u.count) (u.left - 1)
          obtain ⟨H5, hH5⟩ : ∃ H5, H5 = H2.put a (some ⟨7, [[.ptr p 0 0, .ptr q 0 0, x, .imm (.int .i64 3), .imm (.int .i64 u.tick), .imm (.int .i64 (incC u.count)), .imm (.int .i64 (u.left - 1))]]⟩) := ⟨_, rfl⟩
          rw [← hH5] at h5
          have f5 : ∀ j, j < n → ¬ Z j → H5.get j = H.get j := fun j hj hzj => by
            have : ¬ j = a := fun e => hzj (e ▸ la.2)
            rw [hH5]
            simp [PT.get_put, this]
            exact f2 j hj hzj
          have hb5 := h5.blk
          simp only [rowU] at hb5
          have es := safe k2 h5 (by omega)
          have fin : ∀ n', n ≤ n' → CyR Z l H n a (forcedF (setC u (incC u.count)), List.replicate l.pts.length 0, List.replicate l.sigs.length false) (safeV l) H5 n' := fun n' hn' => ⟨⟨hn', ⟨p, q, own, x, by
            have := h5.mono (n' := n') hn' (fun _ _ h => h) (fun _ _ _ => rfl)
            show UAt Z l H5 n' a p q own x (forcedF (setC u (incC u.count)))
            rw [forced_t (w := setC u (incC u.count)) h0]
            exact this⟩, f5⟩, out_safe l⟩
          have il : ILt 0 (u.left - 1) = False := ilt_f h0
          rw [h4] at hb hb1 hb2 hH2
          rcases hH1 with ⟨hlt, hH1⟩ | ⟨hlt, rfl⟩
          · have ic : incC u.count = u.count + 1 := if_pos hlt
            rw [h4] at hH1
            rw [ic] at hb1 hb2 hH2 hb5 hH5
            simp [cvs, ovs, lvs, xs, hb, e1, e2, ilt_t hlt, w1 hlt, w2, il, ← hH1, hb1, ← hH2, hb2, ← hH5, hb5, es, B6, undT, fnEnd, argsT, PT.get_put, keep, opRun, ev, evs, evO, give, giveI, binOf, isNilK, PM.flip, putT, putL, putH, loadOf, storeOf, cut, over, ofCells, asNat, natOr, calm, clashes, Acc.clash, ressOf, resOf, frz, frz.frzs, DV.flat, DV.flat.flats, imms]
            exact fin _ (by omega)
          · have ic : incC u.count = u.count := if_neg hlt
            rw [ic] at hb1 hb2 hH2 hb5 hH5
            simp [cvs, ovs, lvs, xs, hb, e1, e2, ilt_f (Int.not_lt.1 hlt), w2, il, hb1, ← hH2, hb2, ← hH5, hb5, es, B6, undT, fnEnd, argsT, PT.get_put, keep, opRun, ev, evs, evO, give, giveI, binOf, isNilK, PM.flip, putT, putL, putH, loadOf, storeOf, cut, over, ofCells, asNat, natOr, calm, clashes, Acc.clash, ressOf, resOf, frz, frz.frzs, DV.flat, DV.flat.flats, imms]
            exact fin _ (by omega)
        · have es := safe k2 h2 (by omega)
          have fin : ∀ n', n ≤ n' → CyR Z l H n a (forcedF (setC u (incC u.count)), List.replicate l.pts.length 0, List.replicate l.sigs.length false) (safeV l) H2 n' := fun n' hn' => ⟨⟨hn', ⟨p, q, own, x, by
            have := h2.mono (n' := n') hn' (fun _ _ h => h) (fun _ _ _ => rfl)
            show UAt Z l H2 n' a p q own x (forcedF (setC u (incC u.count)))
            rw [forced_f (w := setC u (incC u.count)) h0]
            exact this⟩, f2⟩, out_safe l⟩
          have il : ILt 0 (u.left - 1) = True := ilt_t (by omega)
          rw [h4] at hb hb1 hb2 hH2
          rcases hH1 with ⟨hlt, hH1⟩ | ⟨hlt, rfl⟩
          · have ic : incC u.count = u.count + 1 := if_pos hlt
            rw [h4] at hH1
            rw [ic] at hb1 hb2 hH2
            simp [cvs, ovs, lvs, xs, hb, e1, e2, ilt_t hlt, w1 hlt, w2, il, ← hH1, hb1, ← hH2, hb2, es, B6, undT, fnEnd, argsT, PT.get_put, keep, opRun, ev, evs, evO, give, giveI, binOf, isNilK, PM.flip, putT, putL, putH, loadOf, storeOf, cut, over, ofCells, asNat, natOr, calm, clashes, Acc.clash, ressOf, resOf, frz, frz.frzs, DV.flat, DV.flat.flats, imms]
            exact fin _ (by omega)
          · have ic : incC u.count = u.count := if_neg hlt
            rw [ic] at hb1 hb2 hH2
            simp [cvs, ovs, lvs, xs, hb, e1, e2, ilt_f (Int.not_lt.1 hlt), w2, il, hb1, ← hH2, hb2, es, B6, undT, fnEnd, argsT, PT.get_put, keep, opRun, ev, evs, evO, give, giveI, binOf, isNilK, PM.flip, putT, putL, putH, loadOf, storeOf, cut, over, ofCells, asNat, natOr, calm, clashes, Acc.clash, ressOf, resOf, frz, frz.frzs, DV.flat, DV.flat.flats, imms]
            exact fin _ (by omega)
    · rw [if_neg (fun h => lv' h.2)]
      rw [dec_f lv'] at e2
      have es := safe k2 h (by omega)
      simp [cvs, ovs, lvs, xs, hb, e1, e2, es, B6, undT, fnEnd, argsT, PT.get_put, keep, opRun, ev, evs, evO, give, giveI, binOf, isNilK, PM.flip, putT, putL, putH, loadOf, storeOf, cut, over, ofCells, asNat, natOr, calm, clashes, Acc.clash, ressOf, resOf, frz, frz.frzs, DV.flat, DV.flat.flats, imms]
      exact ⟨⟨by omega, ⟨p, q, own, x, h.mono (by omega) (fun _ _ h => h) (fun _ _ _ => rfl)⟩, fun _ _ _ => rfl⟩, out_safe l⟩
  · rw [dec_f wk] at e1
    rw [if_neg (fun h => wk h.1)]
    have es := safe k1 h (by omega)
    simp [cvs, ovs, lvs, xs, hb, e1, es, B6, undT, fnEnd, argsT, PT.get_put, keep, opRun, ev, evs, evO, give, giveI, binOf, isNilK, PM.flip, putT, putL, putH, loadOf, storeOf, cut, over, ofCells, asNat, natOr, calm, clashes, Acc.clash, ressOf, resOf, frz, frz.frzs, DV.flat, DV.flat.flats, imms]
    exact ⟨⟨by omega, ⟨p, q, own, x, h.mono (by omega) (fun _ _ h => h) (fun _ _ _ => rfl)⟩, fun _ _ _ => rfl⟩, out_safe l⟩
end Go.Proofs.YtnpcgejfkonfdaaGreatDoor.D

-- OU
set_option linter.unusedVariables false
set_option linter.unusedSimpArgs false
set_option maxHeartbeats 16000000
set_option maxRecDepth 100000
namespace Go.Proofs.YtnpcgejfkonfdaaGreatDoor.D
open Go Go.PM Go.Lib

def rtOne : Rt := ⟨[114], 0, 1, .lst true 1 [[.int .i64 0]], .nils, .nils, [0], [], []⟩
def loOne : Lo := ⟨.lst true 1 [[.str [97]]], .nils, .lst true 1 [[.str [115]], [.str [116]]], .lst true 6 [[.str [114], .int .i64 0, .int .i64 1, .lst true 1 [[.int .i64 0]], .nils, .nils]], [[97]], [], [[115], [116]], [rtOne]⟩
theorem layOne_bl {d : Nat} : bl (K DG (d + 1)) 18 [] = some loOne.dv := by
  have key : Fe (K DG (d + 1) 18 [] .lf 0 0) (fun v _ _ => v = loOne.dv) := by
    rw [D.k18]
    refine fn_dw rfl ?_
    simp [loOne, evParts, evParts2, lay, unImms, unImm, mapO, rowsN, imms, B6, undT, fnEnd, argsT, PT.get_put, keep, opRun, ev, evs, evO, give, giveI, binOf, isNilK, PM.flip, putT, putL, putH, loadOf, storeOf, cut, over, ofCells, asNat, natOr, calm, clashes, Acc.clash, ressOf, resOf, frz, frz.frzs, DV.flat, DV.flat.flats, imms]
  obtain ⟨v, H, n, e, rfl⟩ := key
  exact bl_of e rfl
theorem one_ok : LoOk loOne := by
  have hrb := rb3
  refine ⟨.inr ⟨true, rfl⟩, .inl ⟨rfl, rfl⟩, .inr ⟨true, rfl⟩, .inr ⟨true, rfl⟩, by simp [loOne]; omega, by simp [loOne], by simp [loOne]; omega, by simp [loOne]; omega, fun x hx => ?_, fun x hx => ?_, fun x hx => ?_, fun x hx => ?_⟩
  · simp [loOne] at hx; subst hx; simp; omega
  · simp [loOne] at hx
  · simp [loOne] at hx; rcases hx with rfl | rfl <;> simp <;> omega
  · simp [loOne] at hx
    subst hx
    exact ⟨.inr ⟨true, rfl⟩, .inl ⟨rfl, rfl⟩, .inl ⟨rfl, rfl⟩, by simp [rtOne]; omega, by simp [rtOne]; omega, by simp [rtOne], by simp [rtOne]⟩
theorem nm_a : nm3 [97] = true := by kernel_rfl
theorem nm_s : nm3 [115] = true := by kernel_rfl
theorem nm_t : nm3 [116] = true := by kernel_rfl
theorem nm_r : nm3 [114] = true := by kernel_rfl
theorem one_is : ISL loOne := by
  have ne : ∀ path w, NE [] [] path w := fun _ _ i hi => absurd hi (by simp)
  have one : ∀ s : List UInt8, nm3 s = true → NM [s] := fun s hs i x hi => by
    cases i with
    | zero => simp at hi; subst hi; exact ⟨hs, by simp⟩
    | succ i => simp at hi
  refine ⟨by simp [loOne], by simp [loOne], by simp [loOne], by simp [loOne], by simp [loOne], by simp [loOne], fun i hi => by simp [loOne] at hi, one _ nm_a, fun i x hi => ?_, NM_nil, one _ nm_r, fun i hi => ?_⟩
  · match i with
    | 0 => simp [loOne] at hi; subst hi; exact ⟨nm_s, by simp⟩
    | 1 => simp [loOne] at hi; subst hi; exact ⟨nm_t, by simp [loOne]⟩
    | i + 2 => simp [loOne] at hi
  · obtain rfl : i = 0 := by simp [loOne] at hi; omega
    exact ⟨⟨by simp [loOne, rtOne, nth], by simp [loOne, rtOne, nth]⟩, ⟨by simp [loOne, rtOne, nth], by simp [loOne, rtOne, nth]⟩, by simp [loOne, rtOne, nth], fun i z hz => by
      cases i with
      | zero => simp [loOne, rtOne, nth] at hz; subst hz; exact ⟨⟨by omega, by simp [loOne]⟩, by simp⟩
      | succ i => simp [loOne, rtOne, nth] at hz, by simp [loOne, rtOne, nth], by simp [loOne, rtOne, nth], ne _ _, ne _ _, rfl⟩
theorem is_run {D : Nat} (hD : D = 26 ∨ D = 27) : bl (K DG D) 59 [loOne.dv] = some (.imm (.bool true)) := by
  rcases hD with rfl | rfl
  · have h : ansT (dcallF (doorG 0 1) tab 26 59 [loOne.dv] .lf 0 0) = true := by kernel_rfl
    rw [show dcallF (doorG 0 1) tab 26 = K DG 26 from dcallF_eq _ _ _] at h
    obtain ⟨H', n', e⟩ := ansT_spec h
    exact bl_imm e
  · have h : ansT (dcallF (doorG 0 1) tab 27 59 [loOne.dv] .lf 0 0) = true := by kernel_rfl
    rw [show dcallF (doorG 0 1) tab 27 = K DG 27 from dcallF_eq _ _ _] at h
    obtain ⟨H', n', e⟩ := ansT_spec h
    exact bl_imm e
theorem known_bl : bl (K DG 29) 16 [] = some (.imm (.bool true)) := by
  have h : ansT (dcallF (doorG 0 1) tab 29 16 [] .lf 0 0) = true := by kernel_rfl
  rw [show dcallF (doorG 0 1) tab 29 = K DG 29 from dcallF_eq _ _ _] at h
  obtain ⟨H', n', e⟩ := ansT_spec h
  exact bl_imm e
/-- a layout as the one of one route -/
structure AsOne (l : Lo) : Prop where
  ok : LoOk l
  is : ISL l
  eq : LoEq loOne l
/-- a new unit -/
theorem newOne {D : Nat} (hD : D = 28 ∨ D = 29) {Z : Nat → Prop} (H : PT HB) (n : Nat) (hz : ∀ j, n ≤ j → Z j) :
    ∃ a l H' n', K DG D 17 [loOne.dv] H n 0 = some (.tup [.ptr a 0 0, .imm (.int .i64 0)], H', n') ∧ n ≤ n' ∧ AsOne l ∧ UI Z l H' n' a (newU l) ∧ (n ≤ a ∧ a < n') ∧ ∀ j, j < n → H'.get j = H.get j := by
  obtain ⟨d, rfl, hd⟩ : ∃ d, D = d + 2 ∧ (d = 26 ∨ d = 27) := ⟨D - 2, by omega, by omega⟩
  obtain ⟨a, l, H', n', e, hn, ok, eq, hu, ha, f⟩ := New_of (d := d) (by omega) one_ok one_is (is_run hd) H n hz
  exact ⟨a, l, H', n', e, hn, ⟨ok, eq.is one_is, eq⟩, hu, ha, f⟩
theorem one_len {l : Lo} (h : AsOne l) : l.rts.length = 1 := by rw [h.eq.len]; rfl
theorem one_rep {l : Lo} (h : AsOne l) : rep0 l = [rs0] := by unfold rep0; rw [one_len h]; rfl
theorem one_inv {l : Lo} (h : AsOne l) {x : Rst} (hx : RsOk l 0 x) : INV l [x] :=
  ⟨by rw [one_len h]; rfl, fun r hr => by
    obtain rfl : r = 0 := by rw [one_len h] at hr; omega
    exact hx, fun i j hi hj hij => by rw [one_len h] at hi hj; omega⟩
/-- what is heard of a telegram of a unit -/
theorem hear_tel {l : Lo} {u : US} {e c : Int} {qs : List Rst} (he : -9223372036854775808 ≤ e ∧ e ≤ 9223372036854775807) (hc : -9223372036854775808 ≤ c ∧ c ≤ 9223372036854775807) (hq : ∀ x ∈ qs, (-9223372036854775808 ≤ x.mode ∧ x.mode ≤ 9223372036854775807) ∧ (-9223372036854775808 ≤ x.timer ∧ x.timer ≤ 9223372036854775807) ∧ (-9223372036854775808 ≤ x.gone ∧ x.gone ≤ 9223372036854775807)) (hl : qs.length ≤ 20) (h2 : u.mode = 2) (ho : ¬ OldP u e c) (iq : INV l qs) :
    hearF l u (tel e c qs) = ⟨u.rs, u.ep, u.en, u.gr, some (e, c, qs), u.mode, u.tick, u.count, u.left⟩ := by
  obtain ⟨l1, l2, l3, l4⟩ := layT_ok e c hl
  have hcan : ∀ t ∈ layT e c qs, thCan t := fun t ht => by
    simp only [layT, List.mem_cons, List.mem_map] at ht
    rcases ht with rfl | ⟨z, hz, rfl⟩
    · show (5 : Nat) ≤ 200; omega
    · rcases hz with rfl | rfl | rfl | hz
      · exact he
      · exact hc
      · show _ ∧ _; omega
      · simp only [ofF, List.mem_flatMap] at hz
        obtain ⟨x, hx, hz⟩ := hz
        obtain ⟨q1, q2, q3⟩ := hq x hx
        simp only [of1, List.mem_cons, List.not_mem_nil, or_false] at hz
        rcases hz with rfl | rfl | rfl | rfl
        · exact q1
        · exact q2
        · exact q3
        · show _ ∧ _; unfold bi; split <;> omega
  unfold hearF tel
  rw [if_neg (by simp [h2]), unF_teleg hcan l1 l4]
  simp only [readF_lay]
  rw [if_neg ho, if_pos iq]
end Go.Proofs.YtnpcgejfkonfdaaGreatDoor.D

-- RH
set_option linter.unusedVariables false
set_option linter.unusedSimpArgs false
set_option maxHeartbeats 16000000
namespace Go.Proofs.YtnpcgejfkonfdaaGreatDoor.D
open Go Go.PM Go.Lib

structure IOh (H0 : PT HB) (w id : Nat) (y : Rst) (i : Nat) (st : St) : Prop where
  c0 : st.T.get 0 = some (.sl id 0 1 1)
  c4 : st.T.get 4 = some (.imm (.int .i64 (i : Int)))
  c3 : (i = 0 ∧ st.T.get 3 = some (.imm .nils)) ∨ (i = 1 ∧ ∃ x, st.T.get 3 = some x ∧ Rw 1 st.H w st.n x ((of1 y).map ivI))
  hb : st.H.get id = some ⟨4, [rowRS y]⟩
  fr : ∀ j, j < w → st.H.get j = H0.get j
  hn : w ≤ st.n
theorem Of9_one {d : Nat} {H : PT HB} {n id : Nat} {y : Rst} (hid : id < n) (hb : H.get id = some ⟨4, [rowRS y]⟩) (lo : Nat) :
    ∃ w m, callM (K DG (d + 2)) .ro 42 [.sl id 0 1 1] H n lo = some ⟨.imm w, H, m, [.rA]⟩ ∧ n ≤ m ∧ Sl 1 w ((of1 y).map ivI) := by
  have key : Fe (K DG (d + 1 + 1) 42 [.sl id 0 1 1] H n n) (fun x H' n' => n ≤ n' ∧ Rw 1 H' n n' x ((of1 y).map ivI)) := by
    rw [D.k42]
    refine fn_dw rfl ?_
    simp [B6, undT, fnEnd, argsT, PT.get_put, keep, opRun, ev, evs, evO, give, giveI, binOf, isNilK, PM.flip, putT, putL, putH, loadOf, storeOf, cut, over, ofCells, asNat, natOr, calm, clashes, Acc.clash, ressOf, resOf, frz, frz.frzs, DV.flat, DV.flat.flats, imms]
    refine dw_loop (N := 1) (small (by have := rb3; omega)) (fun i st => IOh H n id y i st) (fun e s' => e = .exit 0 ∧ IOh H n id y 1 s') (fun i st hle hI => ?_) ⟨by simp [PT.get_put], by simp [PT.get_put], .inl ⟨rfl, by simp [PT.get_put]⟩, hb, fun _ _ => rfl, by simp⟩ (fun e s' h => ?_)
    · obtain ⟨c0, c4, c3, hb, fr, hn⟩ := hI
      rcases c3 with ⟨rfl, c3⟩ | ⟨rfl, x, c3, hx⟩
      · have hi' : ILt 0 1 = True := ilt_t (by omega)
        have ix := fun {n : Nat} => idx_hp (h := st.H.get) (n := n) (id := id) (row := 0) (len := 1) (cap := 1) hb rfl (k := .i64) (z := (0 : Int)) (by omega) (by omega)
        simp at ix
        have fb := bool9_bl (d := d) y.seen
        have hne : ¬ id = st.n := by omega
        have hne2 : ¬ st.n = id := by omega
        have am : 1000 ≤ appMax := by unfold appMax; omega
        have a1 : 4 ≤ appMax := by omega
        have a2 : 32 ≤ appMax := by omega
        have a3 : n ≤ st.n := hn
        obtain ⟨ym, yt, yg, ys⟩ := y
        simp only at fb
        have w1 : IntKind.i64.wrap 1 = 1 := by decide
        generalize hQ : (fun (e : Ex) (s' : St) => _) = Q'
        simp only [D.l42_0b]
        simp at c4
        simp [c0, c4, c3, hi', ix, hb, fb, hne, hne2, a1, a2, a3, w1, appOf, srcOf, rowsOf, raccOf, evParts2, lay, unImms, unImm, mapO, rowsN, imms, B6, undT, fnEnd, argsT, PT.get_put, keep, opRun, ev, evs, evO, give, giveI, binOf, isNilK, PM.flip, putT, putL, putH, loadOf, storeOf, cut, over, ofCells, asNat, natOr, calm, clashes, Acc.clash, ressOf, resOf, frz, frz.frzs, DV.flat, DV.flat.flats, imms]
        subst hQ
        exact .inl ⟨rfl, by omega, by simp [PT.get_put], by simp [PT.get_put], .inr ⟨rfl, .sl st.n 0 4 4, by simp [PT.get_put], .inr ⟨st.n, by simp; omega, rfl, by simp [PT.get_put, of1, ivI, imms]⟩⟩, by simp [PT.get_put, hne]; exact hb, fun j hj => by
          have : ¬ j = st.n := by omega
          simp [PT.get_put, this]
          exact fr j hj, by simp; omega⟩
      · have xs := hx.scal
        have hi' : ILt 1 1 = False := ilt_f (by omega)
        generalize hQ : (fun (e : Ex) (s' : St) => _) = Q'
        simp only [D.l42_0b]
        simp at c4
        simp [c0, c4, c3, xs, hi', B6, undT, fnEnd, argsT, PT.get_put, keep, opRun, ev, evs, evO, give, giveI, binOf, isNilK, PM.flip, putT, putL, putH, loadOf, storeOf, cut, over, ofCells, asNat, natOr, calm, clashes, Acc.clash, ressOf, resOf, frz, frz.frzs, DV.flat, DV.flat.flats, imms]
        subst hQ
        exact .inr ⟨nofun, rfl, by simp [PT.get_put, c0], by simp [PT.get_put, c4], .inr ⟨rfl, x, by simp [PT.get_put, c3], hx⟩, hb, fr, hn⟩
    · obtain ⟨rfl, hI⟩ := h
      obtain ⟨c0, c4, c3, hb, fr, hn⟩ := hI
      rcases c3 with ⟨h, _⟩ | ⟨_, x, c3, hx⟩
      · omega
      have xs := hx.scal
      have xo := hx.out
      simp [c0, c4, c3, xs, xo, B6, undT, fnEnd, argsT, PT.get_put, keep, opRun, ev, evs, evO, give, giveI, binOf, isNilK, PM.flip, putT, putL, putH, loadOf, storeOf, cut, over, ofCells, asNat, natOr, calm, clashes, Acc.clash, ressOf, resOf, frz, frz.frzs, DV.flat, DV.flat.flats, imms]
      exact ⟨hn, hx⟩
  obtain ⟨x, H', n', e, hn, hx⟩ := key
  obtain ⟨w, h1, h2⟩ := frz_rw hx
  exact ⟨w, n', by rw [callM_ro, if_pos (by rfl), e]; simp only [h1]; rfl, hn, h2⟩
theorem Lay9_one {d : Nat} {H : PT HB} {n id lo : Nat} {y : Rst} (hid : id < n) (hb : H.get id = some ⟨4, [rowRS y]⟩) (hlo : lo ≤ n) (e c : Int) :
    ∃ a ob H' n', K DG (d + 3) 22 [.imm (.int .i64 e), .imm (.int .i64 c), .sl id 0 1 1] H n lo = some (.ptr a 0 0, H', n') ∧ CrR H' a ob (layT e c [y]) ∧ a < n' ∧ (∀ b, ob = some b → b < n') ∧ n ≤ n' := by
  obtain ⟨w, m, ew, hm, hw⟩ := Of9_one (d := d) hid hb lo
  obtain ⟨zs, hzs⟩ : ∃ zs : List Int, zs = [e, c, 1, y.mode, y.timer, y.gone, bi y.seen] := ⟨_, rfl⟩
  have hzl : zs.length = 7 := by rw [hzs]; rfl
  have key : Fe (K DG (d + 2 + 1) 22 [.imm (.int .i64 e), .imm (.int .i64 c), .sl id 0 1 1] H n lo) (fun v' H' n' => ∃ a ob, v' = .ptr a 0 0 ∧ CrR H' a ob (layT e c [y]) ∧ a < n' ∧ (∀ b, ob = some b → b < n') ∧ n ≤ n') := by
    rw [D.k22]
    refine fn_dw rfl ?_
    have ws := hw.scal
    obtain ⟨sb, hsrc, hsb⟩ := src_sl hw H.get
    obtain rfl := hsb (by simp [of1])
    have am : 20000000 ≤ appMax := by unfold appMax; omega
    have a1 : 7 ≤ appMax := by omega
    have a2 : 56 ≤ appMax := by omega
    have ha : appOf H.get m lo 1 8 (.imm (.lst true 1 [[.int .i64 e], [.int .i64 c], [.int .i64 1]])) (.imm w) = some { v := .sl m 0 zs.length zs.length, hw := [(m, some ⟨1, zs.map rowI⟩)], n' := m + 1, acc := [.wX m] } := by
      rw [hzl, hzs]
      simp [appOf, hsrc, raccOf, imms, of1, ivI, rowI, a1, a2]
    generalize hes : zs.map rowI = es at *
    simp [ws, ew, ha, hlo, evParts, evParts2, lay, unImms, unImm, mapO, rowsN, imms, B6, undT, fnEnd, argsT, PT.get_put, keep, opRun, ev, evs, evO, give, giveI, binOf, isNilK, PM.flip, putT, putL, putH, loadOf, storeOf, cut, over, ofCells, asNat, natOr, calm, clashes, Acc.clash, ressOf, resOf, frz, frz.frzs, DV.flat, DV.flat.flats, imms]
    have hnb : ¬ m = m + 1 := by omega
    refine loopLr (lo := lo) (a := m + 1) (zs := zs) (x := .sl m 0 zs.length zs.length) (by omega) ⟨by simp [PT.get_put], by simp [PT.get_put], by simp [PT.get_put], ⟨none, by simp, by exact .inr (.inl ⟨by simp [PT.get_put, rowTh], rfl⟩), by simp⟩, .inr ⟨m, by simp; omega, rfl, by simp [PT.get_put, hes]⟩, by simp; omega⟩ (fun s' hI => ?_)
    obtain ⟨c7, c8, c9, ⟨ob, hob, cr, xb⟩, xa, ⟨anl, an⟩⟩ := hI
    rw [List.take_length] at cr
    have : layT e c [y] = .text [115, 116, 97, 116, 101] :: zs.map .int := by rw [hzs]; rfl
    simp [c7, c8, c9, B6, undT, fnEnd, argsT, PT.get_put, keep, opRun, ev, evs, evO, give, giveI, binOf, isNilK, PM.flip, putT, putL, putH, loadOf, storeOf, cut, over, ofCells, asNat, natOr, calm, clashes, Acc.clash, ressOf, resOf, frz, frz.frzs, DV.flat, DV.flat.flats, imms]
    rw [this]
    exact ⟨ob, cr, an, fun b hb => (hob b hb).1, by omega⟩
  obtain ⟨v', H', n', e, a, ob, rfl, r⟩ := key
  exact ⟨a, ob, H', n', e, r⟩
theorem laid_one {d : Nat} {H : PT HB} {n id : Nat} {y : Rst} (hid : id < n) (hb : H.get id = some ⟨4, [rowRS y]⟩) (E N : Int) (lo : Nat) :
    ∃ g m, callM (K DG (d + 4)) .ro 6 [.agg [.imm (.int .i64 0), .imm (.bool false), .imm (.int .i64 E), .imm (.int .i64 N), .sl id 0 1 1, .imm .nils, .imm .nils, .imm .nils, .imm .nils]] H n lo = some ⟨.imm (.lst g 1 ((tel E N [y]).map ivY)), H, m, [.rA]⟩ ∧ n ≤ m := by
  obtain ⟨a, ob, H1, n1, e1, hc, ha, hob, hn1⟩ := Lay9_one (d := d) (H := H) (n := n + 1) (lo := n) (by omega) hb (by omega) E N
  obtain ⟨l1, l2, l3, l4⟩ := layT_ok E N (rs := [y]) (by simp)
  obtain ⟨g, m, e2, hm⟩ := Pack8_ro (d := d) (lo := n) hc ha hob l1 l2 l3 l4
  have key : Fe (K DG (d + 3 + 1) 6 [.agg [.imm (.int .i64 0), .imm (.bool false), .imm (.int .i64 E), .imm (.int .i64 N), .sl id 0 1 1, .imm .nils, .imm .nils, .imm .nils, .imm .nils]] H n n) (fun v _ n' => n ≤ n' ∧ v = .imm (.lst g 1 ((tel E N [y]).map ivY))) := by
    unfold tel
    generalize (teleg (bodyT (layT E N [y]))).map ivY = es at *
    rw [D.k6]
    refine fn_dw rfl ?_
    simp [e1, e2, imms, B6, undT, fnEnd, argsT, PT.get_put, keep, opRun, ev, evs, evO, give, giveI, binOf, isNilK, PM.flip, putT, putL, putH, loadOf, storeOf, cut, over, ofCells, asNat, natOr, calm, clashes, Acc.clash, ressOf, resOf, frz, frz.frzs, DV.flat, DV.flat.flats, imms]
    omega
  obtain ⟨k, e, hk⟩ := ro_of (lo := lo) (by rfl) key
  exact ⟨g, k, e, hk⟩
end Go.Proofs.YtnpcgejfkonfdaaGreatDoor.D

-- PUnitTakes
set_option linter.unusedVariables false
set_option linter.unusedSimpArgs false
set_option maxHeartbeats 16000000
namespace Go.Proofs.YtnpcgejfkonfdaaGreatDoor.D
open Go Go.PM Go.Lib

theorem in_free : InOk (.lst true 1 [[.bool false]]) .nils [false] [] := ⟨.inr ⟨true, rfl⟩, .inl ⟨rfl, rfl⟩, by have := rb3; simp; omega, by simp⟩
theorem incC_lt {c : Int} (h : c < 9223372036854775807) : incC c = c + 1 := if_pos h
theorem old_none {u : US} {e c : Int} (h : u.cp = none) : ¬ OldP u e c := fun ⟨_, _, _, h', _⟩ => by rw [h] at h'; cases h'
theorem sl_rs0 : Sl 4 (.lst true 4 [[.int .i64 0, .int .i64 0, .int .i64 0, .bool false]]) ([rs0].map ivRS) := .inr ⟨true, rfl⟩
/-- one that is forced, i cycles later -/
def fU (e k : Int) (i : Nat) : US := ⟨[rs0], e, 5, true, none, if i < 10 then 4 else 3, 0, k + i, 10 - i⟩
theorem fU_cyc {l : Lo} {e k : Int} {i : Nat} (hi : i < 10) (hk : k < 1000) {os : List Bool} {ls : List Int} {cs : List (Int × Int)} : cycleF l (fU e k i) os ls true cs = (fU e k (i + 1), List.replicate l.pts.length 0, List.replicate l.sigs.length false) := by
  have hm : (fU e k i).mode = 4 := if_pos hi
  unfold cycleF
  rw [if_pos ⟨.inr hm, rfl, by show (0 : Int) < 5; omega⟩, if_neg (by rw [hm]; omega)]
  congr 1
  have hc : (fU e k i).count = k + i := rfl
  rw [hc, incC_lt (by omega)]
  by_cases h9 : i = 9
  · subst h9
    rw [forced_t (by show (10 : Int) - (9 : Nat) - 1 ≤ 0; omega)]
    simp [fU, setC]
    omega
  · rw [forced_f (by show ¬ (10 : Int) - (i : Nat) - 1 ≤ 0; omega)]
    have h1 : i + 1 < 10 := by omega
    simp [fU, setC, hi, h1]
    omega
theorem fU_grant {l : Lo} {e k : Int} {i : Nat} (hi : i < 10) : grantF l (fU e k i) e 0 = fU e k i := by
  have hm : (fU e k i).mode = 4 := if_pos hi
  unfold grantF
  rw [if_pos ⟨.inr hm, rfl⟩]
  rfl
structure ITa (l : Lo) (e k : Int) (a z : Nat) (i : Nat) (st : St) : Prop where
  c2 : st.T.get 2 = some (.imm (.int .i64 e))
  c3 : st.T.get 3 = some (.imm (.int .i64 k))
  c11 : st.T.get 11 = some (.ptr a 0 0)
  b15 : Box st 15 [.lst true 1 [[.bool false]], .nils]
  c16 : st.T.get 16 = some (.imm (.int .i64 (i : Int)))
  u : UI (fun j => j ≠ z) l st.H st.n a (fU e k i)
  hz : z < st.n
theorem loopTa {l : Lo} (ho : AsOne l) {e k : Int} (he : 0 ≤ e ∧ e ≤ 100) (hk0 : 0 ≤ k ∧ k ≤ 100) {a z : Nat} {st : St} (h : ITa l e k a z 0 st) {ks : List Kf} {Q : Ex → St → Prop}
    (hk : ∀ s', ITa l e k a z 10 s' → Bk DG (K DG 29) 0 (.exit 0) ks s' Q) : Wp DG (K DG 29) 0 D.l4_0 ks st Q := by
  refine dw_loop (N := 10) (small (by have := rb3; omega)) (fun i st => ITa l e k a z i st) (fun e' s' => e' = .exit 0 ∧ ITa l e k a z 10 s') (fun i st hle hI => ?_) h (fun e s' h => by
    obtain ⟨rfl, h⟩ := h
    exact hk s' h)
  obtain ⟨c2, c3, c11, ⟨i15, b15, L15⟩, c16, u, hz⟩ := hI
  by_cases hi : i < 10
  · have hi' : ILt (i : Int) 10 = True := ilt_t (by omega)
    have hw8 : IntKind.i64.wrap ((i : Int) + 1) = (i : Int) + 1 := wr_id (by omega) (by omega)
    have hwk : IntKind.i64.wrap (k + (i : Int)) = k + (i : Int) := wr_id (by omega) (by omega)
    have u' := u
    obtain ⟨p, q, own, x, h1⟩ := u
    obtain ⟨k1, e1, hk1⟩ := u_mode h1 (d := 28) (m := st.n) (lo := 0)
    obtain ⟨k2, e2, hk2⟩ := u_count h1 (d := 28) (m := k1) (lo := 0)
    obtain ⟨w3, k3, e3, hk3, hw3⟩ := Send_ro h1 (by simp [fU]) (d := 23) (m := k2) (lo := 0) (by omega)
    have hs : sendF (fU e k i) = [] := by
      unfold sendF
      exact if_neg (by rw [show (fU e k i).mode = 4 from if_pos hi]; omega)
    rw [hs] at hw3
    have l3 : lenOf (.imm w3) = some 0 := hw3.len
    have s3 := hw3.scal
    have hm : (fU e k i).mode = 4 := if_pos hi
    have hct : (fU e k i).count = k + i := rfl
    rw [hm] at e1
    rw [hct] at e2
    obtain ⟨v4, H4, n4, e4, hn4, u4, f4⟩ := Granted_fn (d := 25) (n := k3) (by omega) ho.ok ho.is (u'.mono (by omega) (fun _ _ h => h) (fun _ _ _ => rfl)) (fun j hj => by omega) (fun e c qs h => by cases h) (e := e) (k := 0) (by omega) (by simp [fU]) (by simp [fU])
    rw [fU_grant hi] at u4
    obtain ⟨v5, H5, n5, e5, ⟨hn5, u5, f5⟩, o5⟩ := Cycle_fnU (d := 26) (by omega) ho.ok ho.is u4 (fun j hj => by omega) (by show INV l [rs0]; exact one_inv ho RsOk.idle) (by rw [hct]; omega) (by simp [fU]; omega) in_free (cv := .lst true 2 [[.int .i64 1, .int .i64 0]]) (cs := [(1, 0)]) (.inr ⟨true, rfl⟩) (by have := rb3; simp; omega) true
    rw [fU_cyc hi (by omega)] at u5 o5
    have hsg : l.sigs.length = 2 := by rw [ho.eq.sigs]; rfl
    rw [hsg] at o5
    obtain ⟨y1, y2, rfl, oy1, oy2⟩ := o5
    have s1 := oy1.scal
    have s2 := oy2.scal
    simp only [Nat.reduceAdd] at e1 e2 e3 e4 e5
    rcases oy2 with ⟨w, rfl, hw⟩ | ⟨id, hid, rfl, hb⟩
    · have wl := hw.len
      have ix := fun {h : Nat → Option HB} {n : Nat} => idx_sl (h := h) (n := n) hw (by omega) (k := .i64) (z := 0) (by omega) (by simp)
      simp [nth] at ix
      simp at wl
      generalize hQ : (fun (e : Ex) (s' : St) => _) = Q'
      simp only [D.l4_0b]
      simp [c2, c3, c11, b15, L15, c16, hi', hw8, hwk, e1, e2, e3, l3, s3, e4, e5, s1.1, s1.2, s2.1, s2.2, wl, ix, ivB1, evParts, evParts2, lay, unImms, unImm, mapO, rowsN, imms, B6, undT, fnEnd, argsT, PT.get_put, keep, opRun, ev, evs, evO, give, giveI, binOf, isNilK, PM.flip, putT, putL, putH, loadOf, storeOf, cut, over, ofCells, asNat, natOr, calm, clashes, Acc.clash, ressOf, resOf, frz, frz.frzs, DV.flat, DV.flat.flats, imms]
      subst hQ
      exact .inl ⟨rfl, hi, by simp [PT.get_put], by simp [PT.get_put], by simp [PT.get_put], ⟨i15, by simp [PT.get_put], by simp [PT.get_put, imms]⟩, by simp [PT.get_put], u5.mono (by simp) (fun _ _ h => h) (fun _ _ _ => rfl), by simp; omega⟩
    · simp at hb
      have ix := fun {n : Nat} => idx_hp (h := H5.get) (n := n) (id := id) (row := 0) (len := 2) (cap := 2) hb rfl (k := .i64) (z := 0) (by omega) (by omega)
      simp at ix
      generalize hQ : (fun (e : Ex) (s' : St) => _) = Q'
      simp only [D.l4_0b]
      simp [c2, c3, c11, b15, L15, c16, hi', hw8, hwk, e1, e2, e3, l3, s3, e4, e5, s1.1, s1.2, s2.1, s2.2, hb, ix, ivB1, evParts, evParts2, lay, unImms, unImm, mapO, rowsN, imms, B6, undT, fnEnd, argsT, PT.get_put, keep, opRun, ev, evs, evO, give, giveI, binOf, isNilK, PM.flip, putT, putL, putH, loadOf, storeOf, cut, over, ofCells, asNat, natOr, calm, clashes, Acc.clash, ressOf, resOf, frz, frz.frzs, DV.flat, DV.flat.flats, imms]
      subst hQ
      exact .inl ⟨rfl, hi, by simp [PT.get_put], by simp [PT.get_put], by simp [PT.get_put], ⟨i15, by simp [PT.get_put], by simp [PT.get_put, imms]⟩, by simp [PT.get_put], u5.mono (by simp) (fun _ _ h => h) (fun _ _ _ => rfl), by simp; omega⟩
  · obtain rfl : i = 10 := by omega
    have hi' : ILt 10 10 = False := ilt_f (by omega)
    generalize hQ : (fun (e : Ex) (s' : St) => _) = Q'
    simp only [D.l4_0b]
    simp at c16
    simp [c2, c3, c11, b15, L15, c16, hi', B6, undT, fnEnd, argsT, PT.get_put, keep, opRun, ev, evs, evO, give, giveI, binOf, isNilK, PM.flip, putT, putL, putH, loadOf, storeOf, cut, over, ofCells, asNat, natOr, calm, clashes, Acc.clash, ressOf, resOf, frz, frz.frzs, DV.flat, DV.flat.flats, imms]
    subst hQ
    exact .inr ⟨nofun, rfl, by simp [PT.get_put, c2], by simp [PT.get_put, c3], by simp [PT.get_put, c11], ⟨i15, by simp [PT.get_put, b15], by simp [PT.get_put, L15, imms]⟩, by simp [PT.get_put, c16], u, hz⟩
theorem same_h {H : PT HB} {m id lo : Nat} {w : IV} {y : Rst} (hw : Sl 4 w ([y].map ivRS)) (hb : H.get id = some ⟨4, [rowRS y]⟩) :
    callM (K DG 29) .blind 14 [.imm w, .sl id 0 1 1] H m lo = some ⟨.imm (.bool true), H, m, [.rA]⟩ := by
  have e1 : frzI H.get 0 4 (.sl id 0 1 1) = some (.lst false 4 [ivRS y]) := by
    show (if 0 ≤ id then _ else none) = _
    rw [if_pos (Nat.zero_le _), hb]
    rfl
  have e2 : snap.snaps H.get [.imm w, .sl id 0 1 1] = some [.imm w, .imm (.lst false 4 [ivRS y])] := by
    show (match some (DV.imm w), (match (frzI H.get 0 4 (.sl id 0 1 1)).map DV.imm, some [] with
      | some v', some vs' => some (v' :: vs')
      | _, _ => none) with
      | some v', some vs' => some (v' :: vs')
      | _, _ => none) = _
    rw [e1]
    rfl
  exact call_snap rfl e2 (Same_same (D := 29) (by omega) hw (.inr ⟨false, rfl⟩) (by have := rb3; simp; omega))
def ss_UnitTakes : List (Bool × List Kd) := [(false, [.i .i64]), (false, [.i .i64]), (false, [.i .i64]), (false, [.i .i64]), (false, [.b])]
theorem pure_UnitTakes : ∀ cs, ArgsFit ss_UnitTakes cs → ∃ H' n', K (doorG 0 1) 30 4 cs .lf 0 0 = some (.imm (.bool true), H', n') := fun cs h0 => by
  obtain ⟨d0, r0, rfl, g0, h1⟩ := fit_cons h0
  obtain ⟨ep, rfl, _⟩ := fit_i g0
  obtain ⟨d1, r1, rfl, g1, h2⟩ := fit_cons h1
  obtain ⟨ct, rfl, _⟩ := fit_i g1
  obtain ⟨d2, r2, rfl, g2, h3⟩ := fit_cons h2
  obtain ⟨nx, rfl, _⟩ := fit_i g2
  obtain ⟨d3, r3, rfl, g3, h4⟩ := fit_cons h3
  obtain ⟨la, rfl, _⟩ := fit_i g3
  obtain ⟨d4, r4, rfl, g4, h5⟩ := fit_cons h4
  obtain ⟨lk, rfl⟩ := fit_b g4
  cases fit0 (r := []) h5
  have key : Fe (K DG (29 + 1) 4 [.imm (.int .i64 ep), .imm (.int .i64 ct), .imm (.int .i64 nx), .imm (.int .i64 la), .imm (.bool lk)] .lf 0 0) (fun v _ _ => v = .imm (.bool true)) := by
    rw [D.k4]
    refine fn_dw rfl ?_
    by_cases c1 : ep < 0
    · simp [ilt_t c1, B6, undT, fnEnd, argsT, PT.get_put, keep, opRun, ev, evs, evO, give, giveI, binOf, isNilK, PM.flip, putT, putL, putH, loadOf, storeOf, cut, over, ofCells, asNat, natOr, calm, clashes, Acc.clash, ressOf, resOf, frz, frz.frzs, DV.flat, DV.flat.flats, imms]
    by_cases c2 : 100 < ep
    · simp [ilt_f (Int.not_lt.1 c1), ilt_t c2, B6, undT, fnEnd, argsT, PT.get_put, keep, opRun, ev, evs, evO, give, giveI, binOf, isNilK, PM.flip, putT, putL, putH, loadOf, storeOf, cut, over, ofCells, asNat, natOr, calm, clashes, Acc.clash, ressOf, resOf, frz, frz.frzs, DV.flat, DV.flat.flats, imms]
    by_cases c3 : ct < 0
    · simp [ilt_f (Int.not_lt.1 c1), ilt_f (Int.not_lt.1 c2), ilt_t c3, B6, undT, fnEnd, argsT, PT.get_put, keep, opRun, ev, evs, evO, give, giveI, binOf, isNilK, PM.flip, putT, putL, putH, loadOf, storeOf, cut, over, ofCells, asNat, natOr, calm, clashes, Acc.clash, ressOf, resOf, frz, frz.frzs, DV.flat, DV.flat.flats, imms]
    by_cases c4 : 100 < ct
    · simp [ilt_f (Int.not_lt.1 c1), ilt_f (Int.not_lt.1 c2), ilt_f (Int.not_lt.1 c3), ilt_t c4, B6, undT, fnEnd, argsT, PT.get_put, keep, opRun, ev, evs, evO, give, giveI, binOf, isNilK, PM.flip, putT, putL, putH, loadOf, storeOf, cut, over, ofCells, asNat, natOr, calm, clashes, Acc.clash, ressOf, resOf, frz, frz.frzs, DV.flat, DV.flat.flats, imms]
    by_cases c5 : nx < 0
    · simp [ilt_f (Int.not_lt.1 c1), ilt_f (Int.not_lt.1 c2), ilt_f (Int.not_lt.1 c3), ilt_f (Int.not_lt.1 c4), ilt_t c5, B6, undT, fnEnd, argsT, PT.get_put, keep, opRun, ev, evs, evO, give, giveI, binOf, isNilK, PM.flip, putT, putL, putH, loadOf, storeOf, cut, over, ofCells, asNat, natOr, calm, clashes, Acc.clash, ressOf, resOf, frz, frz.frzs, DV.flat, DV.flat.flats, imms]
    by_cases c6 : 100 < nx
    · simp [ilt_f (Int.not_lt.1 c1), ilt_f (Int.not_lt.1 c2), ilt_f (Int.not_lt.1 c3), ilt_f (Int.not_lt.1 c4), ilt_f (Int.not_lt.1 c5), ilt_t c6, B6, undT, fnEnd, argsT, PT.get_put, keep, opRun, ev, evs, evO, give, giveI, binOf, isNilK, PM.flip, putT, putL, putH, loadOf, storeOf, cut, over, ofCells, asNat, natOr, calm, clashes, Acc.clash, ressOf, resOf, frz, frz.frzs, DV.flat, DV.flat.flats, imms]
    by_cases c7 : la < 0
    · simp [ilt_f (Int.not_lt.1 c1), ilt_f (Int.not_lt.1 c2), ilt_f (Int.not_lt.1 c3), ilt_f (Int.not_lt.1 c4), ilt_f (Int.not_lt.1 c5), ilt_f (Int.not_lt.1 c6), ilt_t c7, B6, undT, fnEnd, argsT, PT.get_put, keep, opRun, ev, evs, evO, give, giveI, binOf, isNilK, PM.flip, putT, putL, putH, loadOf, storeOf, cut, over, ofCells, asNat, natOr, calm, clashes, Acc.clash, ressOf, resOf, frz, frz.frzs, DV.flat, DV.flat.flats, imms]
    by_cases c8 : 100 < la
    · simp [ilt_f (Int.not_lt.1 c1), ilt_f (Int.not_lt.1 c2), ilt_f (Int.not_lt.1 c3), ilt_f (Int.not_lt.1 c4), ilt_f (Int.not_lt.1 c5), ilt_f (Int.not_lt.1 c6), ilt_f (Int.not_lt.1 c7), ilt_t c8, B6, undT, fnEnd, argsT, PT.get_put, keep, opRun, ev, evs, evO, give, giveI, binOf, isNilK, PM.flip, putT, putL, putH, loadOf, storeOf, cut, over, ofCells, asNat, natOr, calm, clashes, Acc.clash, ressOf, resOf, frz, frz.frzs, DV.flat, DV.flat.flats, imms]
    have i1 := ilt_f (Int.not_lt.1 c1)
    have i2 := ilt_f (Int.not_lt.1 c2)
    have i3 := ilt_f (Int.not_lt.1 c3)
    have i4 := ilt_f (Int.not_lt.1 c4)
    have i5 := ilt_f (Int.not_lt.1 c5)
    have i6 := ilt_f (Int.not_lt.1 c6)
    have i7 := ilt_f (Int.not_lt.1 c7)
    have i8 := ilt_f (Int.not_lt.1 c8)
    have we : IntKind.i64.wrap (ep + 1) = ep + 1 := wr_id (by omega) (by omega)
    have e0 := layOne_bl (d := 28)
    obtain ⟨a, l, H1, n1, e1, hn1, ho, u1, ha, f1⟩ := newOne (D := 29) (.inr rfl) (Z := fun _ => True) .lf 0 (fun _ _ => trivial)
    -- the routes that are laid
    obtain ⟨y, hy⟩ : ∃ y : Rst, y = ⟨if lk then 2 else 0, 0, 0, false⟩ := ⟨_, rfl⟩
    have iy : INV l [y] := one_inv ho (by
      cases lk with
      | true => subst hy; exact ⟨by simp, by simp, by simp, by simp, by simp, by simp, by simp⟩
      | false => subst hy; exact RsOk.idle)
    have rest : ∀ (H2 : PT HB), H2.get n1 = some ⟨4, [rowRS y]⟩ → (∀ j, j ≠ n1 → H2.get j = H1.get j) → ∃ g m v3 H3 n3 v4 H4 n4, callM (K DG 29) .ro 6 [.agg [.imm (.int .i64 0), .imm (.bool false), .imm (.int .i64 ep), .imm (.int .i64 ct), .sl n1 0 1 1, .imm .nils, .imm .nils, .imm .nils, .imm .nils]] H2 (n1 + 1) 0 = some ⟨.imm (.lst g 1 ((tel ep ct [y]).map ivY)), H2, m, [.rA]⟩ ∧
        K DG 29 9 [.ptr a 0 0, .imm (.lst g 1 ((tel ep ct [y]).map ivY))] H2 m 0 = some (v3, H3, n3) ∧ K DG 29 13 [.ptr a 0 0, .imm (.int .i64 nx), .imm (.int .i64 la)] H3 n3 0 = some (v4, H4, n4) ∧
        UI (fun j => j ≠ n1) l H4 n4 a (if nx = ep + 1 ∧ la ≤ ct then ⟨[y], nx, 5, true, none, 3, 0, ct, 0⟩ else fU nx la 0) ∧ H4.get n1 = some ⟨4, [rowRS y]⟩ ∧ n1 < n4 := fun H2 hr hf => by
      obtain ⟨g, m, e2, hm⟩ := laid_one (d := 25) (H := H2) (n := n1 + 1) (id := n1) (by omega) hr ep ct 0
      have u2 : UI (fun j => j ≠ n1) l H2 m a (newU l) := u1.mono (by omega) (fun j h _ => by omega) (fun j h _ => hf j (by omega))
      have tl : (tel ep ct [y]).length ≤ 100000 := by
        obtain ⟨_, _, _, h⟩ := layT_ok ep ct (rs := [y]) (by simp)
        simp only [tel, teleg, List.length_append, numY_len]
        omega
      obtain ⟨v3, H3, n3, e3, hn3, u3, f3⟩ := Hear_fn (d := 17) ho.ok ho.is u2 (fun j hj => by omega) (by show INV l (rep0 l); rw [one_rep ho]; exact one_inv ho RsOk.idle) (w := .lst g 1 ((tel ep ct [y]).map ivY)) (bs := tel ep ct [y]) (.inr ⟨g, rfl⟩) tl
      have hh : hearF l (newU l) (tel ep ct [y]) = ⟨[rs0], 0, 0, false, some (ep, ct, [y]), 2, 0, 0, 0⟩ := by
        rw [hear_tel (by omega) (by omega) (fun x hx => by
          simp at hx
          subst hx
          subst hy
          cases lk <;> simp) (by simp) rfl (old_none rfl) iy]
        simp only [newU, one_rep ho]
      rw [hh] at u3
      obtain ⟨v4, H4, n4, e4, hn4, u4, f4⟩ := Granted_fn (d := 25) (by omega) ho.ok ho.is u3 (fun j hj => by omega) (fun e c qs h => by cases h; exact iy) (e := nx) (k := la) (by omega) (by simp) (by simp)
      have hg : grantF l ⟨[rs0], 0, 0, false, some (ep, ct, [y]), 2, 0, 0, 0⟩ nx la = if nx = ep + 1 ∧ la ≤ ct then ⟨[y], nx, 5, true, none, 3, 0, ct, 0⟩ else fU nx la 0 := by
        unfold grantF
        rw [if_neg (by simp [Wk]), if_pos (.inr rfl)]
        by_cases hc : nx = ep + 1 ∧ la ≤ ct
        · rw [if_pos hc]
          obtain ⟨rfl, hc2⟩ := hc
          simp [begF, granted, noCp, hc2]
        · rw [if_neg hc]
          have h1 : ¬ (ep = nx - 1 ∧ la ≤ ct) := fun h => hc ⟨by omega, h.2⟩
          simp [begF, granted, noCp, h1, one_rep ho, fU]
      rw [hg] at u4
      exact ⟨g, m, v3, H3, n3, v4, H4, n4, e2, e3, e4, u4, by rw [f4 n1 (by omega) (by simp), f3 n1 (by omega) (by simp)]; exact hr, by omega⟩
    have e20 := known_bl
    simp only [Nat.reduceAdd] at e0 e1 e20
    have ix : ∀ {n : Nat}, idxE (H1.put n1 (some ⟨4, [[.imm (.int .i64 0), .imm (.int .i64 0), .imm (.int .i64 0), .imm (.bool false)]]⟩)).get n 4 (some (.sl n1 0 1 1)) (some (.imm (.int .i64 0))) = some { v := .ptr n1 0 0, n' := n, acc := [.rX n1] } := fun {n} =>
      idx_hp (h := (H1.put n1 (some ⟨4, [[.imm (.int .i64 0), .imm (.int .i64 0), .imm (.int .i64 0), .imm (.bool false)]]⟩)).get) (n := n) (id := n1) (row := 0) (len := 1) (cap := 1) (hb := ⟨4, [[.imm (.int .i64 0), .imm (.int .i64 0), .imm (.int .i64 0), .imm (.bool false)]]⟩) (by simp [PT.get_put]) rfl (k := .i64) (z := (0 : Int)) (by omega) (by omega)
    -- behind the grant
    obtain ⟨H2, hH2, hr2, hf2⟩ : ∃ H2 : PT HB, H2 = (if lk then (H1.put n1 (some ⟨4, [[.imm (.int .i64 0), .imm (.int .i64 0), .imm (.int .i64 0), .imm (.bool false)]]⟩)).put n1 (some ⟨4, [[.imm (.int .i64 2), .imm (.int .i64 0), .imm (.int .i64 0), .imm (.bool false)]]⟩) else H1.put n1 (some ⟨4, [[.imm (.int .i64 0), .imm (.int .i64 0), .imm (.int .i64 0), .imm (.bool false)]]⟩)) ∧ H2.get n1 = some ⟨4, [rowRS y]⟩ ∧ ∀ j, j ≠ n1 → H2.get j = H1.get j := ⟨_, rfl, by cases lk <;> simp [hy, PT.get_put], fun j hj => by cases lk <;> simp [PT.get_put, hj]⟩
    obtain ⟨g, m, v3, H3, n3, v4, H4, n4, e2, e3, e4, u4, hr4, hz4⟩ := rest H2 hr2 hf2
    by_cases hfr : nx = ep + 1 ∧ la ≤ ct
    · rw [if_pos hfr] at u4
      obtain ⟨rfl, hla⟩ := hfr
      obtain ⟨p, q, own, x, h4⟩ := u4
      obtain ⟨k5, e5, hk5⟩ := u_mode h4 (d := 28) (m := n4) (lo := 0)
      obtain ⟨k6, e6, hk6⟩ := u_count h4 (d := 28) (m := k5) (lo := 0)
      obtain ⟨w7, k7, e7, hk7, hw7⟩ := u_routes h4 (by simp) (d := 28) (m := k6) (lo := 0) (by omega)
      have e8 := fun m lo => same_h (m := m) (lo := lo) (id := n1) hw7 hr4
      obtain ⟨w9, k9, e9, hk9, hw9⟩ := Send_ro h4 (by simp) (d := 23) (m := k7) (lo := 0) (by omega)
      have sl9 : ∃ m : Nat, lenOf (.imm w9) = some (m + 1) ∧ (DV.imm w9).scal = true := by
        have h9 := hw9.len
        have hne : sendF ⟨[y], ep + 1, 5, true, none, 3, 0, ct, 0⟩ ≠ [] := by
          unfold sendF
          rw [if_pos (by rfl)]
          exact teleg_ne _
        have := List.length_pos_iff.2 hne
        exact ⟨(sendF ⟨[y], ep + 1, 5, true, none, 3, 0, ct, 0⟩).length - 1, by rw [h9, List.length_map]; congr 1 <;> omega, hw9.scal⟩
      obtain ⟨m9, l9, s9⟩ := sl9
      have i9 : ILt 0 ((m9 : Int) + 1) = True := ilt_t (by omega)
      have ic : ILt ct la = False := ilt_f hla
      have s7 := hw7.scal
      simp only [Nat.reduceAdd] at e5 e6 e7 e9
      cases lk with
      | true =>
        simp only [if_true] at hH2
        simp [i1, i2, i3, i4, i5, i6, i7, i8, we, e0, e1, ix, ← hH2, hr2, e2, e3, e4, ic, e5, e6, e7, s7, e8, e9, l9, s9, i9, e20, evParts, evParts2, lay, unImms, unImm, mapO, rowsN, imms, B6, undT, fnEnd, argsT, PT.get_put, keep, opRun, ev, evs, evO, give, giveI, binOf, isNilK, PM.flip, putT, putL, putH, loadOf, storeOf, cut, over, ofCells, asNat, natOr, calm, clashes, Acc.clash, ressOf, resOf, frz, frz.frzs, DV.flat, DV.flat.flats, imms]
      | false =>
        simp only [Bool.false_eq_true, if_false] at hH2
        simp [i1, i2, i3, i4, i5, i6, i7, i8, we, e0, e1, ix, ← hH2, hr2, e2, e3, e4, ic, e5, e6, e7, s7, e8, e9, l9, s9, i9, e20, evParts, evParts2, lay, unImms, unImm, mapO, rowsN, imms, B6, undT, fnEnd, argsT, PT.get_put, keep, opRun, ev, evs, evO, give, giveI, binOf, isNilK, PM.flip, putT, putL, putH, loadOf, storeOf, cut, over, ofCells, asNat, natOr, calm, clashes, Acc.clash, ressOf, resOf, frz, frz.frzs, DV.flat, DV.flat.flats, imms]
    · rw [if_neg hfr] at u4
      by_cases hnx : nx = ep + 1
      · subst hnx
        have ic : ILt ct la = True := ilt_t (by omega)
        cases lk with
        | true =>
          simp only [if_true] at hH2
          simp [i1, i2, i3, i4, i5, i6, i7, i8, we, e0, e1, ix, ← hH2, hr2, e2, e3, e4, ic, evParts, evParts2, lay, unImms, unImm, mapO, rowsN, imms, B6, undT, fnEnd, argsT, PT.get_put, keep, opRun, ev, evs, evO, give, giveI, binOf, isNilK, PM.flip, putT, putL, putH, loadOf, storeOf, cut, over, ofCells, asNat, natOr, calm, clashes, Acc.clash, ressOf, resOf, frz, frz.frzs, DV.flat, DV.flat.flats, imms]
          refine loopTa (l := l) (e := ep + 1) (k := la) (a := a) (z := n1) ho (by omega) (by omega) ⟨by simp [PT.get_put], by simp [PT.get_put], by simp [PT.get_put], ⟨n4, by simp [PT.get_put], by simp [PT.get_put, imms]⟩, by simp [PT.get_put], u4.mono (by simp) (fun _ _ h => h) (fun _ _ _ => rfl), by simp; omega⟩ (fun s' hI => ?_)
          obtain ⟨c2, c3, c11, ⟨i15, b15, L15⟩, c16, u, hz⟩ := hI
          obtain ⟨p, q, own, x, h5⟩ := u
          obtain ⟨k5, e5, hk5⟩ := u_mode h5 (d := 28) (m := s'.n) (lo := 0)
          obtain ⟨w7, k7, e7, hk7, hw7⟩ := u_routes h5 (by simp [fU]) (d := 28) (m := k5) (lo := 0) (by omega)
          have e8 := Same_same (D := 29) (by omega) hw7 sl_rs0 (by have := rb3; simp [fU]; omega)
          have s7 := hw7.scal
          simp only [Nat.reduceAdd] at e5 e7 e8
          simp [fU] at e5
          simp [c2, c3, c11, b15, L15, c16, e5, e7, s7, e8, e20, evParts, evParts2, lay, unImms, unImm, mapO, rowsN, imms, B6, undT, fnEnd, argsT, PT.get_put, keep, opRun, ev, evs, evO, give, giveI, binOf, isNilK, PM.flip, putT, putL, putH, loadOf, storeOf, cut, over, ofCells, asNat, natOr, calm, clashes, Acc.clash, ressOf, resOf, frz, frz.frzs, DV.flat, DV.flat.flats, imms]
        | false =>
          simp only [Bool.false_eq_true, if_false] at hH2
          simp [i1, i2, i3, i4, i5, i6, i7, i8, we, e0, e1, ix, ← hH2, hr2, e2, e3, e4, ic, evParts, evParts2, lay, unImms, unImm, mapO, rowsN, imms, B6, undT, fnEnd, argsT, PT.get_put, keep, opRun, ev, evs, evO, give, giveI, binOf, isNilK, PM.flip, putT, putL, putH, loadOf, storeOf, cut, over, ofCells, asNat, natOr, calm, clashes, Acc.clash, ressOf, resOf, frz, frz.frzs, DV.flat, DV.flat.flats, imms]
          refine loopTa (l := l) (e := ep + 1) (k := la) (a := a) (z := n1) ho (by omega) (by omega) ⟨by simp [PT.get_put], by simp [PT.get_put], by simp [PT.get_put], ⟨n4, by simp [PT.get_put], by simp [PT.get_put, imms]⟩, by simp [PT.get_put], u4.mono (by simp) (fun _ _ h => h) (fun _ _ _ => rfl), by simp; omega⟩ (fun s' hI => ?_)
          obtain ⟨c2, c3, c11, ⟨i15, b15, L15⟩, c16, u, hz⟩ := hI
          obtain ⟨p, q, own, x, h5⟩ := u
          obtain ⟨k5, e5, hk5⟩ := u_mode h5 (d := 28) (m := s'.n) (lo := 0)
          obtain ⟨w7, k7, e7, hk7, hw7⟩ := u_routes h5 (by simp [fU]) (d := 28) (m := k5) (lo := 0) (by omega)
          have e8 := Same_same (D := 29) (by omega) hw7 sl_rs0 (by have := rb3; simp [fU]; omega)
          have s7 := hw7.scal
          simp only [Nat.reduceAdd] at e5 e7 e8
          simp [fU] at e5
          simp [c2, c3, c11, b15, L15, c16, e5, e7, s7, e8, e20, evParts, evParts2, lay, unImms, unImm, mapO, rowsN, imms, B6, undT, fnEnd, argsT, PT.get_put, keep, opRun, ev, evs, evO, give, giveI, binOf, isNilK, PM.flip, putT, putL, putH, loadOf, storeOf, cut, over, ofCells, asNat, natOr, calm, clashes, Acc.clash, ressOf, resOf, frz, frz.frzs, DV.flat, DV.flat.flats, imms]
      · cases lk with
        | true =>
          simp only [if_true] at hH2
          simp [i1, i2, i3, i4, i5, i6, i7, i8, we, e0, e1, ix, ← hH2, hr2, e2, e3, e4, hnx, evParts, evParts2, lay, unImms, unImm, mapO, rowsN, imms, B6, undT, fnEnd, argsT, PT.get_put, keep, opRun, ev, evs, evO, give, giveI, binOf, isNilK, PM.flip, putT, putL, putH, loadOf, storeOf, cut, over, ofCells, asNat, natOr, calm, clashes, Acc.clash, ressOf, resOf, frz, frz.frzs, DV.flat, DV.flat.flats, imms]
          refine loopTa (l := l) (e := nx) (k := la) (a := a) (z := n1) ho (by omega) (by omega) ⟨by simp [PT.get_put], by simp [PT.get_put], by simp [PT.get_put], ⟨n4, by simp [PT.get_put], by simp [PT.get_put, imms]⟩, by simp [PT.get_put], u4.mono (by simp) (fun _ _ h => h) (fun _ _ _ => rfl), by simp; omega⟩ (fun s' hI => ?_)
          obtain ⟨c2, c3, c11, ⟨i15, b15, L15⟩, c16, u, hz⟩ := hI
          obtain ⟨p, q, own, x, h5⟩ := u
          obtain ⟨k5, e5, hk5⟩ := u_mode h5 (d := 28) (m := s'.n) (lo := 0)
          obtain ⟨w7, k7, e7, hk7, hw7⟩ := u_routes h5 (by simp [fU]) (d := 28) (m := k5) (lo := 0) (by omega)
          have e8 := Same_same (D := 29) (by omega) hw7 sl_rs0 (by have := rb3; simp [fU]; omega)
          have s7 := hw7.scal
          simp only [Nat.reduceAdd] at e5 e7 e8
          simp [fU] at e5
          simp [c2, c3, c11, b15, L15, c16, e5, e7, s7, e8, e20, evParts, evParts2, lay, unImms, unImm, mapO, rowsN, imms, B6, undT, fnEnd, argsT, PT.get_put, keep, opRun, ev, evs, evO, give, giveI, binOf, isNilK, PM.flip, putT, putL, putH, loadOf, storeOf, cut, over, ofCells, asNat, natOr, calm, clashes, Acc.clash, ressOf, resOf, frz, frz.frzs, DV.flat, DV.flat.flats, imms]
        | false =>
          simp only [Bool.false_eq_true, if_false] at hH2
          simp [i1, i2, i3, i4, i5, i6, i7, i8, we, e0, e1, ix, ← hH2, hr2, e2, e3, e4, hnx, evParts, evParts2, lay, unImms, unImm, mapO, rowsN, imms, B6, undT, fnEnd, argsT, PT.get_put, keep, opRun, ev, evs, evO, give, giveI, binOf, isNilK, PM.flip, putT, putL, putH, loadOf, storeOf, cut, over, ofCells, asNat, natOr, calm, clashes, Acc.clash, ressOf, resOf, frz, frz.frzs, DV.flat, DV.flat.flats, imms]
          refine loopTa (l := l) (e := nx) (k := la) (a := a) (z := n1) ho (by omega) (by omega) ⟨by simp [PT.get_put], by simp [PT.get_put], by simp [PT.get_put], ⟨n4, by simp [PT.get_put], by simp [PT.get_put, imms]⟩, by simp [PT.get_put], u4.mono (by simp) (fun _ _ h => h) (fun _ _ _ => rfl), by simp; omega⟩ (fun s' hI => ?_)
          obtain ⟨c2, c3, c11, ⟨i15, b15, L15⟩, c16, u, hz⟩ := hI
          obtain ⟨p, q, own, x, h5⟩ := u
          obtain ⟨k5, e5, hk5⟩ := u_mode h5 (d := 28) (m := s'.n) (lo := 0)
          obtain ⟨w7, k7, e7, hk7, hw7⟩ := u_routes h5 (by simp [fU]) (d := 28) (m := k5) (lo := 0) (by omega)
          have e8 := Same_same (D := 29) (by omega) hw7 sl_rs0 (by have := rb3; simp [fU]; omega)
          have s7 := hw7.scal
          simp only [Nat.reduceAdd] at e5 e7 e8
          simp [fU] at e5
          simp [c2, c3, c11, b15, L15, c16, e5, e7, s7, e8, e20, evParts, evParts2, lay, unImms, unImm, mapO, rowsN, imms, B6, undT, fnEnd, argsT, PT.get_put, keep, opRun, ev, evs, evO, give, giveI, binOf, isNilK, PM.flip, putT, putL, putH, loadOf, storeOf, cut, over, ofCells, asNat, natOr, calm, clashes, Acc.clash, ressOf, resOf, frz, frz.frzs, DV.flat, DV.flat.flats, imms]
  obtain ⟨v, H', n', e, rfl⟩ := key
  exact ⟨H', n', e⟩
end Go.Proofs.YtnpcgejfkonfdaaGreatDoor.D
