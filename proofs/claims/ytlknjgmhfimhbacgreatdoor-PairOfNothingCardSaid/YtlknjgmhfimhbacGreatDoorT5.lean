/-
  What a route needs: slices.Concat, table.Needs over D.
-/
import Derived.Test.YtlknjgmhfimhbacGreatDoorT2
set_option linter.unusedVariables false
set_option linter.unusedSimpArgs false
set_option maxHeartbeats 16000000
namespace Go.Proofs.YtlknjgmhfimhbacGreatDoor.D
open Go Go.PM Go.Lib
/-! ### Rows with room -/
def AtC (sz : Nat) (x : DV) (H : PT HB) (n : Nat) (rows : List (List IV)) (cap : Nat) : Prop := (x = .imm .nils ∧ rows = [] ∧ cap = 0) ∨ ∃ id rest, id < n ∧ x = .sl id 0 rows.length cap ∧ H.get id = some ⟨sz, rows.map imms ++ rest⟩ ∧ rows.length + rest.length = cap
theorem src_sl {sz : Nat} {v : IV} {es : List (List IV)} (h : Sl sz v es) (hh : Nat → Option HB) : ∃ sb, srcOf hh (.imm v) = some (none, sb, es.map imms) ∧ (es ≠ [] → sb = sz) := by
  rcases h with ⟨rfl, rfl⟩ | ⟨f, rfl⟩
  · exact ⟨0, rfl, fun h => absurd rfl h⟩
  · exact ⟨sz, rfl, fun _ => rfl⟩
theorem app_cap {sz bytes : Nat} {x : DV} {H : PT HB} {n cap : Nat} {rows es : List (List IV)} {v : IV} (h : AtC sz x H n rows cap) (hs : 0 < sz) (hv : Sl sz v es) (hl : rows.length + es.length ≤ cap) :
    ∃ x' hw acc, appOf H.get n 0 sz bytes x (.imm v) = some { v := x', hw := hw, n' := n, acc := acc } ∧ AtC sz x' (putH H hw) n (rows ++ es) cap := by
  obtain ⟨sb, hsrc, hsb⟩ := src_sl hv H.get
  by_cases he : es = []
  · subst he
    refine ⟨x, [], [], ?_, by simpa [putH] using h⟩
    rcases h with ⟨rfl, rfl, rfl⟩ | ⟨id, rest, h1, rfl, h2, h3⟩
    · simp [appOf, hsrc, raccOf]
    · simp [appOf, hsrc, raccOf]
  · have hpos : 0 < es.length := List.length_pos_iff.2 he
    obtain rfl := hsb he
    rcases h with ⟨rfl, rfl, rfl⟩ | ⟨id, rest, h1, rfl, h2, h3⟩
    · exact absurd (by simpa using hl) he
    · refine ⟨.sl id 0 (rows.length + es.length) cap, [(id, some ⟨sb, rows.map imms ++ es.map imms ++ rest.drop es.length⟩)], .wX id :: raccOf none, ?_, .inr ⟨id, rest.drop es.length, h1, by simp, by simp [putH, PT.get_put], by simp; omega⟩⟩
      have a1 : rows.length + es.length ≤ rows.length + rest.length := by omega
      have a2 : (rows.map imms ++ rest).take rows.length = rows.map imms := by rw [List.take_left' (by simp)]
      have a3 : (rows.map imms ++ rest).drop (rows.length + es.length) = rest.drop es.length := by
        rw [List.drop_append]; simp
      simp [appOf, hsrc, he, hs, h2, hl, a1, a2, a3, raccOf]
theorem frz_cap {sz : Nat} {x : DV} {H : PT HB} {n cap : Nat} {rows : List (List IV)} (h : AtC sz x H n rows cap) : ∃ v, frz H.get 0 x = some (.imm v) ∧ Sl sz v rows := by
  rcases h with ⟨rfl, rfl, rfl⟩ | ⟨id, rest, h1, rfl, h2, h3⟩
  · exact ⟨_, rfl, .inl ⟨rfl, rfl⟩⟩
  · refine ⟨.lst false sz rows, ?_, .inr ⟨_, rfl⟩⟩
    have hf : frzI H.get 0 frzDepth (.sl id 0 rows.length cap) = some (.lst false sz rows) := by
      show (if 0 ≤ id then _ else _) = _
      rw [if_pos (Nat.zero_le _)]
      simp only [h2]
      rw [if_pos (by simp)]
      simp only [List.drop_zero]
      rw [List.take_left' (by simp), mapO_frz2]
      rfl
    have hz : frz H.get 0 (.sl id 0 rows.length cap) = if id < 0 then some (.sl id 0 rows.length cap) else (frzI H.get 0 frzDepth (.sl id 0 rows.length cap)).map .imm := rfl
    rw [hz, if_neg (Nat.not_lt_zero _), hf]
    rfl
theorem AtC.out {sz : Nat} {x : DV} {H : PT HB} {n cap : Nat} {rows : List (List IV)} (h : AtC sz x H n rows cap) : x.out = true := by
  rcases h with ⟨rfl, _⟩ | ⟨id, rest, _, rfl, _⟩ <;> rfl
theorem AtS.out {sz : Nat} {x : DV} {H : PT HB} {n : Nat} {rows : List (List IV)} (h : AtS sz x H n rows) : x.out = true := by
  rcases h with ⟨rfl, _⟩ | ⟨id, _, rfl, _⟩ <;> rfl
/-! ### Rows of values appended to nothing, to a row of the heap -/
theorem app_none {sz bytes : Nat} {x : DV} {h : Nat → Option HB} {n : Nat} {v : IV} (hx : x = .imm .nils ∨ x = .imm (.lst true sz []) ∨ ∃ id k, x = .sl id 0 k k) (hv : Sl sz v []) :
    appOf h n 0 sz bytes x (.imm v) = some { v := x, n' := n, acc := [] } := by
  obtain ⟨sb, hsrc, _⟩ := src_sl hv h
  rcases hx with rfl | rfl | ⟨id, k, rfl⟩ <;> simp [appOf, hsrc, raccOf]
theorem app_new {sz bytes : Nat} {h : Nat → Option HB} {n : Nat} {v : IV} {es : List (List IV)} (hv : Sl sz v es) (he : es ≠ []) (hs : 0 < sz) (hl : es.length ≤ 2 ^ 25) (hb : bytes ≤ 1000) :
    appOf h n 0 sz bytes (.imm (.lst true sz [])) (.imm v) = some { v := .sl n 0 es.length es.length, hw := [(n, some ⟨sz, es.map imms⟩)], n' := n + 1, acc := [.wX n] } := by
  obtain ⟨sb, hsrc, hsb⟩ := src_sl hv h
  obtain rfl := hsb he
  have a1 : es.length ≤ appMax := by unfold appMax; omega
  have a2 : es.length * bytes ≤ appMax := by
    have := Nat.mul_le_mul hl hb
    unfold appMax; omega
  simp [appOf, hsrc, he, hs, a1, a2, raccOf]
theorem app_grow {sz bytes : Nat} {h : Nat → Option HB} {n id : Nat} {v : IV} {rows es : List (List IV)} (hv : Sl sz v es) (he : es ≠ []) (hs : 0 < sz) (hl : rows.length + es.length ≤ 2 ^ 25) (hb : bytes ≤ 1000) (hh : h id = some ⟨sz, rows.map imms⟩) :
    appOf h n 0 sz bytes (.sl id 0 rows.length rows.length) (.imm v) = some { v := .sl n 0 (rows.length + es.length) (rows.length + es.length), hw := [(id, none), (n, some ⟨sz, rows.map imms ++ es.map imms⟩)], n' := n + 1, acc := [.wX id, .wX n] } := by
  obtain ⟨sb, hsrc, hsb⟩ := src_sl hv h
  obtain rfl := hsb he
  have hpos : 0 < es.length := List.length_pos_iff.2 he
  have a0 : ¬ rows.length + es.length ≤ rows.length := by omega
  have a1 : rows.length + es.length ≤ appMax := by unfold appMax; omega
  have a2 : (rows.length + es.length) * bytes ≤ appMax := by
    have := Nat.mul_le_mul hl hb
    unfold appMax; omega
  simp [appOf, hsrc, he, hs, hh, a1, a2, hpos, raccOf]
/-! ### slices.Grow, slices.Concat -/
theorem grow_run (d : Nat) {k : Nat} (hk : k ≤ 1000) (H : PT HB) (n : Nat) :
    Fe (K DG (d + 1) 249 [.imm .nils, .imm (.int .i64 k)] H n 0) (fun x H' n' => AtC 2 x H' n' [] k) := by
  rw [D.k249]
  refine fn_dw rfl ?_
  have w : IntKind.i64.wrap ((k : Int)) = k := wr_id (by omega) (by omega)
  have w0 : IntKind.i64.wrap 0 = 0 := by decide
  by_cases h0 : k = 0
  · subst h0
    simp [w0, B6, undT, fnEnd, argsT, PT.get_put, keep, opRun, ev, evs, evO, give, giveI, binOf, isNilK, PM.flip, putT, putL, putH, loadOf, storeOf, cut, over, ofCells, asNat, natOr, calm, clashes, Acc.clash, ressOf, resOf, frz, frz.frzs, DV.flat, DV.flat.flats, imms]
    exact .inl ⟨rfl, rfl, rfl⟩
  · have hj : ILt 0 (k : Int) = True := ilt_t (by omega)
    have a1 : k ≤ appMax := by unfold appMax; omega
    have a2 : k * 16 ≤ appMax := by unfold appMax; omega
    have a3 : 0 < k := by omega
    simp [w, w0, hj, a1, a2, a3, sliceOf, B6, undT, fnEnd, argsT, PT.get_put, keep, opRun, ev, evs, evO, give, giveI, binOf, isNilK, PM.flip, putT, putL, putH, loadOf, storeOf, cut, over, ofCells, asNat, natOr, calm, clashes, Acc.clash, ressOf, resOf, frz, frz.frzs, DV.flat, DV.flat.flats, imms]
    exact .inr ⟨n, List.replicate k (imms [.int .i64 0, .bool false]), by omega, rfl, by simp [PT.get_put, imms], by simp⟩
def ICA (p q : IV) (a b : Nat) (i : Nat) (st : St) : Prop := st.T.get 0 = some (.imm (.lst true 1 [[p], [q]])) ∧ st.T.get 9 = some (.imm (.lst true 1 [[p], [q]])) ∧ st.T.get 10 = some (.imm (.int .i64 2)) ∧ st.T.get 11 = some (.imm (.int .i64 i)) ∧
  st.T.get 3 = some (.imm (.int .i64 (if i = 0 then 0 else if i = 1 then a else a + b : Nat))) ∧ st.H = .lf ∧ st.n = 0
theorem two_loop : (2 : Nat) < LOOP := by unfold LOOP; omega
theorem loopCA {d : Nat} {p q : IV} {xs ys : List (List IV)} (hp : Sl 2 p xs) (hq : Sl 2 q ys) (hx : xs.length ≤ 100) (hy : ys.length ≤ 100) {ks : List Kf} {st : St} {Q : Ex → St → Prop} (h : ICA p q xs.length ys.length 0 st)
    (hk : ∀ st', ICA p q xs.length ys.length 2 st' → Bk DG (K DG d) 0 (.exit 0) ks st' Q) :
    Wp DG (K DG d) 0 D.l230_0 ks st Q := by
  refine dw_loop (N := 2) two_loop (ICA p q xs.length ys.length) (fun e st' => e = .exit 0 ∧ ICA p q xs.length ys.length 2 st') (fun i st hle hI => ?_) h (fun e s' h => by rw [h.1]; exact hk s' h.2)
  obtain ⟨h0, h9, h10, h11, h3, hH, hn⟩ := hI
  have pl := hp.len
  have ql := hq.len
  have w1 : IntKind.i64.wrap (xs.length : Int) = xs.length := wr_id (by omega) (by omega)
  have w2 : IntKind.i64.wrap ((xs.length : Int) + (ys.length : Int)) = (xs.length : Int) + (ys.length : Int) := wr_id (by omega) (by omega)
  have w3 : IntKind.i64.wrap 1 = 1 := by decide
  have w4 : IntKind.i64.wrap 2 = 2 := by decide
  have l02 : ILt 0 2 = True := ilt_t (by omega)
  have l12 : ILt 1 2 = True := ilt_t (by omega)
  have c1 : ILt (xs.length : Int) 0 = False := ilt_f (by omega)
  have c2 : ILt ((xs.length : Int) + (ys.length : Int)) 0 = False := ilt_f (by omega)
  rcases (show i = 0 ∨ i = 1 ∨ i = 2 by omega) with rfl | rfl | rfl
  · generalize hQ : (fun (e : Ex) (s' : St) => _) = Q'
    simp at h3
    simp only [D.l230_0b]
    simp [h0, h9, h10, h11, h3, hH, hn, pl, w1, w3, c1, l02, idxE, B6, undT, fnEnd, argsT, PT.get_put, keep, opRun, ev, evs, evO, give, giveI, binOf, isNilK, PM.flip, putT, putL, putH, loadOf, storeOf, cut, over, ofCells, asNat, natOr, calm, clashes, Acc.clash, ressOf, resOf, frz, frz.frzs, DV.flat, DV.flat.flats, imms]
    subst hQ
    simp [ICA, PT.get_put]
  · generalize hQ : (fun (e : Ex) (s' : St) => _) = Q'
    simp at h3
    simp only [D.l230_0b]
    simp [h0, h9, h10, h11, h3, hH, hn, ql, w2, w4, c2, l12, idxE, B6, undT, fnEnd, argsT, PT.get_put, keep, opRun, ev, evs, evO, give, giveI, binOf, isNilK, PM.flip, putT, putL, putH, loadOf, storeOf, cut, over, ofCells, asNat, natOr, calm, clashes, Acc.clash, ressOf, resOf, frz, frz.frzs, DV.flat, DV.flat.flats, imms]
    subst hQ
    simp [ICA, PT.get_put]
  · generalize hQ : (fun (e : Ex) (s' : St) => _) = Q'
    simp at h3
    simp only [D.l230_0b]
    simp [h0, h9, h10, h11, h3, hH, hn, B6, undT, fnEnd, argsT, PT.get_put, keep, opRun, ev, evs, evO, give, giveI, binOf, isNilK, PM.flip, putT, putL, putH, loadOf, storeOf, cut, over, ofCells, asNat, natOr, calm, clashes, Acc.clash, ressOf, resOf, frz, frz.frzs, DV.flat, DV.flat.flats, imms]
    subst hQ
    simp [ICA, PT.get_put]
def ICB (p q : IV) (xs ys : List (List IV)) (i : Nat) (st : St) : Prop := ∃ x, st.T.get 6 = some x ∧ st.T.get 25 = some (.imm (.lst true 1 [[p], [q]])) ∧ st.T.get 26 = some (.imm (.int .i64 2)) ∧ st.T.get 27 = some (.imm (.int .i64 i)) ∧
  AtC 2 x st.H st.n (if i = 0 then [] else if i = 1 then xs else xs ++ ys) (xs.length + ys.length)
theorem loopCB {d : Nat} {p q : IV} {xs ys : List (List IV)} (hp : Sl 2 p xs) (hq : Sl 2 q ys) {ks : List Kf} {st : St} {Q : Ex → St → Prop} (h : ICB p q xs ys 0 st)
    (hk : ∀ st', ICB p q xs ys 2 st' → Bk DG (K DG d) 0 (.exit 2) ks st' Q) :
    Wp DG (K DG d) 0 D.l230_1 ks st Q := by
  refine dw_loop (N := 2) two_loop (ICB p q xs ys) (fun e st' => e = .exit 2 ∧ ICB p q xs ys 2 st') (fun i st hle hI => ?_) h (fun e s' h => by rw [h.1]; exact hk s' h.2)
  obtain ⟨x, h6, h25, h26, h27, hat⟩ := hI
  have w3 : IntKind.i64.wrap 1 = 1 := by decide
  have w4 : IntKind.i64.wrap 2 = 2 := by decide
  have l02 : ILt 0 2 = True := ilt_t (by omega)
  have l12 : ILt 1 2 = True := ilt_t (by omega)
  rcases (show i = 0 ∨ i = 1 ∨ i = 2 by omega) with rfl | rfl | rfl
  · obtain ⟨x', hw, acc, p1, p2⟩ := app_cap (bytes := 16) hat (by omega) hp (by simp)
    generalize hQ : (fun (e : Ex) (s' : St) => _) = Q'
    simp only [D.l230_1b]
    simp [h6, h25, h26, h27, p1, w3, l02, idxE, B6, undT, fnEnd, argsT, PT.get_put, keep, opRun, ev, evs, evO, give, giveI, binOf, isNilK, PM.flip, putT, putL, putH, loadOf, storeOf, cut, over, ofCells, asNat, natOr, calm, clashes, Acc.clash, ressOf, resOf, frz, frz.frzs, DV.flat, DV.flat.flats, imms]
    subst hQ
    simp at p2
    simp
    exact ⟨x', by simp [PT.get_put], by simp [PT.get_put], by simp [PT.get_put], by simp [PT.get_put], by simpa using p2⟩
  · obtain ⟨x', hw, acc, p1, p2⟩ := app_cap (bytes := 16) hat (by omega) hq (by simp)
    generalize hQ : (fun (e : Ex) (s' : St) => _) = Q'
    simp only [D.l230_1b]
    simp [h6, h25, h26, h27, p1, w4, l12, idxE, B6, undT, fnEnd, argsT, PT.get_put, keep, opRun, ev, evs, evO, give, giveI, binOf, isNilK, PM.flip, putT, putL, putH, loadOf, storeOf, cut, over, ofCells, asNat, natOr, calm, clashes, Acc.clash, ressOf, resOf, frz, frz.frzs, DV.flat, DV.flat.flats, imms]
    subst hQ
    simp at p2
    simp
    exact ⟨x', by simp [PT.get_put], by simp [PT.get_put], by simp [PT.get_put], by simp [PT.get_put], by simpa using p2⟩
  · generalize hQ : (fun (e : Ex) (s' : St) => _) = Q'
    simp only [D.l230_1b]
    simp [h6, h25, h26, h27, B6, undT, fnEnd, argsT, PT.get_put, keep, opRun, ev, evs, evO, give, giveI, binOf, isNilK, PM.flip, putT, putL, putH, loadOf, storeOf, cut, over, ofCells, asNat, natOr, calm, clashes, Acc.clash, ressOf, resOf, frz, frz.frzs, DV.flat, DV.flat.flats, imms]
    subst hQ
    simp
    exact ⟨x, by simp [PT.get_put], by simp [PT.get_put], by simp [PT.get_put], by simp [PT.get_put], by simpa using hat⟩
theorem concat_bl {D : Nat} (hD : 2 ≤ D) {p q : IV} {xs ys : List (List IV)} (hp : Sl 2 p xs) (hq : Sl 2 q ys) (hx : xs.length ≤ 100) (hy : ys.length ≤ 100) :
    ∃ v, bl (K DG D) 230 [.imm (.lst true 1 [[p], [q]])] = some (.imm v) ∧ Sl 2 v (xs ++ ys) := by
  obtain ⟨d, rfl⟩ : ∃ d, D = d + 2 := ⟨D - 2, by omega⟩
  have key : Fe (K DG (d + 2) 230 [.imm (.lst true 1 [[p], [q]])] .lf 0 0) (fun x H n => x.out = true ∧ AtC 2 x H n (xs ++ ys) (xs.length + ys.length)) := by
    rw [D.k230]
    refine fn_dw rfl ?_
    simp [B6, undT, fnEnd, argsT, PT.get_put, keep, opRun, ev, evs, evO, give, giveI, binOf, isNilK, PM.flip, putT, putL, putH, loadOf, storeOf, cut, over, ofCells, asNat, natOr, calm, clashes, Acc.clash, ressOf, resOf, frz, frz.frzs, DV.flat, DV.flat.flats, imms]
    refine loopCA hp hq hx hy ⟨by simp [PT.get_put], by simp [PT.get_put], by simp [PT.get_put], by simp [PT.get_put], by simp [PT.get_put], rfl, rfl⟩ ?_
    rintro st' ⟨h0, h9, h10, h11, h3, hH, hn⟩
    obtain ⟨x, H1, n1, e1, hat⟩ := grow_run d (k := xs.length + ys.length) (by omega) .lf 0
    simp at h3
    rw [show ((xs.length + ys.length : Nat) : Int) = (xs.length : Int) + (ys.length : Int) by omega] at e1
    simp [h0, h3, hH, hn, e1, B6, undT, fnEnd, argsT, PT.get_put, keep, opRun, ev, evs, evO, give, giveI, binOf, isNilK, PM.flip, putT, putL, putH, loadOf, storeOf, cut, over, ofCells, asNat, natOr, calm, clashes, Acc.clash, ressOf, resOf, frz, frz.frzs, DV.flat, DV.flat.flats, imms]
    refine loopCB hp hq ⟨x, by simp [PT.get_put], by simp [PT.get_put, h0], by simp [PT.get_put], by simp [PT.get_put], by simpa using hat⟩ ?_
    rintro st2 ⟨x2, g6, g25, g26, g27, gat⟩
    simp at gat
    simp [g6, gat.out, B6, undT, fnEnd, argsT, PT.get_put, keep, opRun, ev, evs, evO, give, giveI, binOf, isNilK, PM.flip, putT, putL, putH, loadOf, storeOf, cut, over, ofCells, asNat, natOr, calm, clashes, Acc.clash, ressOf, resOf, frz, frz.frzs, DV.flat, DV.flat.flats, imms]
    exact gat
  obtain ⟨x, H, n, e, ho, hat⟩ := key
  obtain ⟨v, e2, hv⟩ := frz_cap hat
  exact ⟨v, bl_of e e2, hv⟩
/-! ### table.Needs -/
def nd (r : Rt) : List Need := r.pts ++ r.flk
theorem NE_pt {pts : List Pt} {xs : List Need} {path : List Int} {w : Bool} (h : NE pts xs path w) : ∀ i, i < xs.length → (i : Int) ≤ (nth xs i).pt := by
  intro i
  induction i with
  | zero => exact fun hi => (h 0 hi).1.1
  | succ i ih =>
    intro hi
    have h1 := ih (by omega)
    have h2 := (h (i + 1) hi).2.1 (by omega)
    simp at h2
    omega
theorem NE_len {pts : List Pt} {xs : List Need} {path : List Int} {w : Bool} (h : NE pts xs path w) : xs.length ≤ pts.length := by
  by_cases h0 : xs.length = 0
  · omega
  · have h1 := NE_pt h (xs.length - 1) (by omega)
    have h2 := (h (xs.length - 1) (by omega)).1.2
    omega
theorem ISL.lq {l : Lo} (h : ISL l) {r : Nat} (hr : r < l.rts.length) : (nth l.rts r).pts.length ≤ 5 := Nat.le_trans (NE_len (h.rr r hr).np) h.p2
theorem ISL.lf {l : Lo} (h : ISL l) {r : Nat} (hr : r < l.rts.length) : (nth l.rts r).flk.length ≤ 5 := Nat.le_trans (NE_len (h.rr r hr).nf) h.p2
theorem Needs_bl {D : Nat} (hD : 3 ≤ D) {l : Lo} (ok : LoOk l) {r : Nat} (hr : r < l.rts.length) (hq : (nth l.rts r).pts.length ≤ 100) (hf : (nth l.rts r).flk.length ≤ 100) :
    ∃ v, bl (K DG D) 203 [l.dv, .imm (.int .i64 r)] = some (.imm v) ∧ Sl 2 v ((nd (nth l.rts r)).map ivN) := by
  obtain ⟨d, rfl⟩ : ∃ d, D = d + 1 := ⟨D - 1, by omega⟩
  have rk := ok.or _ (nth_mem hr)
  obtain ⟨v, e, hv⟩ := concat_bl (D := d) (by omega) rk.q rk.f (by simpa using hq) (by simpa using hf)
  refine ⟨v, bl_fe ?_, by simpa [nd] using hv⟩
  rw [D.k203]
  refine fn_dw rfl ?_
  have ix := fun {h : Nat → Option HB} {n : Nat} => idx_sl (h := h) (n := n) ok.r (by omega) (k := .i64) (z := (r : Int)) (by omega) (by omega)
  simp [ok.s.scal, ok.p.scal, ok.g.scal, ok.r.scal, rk.q.scal, rk.f.scal, ix, e, ivRt, evParts, evParts2, lay, unImms, unImm, mapO, rowsN, B6, undT, fnEnd, argsT, PT.get_put, keep, opRun, ev, evs, evO, give, giveI, binOf, isNilK, PM.flip, putT, putL, putH, loadOf, storeOf, cut, over, ofCells, asNat, natOr, calm, clashes, Acc.clash, ressOf, resOf, frz, frz.frzs, DV.flat, DV.flat.flats, imms]
end Go.Proofs.YtlknjgmhfimhbacGreatDoor.D
