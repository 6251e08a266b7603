/-
  FieldPlays over D.
-/
import Derived.Test.YtbhmihigfncfgabDoorT4
import Derived.Test.YtbhmihigfncfgabDoorFP4
set_option linter.unusedVariables false
set_option linter.unusedSimpArgs false
set_option maxHeartbeats 16000000
namespace Go.Proofs.YtbhmihigfncfgabDoor.D
open Go Go.PM Go.Lib
structure Fac where
  kind : Int
  n : Int
  dr : Int
instance : Inhabited Fac := ⟨⟨0, 0, 0⟩⟩
def ivFac (x : Fac) : List IV := [.int .i64 x.kind, .int .i64 x.n, .int .i64 x.dr]
abbrev kdFac : List Kd := [.i .i64, .i .i64, .i .i64]
def ss_FieldPlays : List (Bool × List Kd) := [(true, kdL), (false, [.sl kdFac])]
theorem facs_of {iv : IV} (h : FitK (.sl kdFac) iv) : ∃ xs : List Fac, Sl 3 iv (xs.map ivFac) ∧ xs.length ≤ reachBytes ∧ ∀ x ∈ xs, True :=
  rows_of h ivFac _ fun e hl hk => by
    match e, hl with
    | [c0, c1, c2], _ =>
      have f0 := hk 0 _ _ rfl rfl
      have f1 := hk 1 _ _ rfl rfl
      have f2 := hk 2 _ _ rfl rfl
      cases f0; cases f1; cases f2
      exact ⟨⟨_, _, _⟩, rfl, trivial⟩
theorem New_no {d : Nat} (hd : 6 ≤ d) {l : Lo} (ok : LoOk l) (is : ¬ ISL l) (H : PT HB) (n : Nat) :
    ∃ n', K DG (d + 1) 11 [l.dv] H n 0 = some (.tup [.imm .nilp, .imm (.int .i64 9)], H, n') ∧ n ≤ n' := by
  have e1 := Is_bl (D := d) (by omega) ok
  rw [dec_f is] at e1
  suffices key : Fe (K DG (d + 1) 11 [l.dv] H n 0) (fun v H' n' => v = .tup [.imm .nilp, .imm (.int .i64 9)] ∧ H' = H ∧ n ≤ n') by
    obtain ⟨v, H', n', e, rfl, rfl, h⟩ := key
    exact ⟨n', e, h⟩
  rw [D.k11]
  refine fn_dw rfl ?_
  simp [ok.s.scal, ok.p.scal, ok.g.scal, ok.r.scal, e1, B6, undT, fnEnd, argsT, PT.get_put, keep, opRun, ev, evs, evO, give, giveI, binOf, isNilK, PM.flip, putT, putL, putH, loadOf, storeOf, cut, over, ofCells, asNat, natOr, calm, clashes, Acc.clash, ressOf, resOf, frz, frz.frzs, DV.flat, DV.flat.flats, imms]
theorem New6_no {d : Nat} {l : Lo} (ok : LoOk l) (e4 : bl (K DG d) 17 [l.dv] = some (.imm (.bool false))) (H : PT HB) (n : Nat) :
    ∃ n', K DG (d + 1) 30 [l.dv] H n 0 = some (.tup [.imm .nilp, .imm (.int .i64 9)], H, n') ∧ n ≤ n' := by
  suffices key : Fe (K DG (d + 1) 30 [l.dv] H n 0) (fun v H' n' => v = .tup [.imm .nilp, .imm (.int .i64 9)] ∧ H' = H ∧ n ≤ n') by
    obtain ⟨v, H', n', e, rfl, rfl, h⟩ := key
    exact ⟨n', e, h⟩
  rw [D.k30]
  refine fn_dw rfl ?_
  simp [ok.s.scal, ok.p.scal, ok.g.scal, ok.r.scal, e4, B6, undT, fnEnd, argsT, PT.get_put, keep, opRun, ev, evs, evO, give, giveI, binOf, isNilK, PM.flip, putT, putL, putH, loadOf, storeOf, cut, over, ofCells, asNat, natOr, calm, clashes, Acc.clash, ressOf, resOf, frz, frz.frzs, DV.flat, DV.flat.flats, imms]
/-- Both fields, alike. -/
def FX (H : PT HB) (n f g : Nat) (l : Lo) : Prop := ∃ occ pts own o a b c, Fd H f own occ pts ∧ X6 H g o a b c occ pts ∧ (∀ j ∈ f :: own, j < n) ∧ (∀ j ∈ g :: (o ++ (a ++ (b ++ c))), j < n) ∧ (∀ j ∈ f :: own, j ∉ g :: (o ++ (a ++ (b ++ c)))) ∧ occ.length = l.secs.length ∧ pts.length = l.pts.length ∧ PB pts
theorem FX.trn {H : PT HB} {n f g : Nat} {l : Lo} (is : ISL l) (h : FX H n f g l) (k : Int) : ∃ e H1 n1 H2 n2, K DG 29 29 [.ptr f 0 0, .imm (.int .i64 k)] H n 0 = some (.imm (.int .i64 e), H1, n1) ∧ K DG 29 31 [.ptr g 0 0, .imm (.int .i64 k)] H1 n1 0 = some (.imm (.int .i64 e), H2, n2) ∧ FX H2 n2 f g l := by
  obtain ⟨occ, pts, own, o, a, b, c, fd, x6, b1, b2, dj, ol, pl, pb⟩ := h
  have h0 : occ ≠ [] := fun e => by subst e; have := is.s1; simp at ol; omega
  obtain ⟨v, H1, n1, e1, rfl, fr1, hc⟩ := Train_run (d := 28) fd h0 k n
  have x1 : X6 H1 g o a b c occ pts := x6.mono fun i hi => fr1 i fun hj => dj i (by simp [hj]) hi
  obtain ⟨u, H2, n2, e2, rfl, fr2, hc2⟩ := Train6_run (d := 28) x1 h0 k n1
  have f1 : ∀ {occ}, Fd H1 f own occ pts → Fd H2 f own occ pts := fun h => h.mono fun i hi => fr2 i fun hj => dj i hi (by simp [hj])
  rcases hc with ⟨i1, rfl, fd1⟩ | ⟨i1, rfl, fd1⟩ <;> rcases hc2 with ⟨i2, rfl, x2⟩ | ⟨i2, rfl, x2⟩
  · exact ⟨_, _, _, _, _, e1, e2, _, _, _, _, _, _, _, f1 fd1, x2, b1, b2, dj, by simp [flipAt, ol], pl, pb⟩
  · exact absurd i1 i2
  · exact absurd i2 i1
  · exact ⟨_, _, _, _, _, e1, e2, _, _, _, _, _, _, _, f1 fd1, x2, b1, b2, dj, ol, pl, pb⟩
theorem FX.stk {H : PT HB} {n f g : Nat} {l : Lo} (h : FX H n f g l) (k : Int) : ∃ e H1 n1 H2 n2, K DG 29 27 [.ptr f 0 0, .imm (.int .i64 k)] H n 0 = some (.imm (.int .i64 e), H1, n1) ∧ K DG 29 32 [.ptr g 0 0, .imm (.int .i64 k)] H1 n1 0 = some (.imm (.int .i64 e), H2, n2) ∧ FX H2 n2 f g l := by
  obtain ⟨occ, pts, own, o, a, b, c, fd, x6, b1, b2, dj, ol, pl, pb⟩ := h
  obtain ⟨v, H1, n1, e1, rfl, fr1, hc⟩ := Stick_run (d := 28) fd k n
  have x1 : X6 H1 g o a b c occ pts := x6.mono fun i hi => fr1 i fun hj => dj i (by simp [hj]) hi
  obtain ⟨u, H2, n2, e2, rfl, fr2, hc2⟩ := Stick6_run (d := 28) x1 k n1
  have f1 : ∀ {pts}, Fd H1 f own occ pts → Fd H2 f own occ pts := fun h => h.mono fun i hi => fr2 i fun hj => dj i hi (by simp at hj; simp [hj])
  have pb' : PB (pts.set k.toNat ⟨0, 0, 0⟩) := fun p hp => by
    rcases List.mem_or_eq_of_mem_set hp with h | rfl
    · exact pb p h
    · simp
  rcases hc with ⟨i1, rfl, fd1⟩ | ⟨i1, rfl, fd1⟩ <;> rcases hc2 with ⟨i2, rfl, x2⟩ | ⟨i2, rfl, x2⟩
  · exact ⟨_, _, _, _, _, e1, e2, _, _, _, _, _, _, _, f1 fd1, x2, b1, b2, dj, ol, by simp [pl], pb'⟩
  · exact absurd i1 i2
  · exact absurd i2 i1
  · exact ⟨_, _, _, _, _, e1, e2, _, _, _, _, _, _, _, f1 fd1, x2, b1, b2, dj, ol, pl, pb⟩
theorem FX.stp {H : PT HB} {n f g : Nat} {l : Lo} (is : ISL l) (h : FX H n f g l) {dv : IV} {ds : List Int} (hd : Sl 1 dv (ds.map ivI)) (hl : ds.length = l.pts.length) : ∃ H1 n1 u H2 n2, K DG 29 13 [.ptr f 0 0, .imm dv] H n 0 = some (.tup [], H1, n1) ∧ K DG 29 34 [.ptr g 0 0, .imm dv] H1 n1 0 = some (u, H2, n2) ∧ FX H2 n2 f g l := by
  obtain ⟨occ, pts, own, o, a, b, c, fd, x6, b1, b2, dj, ol, pl, pb⟩ := h
  have p2 := is.p2
  have dd : Drv H (.imm dv) ds [] := by
    rcases hd with ⟨rfl, h⟩ | ⟨f, rfl⟩
    · obtain rfl : ds = [] := by simpa using h
      exact .nil
    · exact .lst f ds
  obtain ⟨H1, n1, e1, fd1, hn1, fr1⟩ := step_eq DG 27 fd dd (by simp) (by omega) n
  have x1 : X6 H1 g o a b c occ pts := x6.mono fun i hi => fr1 i fun hj => dj i (by simp [hj]) hi
  obtain ⟨u, H2, n2, e2, x2, hn2, fr2⟩ := Step6_run (d := 28) x1 pb hd (by omega) (by omega) n1
  exact ⟨H1, n1, u, H2, n2, e1, e2, occ, _, own, o, a, b, c, fd1.mono fun i hi => fr2 i fun hj => dj i hi (by simp at hj; simp [hj]), x2, fun j hj => by have := b1 j hj; omega, fun j hj => by have := b2 j hj; omega, dj, ol, by rw [stp_len]; exact pl, pb.stp _ _⟩
theorem FX.same {H : PT HB} {n f g : Nat} {l : Lo} (is : ISL l) (h : FX H n f g l) : ∃ A B n' vo vl vt vd, callM (K DG 29) .ro 14 [.ptr f 0 0] H n 0 = some ⟨.agg [.imm A, .imm B], H, n', [.rA]⟩ ∧ n ≤ n' ∧ H.get g = some ⟨4, [[vo, vl, vt, vd]]⟩ ∧
    ∀ m, callM (K DG 29) .blind 35 [.agg [.imm A, .imm B], .agg [vo, vl]] H m 0 = some ⟨.imm (.bool true), H, m, [.rA]⟩ := by
  have hrb := rb3
  obtain ⟨occ, pts, own, o, a, b, c, fd, x6, b1, b2, dj, ol, pl, pb⟩ := h
  have s1 := is.s1
  have s2 := is.s2
  have p2 := is.p2
  have h0 : occ ≠ [] := fun e => by subst e; simp at ol; omega
  obtain ⟨n', e1, hn⟩ := in_eq DG 27 fd h0 (by omega) (by omega) b1 0
  obtain ⟨⟨vo, vl, vt, vd, h1, h2, h3, h4, h5⟩, nd⟩ := x6
  refine ⟨_, _, n', vo, vl, vt, vd, e1, hn, h1, fun m => ?_⟩
  have hB : Sl 1 (liesV pts) ((pts.map (·.l)).map ivI) := by
    unfold liesV
    split
    · rename_i e; subst e; exact .inl ⟨rfl, rfl⟩
    · exact .inr ⟨_, rfl⟩
  have si := SameIn_same (D := 29) (by omega) (a := .lst false 1 (occ.map ivB)) (b := liesV pts) (os := occ) (ls := pts.map (·.l)) (.inr ⟨false, rfl⟩) hB (by omega) (by simp; omega)
  generalize hro : occ.map rowBo = ros at h2
  have hrol : ros.length = occ.length := by rw [← hro]; simp
  cases h2 with
  | nil => simp at hro; exact absurd hro h0
  | sl ho hro9 =>
    rename_i io
    have so : snap H.get (.sl io 0 ros.length ros.length) = some (.imm (.lst false 1 (occ.map ivB))) := by
      have hf := frz_sl (h := H.get) (lo := 0) (id := io) (sz := 1) (xs := occ.map ivB) (by rw [ho, ← hro, rowBo_eq]) (by omega)
      rw [List.length_map, ← hrol] at hf
      have e0 : frz H.get 0 (.sl io 0 ros.length ros.length) = if io < 0 then some (.sl io 0 ros.length ros.length) else (frzI H.get 0 frzDepth (.sl io 0 ros.length ros.length)).map .imm := rfl
      rw [e0, if_neg (by omega)] at hf
      exact hf
    have sl : snap H.get vl = some (.imm (liesV pts)) := by
      generalize hrl : pts.map rL = rl at h3
      have hll : rl.length = pts.length := by rw [← hrl]; simp
      cases h3 with
      | nil =>
        simp at hrl
        subst hrl
        rfl
      | sl hl hne =>
        rename_i il
        have hp0 : pts ≠ [] := fun e => by subst e; simp at hrl; exact hne hrl
        have hf := frz_sl (h := H.get) (lo := 0) (id := il) (sz := 1) (xs := (pts.map (·.l)).map ivI) (by rw [hl, ← hrl, ← rowI_eq, List.map_map]; rfl) (by omega)
        simp only [List.length_map] at hf
        rw [← hll] at hf
        have e0 : frz H.get 0 (.sl il 0 rl.length rl.length) = if il < 0 then some (.sl il 0 rl.length rl.length) else (frzI H.get 0 frzDepth (.sl il 0 rl.length rl.length)).map .imm := rfl
        rw [e0, if_neg (by omega)] at hf
        unfold liesV
        rw [if_neg hp0]
        exact hf
    have sn : snap.snaps H.get [.agg [.imm (.lst false 1 (occ.map ivB)), .imm (liesV pts)], .agg [.sl io 0 ros.length ros.length, vl]] = some [.agg [.imm (.lst false 1 (occ.map ivB)), .imm (liesV pts)], .agg [.imm (.lst false 1 (occ.map ivB)), .imm (liesV pts)]] := by
      have z1 : snap H.get (.agg [.imm (.lst false 1 (occ.map ivB)), .imm (liesV pts)]) = some (.agg [.imm (.lst false 1 (occ.map ivB)), .imm (liesV pts)]) := rfl
      have z2 : snap H.get (.agg [.sl io 0 ros.length ros.length, vl]) = some (.agg [.imm (.lst false 1 (occ.map ivB)), .imm (liesV pts)]) := by
        show (snap.snaps H.get [.sl io 0 ros.length ros.length, vl]).map DV.agg = _
        simp only [snap.snaps, so, sl]
        rfl
      simp only [snap.snaps, z1, z2]
    exact call_snap (by rfl) sn si
structure IFP (l : Lo) (f g : Nat) (v : IV) (i : Nat) (st : St) : Prop where
  h1 : st.T.get 1 = some (.imm v)
  b2 : Box st 2 l.ivs
  h5 : st.T.get 5 = some (.ptr f 0 0)
  h7 : st.T.get 7 = some (.ptr g 0 0)
  h8 : st.T.get 8 = some (.imm (.int .i64 0))
  h9 : st.T.get 9 = some (.imm (.int .i64 i))
  fx : FX st.H st.n f g l
theorem FX.up {H : PT HB} {n n' f g : Nat} {l : Lo} (h : FX H n f g l) (hn : n ≤ n') : FX H n' f g l := by
  obtain ⟨occ, pts, own, o, a, b, c, fd, x6, b1, b2, dj, r⟩ := h
  exact ⟨occ, pts, own, o, a, b, c, fd, x6, fun j hj => by have := b1 j hj; omega, fun j hj => by have := b2 j hj; omega, dj, r⟩
theorem loopFP {l : Lo} (ok : LoOk l) (is : ISL l) {f g : Nat} {v : IV} {xs : List Fac} (hv : Sl 3 v (xs.map ivFac)) (hl : xs.length ≤ reachBytes) {ks : List Kf} {st : St} {Q : Ex → St → Prop} (h : IFP l f g v 0 st)
    (hk : ∀ st', Bk DG (K DG 29) 0 (.exit 0) ks st' Q) : Wp DG (K DG 29) 0 D.l9_0 ks st Q := by
  have hrb := rb3
  have vl := hv.len
  have pl := ok.p.len
  simp only [List.length_map] at vl pl
  have p2 := is.p2
  refine dw_loop (N := xs.length) (small hl) (IFP l f g v) (fun e st' => e = .exit 0) (fun i st hle hI => ?_) h (fun e s' h => by subst h; exact hk s')
  obtain ⟨h1, ⟨i2, h2, L2⟩, h5, h7, h8, h9, fx⟩ := hI
  by_cases hi : i < xs.length
  · have hi1 : (i : Int) < xs.length := by omega
    have hi' := ilt_t hi1
    have hw8 : IntKind.i64.wrap ((i : Int) + 1) = (i : Int) + 1 := wr_succ hi hl
    by_cases h60 : (i : Int) < 60
    · have j60 := ilt_t h60
      have ix := fun {h : Nat → Option HB} {n : Nat} => idx_sl (h := h) (n := n) hv (by omega) (k := .i64) (z := (i : Int)) (by omega) hi1
      simp only [Int.toNat_natCast] at ix
      generalize nth xs i = x at *
      generalize hQ : (fun (e : Ex) (s' : St) => _) = Q'
      simp only [D.l9_0b]
      by_cases hk1 : x.kind = 1
      · obtain ⟨e, H1, n1, H2, n2, e1, e2, fx2⟩ := fx.trn is x.n
        obtain ⟨A, B, n3, vo, vl', vt, vd, e3, hn3, hg, si⟩ := fx2.same is
        simp [h1, h2, L2, h5, h7, h8, h9, vl, hi', hw8, j60, ix, ivFac, hk1, e1, e2, e3, hg, si, imms, B6, undT, fnEnd, argsT, PT.get_put, keep, opRun, ev, evs, evO, give, giveI, binOf, isNilK, PM.flip, putT, putL, putH, loadOf, storeOf, cut, over, ofCells, asNat, natOr, calm, clashes, Acc.clash, ressOf, resOf, frz, frz.frzs, DV.flat, DV.flat.flats, imms]
        subst hQ
        exact .inl ⟨rfl, hi, by simp [PT.get_put], ⟨i2, by simp [PT.get_put], by simp [PT.get_put, imms]⟩, by simp [PT.get_put], by simp [PT.get_put], by simp [PT.get_put], by simp [PT.get_put], fx2.up hn3⟩
      · by_cases hk2 : x.kind = 2
        · obtain ⟨e, H1, n1, H2, n2, e1, e2, fx2⟩ := fx.stk x.n
          obtain ⟨A, B, n3, vo, vl', vt, vd, e3, hn3, hg, si⟩ := fx2.same is
          simp [h1, h2, L2, h5, h7, h8, h9, vl, hi', hw8, j60, ix, ivFac, hk1, hk2, e1, e2, e3, hg, si, imms, B6, undT, fnEnd, argsT, PT.get_put, keep, opRun, ev, evs, evO, give, giveI, binOf, isNilK, PM.flip, putT, putL, putH, loadOf, storeOf, cut, over, ofCells, asNat, natOr, calm, clashes, Acc.clash, ressOf, resOf, frz, frz.frzs, DV.flat, DV.flat.flats, imms]
          subst hQ
          exact .inl ⟨rfl, hi, by simp [PT.get_put], ⟨i2, by simp [PT.get_put], by simp [PT.get_put, imms]⟩, by simp [PT.get_put], by simp [PT.get_put], by simp [PT.get_put], by simp [PT.get_put], fx2.up hn3⟩
        · obtain ⟨dv, ds, ed, hd, hdl⟩ := drive_bl (D := 29) (by omega) x.dr (k := l.pts.length) (by omega)
          obtain ⟨H1, n1, u, H2, n2, e1, e2, fx2⟩ := fx.stp is hd hdl
          obtain ⟨A, B, n3, vo, vl', vt, vd, e3, hn3, hg, si⟩ := fx2.same is
          simp [h1, h2, L2, h5, h7, h8, h9, vl, pl, hi', hw8, j60, ix, ivFac, hk1, hk2, ed, e1, e2, e3, hg, si, hd.scal, imms, B6, undT, fnEnd, argsT, PT.get_put, keep, opRun, ev, evs, evO, give, giveI, binOf, isNilK, PM.flip, putT, putL, putH, loadOf, storeOf, cut, over, ofCells, asNat, natOr, calm, clashes, Acc.clash, ressOf, resOf, frz, frz.frzs, DV.flat, DV.flat.flats, imms]
          subst hQ
          exact .inl ⟨rfl, hi, by simp [PT.get_put], ⟨i2, by simp [PT.get_put], by simp [PT.get_put, imms]⟩, by simp [PT.get_put], by simp [PT.get_put], by simp [PT.get_put], by simp [PT.get_put], fx2.up hn3⟩
    · have j60 := ilt_f (show (60 : Int) ≤ i by omega)
      generalize hQ : (fun (e : Ex) (s' : St) => _) = Q'
      simp only [D.l9_0b]
      simp [h1, h2, L2, h5, h7, h8, h9, vl, hi', j60, B6, undT, fnEnd, argsT, PT.get_put, keep, opRun, ev, evs, evO, give, giveI, binOf, isNilK, PM.flip, putT, putL, putH, loadOf, storeOf, cut, over, ofCells, asNat, natOr, calm, clashes, Acc.clash, ressOf, resOf, frz, frz.frzs, DV.flat, DV.flat.flats, imms]
      subst hQ
      exact .inr ⟨nofun, rfl⟩
  · obtain rfl : i = xs.length := by omega
    generalize hQ : (fun (e : Ex) (s' : St) => _) = Q'
    simp only [D.l9_0b]
    simp [h1, h2, L2, h5, h7, h8, h9, vl, B6, undT, fnEnd, argsT, PT.get_put, keep, opRun, ev, evs, evO, give, giveI, binOf, isNilK, PM.flip, putT, putL, putH, loadOf, storeOf, cut, over, ofCells, asNat, natOr, calm, clashes, Acc.clash, ressOf, resOf, frz, frz.frzs, DV.flat, DV.flat.flats, imms]
    subst hQ
    exact .inr ⟨nofun, rfl⟩
theorem run_FieldPlays {l : Lo} (ok : LoOk l) {v : IV} {xs : List Fac} (hv : Sl 3 v (xs.map ivFac)) (hl : xs.length ≤ reachBytes) : Fe (K DG 30 9 [l.dv, .imm v] .lf 0 0) (fun v _ _ => v = .imm (.bool true)) := by
  have hrb := rb3
  obtain ⟨m, hm, hs⟩ := size_bl (D := 29) (by omega) ok
  have hkn := known_bl
  have vl := hv.len
  simp only [List.length_map] at vl
  rw [D.k9]
  refine fn_dw rfl ?_
  by_cases hm3 : m < 3000
  · have hj3 : ILt (m : Int) 3000 = True := ilt_t (by omega)
    have e4 := Is4_bl (D := 28) (by omega) ok (hs hm3).sm
    by_cases hx : 10000 < xs.length
    · have j4 : ILt 10000 (xs.length : Int) = True := ilt_t (by omega)
      simp [ok.s.scal, ok.p.scal, ok.g.scal, ok.r.scal, hv.scal, vl, hm, hj3, j4, B6, undT, fnEnd, argsT, PT.get_put, keep, opRun, ev, evs, evO, give, giveI, binOf, isNilK, PM.flip, putT, putL, putH, loadOf, storeOf, cut, over, ofCells, asNat, natOr, calm, clashes, Acc.clash, ressOf, resOf, frz, frz.frzs, DV.flat, DV.flat.flats, imms]
    · have j4 : ILt 10000 (xs.length : Int) = False := ilt_f (by omega)
      by_cases is : ISL l
      · rw [dec_t is] at e4
        obtain ⟨v1, H1, n1, e1, f, own, rfl, fd, hown, _⟩ := New_run (d := 28) (by omega) ok is .lf 1
        obtain ⟨w1, H2, n2, e3, g, o, a, b, c, rfl, x6, hx6, fr2⟩ := New6_run (d := 28) ok is e4 H1 n1
        have hn12 : n1 ≤ n2 := by have := hx6 g (by simp); omega
        have fx : FX H2 n2 f g l := ⟨_, _, own, o, a, b, c, fd.mono fun i hi => fr2 i (hown i hi).2, x6, fun j hj => by have := (hown j hj).2; omega, fun j hj => (hx6 j hj).2, fun j hj hj' => by have := (hown j hj).2; have := (hx6 j hj').1; omega, by simp, by simp, fun p hp => by rw [(List.mem_replicate.1 hp).2]; simp⟩
        simp [ok.s.scal, ok.p.scal, ok.g.scal, ok.r.scal, hv.scal, vl, hm, hj3, j4, e1, e3, B6, undT, fnEnd, argsT, PT.get_put, keep, opRun, ev, evs, evO, give, giveI, binOf, isNilK, PM.flip, putT, putL, putH, loadOf, storeOf, cut, over, ofCells, asNat, natOr, calm, clashes, Acc.clash, ressOf, resOf, frz, frz.frzs, DV.flat, DV.flat.flats, imms]
        refine loopFP (v := v) ok is hv hl ⟨by simp [PT.get_put], ⟨0, by simp [PT.get_put], by simp [PT.get_put, imms]⟩, by simp [PT.get_put], by simp [PT.get_put], by simp [PT.get_put], by simp [PT.get_put], fx⟩ ?_
        intro st'
        simp [hkn, B6, undT, fnEnd, argsT, PT.get_put, keep, opRun, ev, evs, evO, give, giveI, binOf, isNilK, PM.flip, putT, putL, putH, loadOf, storeOf, cut, over, ofCells, asNat, natOr, calm, clashes, Acc.clash, ressOf, resOf, frz, frz.frzs, DV.flat, DV.flat.flats, imms]
      · rw [dec_f is] at e4
        obtain ⟨n1, e1, hn1⟩ := New_no (d := 28) (by omega) ok is .lf 1
        obtain ⟨n2, e3, hn2⟩ := New6_no (d := 28) ok e4 .lf n1
        simp [ok.s.scal, ok.p.scal, ok.g.scal, ok.r.scal, hv.scal, vl, hm, hj3, j4, e1, e3, B6, undT, fnEnd, argsT, PT.get_put, keep, opRun, ev, evs, evO, give, giveI, binOf, isNilK, PM.flip, putT, putL, putH, loadOf, storeOf, cut, over, ofCells, asNat, natOr, calm, clashes, Acc.clash, ressOf, resOf, frz, frz.frzs, DV.flat, DV.flat.flats, imms]
        refine dw_loop (N := 0) (small (by omega)) (fun i st => st.T.get 8 = some (.imm (.int .i64 9)) ∧ ∃ i2, st.T.get 2 = some (.lref 2 i2 0) ∧ st.L.get 2 = some (.box i2 (imms l.ivs))) (fun e st' => e = .exit 0) (fun i st hle hI => ?_) ⟨by simp [PT.get_put], 0, by simp [PT.get_put], by simp [PT.get_put, imms]⟩ (fun e s' h => ?_)
        · obtain ⟨g8, i2, g2, L2⟩ := hI
          generalize hQ : (fun (e : Ex) (s' : St) => _) = Q'
          simp only [D.l9_0b]
          simp [g8, g2, L2, B6, undT, fnEnd, argsT, PT.get_put, keep, opRun, ev, evs, evO, give, giveI, binOf, isNilK, PM.flip, putT, putL, putH, loadOf, storeOf, cut, over, ofCells, asNat, natOr, calm, clashes, Acc.clash, ressOf, resOf, frz, frz.frzs, DV.flat, DV.flat.flats, imms]
          subst hQ
          exact .inr ⟨nofun, rfl⟩
        · subst h
          simp [hkn, B6, undT, fnEnd, argsT, PT.get_put, keep, opRun, ev, evs, evO, give, giveI, binOf, isNilK, PM.flip, putT, putL, putH, loadOf, storeOf, cut, over, ofCells, asNat, natOr, calm, clashes, Acc.clash, ressOf, resOf, frz, frz.frzs, DV.flat, DV.flat.flats, imms]
  · have hj3 : ILt (m : Int) 3000 = False := ilt_f (by omega)
    simp [ok.s.scal, ok.p.scal, ok.g.scal, ok.r.scal, hv.scal, vl, hm, hj3, B6, undT, fnEnd, argsT, PT.get_put, keep, opRun, ev, evs, evO, give, giveI, binOf, isNilK, PM.flip, putT, putL, putH, loadOf, storeOf, cut, over, ofCells, asNat, natOr, calm, clashes, Acc.clash, ressOf, resOf, frz, frz.frzs, DV.flat, DV.flat.flats, imms]
theorem pure_FieldPlays : ∀ cs, ArgsFit ss_FieldPlays cs → ∃ H' n', K (doorG 0 1) 30 9 cs .lf 0 0 = some (.imm (.bool true), H', n') := fun cs h => by
  obtain ⟨d, ds, rfl, h1, h2⟩ := fit_cons h
  obtain ⟨l, rfl, ok⟩ := lay_of h1
  obtain ⟨d1, r1, rfl, g1, h3⟩ := fit_cons h2
  obtain ⟨k, iv, hk, rfl, hf⟩ := g1
  cases hk
  obtain ⟨xs, hv, hl, _⟩ := facs_of hf
  cases fit0 (r := []) h3
  obtain ⟨v, H, n, e, rfl⟩ := run_FieldPlays ok hv hl
  exact ⟨H, n, e⟩
end Go.Proofs.YtbhmihigfncfgabDoor.D
