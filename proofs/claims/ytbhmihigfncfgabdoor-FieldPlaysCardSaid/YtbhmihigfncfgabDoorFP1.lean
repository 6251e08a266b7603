/-
  The document's field: New, Train, Stick, Step; SameIn of what is the same; field's Stick; drive. Over D.
-/
import Derived.Test.YtbhmihigfncfgabDoorF1
import Derived.Test.YtbhmihigfncfgabDoorT9a
set_option linter.unusedVariables false
set_option linter.unusedSimpArgs false
set_option maxHeartbeats 16000000
namespace Go.Proofs.YtbhmihigfncfgabDoor.D
open Go Go.PM Go.Lib
/-! ### SameIn -/
theorem SameIn_same {D : Nat} (hD : 1 ≤ D) {a b : IV} {os : List Bool} {ls : List Int} (ha : Sl 1 a (os.map ivB)) (hb : Sl 1 b (ls.map ivI)) (hl : os.length ≤ reachBytes) (hl' : ls.length ≤ reachBytes) :
    bl (K DG D) 35 [.agg [.imm a, .imm b], .agg [.imm a, .imm b]] = some (.imm (.bool true)) := by
  obtain ⟨d, rfl⟩ : ∃ d, D = d + 1 := ⟨D - 1, by omega⟩
  have al := ha.len
  have bl' := hb.len
  simp only [List.length_map] at al bl'
  refine bl_fe ?_
  rw [D.k35]
  refine fn_dw rfl ?_
  simp [ha.scal, hb.scal, al, bl', B6, undT, fnEnd, argsT, PT.get_put, keep, opRun, ev, evs, evO, give, giveI, binOf, isNilK, PM.flip, putT, putL, putH, loadOf, storeOf, cut, over, ofCells, asNat, natOr, calm, clashes, Acc.clash, ressOf, resOf, frz, frz.frzs, DV.flat, DV.flat.flats, imms]
  refine dw_loop (N := os.length) (small hl) (fun i st => Box st 2 [a, b] ∧ Box st 3 [a, b] ∧ st.T.get 5 = some (.imm (.int .i64 i))) (fun e st' => e = .exit 0 ∧ Box st' 2 [a, b] ∧ Box st' 3 [a, b]) (fun i st hle hI => ?_) ⟨⟨0, by simp [PT.get_put], by simp [PT.get_put, imms]⟩, ⟨1, by simp [PT.get_put], by simp [PT.get_put, imms]⟩, by simp [PT.get_put]⟩ ?_
  · obtain ⟨⟨i2, h2, L2⟩, ⟨i3, h3, L3⟩, h5⟩ := hI
    by_cases hi : i < os.length
    · have hi1 : (i : Int) < os.length := by omega
      have hi' := ilt_t hi1
      have hw8 : IntKind.i64.wrap ((i : Int) + 1) = (i : Int) + 1 := wr_succ hi hl
      have ix := fun {h : Nat → Option HB} {n : Nat} => idx_sl (h := h) (n := n) ha (by omega) (k := .i64) (z := (i : Int)) (by omega) hi1
      generalize hQ : (fun (e : Ex) (s' : St) => _) = Q'
      simp only [D.l35_0b]
      simp [h2, h3, h5, L2, L3, al, hi', hw8, ix, ivB, B6, undT, fnEnd, argsT, PT.get_put, keep, opRun, ev, evs, evO, give, giveI, binOf, isNilK, PM.flip, putT, putL, putH, loadOf, storeOf, cut, over, ofCells, asNat, natOr, calm, clashes, Acc.clash, ressOf, resOf, frz, frz.frzs, DV.flat, DV.flat.flats, imms]
      subst hQ
      exact .inl ⟨rfl, hi, ⟨i2, by simp [PT.get_put], by simp [PT.get_put, imms]⟩, ⟨i3, by simp [PT.get_put], by simp [PT.get_put, imms]⟩, by simp [PT.get_put]⟩
    · obtain rfl : i = os.length := by omega
      generalize hQ : (fun (e : Ex) (s' : St) => _) = Q'
      simp only [D.l35_0b]
      simp [h2, h3, h5, L2, L3, al, B6, undT, fnEnd, argsT, PT.get_put, keep, opRun, ev, evs, evO, give, giveI, binOf, isNilK, PM.flip, putT, putL, putH, loadOf, storeOf, cut, over, ofCells, asNat, natOr, calm, clashes, Acc.clash, ressOf, resOf, frz, frz.frzs, DV.flat, DV.flat.flats, imms]
      subst hQ
      exact .inr ⟨nofun, rfl, ⟨i2, by simp [PT.get_put, h2], by simp [PT.get_put, L2, imms]⟩, ⟨i3, by simp [PT.get_put, h3], by simp [PT.get_put, L3, imms]⟩⟩
  · rintro e s2 ⟨rfl, ⟨i2, h2, L2⟩, ⟨i3, h3, L3⟩⟩
    simp [h2, h3, L2, L3, B6, undT, fnEnd, argsT, PT.get_put, keep, opRun, ev, evs, evO, give, giveI, binOf, isNilK, PM.flip, putT, putL, putH, loadOf, storeOf, cut, over, ofCells, asNat, natOr, calm, clashes, Acc.clash, ressOf, resOf, frz, frz.frzs, DV.flat, DV.flat.flats, imms]
    refine dw_loop (N := ls.length) (small hl') (fun i st => Box st 2 [a, b] ∧ Box st 3 [a, b] ∧ st.T.get 6 = some (.imm (.int .i64 i))) (fun e st' => e = .exit 2) (fun i st hle hI => ?_) ⟨⟨i2, by simp [PT.get_put, h2], by simp [PT.get_put, L2, imms]⟩, ⟨i3, by simp [PT.get_put, h3], by simp [PT.get_put, L3, imms]⟩, by simp [PT.get_put]⟩ ?_
    · obtain ⟨⟨i2, h2, L2⟩, ⟨i3, h3, L3⟩, h5⟩ := hI
      by_cases hi : i < ls.length
      · have hi1 : (i : Int) < ls.length := by omega
        have hi' := ilt_t hi1
        have hw8 : IntKind.i64.wrap ((i : Int) + 1) = (i : Int) + 1 := wr_succ hi hl'
        have ix := fun {h : Nat → Option HB} {n : Nat} => idx_sl (h := h) (n := n) hb (by omega) (k := .i64) (z := (i : Int)) (by omega) hi1
        generalize hQ : (fun (e : Ex) (s' : St) => _) = Q'
        simp only [D.l35_1b]
        simp [h2, h3, h5, L2, L3, bl', hi', hw8, ix, ivI, B6, undT, fnEnd, argsT, PT.get_put, keep, opRun, ev, evs, evO, give, giveI, binOf, isNilK, PM.flip, putT, putL, putH, loadOf, storeOf, cut, over, ofCells, asNat, natOr, calm, clashes, Acc.clash, ressOf, resOf, frz, frz.frzs, DV.flat, DV.flat.flats, imms]
        subst hQ
        exact .inl ⟨rfl, hi, ⟨i2, by simp [PT.get_put], by simp [PT.get_put, imms]⟩, ⟨i3, by simp [PT.get_put], by simp [PT.get_put, imms]⟩, by simp [PT.get_put]⟩
      · obtain rfl : i = ls.length := by omega
        generalize hQ : (fun (e : Ex) (s' : St) => _) = Q'
        simp only [D.l35_1b]
        simp [h2, h3, h5, L2, L3, bl', B6, undT, fnEnd, argsT, PT.get_put, keep, opRun, ev, evs, evO, give, giveI, binOf, isNilK, PM.flip, putT, putL, putH, loadOf, storeOf, cut, over, ofCells, asNat, natOr, calm, clashes, Acc.clash, ressOf, resOf, frz, frz.frzs, DV.flat, DV.flat.flats, imms]
        subst hQ
        simp
    · rintro e s3 rfl
      simp [B6, undT, fnEnd, argsT, PT.get_put, keep, opRun, ev, evs, evO, give, giveI, binOf, isNilK, PM.flip, putT, putL, putH, loadOf, storeOf, cut, over, ofCells, asNat, natOr, calm, clashes, Acc.clash, ressOf, resOf, frz, frz.frzs, DV.flat, DV.flat.flats, imms]
/-! ### drive -/
noncomputable def an3 (a : Int) : Int := IntKind.i64.wrap ((BitVec.ofInt IntKind.i64.bits a &&& BitVec.ofInt IntKind.i64.bits 3).toNat : Int)
theorem bi_and3 {a : Int} : binInt .and .i64 a 3 = some (.int .i64 (an3 a)) := rfl
theorem bi_rem3 {a : Int} : binInt .rem .i64 a 3 = some (.int .i64 (a.tmod 3)) := rfl
def DrAtS (H : PT HB) (v : DV) (ds : List Int) (n : Nat) : Prop := (v = .imm .nils ∧ ds = []) ∨ ∃ id, id < n ∧ v = .sl id 0 ds.length ds.length ∧ ds ≠ [] ∧ H.get id = some ⟨1, ds.map rowI⟩
theorem drive_bl {D : Nat} (hD : 1 ≤ D) (z : Int) {k : Nat} (hk : k ≤ 5) : ∃ (v : IV) (ds : List Int), bl (K DG D) 33 [.imm (.int .i64 z), .imm (.int .i64 k)] = some (.imm v) ∧ Sl 1 v (ds.map ivI) ∧ ds.length = k := by
  obtain ⟨d, rfl⟩ : ∃ d, D = d + 1 := ⟨D - 1, by omega⟩
  have hrb := rb3
  have key : Fe (K DG (d + 1) 33 [.imm (.int .i64 z), .imm (.int .i64 k)] .lf 0 0) (fun v H n => ∃ ds, DrAtS H v ds n ∧ ds.length = k) := by
    rw [D.k33]
    refine fn_dw rfl ?_
    simp [B6, undT, fnEnd, argsT, PT.get_put, keep, opRun, ev, evs, evO, give, giveI, binOf, isNilK, PM.flip, putT, putL, putH, loadOf, storeOf, cut, over, ofCells, asNat, natOr, calm, clashes, Acc.clash, ressOf, resOf, frz, frz.frzs, DV.flat, DV.flat.flats, imms]
    refine dw_loop (N := k) (small (by omega)) (fun i st => st.T.get 0 = some (.imm (.int .i64 z)) ∧ st.T.get 1 = some (.imm (.int .i64 k)) ∧ st.T.get 6 = some (.imm (.int .i64 i)) ∧ ∃ v ds, st.T.get 5 = some v ∧ DrAtS st.H v ds st.n ∧ ds.length = i) (fun (e : Ex) (st' : St) => e = .exit 0 ∧ ∃ v ds, st'.T.get 5 = some v ∧ DrAtS st'.H v ds st'.n ∧ ds.length = k) (fun i st hle hI => ?_) ⟨by simp [PT.get_put], by simp [PT.get_put], by simp [PT.get_put], .imm .nils, [], by simp [PT.get_put], .inl ⟨rfl, rfl⟩, rfl⟩ ?_
    · obtain ⟨h0, h1, h6, v, ds, h5, ha, hl⟩ := hI
      by_cases hi : i < k
      · have hi1 : (i : Int) < k := by omega
        have hi' := ilt_t hi1
        have hw8 : IntKind.i64.wrap ((i : Int) + 1) = (i : Int) + 1 := wr_succ hi (by omega)
        have hw2 : IntKind.i64.wrap (2 * (i : Int)) = 2 * (i : Int) := wr_id (by omega) (by omega)
        have hu : ∃ m : Nat, IntKind.u64.wrap (2 * (i : Int)) = (m : Int) := ⟨2 * i, by
          have : i ≤ 5 := by omega
          rcases (by omega : i = 0 ∨ i = 1 ∨ i = 2 ∨ i = 3 ∨ i = 4 ∨ i = 5) with rfl | rfl | rfl | rfl | rfl | rfl <;> decide⟩
        obtain ⟨m, hu⟩ := hu
        have hm : ¬ (m : Int) < 0 := by omega
        generalize hQ : (fun (e : Ex) (s' : St) => _) = Q'
        simp only [D.l33_0b]
        rcases ha with ⟨rfl, rfl⟩ | ⟨id, hid, rfl, hne, hg⟩
        · simp [h0, h1, h5, h6, hi', hw8, hw2, hu, hm, bi_and3, bi_rem3, evParts2, lay, unImms, unImm, mapO, rowsN, appOf, srcOf, rowsOf, raccOf, appMax, B6, undT, fnEnd, argsT, PT.get_put, keep, opRun, ev, evs, evO, give, giveI, binOf, isNilK, PM.flip, putT, putL, putH, loadOf, storeOf, cut, over, ofCells, asNat, natOr, calm, clashes, Acc.clash, ressOf, resOf, frz, frz.frzs, DV.flat, DV.flat.flats, imms]
          subst hQ
          refine .inl ⟨rfl, hi, by simp [PT.get_put], by simp [PT.get_put], by simp [PT.get_put], _, [_], by simp [PT.get_put], .inr ⟨st.n, by simp, rfl, by simp, by simp [PT.get_put, rowI, imms]; rfl⟩, by simp at hl ⊢; omega⟩
        · have a1 : ¬ ds.length + 1 ≤ ds.length := by omega
          have a2 : ds.length + 1 ≤ 2 ^ 40 := by omega
          have a3 : (ds.length + 1) * 8 ≤ 2 ^ 40 := by omega
          simp [h0, h1, h5, h6, hi', hw8, hw2, hu, hm, bi_and3, bi_rem3, hg, a1, a2, a3, evParts2, lay, unImms, unImm, mapO, rowsN, appOf, srcOf, rowsOf, raccOf, appMax, B6, undT, fnEnd, argsT, PT.get_put, keep, opRun, ev, evs, evO, give, giveI, binOf, isNilK, PM.flip, putT, putL, putH, loadOf, storeOf, cut, over, ofCells, asNat, natOr, calm, clashes, Acc.clash, ressOf, resOf, frz, frz.frzs, DV.flat, DV.flat.flats, imms]
          subst hQ
          refine .inl ⟨rfl, hi, by simp [PT.get_put], by simp [PT.get_put], by simp [PT.get_put], _, ds ++ [_], by simp [PT.get_put]; rfl, .inr ⟨st.n, by simp, by simp, by simp, by simp [PT.get_put, rowI, imms]; rfl⟩, by simp [hl]⟩
      · obtain rfl : i = k := by omega
        generalize hQ : (fun (e : Ex) (s' : St) => _) = Q'
        simp only [D.l33_0b]
        simp [h0, h1, h5, h6, B6, undT, fnEnd, argsT, PT.get_put, keep, opRun, ev, evs, evO, give, giveI, binOf, isNilK, PM.flip, putT, putL, putH, loadOf, storeOf, cut, over, ofCells, asNat, natOr, calm, clashes, Acc.clash, ressOf, resOf, frz, frz.frzs, DV.flat, DV.flat.flats, imms]
        subst hQ
        exact .inr ⟨nofun, rfl, v, ds, by simp [PT.get_put, h5], ha, hl⟩
    · rintro e s2 ⟨rfl, v, ds, h5, ha, hl⟩
      rcases ha with ⟨rfl, rfl⟩ | ⟨id, hid, rfl, hne, hg⟩
      · simp [h5, B6, undT, fnEnd, argsT, PT.get_put, keep, opRun, ev, evs, evO, give, giveI, binOf, isNilK, PM.flip, putT, putL, putH, loadOf, storeOf, cut, over, ofCells, asNat, natOr, calm, clashes, Acc.clash, ressOf, resOf, frz, frz.frzs, DV.flat, DV.flat.flats, imms]
        exact ⟨[], .inl ⟨rfl, rfl⟩, hl⟩
      · simp [h5, B6, undT, fnEnd, argsT, PT.get_put, keep, opRun, ev, evs, evO, give, giveI, binOf, isNilK, PM.flip, putT, putL, putH, loadOf, storeOf, cut, over, ofCells, asNat, natOr, calm, clashes, Acc.clash, ressOf, resOf, frz, frz.frzs, DV.flat, DV.flat.flats, imms]
        exact ⟨ds, .inr ⟨id, hid, rfl, hne, hg⟩, hl⟩
  obtain ⟨v, H, n, e, ds, ha, hl⟩ := key
  rcases ha with ⟨rfl, rfl⟩ | ⟨id, _, rfl, hne, hg⟩
  · exact ⟨.nils, [], bl_imm e, .inl ⟨rfl, rfl⟩, hl⟩
  · have f := frz_sl (h := H.get) (lo := 0) (id := id) (sz := 1) (xs := ds.map ivI) (by rw [hg, rowI_eq]) (by omega)
    rw [List.length_map] at f
    exact ⟨_, ds, bl_of e f, .inr ⟨_, rfl⟩, hl⟩
/-! ### field's Stick -/
def nthP (pts : List FPt) (i : Nat) : FPt := pts.getD i ⟨0, 0, 0⟩
theorem Stick_run {d : Nat} {H : PT HB} {f : Nat} {own : List Nat} {occ : List Bool} {pts : List FPt} (hf : Fd H f own occ pts) (k : Int) (n : Nat) :
    Fe (K DG (d + 1) 27 [.ptr f 0 0, .imm (.int .i64 k)] H n 0) (fun v H' n' => n' = n ∧ (∀ j, j ∉ own → H'.get j = H.get j) ∧
      ((InR k pts.length ∧ v = .imm (.int .i64 0) ∧ Fd H' f own occ (pts.set k.toNat ⟨0, 0, 0⟩)) ∨ (¬ InR k pts.length ∧ v = .imm (.int .i64 5) ∧ Fd H' f own occ pts))) := by
  have hf0 := hf
  obtain ⟨vo, vp, io, ip, h1, h2, h3, rfl, h5⟩ := hf
  have vl := h3.len
  rw [List.length_map] at vl
  rw [D.k27]
  refine fn_dw rfl ?_
  by_cases hk : InR k pts.length
  · obtain ⟨k0, k1⟩ := hk
    have j0 : ILt k 0 = False := ilt_f k0
    have j1 : ILt k pts.length = True := ilt_t k1
    have hkn : k.toNat < pts.length := by omega
    generalize hro : pts.map rowP = ros at h3
    have hrol : ros.length = pts.length := by rw [← hro]; simp
    cases h3 with
    | nil => rw [List.length_nil] at hrol; omega
    | sl ho hro1 =>
    rename_i ip
    have hfi : ¬ f = ip := fun e => by subst e; simp at h5
    have hrow : ros[k.toNat]? = some (rowP (nthP pts k.toNat)) := by rw [← hro, List.getElem?_map]; simp [nthP, hkn]
    have ix := fun {n : Nat} => idx_hp (h := H.get) (n := n) (id := ip) (row := 0) (len := ros.length) (cap := ros.length) ho rfl (k := .i64) (z := k) k0 (by omega)
    simp only [rowP] at hrow
    rw [hrol] at h1 ix vl
    simp [h1, ho, j0, j1, ix, hrow, evParts, lay, imms, B6, undT, fnEnd, argsT, PT.get_put, keep, opRun, ev, evs, evO, give, giveI, binOf, isNilK, PM.flip, putT, putL, putH, loadOf, storeOf, cut, over, ofCells, asNat, natOr, calm, clashes, Acc.clash, ressOf, resOf, frz, frz.frzs, DV.flat, DV.flat.flats, imms]
    refine ⟨fun j hj _ => ?_, ⟨k0, k1⟩, vo, .sl ip 0 pts.length pts.length, io, [ip], ?_, h2.mono fun i hi => ?_, ?_, rfl, h5⟩
    · rename_i h; simp [PT.get_put, h]
    · simp [PT.get_put, hfi, h1]
    · have : ¬ i = ip := fun e => by subst e; simp [List.nodup_append] at h5; exact h5.2.2 _ hi rfl
      simp [PT.get_put, this]
    · have e1 : (pts.set k.toNat ⟨0, 0, 0⟩).map rowP = ros.set k.toNat (rowP ⟨0, 0, 0⟩) := by rw [List.map_set, hro]
      have := SlV.sl (sz := 3) (H := H.put ip (some ⟨3, ros.set k.toNat (rowP ⟨0, 0, 0⟩)⟩)) (id := ip) (rows := (pts.set k.toNat ⟨0, 0, 0⟩).map rowP) (by rw [e1]; simp [PT.get_put]) (fun e => by
        have := congrArg List.length e
        simp at this
        subst this
        simp at hkn)
      simpa [rowP] using this
  · have nk : ¬ InR k pts.length := hk
    by_cases k0 : k < 0
    · have j0 : ILt k 0 = True := ilt_t k0
      simp [h1, j0, B6, undT, fnEnd, argsT, PT.get_put, keep, opRun, ev, evs, evO, give, giveI, binOf, isNilK, PM.flip, putT, putL, putH, loadOf, storeOf, cut, over, ofCells, asNat, natOr, calm, clashes, Acc.clash, ressOf, resOf, frz, frz.frzs, DV.flat, DV.flat.flats, imms]
      exact ⟨nk, hf0⟩
    · have j0 : ILt k 0 = False := ilt_f (by omega)
      have j1 : ILt k pts.length = False := ilt_f (by unfold InR at nk; omega)
      simp [h1, vl, j0, j1, B6, undT, fnEnd, argsT, PT.get_put, keep, opRun, ev, evs, evO, give, giveI, binOf, isNilK, PM.flip, putT, putL, putH, loadOf, storeOf, cut, over, ofCells, asNat, natOr, calm, clashes, Acc.clash, ressOf, resOf, frz, frz.frzs, DV.flat, DV.flat.flats, imms]
      exact ⟨nk, hf0⟩
end Go.Proofs.YtbhmihigfncfgabDoor.D
