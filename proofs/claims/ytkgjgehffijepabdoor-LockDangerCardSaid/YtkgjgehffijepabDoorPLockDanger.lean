/-
  LockDanger over D.
-/
import Derived.Test.YtkgjgehffijepabDoorT4
import Derived.Test.YtkgjgehffijepabDoorK24
set_option linter.unusedVariables false
set_option linter.unusedSimpArgs false
set_option maxHeartbeats 16000000
set_option maxRecDepth 100000
namespace Go.Proofs.YtkgjgehffijepabDoor.D
open Go Go.PM Go.Lib
def ss_LockDanger : List (Bool × List Kd) := [(false, [.sl [.i .i64]])]
abbrev bs (l : List UInt8) : IV := .str l
/-- The layout 'line'. -/
def ro0 : Rt := { name := [114], fr := 0, to := 1, pv := .lst true 1 [[.int .i64 0], [.int .i64 1]], qv := .lst true 2 [[.int .i64 0, .bool false]], fv := .nils, path := [0, 1], pts := [⟨0, false⟩], flk := [] }
def ro1 : Rt := { name := [113], fr := 1, to := 2, pv := .lst true 1 [[.int .i64 2]], qv := .nils, fv := .nils, path := [2], pts := [], flk := [] }
def l0 : Lo := { sv := .lst true 1 [[.str [97]], [.str [98]], [.str [99]]], pv := .lst true 2 [[.str [112], .int .i64 1]], gv := .lst true 1 [[.str [115]], [.str [116]], [.str [117]]], rv := .lst true 6 [ivRt ro0, ivRt ro1], secs := [[97], [98], [99]], pts := [⟨[112], 1⟩], sigs := [[115], [116], [117]], rts := [ro0, ro1] }
def l0v : DV := .agg [.imm (.lst true 1 [[.str [97]], [.str [98]], [.str [99]]]), .imm (.lst true 2 [[.str [112], .int .i64 1]]), .imm (.lst true 1 [[.str [115]], [.str [116]], [.str [117]]]), .imm (.lst true 6 [[.str [114], .int .i64 0, .int .i64 1, .lst true 1 [[.int .i64 0], [.int .i64 1]], .lst true 2 [[.int .i64 0, .bool false]], .nils], [.str [113], .int .i64 1, .int .i64 2, .lst true 1 [[.int .i64 2]], .nils, .nils]])]
theorem l0_dv : l0.dv = l0v := rfl
def frzOf (r : Option (DV × PT HB × Nat)) : Option DV := match r with | some (v, H, _) => frz H.get 0 v | none => none
theorem frzOf_bl {f : FuncId} {args : List DV} {v : DV} (h : frzOf (dcallF (doorG 0 1) tab 29 f args .lf 0 0) = some v) : bl (K DG 29) f args = some v := by
  rw [show dcallF (doorG 0 1) tab 29 = K DG 29 from dcallF_eq _ _ _] at h
  exact h
theorem line_run : frzOf (dcallF (doorG 0 1) tab 29 10 [] .lf 0 0) = some l0v := by kernel_rfl
theorem line_bl : bl (K DG 29) 10 [] = some l0v := frzOf_bl line_run
theorem l0_ok : LoOk l0 := by
  have := rb3
  refine ⟨.inr ⟨_, rfl⟩, .inr ⟨_, rfl⟩, .inr ⟨_, rfl⟩, .inr ⟨_, rfl⟩, by simp [l0]; omega, by simp [l0]; omega, by simp [l0]; omega, by simp [l0]; omega, by simp [l0]; omega, by simp [l0]; omega, by simp [l0]; omega, ?_⟩
  intro x hx
  simp only [l0, List.mem_cons, List.not_mem_nil, or_false] at hx
  rcases hx with rfl | rfl
  · exact ⟨.inr ⟨_, rfl⟩, .inr ⟨_, rfl⟩, .inl ⟨rfl, rfl⟩, by simp [ro0]; omega, by simp [ro0]; omega, by simp [ro0]; omega, by simp [ro0]⟩
  · exact ⟨.inr ⟨_, rfl⟩, .inl ⟨rfl, rfl⟩, .inl ⟨rfl, rfl⟩, by simp [ro1]; omega, by simp [ro1]; omega, by simp [ro1], by simp [ro1]⟩
theorem is_run : ansT (dcallF (doorG 0 1) tab 29 29 [l0v] .lf 0 0) = true := by kernel_rfl
theorem l0_is : ISL l0 := by
  have h := is_run
  rw [show dcallF (doorG 0 1) tab 29 = K DG 29 from dcallF_eq _ _ _] at h
  obtain ⟨H', n', e⟩ := ansT_spec h
  have e1 := bl_imm e
  have e2 := Is_bl (D := 29) (by omega) l0_ok
  rw [l0_dv, e1] at e2
  simp at e2
  exact dec_iff.1 e2
/-! ### What the field tells -/
def ovV (b : Bool) : IV := .lst false 1 [[.bool false], [.bool b], [.bool false]]
def lvV (z : Int) : IV := .lst true 1 [[.int .i64 z]]
theorem at00 : frzOf (dcallF (doorG 0 1) tab 29 12 [.imm (.int .i64 0), .imm (.int .i64 0)] .lf 0 0) = some (.agg [.imm (.lst false 1 [[.bool false], [.bool false], [.bool false]]), .imm (.lst true 1 [[.int .i64 0]])]) := by kernel_rfl
theorem at01 : frzOf (dcallF (doorG 0 1) tab 29 12 [.imm (.int .i64 0), .imm (.int .i64 1)] .lf 0 0) = some (.agg [.imm (.lst false 1 [[.bool false], [.bool false], [.bool false]]), .imm (.lst true 1 [[.int .i64 1]])]) := by kernel_rfl
theorem at02 : frzOf (dcallF (doorG 0 1) tab 29 12 [.imm (.int .i64 0), .imm (.int .i64 2)] .lf 0 0) = some (.agg [.imm (.lst false 1 [[.bool false], [.bool false], [.bool false]]), .imm (.lst true 1 [[.int .i64 2]])]) := by kernel_rfl
theorem at20 : frzOf (dcallF (doorG 0 1) tab 29 12 [.imm (.int .i64 2), .imm (.int .i64 0)] .lf 0 0) = some (.agg [.imm (.lst false 1 [[.bool false], [.bool true], [.bool false]]), .imm (.lst true 1 [[.int .i64 0]])]) := by kernel_rfl
theorem at21 : frzOf (dcallF (doorG 0 1) tab 29 12 [.imm (.int .i64 2), .imm (.int .i64 1)] .lf 0 0) = some (.agg [.imm (.lst false 1 [[.bool false], [.bool true], [.bool false]]), .imm (.lst true 1 [[.int .i64 1]])]) := by kernel_rfl
theorem at22 : frzOf (dcallF (doorG 0 1) tab 29 12 [.imm (.int .i64 2), .imm (.int .i64 2)] .lf 0 0) = some (.agg [.imm (.lst false 1 [[.bool false], [.bool true], [.bool false]]), .imm (.lst true 1 [[.int .i64 2]])]) := by kernel_rfl
theorem at_bl {y z : Int} (hy : y = 0 ∨ y = 1) (hz : z = 0 ∨ z = 1 ∨ z = 2) : bl (K DG 29) 12 [.imm (.int .i64 (IntKind.i64.wrap (2 * y))), .imm (.int .i64 z)] = some (inD (ovV (decide (y = 1))) (lvV z)) := by
  have w0 : IntKind.i64.wrap (2 * 0) = 0 := by decide
  have w1 : IntKind.i64.wrap (2 * 1) = 2 := by decide
  rcases hy with rfl | rfl
  · rw [w0]
    rcases hz with rfl | rfl | rfl
    · exact frzOf_bl at00
    · exact frzOf_bl at01
    · exact frzOf_bl at02
  · rw [w1]
    rcases hz with rfl | rfl | rfl
    · exact frzOf_bl at20
    · exact frzOf_bl at21
    · exact frzOf_bl at22
theorem in_ok (b : Bool) (z : Int) : InOk (ovV b) (lvV z) [false, b, false] [z] := by
  have := rb3
  exact ⟨.inr ⟨_, rfl⟩, .inr ⟨_, rfl⟩, by simp; omega, by simp; omega⟩
theorem mi_ok (b : Bool) {z : Int} (hz : z = 0 ∨ z = 1 ∨ z = 2) : MI l0 [false, b, false] [z] := ⟨rfl, rfl, fun ⟨x, hx, h⟩ => by simp at hx; omega⟩
abbrev rsA : List Rst := [rs0, rs0]
abbrev rsB : List Rst := [⟨1, 0, 0, false⟩, rs0]
abbrev rsC : List Rst := [⟨2, 0, 0, false⟩, rs0]
theorem nd0 : nd (nth l0.rts 0) = [⟨0, false⟩] := rfl
theorem pa0 : (nth l0.rts 0).path = [0, 1] := rfl
theorem lie0 {z : Int} : Lie l0 [z] 0 ↔ z = 1 := by
  unfold Lie
  rw [nd0]
  simp [nth, pos]
theorem cmdA : cmdF l0 rsA [false, false, false] [1] 1 0 = (0, rsB) := by
  have h1 : ¬ (¬ MI l0 [false, false, false] [1] ∨ ((1 : Int) ≠ 1 ∧ (1 : Int) ≠ 2)) := fun h => h.elim (fun h => h (mi_ok false (.inr (.inl rfl)))) fun h => h.1 rfl
  have h2 : InR 0 l0.rts.length := ⟨by omega, by simp [l0]⟩
  have h3 : FRE l0 rsA [false, false, false] [1] 0 := by
    refine ⟨fun s hs hm => ?_, fun i hi => ?_, ?_⟩
    · have : s = 0 ∨ s = 1 := by simp [l0] at hs; omega
      rcases this with rfl | rfl <;> exact absurd rfl hm
    · rw [nd0] at hi ⊢
      have : i = 0 := by simpa using hi
      subst this
      exact .inl rfl
    · rw [pa0]; simp [nth]
  unfold cmdF
  rw [dec_f h1, dec_t h2]
  show (bif dec ((1 : Int) = 1) then callF l0 rsA [false, false, false] [1] (0 : Int).toNat else _) = _
  rw [dec_t rfl]
  show callF l0 rsA [false, false, false] [1] 0 = _
  unfold callF
  rw [dec_t (show (nth rsA 0).mode = 0 from rfl), dec_t h3]
  rfl
theorem drNo {qs : List Rst} {os : List Bool} {ls : List Int} (h0 : ¬ (nth qs 0).mode = 1) (h1 : ¬ (nth qs 1).mode = 1) : drF l0 qs os ls = [0] := by
  show drR l0 qs os ls 1 (drR l0 qs os ls 0 [0]) = [0]
  unfold drR
  rw [dec_f h0, dec_f h1]
  rfl
theorem prIs {os : List Bool} {ls : List Int} : prF l0 rsC os ls = [dec (prC l0 rsC os ls 0), false, false] := by
  show prR l0 rsC os ls 1 (prR l0 rsC os ls 0 [false, false, false]) = _
  have h1 : ¬ prC l0 rsC os ls 1 := fun h => by have := h.1; revert this; show ¬ (0 : Int) = 2; omega
  rw [show prR l0 rsC os ls 1 = fun bs => bs by unfold prR; rw [dec_f h1]; rfl]
  unfold prR
  cases dec (prC l0 rsC os ls 0) <;> rfl
theorem cycB : (cycF l0 rsB [false, false, false] [1]).1 = rsC := by
  unfold cycF
  rw [dec_t (mi_ok false (.inr (.inl rfl)))]
  show [stepF l0 _ _ 0 ⟨1, 0, 0, false⟩, stepF l0 _ _ 1 rs0] = rsC
  rw [step_idle (x := rs0) rfl]
  unfold stepF
  rw [dec_t (show (1 : Int) = 1 from rfl), dec_t (lie0.2 rfl)]
  rfl
theorem cycC (b : Bool) {z : Int} (hz : z = 0 ∨ z = 1 ∨ z = 2) : cycF l0 rsC [false, b, false] [z] = (rsC, [0], [decide (z = 1) && !b, false, false]) := by
  have st : stpF l0 [false, b, false] [z] rsC = rsC := by
    show [stepF l0 _ _ 0 ⟨2, 0, 0, false⟩, stepF l0 _ _ 1 rs0] = rsC
    rw [step_idle (x := rs0) rfl]
    unfold stepF
    rw [dec_f (show ¬ (2 : Int) = 1 by omega), dec_t (show (2 : Int) = 2 ∨ (2 : Int) = 4 from .inl rfl), dec_f (show ¬ (2 : Int) = 4 by omega)]
    rfl
  unfold cycF
  rw [dec_t (mi_ok b hz)]
  show (stpF l0 [false, b, false] [z] rsC, drF l0 (stpF l0 [false, b, false] [z] rsC) _ _, prF l0 (stpF l0 [false, b, false] [z] rsC) _ _) = _
  rw [st, drNo (by show ¬ (2 : Int) = 1; omega) (by show ¬ (0 : Int) = 1; omega), prIs]
  have : prC l0 rsC [false, b, false] [z] 0 ↔ (decide (z = 1) && !b) = true := by
    unfold prC
    rw [pa0, lie0]
    have : (nth rsC 0).mode = 2 := rfl
    cases b <;> simp [nth, this]
  rw [dec_congr this]
  cases hb : (decide (z = 1) && !b) with
  | true => rw [dec_t rfl]
  | false => rw [dec_f nofun]
/-! ### The law -/
noncomputable def an (a m : Int) : Int := IntKind.i64.wrap ((BitVec.ofInt IntKind.i64.bits a &&& BitVec.ofInt IntKind.i64.bits m).toNat : Int)
theorem bi_and {a m : Int} : binInt .and .i64 a m = some (.int .i64 (an a m)) := rfl
theorem bi_rem {a : Int} : binInt .rem .i64 a 3 = some (.int .i64 (a.tmod 3)) := rfl
theorem an1 (a : Int) : an a 1 = 0 ∨ an a 1 = 1 := by
  have : (BitVec.ofInt 64 a &&& BitVec.ofInt 64 1).toNat ≤ 1 := by
    rw [BitVec.toNat_and]
    exact Nat.and_le_right
  have h : (BitVec.ofInt 64 a &&& BitVec.ofInt 64 1).toNat = 0 ∨ (BitVec.ofInt 64 a &&& BitVec.ofInt 64 1).toNat = 1 := by omega
  show IntKind.i64.wrap ((BitVec.ofInt 64 a &&& BitVec.ofInt 64 1).toNat : Int) = 0 ∨ IntKind.i64.wrap ((BitVec.ofInt 64 a &&& BitVec.ofInt 64 1).toNat : Int) = 1
  rcases h with h | h <;> rw [h]
  · exact .inl (by decide)
  · exact .inr (by decide)
theorem an3 (a : Int) : (an a 3).tmod 3 = 0 ∨ (an a 3).tmod 3 = 1 ∨ (an a 3).tmod 3 = 2 := by
  have : (BitVec.ofInt 64 a &&& BitVec.ofInt 64 3).toNat ≤ 3 := by
    rw [BitVec.toNat_and]
    exact Nat.and_le_right
  have h : (BitVec.ofInt 64 a &&& BitVec.ofInt 64 3).toNat = 0 ∨ (BitVec.ofInt 64 a &&& BitVec.ofInt 64 3).toNat = 1 ∨ (BitVec.ofInt 64 a &&& BitVec.ofInt 64 3).toNat = 2 ∨ (BitVec.ofInt 64 a &&& BitVec.ofInt 64 3).toNat = 3 := by omega
  have e : an a 3 = IntKind.i64.wrap ((BitVec.ofInt 64 a &&& BitVec.ofInt 64 3).toNat : Int) := rfl
  rw [e]
  rcases h with h | h | h | h <;> rw [h]
  · exact .inl (by decide)
  · exact .inr (.inl (by decide))
  · exact .inr (.inr (by decide))
  · exact .inl (by decide)
structure IDa (p : Nat) (l : Lo) (v : IV) (i : Nat) (st : St) : Prop where
  h0 : st.T.get 0 = some (.imm v)
  h3 : st.T.get 3 = some (.ptr p 0 0)
  h5 : st.T.get 5 = some (.imm (.int .i64 i))
  lk : ∃ own, LkAt st.H p own l rsC ∧ ∀ j ∈ p :: own, j < st.n
theorem loopDa {l : Lo} (eq : LoEq l0 l) (ok : LoOk l) (is : ISL l) (inv : INV l rsC) {p : Nat} {v : IV} {xs : List Int} (hv : Sl 1 v (xs.map ivI)) (hl : xs.length ≤ 30) {ks : List Kf} {st : St} {Q : Ex → St → Prop} (h : IDa p l v 0 st)
    (hk : ∀ st', Bk DG (K DG 29) 0 (.exit 0) ks st' Q) : Wp DG (K DG 29) 0 D.l3_0 ks st Q := by
  have hrb := rb3
  have vl := hv.len
  simp only [List.length_map] at vl
  have hl' : xs.length ≤ reachBytes := by omega
  have pl : l.pts.length = 1 := by rw [eq.pts]; rfl
  have gl : l.sigs.length = 3 := by rw [eq.sigs]; rfl
  refine dw_loop (N := xs.length) (small hl') (IDa p l v) (fun e st' => e = .exit 0) (fun i st hle hI => ?_) h (fun e s' h => by subst h; exact hk s')
  obtain ⟨h0, h3, h5, own, lk, ho⟩ := hI
  by_cases hi : i < xs.length
  · have hi1 : (i : Int) < xs.length := by omega
    have hi' := ilt_t hi1
    have hw8 : IntKind.i64.wrap ((i : Int) + 1) = (i : Int) + 1 := wr_succ hi hl'
    have ix := fun {h : Nat → Option HB} {n : Nat} => idx_sl (h := h) (n := n) hv (by omega) (k := .i64) (z := (i : Int)) (by omega) hi1
    simp only [Int.toNat_natCast] at ix
    generalize nth xs i = x at *
    generalize hQ : (fun (e : Ex) (s' : St) => _) = Q'
    simp only [D.l3_0b]
    simp [h0, h3, h5, vl, hi', ix, ivI, bi_and, bi_rem, B6, undT, fnEnd, argsT, PT.get_put, keep, opRun, ev, evs, evO, give, giveI, binOf, isNilK, PM.flip, putT, putL, putH, loadOf, storeOf, cut, over, ofCells, asNat, natOr, calm, clashes, Acc.clash, ressOf, resOf, frz, frz.frzs, DV.flat, DV.flat.flats, imms]
    generalize hz : Int.tmod (an _ 3) 3 = z
    have hz3 : z = 0 ∨ z = 1 ∨ z = 2 := by rw [← hz]; exact an3 _
    generalize hy : an _ 1 = y
    have hy1 : y = 0 ∨ y = 1 := by rw [← hy]; exact an1 _
    have w0 : IntKind.i64.wrap 0 = 0 := by decide
    have w2 : IntKind.i64.wrap 2 = 2 := by decide
    clear hz hy
    obtain ⟨H1, n1, e1, hn1, fr1, lk1, r1, r2, _, _⟩ := Cycle_all (d := 28) (by omega) ok is lk inv (in_ok (decide (y = 1)) z) (n := st.n) ho
    rw [eq.cyc, cycC _ hz3] at lk1 r1 r2
    rw [pl, gl] at e1
    simp only [List.map_cons, List.map_nil] at r1 r2
    have i1 := fun {n : Nat} => idx_hp (h := H1.get) (n := n) (id := st.n + 2 + 1) (row := 0) (len := 1) (cap := 1) r1 rfl (k := .i64) (z := 0) (by omega) (by omega)
    have i2 := fun {n : Nat} => idx_hp (h := H1.get) (n := n) (id := st.n + 2 + 2) (row := 0) (len := 3) (cap := 3) r2 rfl (k := .i64) (z := 0) (by omega) (by omega)
    have fin : ∃ own, LkAt H1 p own l rsC ∧ ∀ j ∈ p :: own, j < n1 + 1 := ⟨own, lk1, fun j hj => by have := ho j hj; omega⟩
    have isc : ∀ (b : Bool) (z : Int), (DV.imm (ovV b)).scal = true ∧ (DV.imm (lvV z)).scal = true := fun b z => ⟨rfl, rfl⟩
    rcases hy1 with rfl | rfl <;> rcases hz3 with rfl | rfl | rfl
    all_goals
      simp [inD, ovV, lvV] at e1
      simp [w0, w2, frzOf_bl at00, frzOf_bl at01, frzOf_bl at02, frzOf_bl at20, frzOf_bl at21, frzOf_bl at22, e1, r1, r2, i1, i2, rowI, rowB, hw8, B6, undT, fnEnd, argsT, PT.get_put, keep, opRun, ev, evs, evO, give, giveI, binOf, isNilK, PM.flip, putT, putL, putH, loadOf, storeOf, cut, over, ofCells, asNat, natOr, calm, clashes, Acc.clash, ressOf, resOf, frz, frz.frzs, DV.flat, DV.flat.flats, imms]
      subst hQ
      exact .inl ⟨rfl, hi, by simp [PT.get_put], by simp [PT.get_put], by simp [PT.get_put], own, lk1, fun j hj => by have := ho j hj; simp; omega⟩
  · obtain rfl : i = xs.length := by omega
    generalize hQ : (fun (e : Ex) (s' : St) => _) = Q'
    simp only [D.l3_0b]
    simp [h0, h3, h5, vl, B6, undT, fnEnd, argsT, PT.get_put, keep, opRun, ev, evs, evO, give, giveI, binOf, isNilK, PM.flip, putT, putL, putH, loadOf, storeOf, cut, over, ofCells, asNat, natOr, calm, clashes, Acc.clash, ressOf, resOf, frz, frz.frzs, DV.flat, DV.flat.flats, imms]
    subst hQ
    simp
theorem run_LockDanger {v : IV} {xs : List Int} (hv : Sl 1 v (xs.map ivI)) (hl : xs.length ≤ reachBytes) : Fe (K DG 30 3 [.imm v] .lf 0 0) (fun v _ _ => v = .imm (.bool true)) := by
  have hrb := rb3
  have vl := hv.len
  simp only [List.length_map] at vl
  have hkn := known_bl
  have hln := line_bl
  rw [D.k3]
  refine fn_dw rfl ?_
  by_cases h30 : xs.length ≤ 30
  · have j30 : ILt 30 (xs.length : Int) = False := ilt_f (by omega)
    obtain ⟨v1, H1, n1, e1, p, own, l, rfl, ok, eq, lk, hown, _⟩ := LockNew_run (d := 28) (by omega) l0_ok l0_is .lf 0
    have is := eq.is l0_is
    have a0 : bl (K DG 29) 12 [.imm (.int .i64 0), .imm (.int .i64 1)] = some (inD (ovV false) (lvV 1)) := frzOf_bl at01
    have iv0 : INV l rsA := eq.inv' (show INV l0 (List.replicate l0.rts.length rs0) from INV.new)
    obtain ⟨H2, n2, e2, lk2, hn2, fr2⟩ := Command_run (d := 28) (by omega) ok is (show LkAt H1 p own l rsA from lk) (go_of iv0.ro) (in_ok false 1) 1 0 (n := n1)
    have iv2 : INV l rsB := by have := iv0.cmd (os := [false, false, false]) (ls := [1]) (c := 1) (r := 0); rw [eq.cmd, cmdA] at this; exact this
    have ec : cmdF l rsA [false, false, false] [1] 1 0 = (0, rsB) := by rw [eq.cmd]; exact cmdA
    rw [ec] at e2 lk2
    have ho2 : ∀ j ∈ p :: own, j < n2 := fun j hj => by have := (hown j hj).2; omega
    obtain ⟨H3, n3, e3, hn3, fr3, lk3, _, _, _, _⟩ := Cycle_all (d := 28) (by omega) ok is lk2 iv2 (in_ok false 1) (n := n2) ho2
    have eb : (cycF l rsB [false, false, false] [1]).1 = rsC := by rw [eq.cyc]; exact cycB
    rw [eb] at lk3
    have iv3 : INV l rsC := by rw [← eb]; exact iv2.cyc is
    have isc : ∀ (b : Bool) (z : Int), (DV.imm (ovV b)).scal = true ∧ (DV.imm (lvV z)).scal = true := fun b z => ⟨rfl, rfl⟩
    have lsc := l0_ok
    rw [← l0_dv] at hln
    simp [hv.scal, vl, j30, hln, e1, a0, e2, e3, isc, lsc.s.scal, lsc.p.scal, lsc.g.scal, lsc.r.scal, evParts, lay, B6, undT, fnEnd, argsT, PT.get_put, keep, opRun, ev, evs, evO, give, giveI, binOf, isNilK, PM.flip, putT, putL, putH, loadOf, storeOf, cut, over, ofCells, asNat, natOr, calm, clashes, Acc.clash, ressOf, resOf, frz, frz.frzs, DV.flat, DV.flat.flats, imms]
    refine loopDa eq ok is iv3 hv h30 ⟨by simp [PT.get_put], by simp [PT.get_put], by simp [PT.get_put], own, lk3, fun j hj => by have := ho2 j hj; simp; omega⟩ ?_
    intro st'
    simp [hkn, B6, undT, fnEnd, argsT, PT.get_put, keep, opRun, ev, evs, evO, give, giveI, binOf, isNilK, PM.flip, putT, putL, putH, loadOf, storeOf, cut, over, ofCells, asNat, natOr, calm, clashes, Acc.clash, ressOf, resOf, frz, frz.frzs, DV.flat, DV.flat.flats, imms]
  · have j30 : ILt 30 (xs.length : Int) = True := ilt_t (by omega)
    simp [hv.scal, vl, j30, B6, undT, fnEnd, argsT, PT.get_put, keep, opRun, ev, evs, evO, give, giveI, binOf, isNilK, PM.flip, putT, putL, putH, loadOf, storeOf, cut, over, ofCells, asNat, natOr, calm, clashes, Acc.clash, ressOf, resOf, frz, frz.frzs, DV.flat, DV.flat.flats, imms]
theorem pure_LockDanger : ∀ cs, ArgsFit ss_LockDanger cs → ∃ H' n', K (doorG 0 1) 30 3 cs .lf 0 0 = some (.imm (.bool true), H', n') := fun cs h => by
  obtain ⟨d1, r1, rfl, g1, h3⟩ := fit_cons h
  obtain ⟨k, iv, hk, rfl, hf⟩ := g1
  cases hk
  obtain ⟨xs, hv, hl, _⟩ := ints_of hf
  cases fit0 (r := []) h3
  obtain ⟨v, H, n, e, rfl⟩ := run_LockDanger hv hl
  exact ⟨H, n, e⟩
end Go.Proofs.YtkgjgehffijepabDoor.D
