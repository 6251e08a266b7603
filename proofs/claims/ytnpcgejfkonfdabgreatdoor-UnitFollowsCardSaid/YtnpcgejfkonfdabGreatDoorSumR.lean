/-
  The reference's sum: what it computes.
-/
import Derived.Test.YtnpcgejfkonfdabGreatDoorSl
import Derived.Test.YtnpcgejfkonfdabGreatDoorSum
set_option linter.unusedVariables false
set_option linter.unusedSimpArgs false
set_option maxHeartbeats 8000000
namespace Go.Proofs.YtnpcgejfkonfdabGreatDoor.D
open Go Go.PM
/-! ### The reference's sum -/
def I3 (H : PT HB) (n y : Nat) (v0 v4 : DV) (j : Nat) (s : St) : Prop := ∃ x : Nat, x < 2 ^ 32 ∧ crcBits (8 - j) x = y ∧ s.T.get 0 = some v0 ∧ s.T.get 3 = some (.imm (.int .u32 x)) ∧ s.T.get 4 = some v4 ∧ s.T.get 5 = some (.imm (.int .i64 j)) ∧ s.H = H ∧ s.n = n
theorem round3 {G : Nat → Option (List IV)} {K : Go.PM.Callee} {lo : Nat} {H : PT HB} {n y j : Nat} {v0 v4 : DV} {s : St} (h : I3 H n y v0 v4 j s) (hj : j < 8) :
    ∃ s', D.l48_1b.run G K lo ⟨keep s.T [0, 3, 4, 5], keep s.L [], s.H, s.n⟩ = some (.norm, s') ∧ I3 H n y v0 v4 (j + 1) s' := by
  obtain ⟨x, hx, hy, h0, h3, h4, h5, hH, hn⟩ := h
  rw [show 8 - j = (8 - (j + 1)) + 1 by omega, crcBits_succ, crcBit_eq] at hy
  have hj' : (j : Int) < 8 := by omega
  have hw : IntKind.i64.wrap ((j : Int) + 1) = (j : Int) + 1 := wr_id (by omega) (by omega)
  have ha := a32 hx
  have hd := d2 x
  by_cases h2 : x % 2 = 1
  · rw [if_pos h2] at hy
    rw [h2] at ha
    have hxx : binInt .xor .u32 ((x : Int) / 2) 2197175160 = some (.int .u32 ((x / 2 ^^^ 2197175160 : Nat) : Int)) := x32 (x := x / 2) (y := 2197175160) (by omega) (by decide)
    simp only [D.l48_1b, keep, B4, B9, Option.map, List.length_cons, List.length_nil, reduceIte, Nat.reduceEqDiff, Nat.reduceAdd]
    simp [h0, h3, h4, h5, hj', hj, hw, ha, hd, hxx, sb32, B4, B9, Option.map, List.length_cons, List.length_nil, reduceIte, Nat.reduceEqDiff, Nat.reduceAdd]
    refine ⟨x / 2 ^^^ 2197175160, Nat.xor_lt_two_pow (n := 32) (by omega) (by decide), hy, ?_, ?_, ?_, ?_, hH, hn⟩ <;> simp [PT.get_put, h0, h4]
  · rw [if_neg h2] at hy
    rw [show x % 2 = 0 by omega] at ha
    simp only [D.l48_1b, keep, B4, B9, Option.map, List.length_cons, List.length_nil, reduceIte, Nat.reduceEqDiff, Nat.reduceAdd]
    simp [h0, h3, h4, h5, hj', hj, hw, ha, hd, sb32, B4, B9, Option.map, List.length_cons, List.length_nil, reduceIte, Nat.reduceEqDiff, Nat.reduceAdd]
    refine ⟨x / 2, by omega, hy, ?_, ?_, ?_, ?_, hH, hn⟩ <;> simp [PT.get_put, h0, h4]
theorem loop3 {G : Nat → Option (List IV)} {K : Go.PM.Callee} {lo : Nat} {H : PT HB} {n y : Nat} {v0 v4 : DV} {s : St} (h : I3 H n y v0 v4 0 s) :
    ∃ s', D.l48_1.run G K lo s = some (.exit 2, s') ∧ s'.T.get 0 = some v0 ∧ s'.T.get 3 = some (.imm (.int .u32 y)) ∧ s'.T.get 4 = some v4 ∧ s'.H = H ∧ s'.n = n := by
  obtain ⟨e, s', q1, q2, rfl, q3⟩ := iter_ind (f := loopRun G K lo [0, 3, 4, 5] [] D.l48_1b) (fun m s => ∃ j : Nat, I3 H n y v0 v4 j s ∧ j ≤ 8 ∧ m = 8 - j)
    (fun e s' => e = .exit 2 ∧ s'.T.get 0 = some v0 ∧ s'.T.get 3 = some (.imm (.int .u32 y)) ∧ s'.T.get 4 = some v4 ∧ s'.H = H ∧ s'.n = n)
    (fun m s ⟨j, hI, hle, hm⟩ => by
      by_cases hj : j < 8
      · obtain ⟨s', e1, e2⟩ := round3 (G := G) (K := K) (lo := lo) hI hj
        exact .inl ⟨s', _, e1, by omega, j + 1, e2, by omega, rfl⟩
      · obtain rfl : j = 8 := by omega
        obtain ⟨x, hx, hy, h0, h3, h4, h5, hH, hn⟩ := hI
        have hy' : x = y := hy
        subst hy'
        refine .inr ⟨.exit 2, ?_⟩
        simp only [loopRun_eq, D.l48_1b, keep, B4, B9, Option.map, List.length_cons, List.length_nil, reduceIte, Nat.reduceEqDiff, Nat.reduceAdd]
        simp [h0, h3, h4, h5, hH, hn, B4, B9, Option.map, List.length_cons, List.length_nil, reduceIte, Nat.reduceEqDiff, Nat.reduceAdd]) 8 LOOP s ⟨0, h, by omega, by omega⟩ (by unfold LOOP; omega)
  exact ⟨s', q1, q3⟩

def I4 (H : PT HB) (n : Nat) (f : Bool) (es : List (List IV)) (y : Nat) (j : Nat) (s : St) : Prop := ∃ x : Nat, x < 2 ^ 32 ∧ crcRows (es.drop j) x = some y ∧ s.T.get 3 = some (.imm (.int .u32 x)) ∧
  s.T.get 0 = some (.imm (.lst f 1 es)) ∧ s.T.get 4 = some (.imm (.int .i64 j)) ∧ s.H = H ∧ s.n = n
theorem round4 {G : Nat → Option (List IV)} {K : Go.PM.Callee} {lo : Nat} {H : PT HB} {n y j : Nat} {f : Bool} {es : List (List IV)} {s : St} (hl : es.length ≤ 1000000) (h : I4 H n f es y j s) (hj : j < es.length) :
    ∃ s', D.l48_0b.run G K lo ⟨keep s.T [0, 3, 4], keep s.L [], s.H, s.n⟩ = some (.norm, s') ∧ I4 H n f es y (j + 1) s' := by
  obtain ⟨x, hx, hy, h3, h0, h4, hH, hn⟩ := h
  obtain ⟨c, hc1, hc2, hc3⟩ := sumAt hy hj
  have hce : es[j] = [.int .u8 c] := by rw [List.getElem?_eq_getElem hj] at hc1; exact Option.some.inj hc1
  have hj' : (j : Int) < es.length := by omega
  have hw : IntKind.i64.wrap ((j : Int) + 1) = (j : Int) + 1 := wr_id (by omega) (by omega)
  have hwc := w32 (show c < 2 ^ 32 by omega)
  have hxc := x32 hx (show c < 2 ^ 32 by omega)
  have key : ∀ T : PT DV, T.get 0 = some (.imm (.lst f 1 es)) → T.get 3 = some (.imm (.int .u32 ((x ^^^ c : Nat) : Int))) → T.get 4 = some (.imm (.int .i64 j)) → T.get 5 = some (.imm (.int .i64 (0 : Nat))) → ∀ L, ∃ s', D.l48_1.run G K lo ⟨T, L, s.H, s.n⟩ = some (.exit 2, s') ∧
      s'.T.get 0 = some (.imm (.lst f 1 es)) ∧ s'.T.get 3 = some (.imm (.int .u32 (crcByte x c))) ∧ s'.T.get 4 = some (.imm (.int .i64 j)) ∧ s'.H = s.H ∧ s'.n = s.n := fun T q0 q3 q4 q5 L =>
    loop3 ⟨x ^^^ c, Nat.xor_lt_two_pow hx (by omega), (crcByte_eq x c).symm, q0, q3, q4, q5, rfl, rfl⟩
  simp only [D.l48_0b, keep, B4, B9, Option.map, List.length_cons, List.length_nil, reduceIte, Nat.reduceEqDiff, Nat.reduceAdd]
  simp [h0, h3, h4, hj', hj, hc1, hce, hwc, hxc, imms, B4, B9, Option.map, List.length_cons, List.length_nil, reduceIte, Nat.reduceEqDiff, Nat.reduceAdd]
  generalize hrun : D.l48_1.run G K lo _ = r
  obtain ⟨s', rfl, q0, q3, q4, qH, qn⟩ : ∃ s', r = some (.exit 2, s') ∧ s'.T.get 0 = some (.imm (.lst f 1 es)) ∧ s'.T.get 3 = some (.imm (.int .u32 (crcByte x c))) ∧ s'.T.get 4 = some (.imm (.int .i64 j)) ∧ s'.H = s.H ∧ s'.n = s.n := by
    rw [← hrun]
    refine key _ ?_ ?_ ?_ ?_ _ <;> simp [PT.get_put, h0, hce]
  clear hrun
  simp [q0, q3, q4, qH, qn, hw, B4, B9, Option.map, List.length_cons, List.length_nil, reduceIte, Nat.reduceEqDiff, Nat.reduceAdd]
  refine ⟨crcByte x c, crcByte_lt hx hc2, hc3, ?_, ?_, ?_, hH, hn⟩ <;> simp [PT.get_put, q0, q3]
theorem ref_ref (G : Nat → Option (List IV)) (K : Go.PM.Callee) (args : List DV) (H : PT HB) (n lo : Nat) (r : DV × PT HB × Nat) (h : primRef args H n lo = some r) : D.f48.run G K args H n lo = some r := by
  unfold primRef at h
  split at h
  · rename_i f es
    cases hb : Nat.ble es.length 1000000 with
    | false => rw [hb] at h; cases h
    | true =>
      rw [hb] at h
      have hl := Nat.le_of_ble_eq_true hb
      simp only [cond_true] at h
      cases hy : crcRows es 4294967295 with
      | none => rw [hy] at h; cases h
      | some y =>
        rw [hy] at h
        simp only [Option.some.injEq] at h
        subst h
        have loop : ∀ s, I4 H n f es y 0 s → ∃ s', D.l48_0.run G K lo s = some (.exit 0, s') ∧ y < 2 ^ 32 ∧ s'.T.get 3 = some (.imm (.int .u32 y)) ∧ s'.H = H ∧ s'.n = n := fun s hs => by
          obtain ⟨e, s', q1, q2, rfl, q3⟩ := iter_ind (f := loopRun G K lo [0, 3, 4] [] D.l48_0b) (fun m s => ∃ j : Nat, I4 H n f es y j s ∧ j ≤ es.length ∧ m = es.length - j)
            (fun e s' => e = .exit 0 ∧ y < 2 ^ 32 ∧ s'.T.get 3 = some (.imm (.int .u32 y)) ∧ s'.H = H ∧ s'.n = n)
            (fun m s ⟨j, hI, hle, hm⟩ => by
              by_cases hj : j < es.length
              · obtain ⟨s', e1, e2⟩ := round4 (G := G) (K := K) (lo := lo) hl hI hj
                exact .inl ⟨s', _, e1, by omega, j + 1, e2, by omega, rfl⟩
              · obtain rfl : j = es.length := by omega
                obtain ⟨x, hx, hy, h3, h0, h4, hH, hn⟩ := hI
                rw [List.drop_length, crcRows_nil] at hy
                cases hy
                refine .inr ⟨.exit 0, ?_⟩
                simp only [loopRun_eq, D.l48_0b, keep, B4, B9, Option.map, List.length_cons, List.length_nil, reduceIte, Nat.reduceEqDiff, Nat.reduceAdd]
                simp [h0, h3, h4, hH, hn, hx, B4, B9, Option.map, List.length_cons, List.length_nil, reduceIte, Nat.reduceEqDiff, Nat.reduceAdd]) es.length LOOP s ⟨0, hs, by omega, by omega⟩ (by unfold LOOP; omega)
          exact ⟨s', q1, q3⟩
        simp only [D.f48, fn_run, B4, B9, Option.map, List.length_cons, List.length_nil, reduceIte, Nat.reduceEqDiff, Nat.reduceAdd]
        simp [B4, B9, Option.map, List.length_cons, List.length_nil, reduceIte, Nat.reduceEqDiff, Nat.reduceAdd]
        generalize hrun : D.l48_0.run G K lo _ = r
        obtain ⟨s', rfl, q0, q1, q2, q3⟩ : ∃ s', r = some (.exit 0, s') ∧ y < 2 ^ 32 ∧ s'.T.get 3 = some (.imm (.int .u32 y)) ∧ s'.H = H ∧ s'.n = n := by
          rw [← hrun]
          refine loop _ ⟨4294967295, by decide, hy, ?_, ?_, ?_, rfl, rfl⟩ <;> simp [PT.get_put]
        clear hrun
        have hxn := n32 q0
        simp [q1, q2, q3, hxn, B4, B9, Option.map, List.length_cons, List.length_nil, reduceIte, Nat.reduceEqDiff, Nat.reduceAdd]
  · cases h
end Go.Proofs.YtnpcgejfkonfdabGreatDoor.D
